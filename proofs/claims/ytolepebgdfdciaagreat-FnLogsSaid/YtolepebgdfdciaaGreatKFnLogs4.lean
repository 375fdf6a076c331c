/-
  What the proof of one law needs: rules of the program logic, functions as Lean functions, contracts. No condition but what each says. Written by a program (pack.py) out of my own texts.
-/
import Derived.Test.YtolepebgdfdciaaGreatKFnLogs3
namespace Go.Proofs.YtolepebgdfdciaaGreat
open Go.Stp
set_option linter.unusedVariables false
set_option linter.unusedSimpArgs false
theorem f111 (w : World) (n : Nat) (hn : n + 0 ≤ 9) (H : GH) (hH : Le H (hp w)) (bc_ : Nat) (c_b : (List UInt8)) (K0 : Option Addr) (M0 : Nat) (N0 : RdSl (cut (hp w) H) K0 M0 c_b) (c_i : Int) (c_h : Int) (n_ : Int) (hown : Sep H [MF.bx bc_ 182 [.slice K0 ((c_b).length) M0, .int .i64 (c_i), .int .i64 (c_h)]]) (hokc_b : GoT.ok n c_b) (hokc_i : NN c_i) (hokc_h : GoT.ok n c_h) (hokn_ : GoT.ok n n_) (o0_ : Bool) (o1_ : Int) (o2_ : Int) (hres : spec_l1Once c_b c_i c_h n_ = (o0_, o1_, o2_)) :
  Does Tryz.prog 111 #[.pointer (some ⟨bc_, 0, none⟩), .int .i64 (n_)] w H (Post w H (fun _ : Unit => .bool o0_) (fun _ => [MF.bx bc_ 182 [.slice K0 ((c_b).length) M0, .int .i64 (o1_), .int .i64 (o2_)]]) (NN (o1_) ∧ I64 (o2_))) := by
 have hbP := bd_pos n
 have hbB := bd_big (n := n) (by omega)
 have hc_bz : (c_b).length ≤ bd n := (okl hokc_b).1
 refine WX.enterP (tt := tt) (Γ := [(0, MF.rs .stb K0 M0 c_b)]) 1 Tryz.func111 rfl (by kernel_rfl) rfl (allS_cons rfl N0 allS_nil) hH hown (fun f hf => by cases hf) rfl ?_
 refine R0 ?_
 obtain ⟨⟨u1, u2, u3⟩, hu1⟩ : ∃ r_, spec_l1Below c_b c_i c_h n_ = r_ := ⟨_, rfl⟩
 refine WX.callP (ds := fun _ => []) 999 2 rfl (fun _ _ _ => All.nil) (fun _ f hf => by cases hf) rfl rfl rfl rfl rfl (fun _ => rfl) rfl (fun w G bs H hI hH hs hΓ => f84 w n (by omega) H hH (bs 999) c_b K0 M0 (hΓ.get 0 rfl) c_i c_h n_ hs hokc_b hokc_i hokc_h hokn_ u1 u2 u3 hu1) (fun _ => rfl) (fun _ => rfl) ?_
 rintro ⟨⟩ hq1
 have q1 := l1Below_rng c_b c_i c_h n_
 rw [hu1] at q1
 try dsimp only at q1
 refine R0 ?_
 have hP1 : spec_l1Once c_b c_i c_h n_ = (u1 == 0, u2, u3) := by simp only [spec_l1Once, hu1, ct, cf]
 have hz1 := hP1.symm.trans hres
 obtain ⟨hz1, hz2⟩ := Prod.mk.inj hz1
 obtain ⟨hz2, hz3⟩ := Prod.mk.inj hz2
 subst hz1
 subst hz2
 subst hz3
 refine R1 ?_
 intro w1 G bs hI hΓ
 exact Post.ofL 999 [] () hI hΓ rfl rfl rfl (by rw [hI.pin _ rfl]; first | done | rfl) (⟨hq1.2.1, hq1.2.2⟩)
theorem f107 (w : World) (n : Nat) (hn : n + 0 ≤ 9) (H : GH) (hH : Le H (hp w)) (bc_ : Nat) (c_b : (List UInt8)) (K0 : Option Addr) (M0 : Nat) (N0 : RdSl (cut (hp w) H) K0 M0 c_b) (c_i : Int) (c_h : Int) (list : (List Int)) (K1 : Option Addr) (M1 : Nat) (N1 : RdSl (cut (hp w) H) K1 M1 list) (hown : Sep H [MF.bx bc_ 182 [.slice K0 ((c_b).length) M0, .int .i64 (c_i), .int .i64 (c_h)]]) (hokc_b : GoT.ok n c_b) (hokc_i : NN c_i) (hokc_h : GoT.ok n c_h) (hq0 : 0 < list.length) (hoklist : GoT.ok n list) (o0_ : Int) (o1_ : Int) (o2_ : Int) (hres : spec_l1Int c_b c_i c_h list = (o0_, o1_, o2_)) :
  Does Tryz.prog 107 #[.pointer (some ⟨bc_, 0, none⟩), .slice K1 ((list).length) M1] w H (Post w H (fun _ : Unit => .int .i64 (o0_)) (fun _ => [MF.bx bc_ 182 [.slice K0 ((c_b).length) M0, .int .i64 (o1_), .int .i64 (o2_)]]) (GoT.ok n (o0_ : Int) ∧ NN (o1_) ∧ I64 (o2_))) := by
 have hbP := bd_pos n
 have hbB := bd_big (n := n) (by omega)
 have hc_bz : (c_b).length ≤ bd n := (okl hokc_b).1
 refine WX.enterP (tt := tt) (Γ := [(0, MF.rs .stb K0 M0 c_b), (1, MF.rs .stb K1 M1 list)]) 2 Tryz.func107 rfl (by kernel_rfl) rfl (allS_cons rfl N0 (allS_cons rfl N1 allS_nil)) hH hown (fun f hf => by cases hf) rfl ?_
 refine R0 ?_
 have r1 : (list).length ≤ bd n := (okl hoklist).1
 obtain ⟨⟨u1, u2, u3⟩, hu1⟩ : ∃ r_, spec_l1Below c_b c_i c_h (((list).length : Nat) : Int) = r_ := ⟨_, rfl⟩
 refine WX.callP (ds := fun _ => []) 999 3 rfl (fun _ _ _ => All.nil) (fun _ f hf => by cases hf) rfl rfl rfl rfl rfl (fun _ => rfl) rfl (fun w G bs H hI hH hs hΓ => f84 w n (by omega) H hH (bs 999) c_b K0 M0 (hΓ.get 0 rfl) c_i c_h (((list).length : Nat) : Int) hs hokc_b hokc_i hokc_h (show I64 (((list).length : Nat) : Int) from (by unfold I64; omega)) u1 u2 u3 hu1) (fun _ => rfl) (fun _ => rfl) ?_
 rintro ⟨⟩ hq1
 have q1 := l1Below_rng c_b c_i c_h (((list).length : Nat) : Int)
 rw [hu1] at q1
 try dsimp only at q1
 have r2 : -9223372036854775808 ≤ u1 ∧ u1 ≤ 9223372036854775807 := hq1.1
 refine WX.slot 9 (y := .v (.int .i64 (((u1).toNat : Nat) : Int))) rfl (fun _ => congrArg (Value.int .i64) (show u1 = (((u1).toNat : Nat) : Int) from by omega)) ?_
 have e1i : (u1).toNat < (list).length := (by omega)
 obtain ⟨e1, e1h⟩ : ∃ e1, (list)[(u1).toNat]? = some e1 := ⟨_, List.getElem?_eq_getElem e1i⟩
 have ok1 : GoT.ok n e1 := (okl hoklist).2 _ (List.mem_of_getElem? e1h)
 refine WX.idx 1 ((u1).toNat) ttOk rfl rfl rfl rfl rfl rfl rfl rfl rfl rfl e1i ?_
 rintro ad1 rfl
 refine WX.ldE 1 4 e1 ttOk rfl rfl rfl rfl rfl rfl rfl rfl e1h (fun _ => rfl) (fun _ => rfl) ?_
 rintro ⟨⟩
 refine R0 ?_
 have hP1 : spec_l1Int c_b c_i c_h list = (e1, u2, u3) := by simp only [spec_l1Int, hu1, e1h, ct, cf]
 have hz1 := hP1.symm.trans hres
 obtain ⟨hz1, hz2⟩ := Prod.mk.inj hz1
 obtain ⟨hz2, hz3⟩ := Prod.mk.inj hz2
 subst hz1
 subst hz2
 subst hz3
 refine R1 ?_
 intro w1 G bs hI hΓ
 exact Post.ofL 999 [] () hI hΓ rfl rfl rfl (by rw [hI.pin _ rfl]; first | done | rfl) (⟨ok1, ⟨hq1.2.1, hq1.2.2⟩⟩)
theorem f110 (w : World) (n : Nat) (hn : n + 0 ≤ 9) (H : GH) (hH : Le H (hp w)) (bc_ : Nat) (c_b : (List UInt8)) (K0 : Option Addr) (M0 : Nat) (N0 : RdSl (cut (hp w) H) K0 M0 c_b) (c_i : Int) (c_h : Int) (list : (List Str)) (K1 : Option Addr) (M1 : Nat) (N1 : RdSl (cut (hp w) H) K1 M1 list) (hown : Sep H [MF.bx bc_ 182 [.slice K0 ((c_b).length) M0, .int .i64 (c_i), .int .i64 (c_h)]]) (hokc_b : GoT.ok n c_b) (hokc_i : NN c_i) (hokc_h : GoT.ok n c_h) (hq0 : 0 < list.length) (hoklist : GoT.ok n list) (o0_ : Str) (o1_ : Int) (o2_ : Int) (hres : spec_l1Str c_b c_i c_h list = (o0_, o1_, o2_)) :
  Does Tryz.prog 110 #[.pointer (some ⟨bc_, 0, none⟩), .slice K1 ((list).length) M1] w H (Post w H (fun _ : Unit => .string o0_) (fun _ => [MF.bx bc_ 182 [.slice K0 ((c_b).length) M0, .int .i64 (o1_), .int .i64 (o2_)]]) (GoT.ok n (o0_ : Str) ∧ NN (o1_) ∧ I64 (o2_))) := by
 have hbP := bd_pos n
 have hbB := bd_big (n := n) (by omega)
 have hc_bz : (c_b).length ≤ bd n := (okl hokc_b).1
 refine WX.enterP (tt := tt) (Γ := [(0, MF.rs .stb K0 M0 c_b), (1, MF.rs .stb K1 M1 list)]) 2 Tryz.func110 rfl (by kernel_rfl) rfl (allS_cons rfl N0 (allS_cons rfl N1 allS_nil)) hH hown (fun f hf => by cases hf) rfl ?_
 refine R0 ?_
 have r1 : (list).length ≤ bd n := (okl hoklist).1
 obtain ⟨⟨u1, u2, u3⟩, hu1⟩ : ∃ r_, spec_l1Below c_b c_i c_h (((list).length : Nat) : Int) = r_ := ⟨_, rfl⟩
 refine WX.callP (ds := fun _ => []) 999 3 rfl (fun _ _ _ => All.nil) (fun _ f hf => by cases hf) rfl rfl rfl rfl rfl (fun _ => rfl) rfl (fun w G bs H hI hH hs hΓ => f84 w n (by omega) H hH (bs 999) c_b K0 M0 (hΓ.get 0 rfl) c_i c_h (((list).length : Nat) : Int) hs hokc_b hokc_i hokc_h (show I64 (((list).length : Nat) : Int) from (by unfold I64; omega)) u1 u2 u3 hu1) (fun _ => rfl) (fun _ => rfl) ?_
 rintro ⟨⟩ hq1
 have q1 := l1Below_rng c_b c_i c_h (((list).length : Nat) : Int)
 rw [hu1] at q1
 try dsimp only at q1
 have r2 : -9223372036854775808 ≤ u1 ∧ u1 ≤ 9223372036854775807 := hq1.1
 refine WX.slot 9 (y := .v (.int .i64 (((u1).toNat : Nat) : Int))) rfl (fun _ => congrArg (Value.int .i64) (show u1 = (((u1).toNat : Nat) : Int) from by omega)) ?_
 have e1i : (u1).toNat < (list).length := (by omega)
 obtain ⟨e1, e1h⟩ : ∃ e1, (list)[(u1).toNat]? = some e1 := ⟨_, List.getElem?_eq_getElem e1i⟩
 have ok1 : GoT.ok n e1 := (okl hoklist).2 _ (List.mem_of_getElem? e1h)
 refine WX.idx 1 ((u1).toNat) ttOk rfl rfl rfl rfl rfl rfl rfl rfl rfl rfl e1i ?_
 rintro ad1 rfl
 refine WX.ldE 1 4 e1 ttOk rfl rfl rfl rfl rfl rfl rfl rfl e1h (fun _ => rfl) (fun _ => rfl) ?_
 rintro ⟨⟩
 refine R0 ?_
 have hP1 : spec_l1Str c_b c_i c_h list = (e1, u2, u3) := by simp only [spec_l1Str, hu1, e1h, ct, cf]
 have hz1 := hP1.symm.trans hres
 obtain ⟨hz1, hz2⟩ := Prod.mk.inj hz1
 obtain ⟨hz2, hz3⟩ := Prod.mk.inj hz2
 subst hz1
 subst hz2
 subst hz3
 refine R1 ?_
 intro w1 G bs hI hΓ
 exact Post.ofL 999 [] () hI hΓ rfl rfl rfl (by rw [hI.pin _ rfl]; first | done | rfl) (⟨ok1, ⟨hq1.2.1, hq1.2.2⟩⟩)
theorem f106 (w : World) (n : Nat) (hn : n + 0 ≤ 9) (H : GH) (hH : Le H (hp w)) (bc_ : Nat) (c_b : (List UInt8)) (K0 : Option Addr) (M0 : Nat) (N0 : RdSl (cut (hp w) H) K0 M0 c_b) (c_i : Int) (c_h : Int) (n_ : Int) (hown : Sep H [MF.bx bc_ 182 [.slice K0 ((c_b).length) M0, .int .i64 (c_i), .int .i64 (c_h)]]) (hokc_b : GoT.ok n c_b) (hokc_i : NN c_i) (hokc_h : GoT.ok n c_h) (hq0 : n_ ≤ 1048576) (hokn_ : GoT.ok n n_) (o0_ : (List UInt8)) (o1_ : Int) (o2_ : Int) (hres : spec_l1Bytes c_b c_i c_h n_ = (o0_, o1_, o2_)) :
  Does Tryz.prog 106 #[.pointer (some ⟨bc_, 0, none⟩), .int .i64 (n_)] w H (Post w H (fun x : GoT.X ((List UInt8)) => (GoT.sh (o0_ : (List UInt8)) x).headD undef) (fun x => MF.bx bc_ 182 [.slice K0 ((c_b).length) M0, .int .i64 (o1_), .int .i64 (o2_)] :: GoT.oa (o0_ : (List UInt8)) x) (GoT.ok n (o0_ : (List UInt8)) ∧ NN (o1_) ∧ I64 (o2_))) := by
 have hbP := bd_pos n
 have hbB := bd_big (n := n) (by omega)
 have hc_bz : (c_b).length ≤ bd n := (okl hokc_b).1
 refine WX.enterP (tt := tt) (Γ := [(0, MF.rs .stb K0 M0 c_b)]) 1 Tryz.func106 rfl (by kernel_rfl) rfl (allS_cons rfl N0 allS_nil) hH hown (fun f hf => by cases hf) rfl ?_
 refine R0 ?_
 refine WX.bld ttOk rfl rfl rfl rfl rfl rfl rfl ?_
 intro p1
 refine R0 ?_
 refine WX.free 2 (MF.ol [] ([] : List UInt8)) rfl ?_
 have r1 : -9223372036854775808 ≤ n_ ∧ n_ ≤ 9223372036854775807 := hokn_
 refine WX.loop (ι := (Option Addr) × Nat × (List Value) × (List UInt8) × Nat × Int × Int) ⟨fun | (pout, cout, xsout, out, i, u999_i, u999_h) => (i ≤ (n_).toNat) ∧ (∀ z_ ∈ out, GoT.ok n z_) ∧ (NN u999_i) ∧ (-9223372036854775808 ≤ u999_h ∧ u999_h ≤ 9223372036854775807) ∧ (out.length ≤ i) ∧ (spec_l1Bytes_L1 c_b ((n_).toNat) ([] : List UInt8) c_i c_h = spec_l1Bytes_L1 c_b ((n_).toNat - i) out u999_i u999_h), fun | (pout, cout, xsout, out, i, u999_i, u999_h) => (n_).toNat - i, fun | (pout, cout, xsout, out, i, u999_i, u999_h) => [(5, .v (.slice pout ((out).length) cout)), (6, .v (.int .i64 (((i : Nat) : Int)))), (0, .p 999 0), (1, .v (.int .i64 (n_)))], fun | (pout, cout, xsout, out, i, u999_i, u999_h) => [(999, ⟨182, [.slice K0 ((c_b).length) M0, .int .i64 (u999_i), .int .i64 (u999_h)]⟩)], fun | (pout, cout, xsout, out, i, u999_i, u999_h) => [(7, ⟨1, pout, (out).length, cout, xsout⟩)], fun | (pout, cout, xsout, out, i, u999_i, u999_h) => [(0, MF.rs .stb K0 M0 c_b), (2, MF.ol xsout (out : List UInt8))]⟩ (p1, 0, [], ([] : List UInt8), 0, c_i, c_h) ⟨(Nat.zero_le _), (fun a ha => by cases ha), hokc_i, hokc_h, (by simp), rfl⟩
  (.cons rfl (.cons rfl (.cons rfl (.cons rfl (.nil))))) (.cons rfl (.nil)) (.cons rfl (.nil)) [0, 2] rfl ?_
 rintro ⟨pout, cout, xsout, out, i, u999_i, u999_h⟩ hpre
 have hpre_ : (i ≤ (n_).toNat) ∧ (∀ z_ ∈ out, GoT.ok n z_) ∧ (NN u999_i) ∧ (-9223372036854775808 ≤ u999_h ∧ u999_h ≤ 9223372036854775807) ∧ (out.length ≤ i) ∧ (spec_l1Bytes_L1 c_b ((n_).toNat) ([] : List UInt8) c_i c_h = spec_l1Bytes_L1 c_b ((n_).toNat - i) out u999_i u999_h) := hpre
 clear hpre
 obtain ⟨v1, v2, v3, v4, v5, v6⟩ := hpre_
 refine R0 ?_
 refine WX.cases 10 rfl (fun h1 => ?_) (fun h1 => ?_)
 ·skip
  have h1d := B.dt h1
  refine R0 ?_
  obtain ⟨⟨u1, u2, u3⟩, hu1⟩ : ∃ r_, spec_l1Byte c_b u999_i u999_h = r_ := ⟨_, rfl⟩
  refine WX.callP (ds := fun _ => []) 999 3 rfl (fun _ _ _ => All.nil) (fun _ f hf => by cases hf) rfl rfl rfl rfl rfl (fun _ => rfl) rfl (fun w G bs H hI hH hs hΓ => f172 w n (by omega) H hH (bs 999) c_b K0 M0 (hΓ.get 0 rfl) u999_i u999_h hs hokc_b v3 v4 u1 u2 u3 hu1) (fun _ => rfl) (fun _ => rfl) ?_
  rintro ⟨⟩ hq1
  have q1 := l1Byte_rng c_b u999_i u999_h
  rw [hu1] at q1
  try dsimp only at q1
  refine WX.see rfl rfl rfl (fun _ hΓ => looks_toU8 ttOk rfl rfl rfl rfl rfl rfl) ?_
  refine WX.bld ttOk rfl rfl rfl rfl rfl rfl rfl ?_
  intro p2
  refine WX.turn [] 4 rfl (fun h hs => ol_one (α := UInt8) (a := (toU8 u1)) (x := ()) hs) (gs := [MF.ol [.int .u8 ((toU8 u1).toNat : Nat)] ([(toU8 u1)] : List UInt8)]) rfl ?_
  have r2 : -9223372036854775808 ≤ u1 ∧ u1 ≤ 9223372036854775807 := hq1.1
  refine WX.know (fun G hΓ => (hΓ.get 4 rfl : OwL _ _ _).rd.one) ?_
  intro ho1
  refine WX.appR1 7 17 ((out ++ [(toU8 u1)]) : List UInt8).length ttOk rfl rfl rfl rfl rfl rfl rfl rfl rfl rfl rfl rfl rfl ho1 (by simp) (by simp; omega) (by simp; omega) (fun _ _ => rfl) ?_
  intro p3 c1
  refine WX.turn [2, 4] 5 rfl (fun h hs => ol_app hs) (gs := [MF.ol (xsout ++ [.int .u8 ((toU8 u1).toNat : Nat)]) ((out ++ [(toU8 u1)]) : List UInt8)]) rfl ?_
  refine R0 ?_
  refine WX.see rfl rfl rfl (fun _ hΓ => looks_arith rfl rfl rfl rfl (by unfold I64; first | omega | (simp only [List.length_take] at *; omega))) ?_
  refine R0 ?_
  refine WX.turn [5] 2 rfl (fun _ h => h) rfl ?_
  exact WX.iter (p3, c1, (xsout ++ [.int .u8 ((toU8 u1).toNat : Nat)]), ((out ++ [(toU8 u1)]) : List UInt8), i + 1, u2, u3) ⟨(by omega), (fun _ _ => trivial), hq1.2.1, hq1.2.2, (by first | assumption | omega | (simp; omega)), (by rw [v6, show (n_).toNat - i = ((n_).toNat - (i + 1)) + 1 by omega]; simp only [spec_l1Bytes_L1, hu1, ct, cf])⟩ (by first | (dsimp only; omega) | omega) (.cons rfl (.cons rfl (.cons rfl (.cons rfl (.nil))))) (.cons rfl (.nil)) (.cons rfl (.nil)) [0, 2] rfl
 ·skip
  have h1d := B.df h1
  refine R0 ?_
  have hX1 : spec_l1Bytes_L1 c_b ((n_).toNat) ([] : List UInt8) c_i c_h = (((out) : List UInt8), u999_i, u999_h) := by rw [v6, show (n_).toNat - i = 0 by omega]; simp only [spec_l1Bytes_L1, ct, cf]
  refine WX.seal 7 2 6 rfl rfl rfl rfl rfl ?_
  have hP1 : spec_l1Bytes c_b c_i c_h n_ = (out, u999_i, u999_h) := by simp only [spec_l1Bytes, hX1, ct, cf]
  have hz1 := hP1.symm.trans hres
  obtain ⟨hz1, hz2⟩ := Prod.mk.inj hz1
  obtain ⟨hz2, hz3⟩ := Prod.mk.inj hz2
  subst hz1
  subst hz2
  subst hz3
  refine R1 ?_
  intro w1 G bs hI hΓ
  exact Post.ofL 999 [7] (pout, cout) hI hΓ rfl rfl rfl (by rw [hI.pin _ rfl]; first | done | rfl) (⟨(okl_mk (by omega) (fun _ _ => trivial) : GoT.ok n (out : List UInt8)), ⟨v3, v4⟩⟩)
theorem f225 (w : World) (n : Nat) (hn : n + 1 ≤ 9) (s : Str) (by_ : UInt8) (hoks : GoT.ok n s) :
  Does Tryz.prog 225 #[.string s, .int .u8 ((by_).toNat : Nat)] w emp (Post w emp (fun x : GoT.X ((List Str)) => (GoT.sh ((spec_l4Split s by_) : (List Str)) x).headD undef) (fun x => GoT.oa ((spec_l4Split s by_) : (List Str)) x) (GoT.ok (n + 1) ((spec_l4Split s by_) : (List Str)))) := by
 have hbP := bd_pos n
 have hbS0 : bd (n + 1) = 4 * bd (n) := bd_succ (n := n) (by omega)
 have hbB := bd_big (n := (n + 1)) (by omega)
 have hbM := bd_mono (show n ≤ n + 1 by omega)
 refine WX.enter (tt := tt) (Γ := []) Tryz.func225 rfl (by kernel_rfl) rfl allS_nil ?_
 refine R0 ?_
 refine WX.bld ttOk rfl rfl rfl rfl rfl rfl rfl ?_
 intro p1
 refine R0 ?_
 refine WX.free 0 (MF.ol [] ([] : List Str)) rfl ?_
 have hs0 : s.size ≤ bd n := hoks
 refine WX.loop (ι := (Option Addr) × Nat × (List Value) × (List Str) × Int × Nat) ⟨fun | (pout, cout, xsout, out, from_, i) => (∀ z_ ∈ out, GoT.ok n z_) ∧ (-9223372036854775808 ≤ from_ ∧ from_ ≤ 9223372036854775807) ∧ (0 ≤ from_ ∧ from_ ≤ ((i : Nat) : Int)) ∧ (i ≤ (s).size + 1) ∧ (out.length ≤ i) ∧ (spec_l4Split_L1 s by_ 0 ([] : List Str) 0 = spec_l4Split_L1 s by_ i out from_), fun | (pout, cout, xsout, out, from_, i) => (s).size + 1 - i, fun | (pout, cout, xsout, out, from_, i) => [(5, .v (.slice pout ((out).length) cout)), (6, .v (.int .i64 (from_))), (7, .v (.int .i64 (((i : Nat) : Int)))), (0, .v (.string s)), (1, .v (.int .u8 ((by_).toNat : Nat)))], fun | (pout, cout, xsout, out, from_, i) => [], fun | (pout, cout, xsout, out, from_, i) => [(8, ⟨1, pout, (out).length, cout, xsout⟩)], fun | (pout, cout, xsout, out, from_, i) => [(0, MF.ol xsout (out : List Str))]⟩ (p1, 0, [], ([] : List Str), 0, 0) ⟨(fun a ha => by cases ha), (by first | assumption | omega), (by omega), (by omega), (by simp), rfl⟩
  (.cons rfl (.cons rfl (.cons rfl (.cons rfl (.cons rfl (.nil)))))) .nil (.cons rfl (.nil)) [0] rfl ?_
 rintro ⟨pout, cout, xsout, out, from_, i⟩ hpre
 have hpre_ : (∀ z_ ∈ out, GoT.ok n z_) ∧ (-9223372036854775808 ≤ from_ ∧ from_ ≤ 9223372036854775807) ∧ (0 ≤ from_ ∧ from_ ≤ ((i : Nat) : Int)) ∧ (i ≤ (s).size + 1) ∧ (out.length ≤ i) ∧ (spec_l4Split_L1 s by_ 0 ([] : List Str) 0 = spec_l4Split_L1 s by_ i out from_) := hpre
 clear hpre
 obtain ⟨v1, v2, v3, v4, v5, v6⟩ := hpre_
 refine R0 ?_
 refine WX.cases 12 rfl (fun h1 => ?_) (fun h1 => ?_)
 ·skip
  have h1d := B.dt h1
  refine R0 ?_
  refine WX.cases 19 rfl (fun h2 => ?_) (fun h2 => ?_)
  ·skip
   have h2d := B.et h2
   refine R0 ?_
   have r1 : (s).size ≤ bd n := hoks
   refine WX.see rfl rfl rfl (fun _ hΓ => looks_strB (Int.toNat from_) i ttOk rfl rfl rfl rfl rfl rfl (show from_ = (((Int.toNat from_) : Nat) : Int) from (by omega)) (show ((i : Nat) : Int) = ((i : Nat) : Int) from rfl) (show (Int.toNat from_) ≤ i from (by omega)) (show i ≤ (s).size from (by omega))) ?_
   have r2 : (((s).extract (Int.toNat from_) i)).size = i - (Int.toNat from_) := by rw [ByteArray.size_extract]; have z_ := (show i ≤ (s).size from (by omega)); omega
   refine WX.bld ttOk rfl rfl rfl rfl rfl rfl rfl ?_
   intro p2
   refine WX.turn [] 1 rfl (fun h hs => ol_one (α := Str) (a := ((s).extract (Int.toNat from_) i)) (x := ()) hs) (gs := [MF.ol [.string ((s).extract (Int.toNat from_) i)] ([((s).extract (Int.toNat from_) i)] : List Str)]) rfl ?_
   refine WX.know (fun G hΓ => (hΓ.get 1 rfl : OwL _ _ _).rd.one) ?_
   intro ho1
   refine WX.appR1 8 31 ((out ++ [((s).extract (Int.toNat from_) i)]) : List Str).length ttOk rfl rfl rfl rfl rfl rfl rfl rfl rfl rfl rfl rfl rfl ho1 (by simp) (by simp; omega) (by simp; omega) (fun _ _ => rfl) ?_
   intro p3 c1
   refine WX.turn [0, 1] 2 rfl (fun h hs => ol_app hs) (gs := [MF.ol (xsout ++ [.string ((s).extract (Int.toNat from_) i)]) ((out ++ [((s).extract (Int.toNat from_) i)]) : List Str)]) rfl ?_
   refine R0 ?_
   refine WX.see rfl rfl rfl (fun _ hΓ => looks_arith rfl rfl rfl rfl (by unfold I64; first | omega | (simp only [List.length_take] at *; omega))) ?_
   refine R0 ?_
   refine WX.see rfl rfl rfl (fun _ hΓ => looks_arith rfl rfl rfl rfl (by unfold I64; first | omega | (simp only [List.length_take] at *; omega))) ?_
   refine R0 ?_
   refine WX.turn [2] 0 rfl (fun _ h => h) rfl ?_
   exact WX.iter (p3, c1, (xsout ++ [.string ((s).extract (Int.toNat from_) i)]), ((out ++ [((s).extract (Int.toNat from_) i)]) : List Str), ((i : Nat) : Int) + 1, i + 1) ⟨(all_app v1 (all_cons (α := Str) (show (((s).extract (Int.toNat from_) i)).size ≤ bd n from (by first | omega | (simp; omega))) (fun a ha => by cases ha))), (by first | assumption | omega), (by omega), (by omega), (by first | assumption | omega | (simp; omega)), (by rw [v6]; rw [spec_l4Split_L1]; simp only [h1, h1d, h2, ct, cf, ↓reduceIte, Bool.false_eq_true])⟩ (by first | (dsimp only; omega) | omega) (.cons rfl (.cons rfl (.cons rfl (.cons rfl (.cons rfl (.nil)))))) .nil (.cons rfl (.nil)) [0] rfl
  ·skip
   have h2d := B.ef h2
   refine R0 ?_
   have e1i : i < ((s).data.toList).length := (by rw [show ((s).data.toList).length = (s).size from by simp]; omega)
   obtain ⟨e1, e1h⟩ : ∃ e1, ((s).data.toList)[i]? = some e1 := ⟨_, List.getElem?_eq_getElem e1i⟩
   refine WX.see rfl rfl rfl (fun _ hΓ => looks_strIdx ttOk rfl rfl rfl rfl rfl e1h) ?_
   refine R0 ?_
   refine WX.cases 25 rfl (fun h3 => ?_) (fun h3 => ?_)
   ·skip
    have h3d := B.et h3
    refine R0 ?_
    have r3 : (s).size ≤ bd n := hoks
    refine WX.see rfl rfl rfl (fun _ hΓ => looks_strB (Int.toNat from_) i ttOk rfl rfl rfl rfl rfl rfl (show from_ = (((Int.toNat from_) : Nat) : Int) from (by omega)) (show ((i : Nat) : Int) = ((i : Nat) : Int) from rfl) (show (Int.toNat from_) ≤ i from (by omega)) (show i ≤ (s).size from (by omega))) ?_
    have r4 : (((s).extract (Int.toNat from_) i)).size = i - (Int.toNat from_) := by rw [ByteArray.size_extract]; have z_ := (show i ≤ (s).size from (by omega)); omega
    refine WX.bld ttOk rfl rfl rfl rfl rfl rfl rfl ?_
    intro p4
    refine WX.turn [] 3 rfl (fun h hs => ol_one (α := Str) (a := ((s).extract (Int.toNat from_) i)) (x := ()) hs) (gs := [MF.ol [.string ((s).extract (Int.toNat from_) i)] ([((s).extract (Int.toNat from_) i)] : List Str)]) rfl ?_
    refine WX.know (fun G hΓ => (hΓ.get 3 rfl : OwL _ _ _).rd.one) ?_
    intro ho2
    refine WX.appR1 8 31 ((out ++ [((s).extract (Int.toNat from_) i)]) : List Str).length ttOk rfl rfl rfl rfl rfl rfl rfl rfl rfl rfl rfl rfl rfl ho2 (by simp) (by simp; omega) (by simp; omega) (fun _ _ => rfl) ?_
    intro p5 c2
    refine WX.turn [0, 3] 4 rfl (fun h hs => ol_app hs) (gs := [MF.ol (xsout ++ [.string ((s).extract (Int.toNat from_) i)]) ((out ++ [((s).extract (Int.toNat from_) i)]) : List Str)]) rfl ?_
    refine R0 ?_
    refine WX.see rfl rfl rfl (fun _ hΓ => looks_arith rfl rfl rfl rfl (by unfold I64; first | omega | (simp only [List.length_take] at *; omega))) ?_
    refine R0 ?_
    refine WX.see rfl rfl rfl (fun _ hΓ => looks_arith rfl rfl rfl rfl (by unfold I64; first | omega | (simp only [List.length_take] at *; omega))) ?_
    refine R0 ?_
    refine WX.turn [4] 0 rfl (fun _ h => h) rfl ?_
    exact WX.iter (p5, c2, (xsout ++ [.string ((s).extract (Int.toNat from_) i)]), ((out ++ [((s).extract (Int.toNat from_) i)]) : List Str), ((i : Nat) : Int) + 1, i + 1) ⟨(all_app v1 (all_cons (α := Str) (show (((s).extract (Int.toNat from_) i)).size ≤ bd n from (by first | omega | (simp; omega))) (fun a ha => by cases ha))), (by first | assumption | omega), (by omega), (by omega), (by first | assumption | omega | (simp; omega)), (by rw [v6]; rw [spec_l4Split_L1]; simp only [h1, h1d, h2, e1h, h3, ct, cf, ↓reduceIte, Bool.false_eq_true])⟩ (by first | (dsimp only; omega) | omega) (.cons rfl (.cons rfl (.cons rfl (.cons rfl (.cons rfl (.nil)))))) .nil (.cons rfl (.nil)) [0] rfl
   ·skip
    have h3d := B.ef h3
    refine R0 ?_
    refine WX.see rfl rfl rfl (fun _ hΓ => looks_arith rfl rfl rfl rfl (by unfold I64; first | omega | (simp only [List.length_take] at *; omega))) ?_
    refine R0 ?_
    exact WX.iter (pout, cout, xsout, (out : List Str), from_, i + 1) ⟨v1, v2, (by omega), (by omega), (by first | assumption | omega | (simp; omega)), (by rw [v6]; rw [spec_l4Split_L1]; simp only [h1, h1d, h2, e1h, h3, ct, cf, ↓reduceIte, Bool.false_eq_true])⟩ (by first | (dsimp only; omega) | omega) (.cons rfl (.cons rfl (.cons rfl (.cons rfl (.cons rfl (.nil)))))) .nil (.cons rfl (.nil)) [0] rfl
 ·skip
  have h1d := B.df h1
  refine R0 ?_
  have hX1 : spec_l4Split_L1 s by_ 0 ([] : List Str) 0 = (i, ((out) : List Str), from_) := by rw [v6]; rw [spec_l4Split_L1]; simp only [h1, h1d, ct, cf, ↓reduceIte, Bool.false_eq_true]
  refine WX.seal 8 0 5 rfl rfl rfl rfl rfl ?_
  have hP1 : spec_l4Split s by_ = out := by simp only [spec_l4Split, hX1, ct, cf]
  refine R1 ?_
  intro w1 G bs hI hΓ
  rw [hP1]
  exact Post.of [6] (pout, cout) hI hΓ rfl rfl rfl (okl_mk (by omega) (fun a ha => GoT.okm (by omega) (v1 a ha)) : GoT.ok (n + 1) (out : List Str))
theorem f183 (w : World) (n : Nat) (hn : n + 1 ≤ 9) (s : Str) (hoks : GoT.ok n s) :
  Does Tryz.prog 183 #[.string s] w emp (Post w emp (fun x : GoT.X (Name) => .tuple #[.agg ⟨GoT.sh ((spec_ParseName s).1 : Name) x⟩, .bool ((spec_ParseName s).2)]) (fun x => GoT.oa ((spec_ParseName s).1 : Name) x) (GoT.ok (n + 1) ((spec_ParseName s).1 : Name))) := by
 have hbP := bd_pos n
 have hbS0 : bd (n + 1) = 4 * bd (n) := bd_succ (n := n) (by omega)
 have hbB := bd_big (n := (n + 1)) (by omega)
 have hbM := bd_mono (show n ≤ n + 1 by omega)
 refine WX.enter (tt := tt) (Γ := []) Tryz.func183 rfl (by kernel_rfl) rfl allS_nil ?_
 refine R0 ?_
 refine WX.cases 7 rfl (fun h1 => ?_) (fun h1 => ?_)
 ·skip
  have h1d := B.et h1
  refine R0 ?_
  refine WX.free 0 (MF.os none 0 ([] : List Str)) (owSl_nil _ _) ?_
  have hP1 : spec_ParseName s = (Name.mk ([]), true) := by simp only [spec_ParseName, h1, ct, cf]
  refine R1 ?_
  intro w1 G bs hI hΓ
  rw [hP1]
  exact Post.of [0] (none, 0) hI hΓ rfl rfl rfl (ok_nil (α := Str))
 ·skip
  have h1d := B.ef h1
  refine R0 ?_
  refine WX.callF 1 (fun _ _ h => GoT.ow_rd h) (fun _ f hf => GoT.fak f hf) rfl rfl rfl rfl rfl (fun _ => rfl) rfl (fun w G bs hI hΓ => f225 w n (by omega) s (47 : UInt8) hoks) (fun _ => rfl) (fun _ => rfl) ?_
  rintro ⟨p1, c1⟩ hq1
  have q1 := len_l4Split s (47 : UInt8)
  refine R0 ?_
  have r1 : (s).size ≤ bd n := hoks
  have r2 : (spec_l4Split s (47 : UInt8)).length ≤ bd (n + 1) := (okl hq1).1
  refine WX.see rfl rfl rfl (fun _ hΓ => looks_slL 1 ttOk rfl rfl rfl rfl (by simp) (show 1 ≤ ((spec_l4Split s (47 : UInt8))).length from (by omega))) ?_
  refine WX.slot 12 (y := .v (.slice (offP p1 c1 1 1) (((List.drop 1 (spec_l4Split s (47 : UInt8)))).length) (c1 - 1))) rfl (fun _ => by rw [show ((List.drop 1 (spec_l4Split s (47 : UInt8)))).length = (((spec_l4Split s (47 : UInt8))).length) - 1 from (by simp only [List.length_drop])]) ?_
  refine WX.der 3 (MF.rs .der (offP p1 c1 1 1) (c1 - 1) (List.drop 1 (spec_l4Split s (47 : UInt8)))) rfl (fun _ hΓ => RdSl.suf (hΓ.get 1 rfl : RdSl _ _ _ _) 1) ?_
  refine R0 ?_
  refine WX.cases 17 rfl (fun h2 => ?_) (fun h2 => ?_)
  ·skip
   have h2d := B.dt h2
   refine R0 ?_
   refine WX.free 4 (MF.os none 0 ([] : List Str)) (owSl_nil _ _) ?_
   have hP2 : spec_ParseName s = (Name.mk ([]), false) := by simp only [spec_ParseName, h1, h2, ct, cf]
   refine R1 ?_
   intro w1 G bs hI hΓ
   rw [hP2]
   exact Post.of [4] (none, 0) hI hΓ rfl rfl rfl (ok_nil (α := Str))
  ·skip
   have h2d := B.df h2
   refine R0 ?_
   have e1i : 0 < ((spec_l4Split s (47 : UInt8))).length := (by first | assumption | omega)
   obtain ⟨e1, e1h⟩ : ∃ e1, ((spec_l4Split s (47 : UInt8)))[0]? = some e1 := ⟨_, List.getElem?_eq_getElem e1i⟩
   have ok1 : GoT.ok (n + 1) e1 := (okl hq1).2 _ (List.mem_of_getElem? e1h)
   refine WX.idx 1 0 ttOk rfl rfl rfl rfl rfl rfl rfl rfl rfl rfl e1i ?_
   rintro ad1 rfl
   refine WX.ldE 1 5 e1 ttOk rfl rfl rfl rfl rfl rfl rfl rfl e1h (fun _ => rfl) (fun _ => rfl) ?_
   rintro ⟨⟩
   refine R0 ?_
   refine WX.cases 23 rfl (fun h3 => ?_) (fun h3 => ?_)
   ·skip
    have h3d := B.ef (B.nt h3)
    refine R0 ?_
    refine WX.free 5 (MF.os none 0 ([] : List Str)) (owSl_nil _ _) ?_
    have hP3 : spec_ParseName s = (Name.mk ([]), false) := by simp only [spec_ParseName, h1, h2, e1h, h3, ct, cf]
    refine R1 ?_
    intro w1 G bs hI hΓ
    rw [hP3]
    exact Post.of [5] (none, 0) hI hΓ rfl rfl rfl (ok_nil (α := Str))
   ·skip
    have h3d := B.et (B.nf h3)
    refine R0 ?_
    refine WX.callV rfl rfl rfl rfl rfl (fun _ => rfl) rfl (fun w G bs hI hΓ => f100 w (n + 1) (by omega) (Name.mk (List.drop 1 (spec_l4Split s (47 : UInt8)))) (offP (some ad1) c1 1 1) (c1 - 1) (hΓ.get 3 rfl) (okl_mk (by first | assumption | omega | (simp; omega)) (fun a ha => (okl hq1).2 a (List.mem_of_mem_drop ha)) : GoT.ok (n + 1) ((List.drop 1 (spec_l4Split s (47 : UInt8))) : List Str))) ?_
    intro hq2
    refine R0 ?_
    refine WX.cases 27 rfl (fun h4 => ?_) (fun h4 => ?_)
    ·skip
     have h4d := (B.nt h4)
     refine R0 ?_
     refine WX.free 6 (MF.os none 0 ([] : List Str)) (owSl_nil _ _) ?_
     have hP4 : spec_ParseName s = (Name.mk ([]), false) := by simp only [spec_ParseName, h1, h2, e1h, h3, h4, ct, cf]
     refine R1 ?_
     intro w1 G bs hI hΓ
     rw [hP4]
     exact Post.of [6] (none, 0) hI hΓ rfl rfl rfl (ok_nil (α := Str))
    ·skip
     have h4d := (B.nf h4)
     refine R0 ?_
     refine WX.turn [2] 7 rfl (fun h hs => os_suf 1 (show 1 ≤ ((spec_l4Split s (47 : UInt8))).length from (by omega)) hs) (gs := [MF.os (offP (some ad1) c1 1 1) (c1 - 1) ((List.drop 1 (spec_l4Split s (47 : UInt8))) : List Str)]) rfl ?_
     have hP5 : spec_ParseName s = (Name.mk (List.drop 1 (spec_l4Split s (47 : UInt8))), true) := by simp only [spec_ParseName, h1, h2, e1h, h3, h4, ct, cf]
     refine R1 ?_
     intro w1 G bs hI hΓ
     rw [hP5]
     exact Post.of [7] ((offP (some ad1) c1 1 1), (c1 - 1)) hI hΓ rfl rfl rfl (okl_mk (by first | assumption | omega | (simp; omega)) (fun a ha => (okl hq1).2 a (List.mem_of_mem_drop ha)) : GoT.ok (n + 1) ((List.drop 1 (spec_l4Split s (47 : UInt8))) : List Str))
theorem f109 (w : World) (n : Nat) (hn : n + 1 ≤ 9) (s : Str) (hoks : GoT.ok n s) :
  Does Tryz.prog 109 #[.string s] w emp (Post w emp (fun x : GoT.X (Name) => .agg ⟨GoT.sh ((spec_l4Of s) : Name) x⟩) (fun x => GoT.oa ((spec_l4Of s) : Name) x) (GoT.ok (n + 1) ((spec_l4Of s) : Name))) := by
 have hbP := bd_pos n
 have hbS0 : bd (n + 1) = 4 * bd (n) := bd_succ (n := n) (by omega)
 have hbB := bd_big (n := (n + 1)) (by omega)
 have hbM := bd_mono (show n ≤ n + 1 by omega)
 refine WX.enter (tt := tt) (Γ := []) Tryz.func109 rfl (by kernel_rfl) rfl allS_nil ?_
 refine R0 ?_
 refine WX.callF 0 (fun _ _ h => GoT.ow_rd h) (fun _ f hf => GoT.fak f hf) rfl rfl rfl rfl rfl (fun _ => rfl) rfl (fun w G bs hI hΓ => f183 w n (by omega) s hoks) (fun _ => rfl) (fun _ => rfl) ?_
 rintro ⟨p1, c1⟩ hq1
 refine R0 ?_
 have hP1 : spec_l4Of s = ((spec_ParseName s).1) := by simp only [spec_l4Of, ct, cf]
 refine R1 ?_
 intro w1 G bs hI hΓ
 rw [hP1]
 exact Post.of [1] (p1, c1) hI hΓ rfl rfl rfl hq1
theorem f231 (w : World) (n : Nat) (hn : n + 1 ≤ 9) (n_ : Name) (K0 : Option Addr) (M0 : Nat) (N0 : RdSl (hp w) K0 M0 n_.parts) (s : Str) (hokn_ : GoT.ok n n_) (hoks : GoT.ok n s) :
  Does Tryz.prog 231 #[.agg #[.slice K0 ((n_.parts).length) M0], .string s] w emp (Post w emp (fun x : GoT.X (Name) => .tuple #[.agg ⟨GoT.sh ((spec_AppendPart n_ s).1 : Name) x⟩, .bool ((spec_AppendPart n_ s).2)]) (fun x => GoT.oa ((spec_AppendPart n_ s).1 : Name) x) (GoT.ok (n + 1) ((spec_AppendPart n_ s).1 : Name))) := by
 have hbP := bd_pos n
 have hbS0 : bd (n + 1) = 4 * bd (n) := bd_succ (n := n) (by omega)
 have hbB := bd_big (n := (n + 1)) (by omega)
 have hbM := bd_mono (show n ≤ n + 1 by omega)
 refine WX.enter (tt := tt) (Γ := [(0, MF.rs .stb K0 M0 n_.parts)]) Tryz.func231 rfl (by kernel_rfl) rfl (allS_cons rfl N0 allS_nil) ?_
 refine R0 ?_
 refine WX.bld ttOk rfl rfl rfl rfl rfl rfl rfl ?_
 intro p1
 refine R0 ?_
 refine WX.free 1 (MF.ol [] ([] : List Str)) rfl ?_
 have r1 : (n_.parts).length ≤ bd n := (okl (ok_Name hokn_)).1
 refine WX.appG1 7 0 2 (n_.parts : List Str).length ttOk rfl rfl rfl rfl rfl rfl rfl rfl rfl rfl rfl rfl rfl (by first | (simp; done) | (simp; omega)) (by omega) (by omega) (fun _ _ _ => rfl) ?_
 intro ys1 p2 c1
 refine WX.know (fun G hΓ => (hΓ.get 2 rfl : RdL _ _ _).flat) ?_
 intro hf1
 refine WX.turn [1] 3 rfl (fun h hs => ol_flat hs hf1) (gs := [MF.ol ([] ++ ys1) (n_.parts : List Str)]) rfl ?_
 refine R0 ?_
 refine WX.bld ttOk rfl rfl rfl rfl rfl rfl rfl ?_
 intro p3
 refine WX.turn [] 4 rfl (fun h hs => ol_one (α := Str) (a := s) (x := ()) hs) (gs := [MF.ol [.string s] ([s] : List Str)]) rfl ?_
 have r2 : (s).size ≤ bd n := hoks
 refine WX.know (fun G hΓ => (hΓ.get 4 rfl : OwL _ _ _).rd.one) ?_
 intro ho1
 refine WX.appR1 7 12 ((n_.parts ++ [s]) : List Str).length ttOk rfl rfl rfl rfl rfl rfl rfl rfl rfl rfl rfl rfl rfl ho1 (by simp) (by simp; omega) (by simp; omega) (fun _ _ => rfl) ?_
 intro p4 c2
 refine WX.turn [3, 4] 5 rfl (fun h hs => ol_app hs) (gs := [MF.ol (([] ++ ys1) ++ [.string s]) ((n_.parts ++ [s]) : List Str)]) rfl ?_
 refine R0 ?_
 refine WX.seal 7 5 6 rfl rfl rfl rfl rfl ?_
 refine WX.callV rfl rfl rfl rfl rfl (fun _ => rfl) rfl (fun w G bs hI hΓ => f100 w (n + 1) (by omega) (Name.mk (n_.parts ++ [s])) p4 c2 (hΓ.get 6 rfl) (okl_mk (by simp; omega) (fun a ha => GoT.okm (show n ≤ (n + 1) by omega) ((all_app (okl (ok_Name hokn_)).2 (all_cons (α := Str) hoks (fun a ha => by cases ha))) a ha)) : GoT.ok (n + 1) ((n_.parts ++ [s]) : List Str))) ?_
 intro hq1
 refine R0 ?_
 refine WX.cases 17 rfl (fun h1 => ?_) (fun h1 => ?_)
 ·skip
  have h1d := (B.nt h1)
  refine R0 ?_
  refine WX.callF 8 (fun _ _ h => GoT.ow_rd h) (fun _ f hf => GoT.fak f hf) rfl rfl rfl rfl rfl (fun _ => rfl) rfl (fun w G bs hI hΓ => f118 w n (by omega) n_ K0 M0 (hΓ.get 0 rfl) hokn_) (fun _ => rfl) (fun _ => rfl) ?_
  rintro ⟨p5, c3⟩ hq2
  refine R0 ?_
  have hP1 : spec_AppendPart n_ s = (spec_l4Copy n_, false) := by simp only [spec_AppendPart, h1, ct, cf]
  refine R1 ?_
  intro w1 G bs hI hΓ
  rw [hP1]
  exact Post.of [9] (p5, c3) hI hΓ rfl rfl rfl (GoT.okm (α := List Str) (by omega) (ok_Name hq2))
 ·skip
  have h1d := (B.nf h1)
  refine R0 ?_
  have hP2 : spec_AppendPart n_ s = (Name.mk (n_.parts ++ [s]), true) := by simp only [spec_AppendPart, h1, ct, cf]
  refine R1 ?_
  intro w1 G bs hI hΓ
  rw [hP2]
  exact Post.of [7] (p4, c2) hI hΓ rfl rfl rfl (okl_mk (by simp; omega) (fun a ha => GoT.okm (show n ≤ (n + 1) by omega) ((all_app (okl (ok_Name hokn_)).2 (all_cons (α := Str) hoks (fun a ha => by cases ha))) a ha)) : GoT.ok (n + 1) ((n_.parts ++ [s]) : List Str))
theorem f198 (w : World) (n : Nat) (hn : n + 1 ≤ 9) (H : GH) (hH : Le H (hp w)) (bc_ : Nat) (c_b : (List UInt8)) (K0 : Option Addr) (M0 : Nat) (N0 : RdSl (cut (hp w) H) K0 M0 c_b) (c_i : Int) (c_h : Int) (hown : Sep H [MF.bx bc_ 182 [.slice K0 ((c_b).length) M0, .int .i64 (c_i), .int .i64 (c_h)]]) (hokc_b : GoT.ok n c_b) (hokc_i : NN c_i) (hokc_h : GoT.ok n c_h) (o0_ : Name) (o1_ : Int) (o2_ : Int) (hres : spec_l4Name c_b c_i c_h = (o0_, o1_, o2_)) :
  Does Tryz.prog 198 #[.pointer (some ⟨bc_, 0, none⟩)] w H (Post w H (fun x : GoT.X (Name) => .agg ⟨GoT.sh (o0_ : Name) x⟩) (fun x => MF.bx bc_ 182 [.slice K0 ((c_b).length) M0, .int .i64 (o1_), .int .i64 (o2_)] :: GoT.oa (o0_ : Name) x) (GoT.ok n (o0_ : Name) ∧ NN (o1_) ∧ I64 (o2_))) := by
 have hbP := bd_pos n
 have hbS0 : bd (n + 1) = 4 * bd (n) := bd_succ (n := n) (by omega)
 have hbB := bd_big (n := (n + 1)) (by omega)
 have hbM := bd_mono (show n ≤ n + 1 by omega)
 have hc_bz : (c_b).length ≤ bd n := (okl hokc_b).1
 refine WX.enterP (tt := tt) (Γ := [(0, MF.rs .stb K0 M0 c_b)]) 1 Tryz.func198 rfl (by kernel_rfl) rfl (allS_cons rfl N0 allS_nil) hH hown (fun f hf => by cases hf) rfl ?_
 refine R0 ?_
 obtain ⟨⟨u1, u2, u3⟩, hu1⟩ : ∃ r_, spec_l1Below c_b c_i c_h 4 = r_ := ⟨_, rfl⟩
 refine WX.callP (ds := fun _ => []) 999 2 rfl (fun _ _ _ => All.nil) (fun _ f hf => by cases hf) rfl rfl rfl rfl rfl (fun _ => rfl) rfl (fun w G bs H hI hH hs hΓ => f84 w n (by omega) H hH (bs 999) c_b K0 M0 (hΓ.get 0 rfl) c_i c_h 4 hs hokc_b hokc_i hokc_h (show I64 4 from (by unfold I64; omega)) u1 u2 u3 hu1) (fun _ => rfl) (fun _ => rfl) ?_
 rintro ⟨⟩ hq1
 have q1 := l1Below_rng c_b c_i c_h 4
 rw [hu1] at q1
 try dsimp only at q1
 refine R0 ?_
 refine WX.free 4 (MF.os none 0 ([] : List Str)) (owSl_nil _ _) ?_
 refine WX.der 3 (MF.rs .der none 0 ([] : List Str)) rfl (fun _ hΓ => (hΓ.get 4 rfl : OwSl _ _ _ _).rd) ?_
 refine WX.loop (ι := Int × (Option Addr) × Nat × (List Str) × Int × Int) ⟨fun | (i, pn_, cn_, n_, u999_i, u999_h) => (-9223372036854775808 ≤ i ∧ i ≤ 9223372036854775807) ∧ (n_.length ≤ bd n ∧ ∀ z_ ∈ n_, GoT.ok n z_) ∧ (NN u999_i) ∧ (-9223372036854775808 ≤ u999_h ∧ u999_h ≤ 9223372036854775807) ∧ (n_.length + i.toNat ≤ 3) ∧ (spec_l4Name_L1 c_b u1 (([] : List Str) : List Str) u2 u3 = spec_l4Name_L1 c_b i n_ u999_i u999_h), fun | (i, pn_, cn_, n_, u999_i, u999_h) => i.toNat, fun | (i, pn_, cn_, n_, u999_i, u999_h) => [(4, .v (.int .i64 (i))), (3, .p 3 0), (2, .p 2 0), (0, .p 999 0)], fun | (i, pn_, cn_, n_, u999_i, u999_h) => [(3, ⟨30, [.slice pn_ ((n_).length) cn_]⟩), (2, ⟨30, [.slice none (0) 0]⟩), (999, ⟨182, [.slice K0 ((c_b).length) M0, .int .i64 (u999_i), .int .i64 (u999_h)]⟩)], fun | (i, pn_, cn_, n_, u999_i, u999_h) => [], fun | (i, pn_, cn_, n_, u999_i, u999_h) => [(0, MF.rs .stb K0 M0 c_b), (4, MF.os pn_ cn_ n_)]⟩ (u1, none, 0, (([] : List Str) : List Str), u2, u3) ⟨hq1.1, (okl_mk (Nat.zero_le _) (fun a ha => by cases ha) : GoT.ok n (([] : List Str) : List Str)), hq1.2.1, hq1.2.2, (by simp; omega), rfl⟩
  (.cons rfl (.cons rfl (.cons rfl (.cons rfl (.nil))))) (.cons rfl (.cons rfl (.cons rfl (.nil)))) .nil [0, 4] rfl ?_
 rintro ⟨i, pn_, cn_, n_, u999_i, u999_h⟩ hpre
 have hpre_ : (-9223372036854775808 ≤ i ∧ i ≤ 9223372036854775807) ∧ (n_.length ≤ bd n ∧ ∀ z_ ∈ n_, GoT.ok n z_) ∧ (NN u999_i) ∧ (-9223372036854775808 ≤ u999_h ∧ u999_h ≤ 9223372036854775807) ∧ (n_.length + i.toNat ≤ 3) ∧ (spec_l4Name_L1 c_b u1 (([] : List Str) : List Str) u2 u3 = spec_l4Name_L1 c_b i n_ u999_i u999_h) := hpre
 clear hpre
 obtain ⟨v1, v2, v3, v4, v5, v6⟩ := hpre_
 have v2L := v2.1
 refine R0 ?_
 refine WX.cases 9 rfl (fun h1 => ?_) (fun h1 => ?_)
 ·skip
  have h1d := B.dt h1
  refine R0 ?_
  refine WX.der 5 (MF.rs .der pn_ cn_ n_) rfl (fun _ hΓ => (hΓ.get 4 rfl : OwSl _ _ _ _).rd) ?_
  refine WX.draw [0, 3, 4, 5, 6, 7, 8] mixed ?_
  intro bs G0 hΓ0
  refine DX.takes (fuel := 8) ttOk [(1, true)] (by kernel_rfl) rfl ?_
  refine DX.toTX ?_
  intro S_
  refine TX.all2 0 2 (by kernel_rfl) ?_ ?_
  ·skip
   refine TS.op 0 rfl (by kernel_rfl) ?_
   refine R0 ?_
   refine WX.back0 ?_
   refine TX.all1 2 (by kernel_rfl) ?_
   refine TS.op 2 rfl (by kernel_rfl) ?_
   refine WX.bld ttOk rfl rfl rfl rfl rfl rfl rfl ?_
   intro p1
   refine R0 ?_
   refine WX.back0 ?_
   refine TX.all1 3 (by kernel_rfl) ?_
   refine TS.op 3 rfl (by kernel_rfl) ?_
   refine WX.turn [] 6 rfl (fun h hs => one_sep (⟨(), _, emp, _, rfl, emp_le _, Le.refl _, emp_dj _, trivial, ⟨(), _, emp, _, rfl, emp_le _, Le.refl _, emp_dj _, trivial, ⟨(), _, emp, _, rfl, emp_le _, Le.refl _, emp_dj _, trivial, ⟨(), _, emp, _, rfl, emp_le _, Le.refl _, emp_dj _, trivial, ⟨(), _, emp, _, rfl, emp_le _, Le.refl _, emp_dj _, trivial, ⟨(), _, emp, _, rfl, emp_le _, Le.refl _, emp_dj _, trivial, rfl⟩⟩⟩⟩⟩⟩ : OwL _ _ ([(⟨#[97]⟩ : Str), (⟨#[98]⟩ : Str), (⟨#[110, 101, 119, 115]⟩ : Str), (⟨#[120, 45, 49]⟩ : Str), (⟨#[49]⟩ : Str), (⟨#[107, 101, 121]⟩ : Str)] : List Str))) (gs := [MF.ol [.string (⟨#[97]⟩ : Str), .string (⟨#[98]⟩ : Str), .string (⟨#[110, 101, 119, 115]⟩ : Str), .string (⟨#[120, 45, 49]⟩ : Str), .string (⟨#[49]⟩ : Str), .string (⟨#[107, 101, 121]⟩ : Str)] ([(⟨#[97]⟩ : Str), (⟨#[98]⟩ : Str), (⟨#[110, 101, 119, 115]⟩ : Str), (⟨#[120, 45, 49]⟩ : Str), (⟨#[49]⟩ : Str), (⟨#[107, 101, 121]⟩ : Str)] : List Str)]) rfl ?_
   refine WX.seal 15 6 7 rfl rfl rfl rfl rfl ?_
   have r1 : (⟨#[97]⟩ : Str).size = 1 := rfl
   have r2 : (⟨#[98]⟩ : Str).size = 1 := rfl
   have r3 : (⟨#[110, 101, 119, 115]⟩ : Str).size = 4 := rfl
   have r4 : (⟨#[120, 45, 49]⟩ : Str).size = 3 := rfl
   have r5 : (⟨#[49]⟩ : Str).size = 1 := rfl
   have r6 : (⟨#[107, 101, 121]⟩ : Str).size = 3 := rfl
   obtain ⟨⟨u4, u5, u6⟩, hu2⟩ : ∃ r_, spec_l1Str c_b u999_i u999_h ([(⟨#[97]⟩ : Str), (⟨#[98]⟩ : Str), (⟨#[110, 101, 119, 115]⟩ : Str), (⟨#[120, 45, 49]⟩ : Str), (⟨#[49]⟩ : Str), (⟨#[107, 101, 121]⟩ : Str)]) = r_ := ⟨_, rfl⟩
   refine WX.callP (ds := fun _ => []) 999 9 rfl (fun _ _ _ => All.nil) (fun _ f hf => by cases hf) rfl rfl rfl rfl rfl (fun _ => rfl) rfl (fun w G bs H hI hH hs hΓ => f110 w n (by omega) H hH (bs 999) c_b K0 M0 (hΓ.get 0 rfl) u999_i u999_h ([(⟨#[97]⟩ : Str), (⟨#[98]⟩ : Str), (⟨#[110, 101, 119, 115]⟩ : Str), (⟨#[120, 45, 49]⟩ : Str), (⟨#[49]⟩ : Str), (⟨#[107, 101, 121]⟩ : Str)]) p1 6 (hΓ.get 7 rfl) hs hokc_b v3 v4 (by first | assumption | omega | (simp; done) | (simp; omega)) (okl_mk (by simp; omega) (all_cons (α := Str) (Nat.le_trans (by decide) (bd_pos _)) (all_cons (α := Str) (Nat.le_trans (by decide) (bd_pos _)) (all_cons (α := Str) (Nat.le_trans (by decide) (bd_pos _)) (all_cons (α := Str) (Nat.le_trans (by decide) (bd_pos _)) (all_cons (α := Str) (Nat.le_trans (by decide) (bd_pos _)) (all_cons (α := Str) (Nat.le_trans (by decide) (bd_pos _)) (fun a ha => by cases ha))))))) : GoT.ok n ([(⟨#[97]⟩ : Str), (⟨#[98]⟩ : Str), (⟨#[110, 101, 119, 115]⟩ : Str), (⟨#[120, 45, 49]⟩ : Str), (⟨#[49]⟩ : Str), (⟨#[107, 101, 121]⟩ : Str)] : List Str)) u4 u5 u6 hu2) (fun _ => rfl) (fun _ => rfl) ?_
   rintro ⟨⟩ hq2
   refine R0 ?_
   refine WX.back0 ?_
   refine TX.all1 4 (by kernel_rfl) ?_
   refine TS.der 10 (MF.rs .der pn_ cn_ n_) rfl (fun _ hΓ => (hΓ.get 4 rfl : OwSl _ _ _ _).rd) ?_
   refine TS.callF 4 11 (fun _ _ h => GoT.ow_rd h) (fun _ f hf => GoT.fak f hf) rfl rfl rfl rfl rfl rfl (fun _ => rfl) rfl (fun w G bs hI hΓ => f231 w n (by omega) (Name.mk n_) pn_ cn_ (hΓ.get 10 rfl) u4 (okl_of v2) hq2.1) (fun _ => rfl) (fun _ => rfl) ?_
   rintro ⟨p2, c1⟩ hq3
   have q2 := aP_len (Name.mk n_) u4
   try dsimp only at q2
   have hfx1 := aP_els (k := n) (Name.mk n_) u4 v2.2 hq2.1
   refine TX.all1 5 (by kernel_rfl) ?_
   refine TS.op 5 rfl (by kernel_rfl) ?_
   refine R0 ?_
   refine WX.back0 ?_
   refine TX.all2 6 7 (by kernel_rfl) ?_ ?_
   ·skip
    refine TS.op 6 rfl (by kernel_rfl) ?_
    refine R0 ?_
    refine WX.back0 ?_
    refine TX.all2 7 8 (by kernel_rfl) ?_ ?_
    ·skip
     refine TS.op 7 rfl (by kernel_rfl) ?_
     refine R0 ?_
     refine WX.back0 ?_
     refine TX.tail [8] rfl rfl (by kernel_rfl) ?_
     refine R0 ?_
     refine WX.see rfl rfl rfl (fun _ hΓ => looks_arith rfl rfl rfl rfl (by unfold I64; first | omega | (simp only [List.length_take] at *; omega))) ?_
     refine R0 ?_
     refine WX.turn [12] 4 rfl (fun _ h => h) rfl ?_
     have r7 : (u4).size ≤ bd n := hq2.1
     have r8 : ((spec_AppendPart (Name.mk n_) u4).1.parts).length ≤ bd (n + 1) := (okl (ok_Name hq3)).1
     exact WX.iter (i - 1, p2, c1, (spec_AppendPart (Name.mk n_) u4).1.parts, u5, u6) ⟨(by first | assumption | omega), (okl_mk (by omega) hfx1 : GoT.ok n ((spec_AppendPart (Name.mk n_) u4).1.parts : List Str)), hq2.2.1, hq2.2.2, (by omega), (by rw [v6]; rw [spec_l4Name_L1]; simp only [h1, h1d, hu2, ct, cf, ↓reduceIte, Bool.false_eq_true])⟩ (by first | (dsimp only; omega) | omega) (.cons rfl (.cons rfl (.cons rfl (.cons rfl (.nil))))) (.cons rfl (.cons rfl (.cons rfl (.nil)))) .nil [0, 4] rfl
    ·skip
     refine TS.op 8 rfl (by kernel_rfl) ?_
     refine R0 ?_
     refine WX.back0 ?_
     refine TX.tail [7] rfl rfl (by kernel_rfl) ?_
     refine R0 ?_
     refine WX.see rfl rfl rfl (fun _ hΓ => looks_arith rfl rfl rfl rfl (by unfold I64; first | omega | (simp only [List.length_take] at *; omega))) ?_
     refine R0 ?_
     refine WX.turn [12] 4 rfl (fun _ h => h) rfl ?_
     have r9 : (u4).size ≤ bd n := hq2.1
     have r10 : ((spec_AppendPart (Name.mk n_) u4).1.parts).length ≤ bd (n + 1) := (okl (ok_Name hq3)).1
     exact WX.iter (i - 1, p2, c1, (spec_AppendPart (Name.mk n_) u4).1.parts, u5, u6) ⟨(by first | assumption | omega), (okl_mk (by omega) hfx1 : GoT.ok n ((spec_AppendPart (Name.mk n_) u4).1.parts : List Str)), hq2.2.1, hq2.2.2, (by omega), (by rw [v6]; rw [spec_l4Name_L1]; simp only [h1, h1d, hu2, ct, cf, ↓reduceIte, Bool.false_eq_true])⟩ (by first | (dsimp only; omega) | omega) (.cons rfl (.cons rfl (.cons rfl (.cons rfl (.nil))))) (.cons rfl (.cons rfl (.cons rfl (.nil)))) .nil [0, 4] rfl
   ·skip
    refine TS.op 7 rfl (by kernel_rfl) ?_
    refine R0 ?_
    refine WX.back0 ?_
    refine TX.tail [6, 8] rfl rfl (by kernel_rfl) ?_
    refine R0 ?_
    refine WX.see rfl rfl rfl (fun _ hΓ => looks_arith rfl rfl rfl rfl (by unfold I64; first | omega | (simp only [List.length_take] at *; omega))) ?_
    refine R0 ?_
    refine WX.turn [12] 4 rfl (fun _ h => h) rfl ?_
    have r11 : (u4).size ≤ bd n := hq2.1
    have r12 : ((spec_AppendPart (Name.mk n_) u4).1.parts).length ≤ bd (n + 1) := (okl (ok_Name hq3)).1
    exact WX.iter (i - 1, p2, c1, (spec_AppendPart (Name.mk n_) u4).1.parts, u5, u6) ⟨(by first | assumption | omega), (okl_mk (by omega) hfx1 : GoT.ok n ((spec_AppendPart (Name.mk n_) u4).1.parts : List Str)), hq2.2.1, hq2.2.2, (by omega), (by rw [v6]; rw [spec_l4Name_L1]; simp only [h1, h1d, hu2, ct, cf, ↓reduceIte, Bool.false_eq_true])⟩ (by first | (dsimp only; omega) | omega) (.cons rfl (.cons rfl (.cons rfl (.cons rfl (.nil))))) (.cons rfl (.cons rfl (.cons rfl (.nil)))) .nil [0, 4] rfl
  ·skip
   refine TS.op 2 rfl (by kernel_rfl) ?_
   refine WX.bld ttOk rfl rfl rfl rfl rfl rfl rfl ?_
   intro p3
   refine R0 ?_
   refine WX.back0 ?_
   refine TX.all2 0 3 (by kernel_rfl) ?_ ?_
   ·skip
    refine TS.op 0 rfl (by kernel_rfl) ?_
    refine R0 ?_
    refine WX.back0 ?_
    refine TX.all1 3 (by kernel_rfl) ?_
    refine TS.op 3 rfl (by kernel_rfl) ?_
    refine WX.turn [] 13 rfl (fun h hs => one_sep (⟨(), _, emp, _, rfl, emp_le _, Le.refl _, emp_dj _, trivial, ⟨(), _, emp, _, rfl, emp_le _, Le.refl _, emp_dj _, trivial, ⟨(), _, emp, _, rfl, emp_le _, Le.refl _, emp_dj _, trivial, ⟨(), _, emp, _, rfl, emp_le _, Le.refl _, emp_dj _, trivial, ⟨(), _, emp, _, rfl, emp_le _, Le.refl _, emp_dj _, trivial, ⟨(), _, emp, _, rfl, emp_le _, Le.refl _, emp_dj _, trivial, rfl⟩⟩⟩⟩⟩⟩ : OwL _ _ ([(⟨#[97]⟩ : Str), (⟨#[98]⟩ : Str), (⟨#[110, 101, 119, 115]⟩ : Str), (⟨#[120, 45, 49]⟩ : Str), (⟨#[49]⟩ : Str), (⟨#[107, 101, 121]⟩ : Str)] : List Str))) (gs := [MF.ol [.string (⟨#[97]⟩ : Str), .string (⟨#[98]⟩ : Str), .string (⟨#[110, 101, 119, 115]⟩ : Str), .string (⟨#[120, 45, 49]⟩ : Str), .string (⟨#[49]⟩ : Str), .string (⟨#[107, 101, 121]⟩ : Str)] ([(⟨#[97]⟩ : Str), (⟨#[98]⟩ : Str), (⟨#[110, 101, 119, 115]⟩ : Str), (⟨#[120, 45, 49]⟩ : Str), (⟨#[49]⟩ : Str), (⟨#[107, 101, 121]⟩ : Str)] : List Str)]) rfl ?_
    refine WX.seal 15 13 14 rfl rfl rfl rfl rfl ?_
    have r13 : (⟨#[97]⟩ : Str).size = 1 := rfl
    have r14 : (⟨#[98]⟩ : Str).size = 1 := rfl
    have r15 : (⟨#[110, 101, 119, 115]⟩ : Str).size = 4 := rfl
    have r16 : (⟨#[120, 45, 49]⟩ : Str).size = 3 := rfl
    have r17 : (⟨#[49]⟩ : Str).size = 1 := rfl
    have r18 : (⟨#[107, 101, 121]⟩ : Str).size = 3 := rfl
    obtain ⟨⟨u7, u8, u9⟩, hu3⟩ : ∃ r_, spec_l1Str c_b u999_i u999_h ([(⟨#[97]⟩ : Str), (⟨#[98]⟩ : Str), (⟨#[110, 101, 119, 115]⟩ : Str), (⟨#[120, 45, 49]⟩ : Str), (⟨#[49]⟩ : Str), (⟨#[107, 101, 121]⟩ : Str)]) = r_ := ⟨_, rfl⟩
    refine WX.callP (ds := fun _ => []) 999 16 rfl (fun _ _ _ => All.nil) (fun _ f hf => by cases hf) rfl rfl rfl rfl rfl (fun _ => rfl) rfl (fun w G bs H hI hH hs hΓ => f110 w n (by omega) H hH (bs 999) c_b K0 M0 (hΓ.get 0 rfl) u999_i u999_h ([(⟨#[97]⟩ : Str), (⟨#[98]⟩ : Str), (⟨#[110, 101, 119, 115]⟩ : Str), (⟨#[120, 45, 49]⟩ : Str), (⟨#[49]⟩ : Str), (⟨#[107, 101, 121]⟩ : Str)]) p3 6 (hΓ.get 14 rfl) hs hokc_b v3 v4 (by first | assumption | omega | (simp; done) | (simp; omega)) (okl_mk (by simp; omega) (all_cons (α := Str) (Nat.le_trans (by decide) (bd_pos _)) (all_cons (α := Str) (Nat.le_trans (by decide) (bd_pos _)) (all_cons (α := Str) (Nat.le_trans (by decide) (bd_pos _)) (all_cons (α := Str) (Nat.le_trans (by decide) (bd_pos _)) (all_cons (α := Str) (Nat.le_trans (by decide) (bd_pos _)) (all_cons (α := Str) (Nat.le_trans (by decide) (bd_pos _)) (fun a ha => by cases ha))))))) : GoT.ok n ([(⟨#[97]⟩ : Str), (⟨#[98]⟩ : Str), (⟨#[110, 101, 119, 115]⟩ : Str), (⟨#[120, 45, 49]⟩ : Str), (⟨#[49]⟩ : Str), (⟨#[107, 101, 121]⟩ : Str)] : List Str)) u7 u8 u9 hu3) (fun _ => rfl) (fun _ => rfl) ?_
    rintro ⟨⟩ hq4
    refine R0 ?_
    refine WX.back0 ?_
    refine TX.all1 4 (by kernel_rfl) ?_
    refine TS.der 17 (MF.rs .der pn_ cn_ n_) rfl (fun _ hΓ => (hΓ.get 4 rfl : OwSl _ _ _ _).rd) ?_
    refine TS.callF 4 18 (fun _ _ h => GoT.ow_rd h) (fun _ f hf => GoT.fak f hf) rfl rfl rfl rfl rfl rfl (fun _ => rfl) rfl (fun w G bs hI hΓ => f231 w n (by omega) (Name.mk n_) pn_ cn_ (hΓ.get 17 rfl) u7 (okl_of v2) hq4.1) (fun _ => rfl) (fun _ => rfl) ?_
    rintro ⟨p4, c2⟩ hq5
    have q3 := aP_len (Name.mk n_) u7
    try dsimp only at q3
    have hfx2 := aP_els (k := n) (Name.mk n_) u7 v2.2 hq4.1
    refine TX.all1 5 (by kernel_rfl) ?_
    refine TS.op 5 rfl (by kernel_rfl) ?_
    refine R0 ?_
    refine WX.back0 ?_
    refine TX.all2 6 7 (by kernel_rfl) ?_ ?_
    ·skip
     refine TS.op 6 rfl (by kernel_rfl) ?_
     refine R0 ?_
     refine WX.back0 ?_
     refine TX.all2 7 8 (by kernel_rfl) ?_ ?_
     ·skip
      refine TS.op 7 rfl (by kernel_rfl) ?_
      refine R0 ?_
      refine WX.back0 ?_
      refine TX.tail [8] rfl rfl (by kernel_rfl) ?_
      refine R0 ?_
      refine WX.see rfl rfl rfl (fun _ hΓ => looks_arith rfl rfl rfl rfl (by unfold I64; first | omega | (simp only [List.length_take] at *; omega))) ?_
      refine R0 ?_
      refine WX.turn [19] 4 rfl (fun _ h => h) rfl ?_
      have r19 : (u7).size ≤ bd n := hq4.1
      have r20 : ((spec_AppendPart (Name.mk n_) u7).1.parts).length ≤ bd (n + 1) := (okl (ok_Name hq5)).1
      exact WX.iter (i - 1, p4, c2, (spec_AppendPart (Name.mk n_) u7).1.parts, u8, u9) ⟨(by first | assumption | omega), (okl_mk (by omega) hfx2 : GoT.ok n ((spec_AppendPart (Name.mk n_) u7).1.parts : List Str)), hq4.2.1, hq4.2.2, (by omega), (by rw [v6]; rw [spec_l4Name_L1]; simp only [h1, h1d, hu3, ct, cf, ↓reduceIte, Bool.false_eq_true])⟩ (by first | (dsimp only; omega) | omega) (.cons rfl (.cons rfl (.cons rfl (.cons rfl (.nil))))) (.cons rfl (.cons rfl (.cons rfl (.nil)))) .nil [0, 4] rfl
     ·skip
      refine TS.op 8 rfl (by kernel_rfl) ?_
      refine R0 ?_
      refine WX.back0 ?_
      refine TX.tail [7] rfl rfl (by kernel_rfl) ?_
      refine R0 ?_
      refine WX.see rfl rfl rfl (fun _ hΓ => looks_arith rfl rfl rfl rfl (by unfold I64; first | omega | (simp only [List.length_take] at *; omega))) ?_
      refine R0 ?_
      refine WX.turn [19] 4 rfl (fun _ h => h) rfl ?_
      have r21 : (u7).size ≤ bd n := hq4.1
      have r22 : ((spec_AppendPart (Name.mk n_) u7).1.parts).length ≤ bd (n + 1) := (okl (ok_Name hq5)).1
      exact WX.iter (i - 1, p4, c2, (spec_AppendPart (Name.mk n_) u7).1.parts, u8, u9) ⟨(by first | assumption | omega), (okl_mk (by omega) hfx2 : GoT.ok n ((spec_AppendPart (Name.mk n_) u7).1.parts : List Str)), hq4.2.1, hq4.2.2, (by omega), (by rw [v6]; rw [spec_l4Name_L1]; simp only [h1, h1d, hu3, ct, cf, ↓reduceIte, Bool.false_eq_true])⟩ (by first | (dsimp only; omega) | omega) (.cons rfl (.cons rfl (.cons rfl (.cons rfl (.nil))))) (.cons rfl (.cons rfl (.cons rfl (.nil)))) .nil [0, 4] rfl
    ·skip
     refine TS.op 7 rfl (by kernel_rfl) ?_
     refine R0 ?_
     refine WX.back0 ?_
     refine TX.tail [6, 8] rfl rfl (by kernel_rfl) ?_
     refine R0 ?_
     refine WX.see rfl rfl rfl (fun _ hΓ => looks_arith rfl rfl rfl rfl (by unfold I64; first | omega | (simp only [List.length_take] at *; omega))) ?_
     refine R0 ?_
     refine WX.turn [19] 4 rfl (fun _ h => h) rfl ?_
     have r23 : (u7).size ≤ bd n := hq4.1
     have r24 : ((spec_AppendPart (Name.mk n_) u7).1.parts).length ≤ bd (n + 1) := (okl (ok_Name hq5)).1
     exact WX.iter (i - 1, p4, c2, (spec_AppendPart (Name.mk n_) u7).1.parts, u8, u9) ⟨(by first | assumption | omega), (okl_mk (by omega) hfx2 : GoT.ok n ((spec_AppendPart (Name.mk n_) u7).1.parts : List Str)), hq4.2.1, hq4.2.2, (by omega), (by rw [v6]; rw [spec_l4Name_L1]; simp only [h1, h1d, hu3, ct, cf, ↓reduceIte, Bool.false_eq_true])⟩ (by first | (dsimp only; omega) | omega) (.cons rfl (.cons rfl (.cons rfl (.cons rfl (.nil))))) (.cons rfl (.cons rfl (.cons rfl (.nil)))) .nil [0, 4] rfl
   ·skip
    refine TS.op 3 rfl (by kernel_rfl) ?_
    refine WX.turn [] 20 rfl (fun h hs => one_sep (⟨(), _, emp, _, rfl, emp_le _, Le.refl _, emp_dj _, trivial, ⟨(), _, emp, _, rfl, emp_le _, Le.refl _, emp_dj _, trivial, ⟨(), _, emp, _, rfl, emp_le _, Le.refl _, emp_dj _, trivial, ⟨(), _, emp, _, rfl, emp_le _, Le.refl _, emp_dj _, trivial, ⟨(), _, emp, _, rfl, emp_le _, Le.refl _, emp_dj _, trivial, ⟨(), _, emp, _, rfl, emp_le _, Le.refl _, emp_dj _, trivial, rfl⟩⟩⟩⟩⟩⟩ : OwL _ _ ([(⟨#[97]⟩ : Str), (⟨#[98]⟩ : Str), (⟨#[110, 101, 119, 115]⟩ : Str), (⟨#[120, 45, 49]⟩ : Str), (⟨#[49]⟩ : Str), (⟨#[107, 101, 121]⟩ : Str)] : List Str))) (gs := [MF.ol [.string (⟨#[97]⟩ : Str), .string (⟨#[98]⟩ : Str), .string (⟨#[110, 101, 119, 115]⟩ : Str), .string (⟨#[120, 45, 49]⟩ : Str), .string (⟨#[49]⟩ : Str), .string (⟨#[107, 101, 121]⟩ : Str)] ([(⟨#[97]⟩ : Str), (⟨#[98]⟩ : Str), (⟨#[110, 101, 119, 115]⟩ : Str), (⟨#[120, 45, 49]⟩ : Str), (⟨#[49]⟩ : Str), (⟨#[107, 101, 121]⟩ : Str)] : List Str)]) rfl ?_
    refine WX.seal 15 20 21 rfl rfl rfl rfl rfl ?_
    have r25 : (⟨#[97]⟩ : Str).size = 1 := rfl
    have r26 : (⟨#[98]⟩ : Str).size = 1 := rfl
    have r27 : (⟨#[110, 101, 119, 115]⟩ : Str).size = 4 := rfl
    have r28 : (⟨#[120, 45, 49]⟩ : Str).size = 3 := rfl
    have r29 : (⟨#[49]⟩ : Str).size = 1 := rfl
    have r30 : (⟨#[107, 101, 121]⟩ : Str).size = 3 := rfl
    obtain ⟨⟨u10, u11, u12⟩, hu4⟩ : ∃ r_, spec_l1Str c_b u999_i u999_h ([(⟨#[97]⟩ : Str), (⟨#[98]⟩ : Str), (⟨#[110, 101, 119, 115]⟩ : Str), (⟨#[120, 45, 49]⟩ : Str), (⟨#[49]⟩ : Str), (⟨#[107, 101, 121]⟩ : Str)]) = r_ := ⟨_, rfl⟩
    refine WX.callP (ds := fun _ => []) 999 23 rfl (fun _ _ _ => All.nil) (fun _ f hf => by cases hf) rfl rfl rfl rfl rfl (fun _ => rfl) rfl (fun w G bs H hI hH hs hΓ => f110 w n (by omega) H hH (bs 999) c_b K0 M0 (hΓ.get 0 rfl) u999_i u999_h ([(⟨#[97]⟩ : Str), (⟨#[98]⟩ : Str), (⟨#[110, 101, 119, 115]⟩ : Str), (⟨#[120, 45, 49]⟩ : Str), (⟨#[49]⟩ : Str), (⟨#[107, 101, 121]⟩ : Str)]) p3 6 (hΓ.get 21 rfl) hs hokc_b v3 v4 (by first | assumption | omega | (simp; done) | (simp; omega)) (okl_mk (by simp; omega) (all_cons (α := Str) (Nat.le_trans (by decide) (bd_pos _)) (all_cons (α := Str) (Nat.le_trans (by decide) (bd_pos _)) (all_cons (α := Str) (Nat.le_trans (by decide) (bd_pos _)) (all_cons (α := Str) (Nat.le_trans (by decide) (bd_pos _)) (all_cons (α := Str) (Nat.le_trans (by decide) (bd_pos _)) (all_cons (α := Str) (Nat.le_trans (by decide) (bd_pos _)) (fun a ha => by cases ha))))))) : GoT.ok n ([(⟨#[97]⟩ : Str), (⟨#[98]⟩ : Str), (⟨#[110, 101, 119, 115]⟩ : Str), (⟨#[120, 45, 49]⟩ : Str), (⟨#[49]⟩ : Str), (⟨#[107, 101, 121]⟩ : Str)] : List Str)) u10 u11 u12 hu4) (fun _ => rfl) (fun _ => rfl) ?_
    rintro ⟨⟩ hq6
    refine R0 ?_
    refine WX.back0 ?_
    refine TX.all1 0 (by kernel_rfl) ?_
    refine TS.op 0 rfl (by kernel_rfl) ?_
    refine R0 ?_
    refine WX.back0 ?_
    refine TX.all1 4 (by kernel_rfl) ?_
    refine TS.der 24 (MF.rs .der pn_ cn_ n_) rfl (fun _ hΓ => (hΓ.get 4 rfl : OwSl _ _ _ _).rd) ?_
    refine TS.callF 4 25 (fun _ _ h => GoT.ow_rd h) (fun _ f hf => GoT.fak f hf) rfl rfl rfl rfl rfl rfl (fun _ => rfl) rfl (fun w G bs hI hΓ => f231 w n (by omega) (Name.mk n_) pn_ cn_ (hΓ.get 24 rfl) u10 (okl_of v2) hq6.1) (fun _ => rfl) (fun _ => rfl) ?_
    rintro ⟨p5, c3⟩ hq7
    have q4 := aP_len (Name.mk n_) u10
    try dsimp only at q4
    have hfx3 := aP_els (k := n) (Name.mk n_) u10 v2.2 hq6.1
    refine TX.all1 5 (by kernel_rfl) ?_
    refine TS.op 5 rfl (by kernel_rfl) ?_
    refine R0 ?_
    refine WX.back0 ?_
    refine TX.all2 6 7 (by kernel_rfl) ?_ ?_
    ·skip
     refine TS.op 6 rfl (by kernel_rfl) ?_
     refine R0 ?_
     refine WX.back0 ?_
     refine TX.all2 7 8 (by kernel_rfl) ?_ ?_
     ·skip
      refine TS.op 7 rfl (by kernel_rfl) ?_
      refine R0 ?_
      refine WX.back0 ?_
      refine TX.tail [8] rfl rfl (by kernel_rfl) ?_
      refine R0 ?_
      refine WX.see rfl rfl rfl (fun _ hΓ => looks_arith rfl rfl rfl rfl (by unfold I64; first | omega | (simp only [List.length_take] at *; omega))) ?_
      refine R0 ?_
      refine WX.turn [26] 4 rfl (fun _ h => h) rfl ?_
      have r31 : (u10).size ≤ bd n := hq6.1
      have r32 : ((spec_AppendPart (Name.mk n_) u10).1.parts).length ≤ bd (n + 1) := (okl (ok_Name hq7)).1
      exact WX.iter (i - 1, p5, c3, (spec_AppendPart (Name.mk n_) u10).1.parts, u11, u12) ⟨(by first | assumption | omega), (okl_mk (by omega) hfx3 : GoT.ok n ((spec_AppendPart (Name.mk n_) u10).1.parts : List Str)), hq6.2.1, hq6.2.2, (by omega), (by rw [v6]; rw [spec_l4Name_L1]; simp only [h1, h1d, hu4, ct, cf, ↓reduceIte, Bool.false_eq_true])⟩ (by first | (dsimp only; omega) | omega) (.cons rfl (.cons rfl (.cons rfl (.cons rfl (.nil))))) (.cons rfl (.cons rfl (.cons rfl (.nil)))) .nil [0, 4] rfl
     ·skip
      refine TS.op 8 rfl (by kernel_rfl) ?_
      refine R0 ?_
      refine WX.back0 ?_
      refine TX.tail [7] rfl rfl (by kernel_rfl) ?_
      refine R0 ?_
      refine WX.see rfl rfl rfl (fun _ hΓ => looks_arith rfl rfl rfl rfl (by unfold I64; first | omega | (simp only [List.length_take] at *; omega))) ?_
      refine R0 ?_
      refine WX.turn [26] 4 rfl (fun _ h => h) rfl ?_
      have r33 : (u10).size ≤ bd n := hq6.1
      have r34 : ((spec_AppendPart (Name.mk n_) u10).1.parts).length ≤ bd (n + 1) := (okl (ok_Name hq7)).1
      exact WX.iter (i - 1, p5, c3, (spec_AppendPart (Name.mk n_) u10).1.parts, u11, u12) ⟨(by first | assumption | omega), (okl_mk (by omega) hfx3 : GoT.ok n ((spec_AppendPart (Name.mk n_) u10).1.parts : List Str)), hq6.2.1, hq6.2.2, (by omega), (by rw [v6]; rw [spec_l4Name_L1]; simp only [h1, h1d, hu4, ct, cf, ↓reduceIte, Bool.false_eq_true])⟩ (by first | (dsimp only; omega) | omega) (.cons rfl (.cons rfl (.cons rfl (.cons rfl (.nil))))) (.cons rfl (.cons rfl (.cons rfl (.nil)))) .nil [0, 4] rfl
    ·skip
     refine TS.op 7 rfl (by kernel_rfl) ?_
     refine R0 ?_
     refine WX.back0 ?_
     refine TX.tail [6, 8] rfl rfl (by kernel_rfl) ?_
     refine R0 ?_
     refine WX.see rfl rfl rfl (fun _ hΓ => looks_arith rfl rfl rfl rfl (by unfold I64; first | omega | (simp only [List.length_take] at *; omega))) ?_
     refine R0 ?_
     refine WX.turn [26] 4 rfl (fun _ h => h) rfl ?_
     have r35 : (u10).size ≤ bd n := hq6.1
     have r36 : ((spec_AppendPart (Name.mk n_) u10).1.parts).length ≤ bd (n + 1) := (okl (ok_Name hq7)).1
     exact WX.iter (i - 1, p5, c3, (spec_AppendPart (Name.mk n_) u10).1.parts, u11, u12) ⟨(by first | assumption | omega), (okl_mk (by omega) hfx3 : GoT.ok n ((spec_AppendPart (Name.mk n_) u10).1.parts : List Str)), hq6.2.1, hq6.2.2, (by omega), (by rw [v6]; rw [spec_l4Name_L1]; simp only [h1, h1d, hu4, ct, cf, ↓reduceIte, Bool.false_eq_true])⟩ (by first | (dsimp only; omega) | omega) (.cons rfl (.cons rfl (.cons rfl (.cons rfl (.nil))))) (.cons rfl (.cons rfl (.cons rfl (.nil)))) .nil [0, 4] rfl
 ·skip
  have h1d := B.df h1
  refine R0 ?_
  have hX1 : spec_l4Name_L1 c_b u1 (([] : List Str) : List Str) u2 u3 = (i, ((n_) : List Str), u999_i, u999_h) := by rw [v6]; rw [spec_l4Name_L1]; simp only [h1, h1d, ct, cf, ↓reduceIte, Bool.false_eq_true]
  have hP1 : spec_l4Name c_b c_i c_h = (Name.mk n_, u999_i, u999_h) := by simp only [spec_l4Name, hu1, hX1, ct, cf]
  have hz1 := hP1.symm.trans hres
  obtain ⟨hz1, hz2⟩ := Prod.mk.inj hz1
  obtain ⟨hz2, hz3⟩ := Prod.mk.inj hz2
  subst hz1
  subst hz2
  subst hz3
  refine R1 ?_
  intro w1 G bs hI hΓ
  exact Post.ofL 999 [4] (pn_, cn_) hI hΓ rfl rfl rfl (by rw [hI.pin _ rfl]; first | done | rfl) (⟨(okl_of v2), ⟨v3, v4⟩⟩)
theorem f123 (w : World) (n : Nat) (hn : n + 1 ≤ 9) (H : GH) (hH : Le H (hp w)) (bc_ : Nat) (c_b : (List UInt8)) (K0 : Option Addr) (M0 : Nat) (N0 : RdSl (cut (hp w) H) K0 M0 c_b) (c_i : Int) (c_h : Int) (hown : Sep H [MF.bx bc_ 182 [.slice K0 ((c_b).length) M0, .int .i64 (c_i), .int .i64 (c_h)]]) (hokc_b : GoT.ok n c_b) (hokc_i : NN c_i) (hokc_h : GoT.ok n c_h) (o0_ : Name) (o1_ : Int) (o2_ : Int) (hres : spec_l4Any c_b c_i c_h = (o0_, o1_, o2_)) :
  Does Tryz.prog 123 #[.pointer (some ⟨bc_, 0, none⟩)] w H (Post w H (fun x : GoT.X (Name) => .agg ⟨GoT.sh (o0_ : Name) x⟩) (fun x => MF.bx bc_ 182 [.slice K0 ((c_b).length) M0, .int .i64 (o1_), .int .i64 (o2_)] :: GoT.oa (o0_ : Name) x) (GoT.ok n (o0_ : Name) ∧ NN (o1_) ∧ I64 (o2_))) := by
 have hbP := bd_pos n
 have hbS0 : bd (n + 1) = 4 * bd (n) := bd_succ (n := n) (by omega)
 have hbB := bd_big (n := (n + 1)) (by omega)
 have hbM := bd_mono (show n ≤ n + 1 by omega)
 have hc_bz : (c_b).length ≤ bd n := (okl hokc_b).1
 refine WX.enterP (tt := tt) (Γ := [(0, MF.rs .stb K0 M0 c_b)]) 1 Tryz.func123 rfl (by kernel_rfl) rfl (allS_cons rfl N0 allS_nil) hH hown (fun f hf => by cases hf) rfl ?_
 refine R0 ?_
 obtain ⟨⟨u1, u2, u3⟩, hu1⟩ : ∃ r_, spec_l4Name c_b c_i c_h = r_ := ⟨_, rfl⟩
 refine WX.callP 999 2 rfl (fun _ _ h => GoT.ow_rd h) (fun _ f hf => GoT.fak f hf) rfl rfl rfl rfl rfl (fun _ => rfl) rfl (fun w G bs H hI hH hs hΓ => f198 w n (by omega) H hH (bs 999) c_b K0 M0 (hΓ.get 0 rfl) c_i c_h hs hokc_b hokc_i hokc_h u1 u2 u3 hu1) (fun _ => rfl) (fun _ => rfl) ?_
 rintro ⟨p1, c1⟩ hq1
 have q1 := l4Name_len c_b c_i c_h
 rw [hu1] at q1
 try dsimp only at q1
 refine R0 ?_
 obtain ⟨⟨u4, u5, u6⟩, hu2⟩ : ∃ r_, spec_l1Below c_b u2 u3 8 = r_ := ⟨_, rfl⟩
 refine WX.callP (ds := fun _ => []) 999 4 rfl (fun _ _ _ => All.nil) (fun _ f hf => by cases hf) rfl rfl rfl rfl rfl (fun _ => rfl) rfl (fun w G bs H hI hH hs hΓ => f84 w n (by omega) H hH (bs 999) c_b K0 M0 (hΓ.get 0 rfl) u2 u3 8 hs hokc_b hq1.2.1 hq1.2.2 (show I64 8 from (by unfold I64; omega)) u4 u5 u6 hu2) (fun _ => rfl) (fun _ => rfl) ?_
 rintro ⟨⟩ hq2
 have q2 := l1Below_rng c_b u2 u3 8
 rw [hu2] at q2
 try dsimp only at q2
 refine R0 ?_
 refine WX.cases 8 rfl (fun h1 => ?_) (fun h1 => ?_)
 ·skip
  have h1d := B.et h1
  refine R0 ?_
  refine WX.draw [1, 4, 6, 7, 8] mixed ?_
  intro bs G0 hΓ0
  refine DX.takes (fuel := 7) ttOk [(0, true), (2, true)] (by kernel_rfl) rfl ?_
  refine DX.toTX ?_
  intro S_
  refine TX.all2 1 3 (by kernel_rfl) ?_ ?_
  ·skip
   refine TS.op 1 rfl (by kernel_rfl) ?_
   refine R0 ?_
   refine WX.back0 ?_
   refine TX.tail [3, 4, 5, 6, 7, 8] rfl rfl (by kernel_rfl) ?_
   refine WX.bld ttOk rfl rfl rfl rfl rfl rfl rfl ?_
   intro p2
   refine WX.turn [] 5 rfl (fun h hs => one_sep (⟨(), _, emp, _, rfl, emp_le _, Le.refl _, emp_dj _, trivial, ⟨(), _, emp, _, rfl, emp_le _, Le.refl _, emp_dj _, trivial, ⟨(), _, emp, _, rfl, emp_le _, Le.refl _, emp_dj _, trivial, ⟨(), _, emp, _, rfl, emp_le _, Le.refl _, emp_dj _, trivial, ⟨(), _, emp, _, rfl, emp_le _, Le.refl _, emp_dj _, trivial, ⟨(), _, emp, _, rfl, emp_le _, Le.refl _, emp_dj _, trivial, rfl⟩⟩⟩⟩⟩⟩ : OwL _ _ ([(⟨#[]⟩ : Str), (⟨#[65]⟩ : Str), (⟨#[116, 111, 111, 108, 111, 110, 103, 120, 120]⟩ : Str), (⟨#[97, 47, 98]⟩ : Str), (⟨#[32]⟩ : Str), (⟨#[101, 105, 103, 104, 116, 56, 56, 56]⟩ : Str)] : List Str))) (gs := [MF.ol [.string (⟨#[]⟩ : Str), .string (⟨#[65]⟩ : Str), .string (⟨#[116, 111, 111, 108, 111, 110, 103, 120, 120]⟩ : Str), .string (⟨#[97, 47, 98]⟩ : Str), .string (⟨#[32]⟩ : Str), .string (⟨#[101, 105, 103, 104, 116, 56, 56, 56]⟩ : Str)] ([(⟨#[]⟩ : Str), (⟨#[65]⟩ : Str), (⟨#[116, 111, 111, 108, 111, 110, 103, 120, 120]⟩ : Str), (⟨#[97, 47, 98]⟩ : Str), (⟨#[32]⟩ : Str), (⟨#[101, 105, 103, 104, 116, 56, 56, 56]⟩ : Str)] : List Str)]) rfl ?_
   refine WX.seal 13 5 6 rfl rfl rfl rfl rfl ?_
   have r1 : (⟨#[]⟩ : Str).size = 0 := rfl
   have r2 : (⟨#[65]⟩ : Str).size = 1 := rfl
   have r3 : (⟨#[116, 111, 111, 108, 111, 110, 103, 120, 120]⟩ : Str).size = 9 := rfl
   have r4 : (⟨#[97, 47, 98]⟩ : Str).size = 3 := rfl
   have r5 : (⟨#[32]⟩ : Str).size = 1 := rfl
   have r6 : (⟨#[101, 105, 103, 104, 116, 56, 56, 56]⟩ : Str).size = 8 := rfl
   obtain ⟨⟨u7, u8, u9⟩, hu3⟩ : ∃ r_, spec_l1Str c_b u5 u6 ([(⟨#[]⟩ : Str), (⟨#[65]⟩ : Str), (⟨#[116, 111, 111, 108, 111, 110, 103, 120, 120]⟩ : Str), (⟨#[97, 47, 98]⟩ : Str), (⟨#[32]⟩ : Str), (⟨#[101, 105, 103, 104, 116, 56, 56, 56]⟩ : Str)]) = r_ := ⟨_, rfl⟩
   refine WX.callP (ds := fun _ => []) 999 8 rfl (fun _ _ _ => All.nil) (fun _ f hf => by cases hf) rfl rfl rfl rfl rfl (fun _ => rfl) rfl (fun w G bs H hI hH hs hΓ => f110 w n (by omega) H hH (bs 999) c_b K0 M0 (hΓ.get 0 rfl) u5 u6 ([(⟨#[]⟩ : Str), (⟨#[65]⟩ : Str), (⟨#[116, 111, 111, 108, 111, 110, 103, 120, 120]⟩ : Str), (⟨#[97, 47, 98]⟩ : Str), (⟨#[32]⟩ : Str), (⟨#[101, 105, 103, 104, 116, 56, 56, 56]⟩ : Str)]) p2 6 (hΓ.get 6 rfl) hs hokc_b hq2.2.1 hq2.2.2 (by first | assumption | omega | (simp; done) | (simp; omega)) (okl_mk (by simp; omega) (all_cons (α := Str) (Nat.le_trans (by decide) (bd_pos _)) (all_cons (α := Str) (Nat.le_trans (by decide) (bd_pos _)) (all_cons (α := Str) (Nat.le_trans (by decide) (bd_pos _)) (all_cons (α := Str) (Nat.le_trans (by decide) (bd_pos _)) (all_cons (α := Str) (Nat.le_trans (by decide) (bd_pos _)) (all_cons (α := Str) (Nat.le_trans (by decide) (bd_pos _)) (fun a ha => by cases ha))))))) : GoT.ok n ([(⟨#[]⟩ : Str), (⟨#[65]⟩ : Str), (⟨#[116, 111, 111, 108, 111, 110, 103, 120, 120]⟩ : Str), (⟨#[97, 47, 98]⟩ : Str), (⟨#[32]⟩ : Str), (⟨#[101, 105, 103, 104, 116, 56, 56, 56]⟩ : Str)] : List Str)) u7 u8 u9 hu3) (fun _ => rfl) (fun _ => rfl) ?_
   rintro ⟨⟩ hq3
   refine WX.bld ttOk rfl rfl rfl rfl rfl rfl rfl ?_
   intro p3
   refine WX.opn (kk := 1) 501 3 9 rfl rfl rfl ?_
   intro xs1 hx1
   refine WX.turn [] 10 rfl (fun h hs => ol_one (α := Str) (a := u7) (x := ()) hs) (gs := [MF.ol [.string u7] ([u7] : List Str)]) rfl ?_
   have r7 : (u1.parts).length ≤ bd n := (okl (ok_Name hq1.1)).1
   have r8 : (u7).size ≤ bd n := hq3.1
   refine WX.know (fun G hΓ => (hΓ.get 10 rfl : OwL _ _ _).rd.one) ?_
   intro ho1
   refine WX.appR1 501 15 ((u1.parts ++ [u7]) : List Str).length ttOk rfl rfl rfl rfl rfl rfl rfl rfl rfl rfl rfl rfl rfl ho1 (by simp) (by simp; omega) (by simp; omega) (fun _ _ => rfl) ?_
   intro p4 c2
   refine WX.turn [9, 10] 11 rfl (fun h hs => ol_app hs) (gs := [MF.ol (xs1 ++ [.string u7]) ((u1.parts ++ [u7]) : List Str)]) rfl ?_
   refine R0 ?_
   refine WX.seal 501 11 12 rfl rfl rfl rfl rfl ?_
   have hP1 : spec_l4Any c_b c_i c_h = (Name.mk (u1.parts ++ [u7]), u8, u9) := by simp only [spec_l4Any, hu1, hu2, h1, hu3, ct, cf]
   have hz1 := hP1.symm.trans hres
   obtain ⟨hz1, hz2⟩ := Prod.mk.inj hz1
   obtain ⟨hz2, hz3⟩ := Prod.mk.inj hz2
   subst hz1
   subst hz2
   subst hz3
   refine R1 ?_
   intro w1 G bs hI hΓ
   exact Post.ofL 999 [13] (p4, c2) hI hΓ rfl rfl rfl (by rw [hI.pin _ rfl]; first | done | rfl) (⟨(okl_mk (by simp; omega) (all_app (okl (ok_Name hq1.1)).2 (all_cons (α := Str) hq3.1 (fun a ha => by cases ha))) : GoT.ok n ((u1.parts ++ [u7]) : List Str)), ⟨hq3.2.1, hq3.2.2⟩⟩)
  ·skip
   refine TS.op 3 rfl (by kernel_rfl) ?_
   refine WX.bld ttOk rfl rfl rfl rfl rfl rfl rfl ?_
   intro p5
   refine R0 ?_
   refine WX.back0 ?_
   refine TX.all2 1 4 (by kernel_rfl) ?_ ?_
   ·skip
    refine TS.op 1 rfl (by kernel_rfl) ?_
    refine R0 ?_
    refine WX.back0 ?_
    refine TX.tail [4, 5, 6, 7, 8] rfl rfl (by kernel_rfl) ?_
    refine WX.turn [] 14 rfl (fun h hs => one_sep (⟨(), _, emp, _, rfl, emp_le _, Le.refl _, emp_dj _, trivial, ⟨(), _, emp, _, rfl, emp_le _, Le.refl _, emp_dj _, trivial, ⟨(), _, emp, _, rfl, emp_le _, Le.refl _, emp_dj _, trivial, ⟨(), _, emp, _, rfl, emp_le _, Le.refl _, emp_dj _, trivial, ⟨(), _, emp, _, rfl, emp_le _, Le.refl _, emp_dj _, trivial, ⟨(), _, emp, _, rfl, emp_le _, Le.refl _, emp_dj _, trivial, rfl⟩⟩⟩⟩⟩⟩ : OwL _ _ ([(⟨#[]⟩ : Str), (⟨#[65]⟩ : Str), (⟨#[116, 111, 111, 108, 111, 110, 103, 120, 120]⟩ : Str), (⟨#[97, 47, 98]⟩ : Str), (⟨#[32]⟩ : Str), (⟨#[101, 105, 103, 104, 116, 56, 56, 56]⟩ : Str)] : List Str))) (gs := [MF.ol [.string (⟨#[]⟩ : Str), .string (⟨#[65]⟩ : Str), .string (⟨#[116, 111, 111, 108, 111, 110, 103, 120, 120]⟩ : Str), .string (⟨#[97, 47, 98]⟩ : Str), .string (⟨#[32]⟩ : Str), .string (⟨#[101, 105, 103, 104, 116, 56, 56, 56]⟩ : Str)] ([(⟨#[]⟩ : Str), (⟨#[65]⟩ : Str), (⟨#[116, 111, 111, 108, 111, 110, 103, 120, 120]⟩ : Str), (⟨#[97, 47, 98]⟩ : Str), (⟨#[32]⟩ : Str), (⟨#[101, 105, 103, 104, 116, 56, 56, 56]⟩ : Str)] : List Str)]) rfl ?_
    refine WX.seal 13 14 15 rfl rfl rfl rfl rfl ?_
    have r9 : (⟨#[]⟩ : Str).size = 0 := rfl
    have r10 : (⟨#[65]⟩ : Str).size = 1 := rfl
    have r11 : (⟨#[116, 111, 111, 108, 111, 110, 103, 120, 120]⟩ : Str).size = 9 := rfl
    have r12 : (⟨#[97, 47, 98]⟩ : Str).size = 3 := rfl
    have r13 : (⟨#[32]⟩ : Str).size = 1 := rfl
    have r14 : (⟨#[101, 105, 103, 104, 116, 56, 56, 56]⟩ : Str).size = 8 := rfl
    obtain ⟨⟨u10, u11, u12⟩, hu4⟩ : ∃ r_, spec_l1Str c_b u5 u6 ([(⟨#[]⟩ : Str), (⟨#[65]⟩ : Str), (⟨#[116, 111, 111, 108, 111, 110, 103, 120, 120]⟩ : Str), (⟨#[97, 47, 98]⟩ : Str), (⟨#[32]⟩ : Str), (⟨#[101, 105, 103, 104, 116, 56, 56, 56]⟩ : Str)]) = r_ := ⟨_, rfl⟩
    refine WX.callP (ds := fun _ => []) 999 17 rfl (fun _ _ _ => All.nil) (fun _ f hf => by cases hf) rfl rfl rfl rfl rfl (fun _ => rfl) rfl (fun w G bs H hI hH hs hΓ => f110 w n (by omega) H hH (bs 999) c_b K0 M0 (hΓ.get 0 rfl) u5 u6 ([(⟨#[]⟩ : Str), (⟨#[65]⟩ : Str), (⟨#[116, 111, 111, 108, 111, 110, 103, 120, 120]⟩ : Str), (⟨#[97, 47, 98]⟩ : Str), (⟨#[32]⟩ : Str), (⟨#[101, 105, 103, 104, 116, 56, 56, 56]⟩ : Str)]) p5 6 (hΓ.get 15 rfl) hs hokc_b hq2.2.1 hq2.2.2 (by first | assumption | omega | (simp; done) | (simp; omega)) (okl_mk (by simp; omega) (all_cons (α := Str) (Nat.le_trans (by decide) (bd_pos _)) (all_cons (α := Str) (Nat.le_trans (by decide) (bd_pos _)) (all_cons (α := Str) (Nat.le_trans (by decide) (bd_pos _)) (all_cons (α := Str) (Nat.le_trans (by decide) (bd_pos _)) (all_cons (α := Str) (Nat.le_trans (by decide) (bd_pos _)) (all_cons (α := Str) (Nat.le_trans (by decide) (bd_pos _)) (fun a ha => by cases ha))))))) : GoT.ok n ([(⟨#[]⟩ : Str), (⟨#[65]⟩ : Str), (⟨#[116, 111, 111, 108, 111, 110, 103, 120, 120]⟩ : Str), (⟨#[97, 47, 98]⟩ : Str), (⟨#[32]⟩ : Str), (⟨#[101, 105, 103, 104, 116, 56, 56, 56]⟩ : Str)] : List Str)) u10 u11 u12 hu4) (fun _ => rfl) (fun _ => rfl) ?_
    rintro ⟨⟩ hq4
    refine WX.bld ttOk rfl rfl rfl rfl rfl rfl rfl ?_
    intro p6
    refine WX.opn (kk := 1) 502 3 18 rfl rfl rfl ?_
    intro xs2 hx2
    refine WX.turn [] 19 rfl (fun h hs => ol_one (α := Str) (a := u10) (x := ()) hs) (gs := [MF.ol [.string u10] ([u10] : List Str)]) rfl ?_
    have r15 : (u1.parts).length ≤ bd n := (okl (ok_Name hq1.1)).1
    have r16 : (u10).size ≤ bd n := hq4.1
    refine WX.know (fun G hΓ => (hΓ.get 19 rfl : OwL _ _ _).rd.one) ?_
    intro ho2
    refine WX.appR1 502 15 ((u1.parts ++ [u10]) : List Str).length ttOk rfl rfl rfl rfl rfl rfl rfl rfl rfl rfl rfl rfl rfl ho2 (by simp) (by simp; omega) (by simp; omega) (fun _ _ => rfl) ?_
    intro p7 c3
    refine WX.turn [18, 19] 20 rfl (fun h hs => ol_app hs) (gs := [MF.ol (xs2 ++ [.string u10]) ((u1.parts ++ [u10]) : List Str)]) rfl ?_
    refine R0 ?_
    refine WX.seal 502 20 21 rfl rfl rfl rfl rfl ?_
    have hP2 : spec_l4Any c_b c_i c_h = (Name.mk (u1.parts ++ [u10]), u11, u12) := by simp only [spec_l4Any, hu1, hu2, h1, hu4, ct, cf]
    have hz1 := hP2.symm.trans hres
    obtain ⟨hz1, hz2⟩ := Prod.mk.inj hz1
    obtain ⟨hz2, hz3⟩ := Prod.mk.inj hz2
    subst hz1
    subst hz2
    subst hz3
    refine R1 ?_
    intro w1 G bs hI hΓ
    exact Post.ofL 999 [22] (p7, c3) hI hΓ rfl rfl rfl (by rw [hI.pin _ rfl]; first | done | rfl) (⟨(okl_mk (by simp; omega) (all_app (okl (ok_Name hq1.1)).2 (all_cons (α := Str) hq4.1 (fun a ha => by cases ha))) : GoT.ok n ((u1.parts ++ [u10]) : List Str)), ⟨hq4.2.1, hq4.2.2⟩⟩)
   ·skip
    refine TS.op 4 rfl (by kernel_rfl) ?_
    refine WX.turn [] 23 rfl (fun h hs => one_sep (⟨(), _, emp, _, rfl, emp_le _, Le.refl _, emp_dj _, trivial, ⟨(), _, emp, _, rfl, emp_le _, Le.refl _, emp_dj _, trivial, ⟨(), _, emp, _, rfl, emp_le _, Le.refl _, emp_dj _, trivial, ⟨(), _, emp, _, rfl, emp_le _, Le.refl _, emp_dj _, trivial, ⟨(), _, emp, _, rfl, emp_le _, Le.refl _, emp_dj _, trivial, ⟨(), _, emp, _, rfl, emp_le _, Le.refl _, emp_dj _, trivial, rfl⟩⟩⟩⟩⟩⟩ : OwL _ _ ([(⟨#[]⟩ : Str), (⟨#[65]⟩ : Str), (⟨#[116, 111, 111, 108, 111, 110, 103, 120, 120]⟩ : Str), (⟨#[97, 47, 98]⟩ : Str), (⟨#[32]⟩ : Str), (⟨#[101, 105, 103, 104, 116, 56, 56, 56]⟩ : Str)] : List Str))) (gs := [MF.ol [.string (⟨#[]⟩ : Str), .string (⟨#[65]⟩ : Str), .string (⟨#[116, 111, 111, 108, 111, 110, 103, 120, 120]⟩ : Str), .string (⟨#[97, 47, 98]⟩ : Str), .string (⟨#[32]⟩ : Str), .string (⟨#[101, 105, 103, 104, 116, 56, 56, 56]⟩ : Str)] ([(⟨#[]⟩ : Str), (⟨#[65]⟩ : Str), (⟨#[116, 111, 111, 108, 111, 110, 103, 120, 120]⟩ : Str), (⟨#[97, 47, 98]⟩ : Str), (⟨#[32]⟩ : Str), (⟨#[101, 105, 103, 104, 116, 56, 56, 56]⟩ : Str)] : List Str)]) rfl ?_
    refine WX.seal 13 23 24 rfl rfl rfl rfl rfl ?_
    have r17 : (⟨#[]⟩ : Str).size = 0 := rfl
    have r18 : (⟨#[65]⟩ : Str).size = 1 := rfl
    have r19 : (⟨#[116, 111, 111, 108, 111, 110, 103, 120, 120]⟩ : Str).size = 9 := rfl
    have r20 : (⟨#[97, 47, 98]⟩ : Str).size = 3 := rfl
    have r21 : (⟨#[32]⟩ : Str).size = 1 := rfl
    have r22 : (⟨#[101, 105, 103, 104, 116, 56, 56, 56]⟩ : Str).size = 8 := rfl
    obtain ⟨⟨u13, u14, u15⟩, hu5⟩ : ∃ r_, spec_l1Str c_b u5 u6 ([(⟨#[]⟩ : Str), (⟨#[65]⟩ : Str), (⟨#[116, 111, 111, 108, 111, 110, 103, 120, 120]⟩ : Str), (⟨#[97, 47, 98]⟩ : Str), (⟨#[32]⟩ : Str), (⟨#[101, 105, 103, 104, 116, 56, 56, 56]⟩ : Str)]) = r_ := ⟨_, rfl⟩
    refine WX.callP (ds := fun _ => []) 999 26 rfl (fun _ _ _ => All.nil) (fun _ f hf => by cases hf) rfl rfl rfl rfl rfl (fun _ => rfl) rfl (fun w G bs H hI hH hs hΓ => f110 w n (by omega) H hH (bs 999) c_b K0 M0 (hΓ.get 0 rfl) u5 u6 ([(⟨#[]⟩ : Str), (⟨#[65]⟩ : Str), (⟨#[116, 111, 111, 108, 111, 110, 103, 120, 120]⟩ : Str), (⟨#[97, 47, 98]⟩ : Str), (⟨#[32]⟩ : Str), (⟨#[101, 105, 103, 104, 116, 56, 56, 56]⟩ : Str)]) p5 6 (hΓ.get 24 rfl) hs hokc_b hq2.2.1 hq2.2.2 (by first | assumption | omega | (simp; done) | (simp; omega)) (okl_mk (by simp; omega) (all_cons (α := Str) (Nat.le_trans (by decide) (bd_pos _)) (all_cons (α := Str) (Nat.le_trans (by decide) (bd_pos _)) (all_cons (α := Str) (Nat.le_trans (by decide) (bd_pos _)) (all_cons (α := Str) (Nat.le_trans (by decide) (bd_pos _)) (all_cons (α := Str) (Nat.le_trans (by decide) (bd_pos _)) (all_cons (α := Str) (Nat.le_trans (by decide) (bd_pos _)) (fun a ha => by cases ha))))))) : GoT.ok n ([(⟨#[]⟩ : Str), (⟨#[65]⟩ : Str), (⟨#[116, 111, 111, 108, 111, 110, 103, 120, 120]⟩ : Str), (⟨#[97, 47, 98]⟩ : Str), (⟨#[32]⟩ : Str), (⟨#[101, 105, 103, 104, 116, 56, 56, 56]⟩ : Str)] : List Str)) u13 u14 u15 hu5) (fun _ => rfl) (fun _ => rfl) ?_
    rintro ⟨⟩ hq5
    refine R0 ?_
    refine WX.back0 ?_
    refine TX.all2 1 5 (by kernel_rfl) ?_ ?_
    ·skip
     refine TS.op 1 rfl (by kernel_rfl) ?_
     refine R0 ?_
     refine WX.back0 ?_
     refine TX.tail [5, 6, 7, 8] rfl rfl (by kernel_rfl) ?_
     refine WX.bld ttOk rfl rfl rfl rfl rfl rfl rfl ?_
     intro p8
     refine WX.opn (kk := 1) 503 3 27 rfl rfl rfl ?_
     intro xs3 hx3
     refine WX.turn [] 28 rfl (fun h hs => ol_one (α := Str) (a := u13) (x := ()) hs) (gs := [MF.ol [.string u13] ([u13] : List Str)]) rfl ?_
     have r23 : (u1.parts).length ≤ bd n := (okl (ok_Name hq1.1)).1
     have r24 : (u13).size ≤ bd n := hq5.1
     refine WX.know (fun G hΓ => (hΓ.get 28 rfl : OwL _ _ _).rd.one) ?_
     intro ho3
     refine WX.appR1 503 15 ((u1.parts ++ [u13]) : List Str).length ttOk rfl rfl rfl rfl rfl rfl rfl rfl rfl rfl rfl rfl rfl ho3 (by simp) (by simp; omega) (by simp; omega) (fun _ _ => rfl) ?_
     intro p9 c4
     refine WX.turn [27, 28] 29 rfl (fun h hs => ol_app hs) (gs := [MF.ol (xs3 ++ [.string u13]) ((u1.parts ++ [u13]) : List Str)]) rfl ?_
     refine R0 ?_
     refine WX.seal 503 29 30 rfl rfl rfl rfl rfl ?_
     have hP3 : spec_l4Any c_b c_i c_h = (Name.mk (u1.parts ++ [u13]), u14, u15) := by simp only [spec_l4Any, hu1, hu2, h1, hu5, ct, cf]
     have hz1 := hP3.symm.trans hres
     obtain ⟨hz1, hz2⟩ := Prod.mk.inj hz1
     obtain ⟨hz2, hz3⟩ := Prod.mk.inj hz2
     subst hz1
     subst hz2
     subst hz3
     refine R1 ?_
     intro w1 G bs hI hΓ
     exact Post.ofL 999 [31] (p9, c4) hI hΓ rfl rfl rfl (by rw [hI.pin _ rfl]; first | done | rfl) (⟨(okl_mk (by simp; omega) (all_app (okl (ok_Name hq1.1)).2 (all_cons (α := Str) hq5.1 (fun a ha => by cases ha))) : GoT.ok n ((u1.parts ++ [u13]) : List Str)), ⟨hq5.2.1, hq5.2.2⟩⟩)
    ·skip
     refine TS.op 5 rfl (by kernel_rfl) ?_
     refine WX.bld ttOk rfl rfl rfl rfl rfl rfl rfl ?_
     intro p10
     refine R0 ?_
     refine WX.back0 ?_
     refine TX.tail [1, 6, 7, 8] rfl rfl (by kernel_rfl) ?_
     refine R0 ?_
     refine WX.opn (kk := 1) 504 3 32 rfl rfl rfl ?_
     intro xs4 hx4
     refine WX.turn [] 33 rfl (fun h hs => ol_one (α := Str) (a := u13) (x := ()) hs) (gs := [MF.ol [.string u13] ([u13] : List Str)]) rfl ?_
     have r25 : (u1.parts).length ≤ bd n := (okl (ok_Name hq1.1)).1
     have r26 : (u13).size ≤ bd n := hq5.1
     refine WX.know (fun G hΓ => (hΓ.get 33 rfl : OwL _ _ _).rd.one) ?_
     intro ho4
     refine WX.appR1 504 15 ((u1.parts ++ [u13]) : List Str).length ttOk rfl rfl rfl rfl rfl rfl rfl rfl rfl rfl rfl rfl rfl ho4 (by simp) (by simp; omega) (by simp; omega) (fun _ _ => rfl) ?_
     intro p11 c5
     refine WX.turn [32, 33] 34 rfl (fun h hs => ol_app hs) (gs := [MF.ol (xs4 ++ [.string u13]) ((u1.parts ++ [u13]) : List Str)]) rfl ?_
     refine R0 ?_
     refine WX.seal 504 34 35 rfl rfl rfl rfl rfl ?_
     have hP4 : spec_l4Any c_b c_i c_h = (Name.mk (u1.parts ++ [u13]), u14, u15) := by simp only [spec_l4Any, hu1, hu2, h1, hu5, ct, cf]
     have hz1 := hP4.symm.trans hres
     obtain ⟨hz1, hz2⟩ := Prod.mk.inj hz1
     obtain ⟨hz2, hz3⟩ := Prod.mk.inj hz2
     subst hz1
     subst hz2
     subst hz3
     refine R1 ?_
     intro w1 G bs hI hΓ
     exact Post.ofL 999 [36] (p11, c5) hI hΓ rfl rfl rfl (by rw [hI.pin _ rfl]; first | done | rfl) (⟨(okl_mk (by simp; omega) (all_app (okl (ok_Name hq1.1)).2 (all_cons (α := Str) hq5.1 (fun a ha => by cases ha))) : GoT.ok n ((u1.parts ++ [u13]) : List Str)), ⟨hq5.2.1, hq5.2.2⟩⟩)
 ·skip
  have h1d := B.ef h1
  refine R0 ?_
  refine WX.cases 18 rfl (fun h2 => ?_) (fun h2 => ?_)
  ·skip
   have h2d := B.et h2
   refine R0 ?_
   refine WX.loop (ι := (Option Addr) × Nat × (List Str) × Int × Int) ⟨fun | (pn_, cn_, n_, u999_i, u999_h) => (n_.length ≤ bd n ∧ ∀ z_ ∈ n_, GoT.ok n z_) ∧ (NN u999_i) ∧ (-9223372036854775808 ≤ u999_h ∧ u999_h ≤ 9223372036854775807) ∧ (n_.length ≤ 7) ∧ (spec_l4Any_L1 c_b (u1.parts : List Str) u5 u6 = spec_l4Any_L1 c_b n_ u999_i u999_h), fun | (pn_, cn_, n_, u999_i, u999_h) => 7 - n_.length, fun | (pn_, cn_, n_, u999_i, u999_h) => [(3, .p 3 0), (2, .p 2 0), (0, .p 999 0)], fun | (pn_, cn_, n_, u999_i, u999_h) => [(3, ⟨30, [.slice pn_ ((n_).length) cn_]⟩), (2, ⟨30, [.slice none (0) 0]⟩), (999, ⟨182, [.slice K0 ((c_b).length) M0, .int .i64 (u999_i), .int .i64 (u999_h)]⟩)], fun | (pn_, cn_, n_, u999_i, u999_h) => [], fun | (pn_, cn_, n_, u999_i, u999_h) => [(0, MF.rs .stb K0 M0 c_b), (3, MF.os pn_ cn_ n_)]⟩ (p1, c1, (u1.parts : List Str), u5, u6) ⟨(ok_Name hq1.1), hq2.2.1, hq2.2.2, (by omega), rfl⟩
    (.cons rfl (.cons rfl (.cons rfl (.nil)))) (.cons rfl (.cons rfl (.cons rfl (.nil)))) .nil [0, 3] rfl ?_
   rintro ⟨pn_, cn_, n_, u999_i, u999_h⟩ hpre
   have hpre_ : (n_.length ≤ bd n ∧ ∀ z_ ∈ n_, GoT.ok n z_) ∧ (NN u999_i) ∧ (-9223372036854775808 ≤ u999_h ∧ u999_h ≤ 9223372036854775807) ∧ (n_.length ≤ 7) ∧ (spec_l4Any_L1 c_b (u1.parts : List Str) u5 u6 = spec_l4Any_L1 c_b n_ u999_i u999_h) := hpre
   clear hpre
   obtain ⟨v1, v2, v3, v4, v5⟩ := hpre_
   have v1L := v1.1
   refine R0 ?_
   refine WX.der 37 (MF.rs .der pn_ cn_ n_) rfl (fun _ hΓ => (hΓ.get 3 rfl : OwSl _ _ _ _).rd) ?_
   refine WX.draw [1, 2, 4, 5, 6] mixed ?_
   intro bs G0 hΓ0
   refine DX.takes (fuel := 5) ttOk [(0, true), (3, true)] (by kernel_rfl) rfl ?_
   refine DX.toTX ?_
   intro S_
   refine TX.all2 1 4 (by kernel_rfl) ?_ ?_
   ·skip
    refine TS.op 1 rfl (by kernel_rfl) ?_
    refine R0 ?_
    refine WX.back0 ?_
    refine TX.all2 2 4 (by kernel_rfl) ?_ ?_
    ·skip
     refine TS.op 2 rfl (by kernel_rfl) ?_
     refine R0 ?_
     refine WX.back0 ?_
     refine TX.tail [4, 5, 6] rfl rfl (by kernel_rfl) ?_
     obtain ⟨⟨u16, u17, u18⟩, hu6⟩ : ∃ r_, spec_l1Below c_b u999_i u999_h 3 = r_ := ⟨_, rfl⟩
     refine WX.callP (ds := fun _ => []) 999 38 rfl (fun _ _ _ => All.nil) (fun _ f hf => by cases hf) rfl rfl rfl rfl rfl (fun _ => rfl) rfl (fun w G bs H hI hH hs hΓ => f84 w n (by omega) H hH (bs 999) c_b K0 M0 (hΓ.get 0 rfl) u999_i u999_h 3 hs hokc_b v2 v3 (show I64 3 from (by unfold I64; omega)) u16 u17 u18 hu6) (fun _ => rfl) (fun _ => rfl) ?_
     rintro ⟨⟩ hq6
     have q3 := l1Below_rng c_b u999_i u999_h 3
     rw [hu6] at q3
     try dsimp only at q3
     have r27 : -9223372036854775808 ≤ u16 ∧ u16 ≤ 9223372036854775807 := hq6.1
     refine WX.see rfl rfl rfl (fun _ hΓ => looks_arith rfl rfl rfl rfl (by unfold I64; first | omega | (simp only [List.length_take] at *; omega))) ?_
     refine R0 ?_
     refine WX.cases 26 rfl (fun h3 => ?_) (fun h3 => ?_)
     ·skip
      have h3d := B.dt h3
      refine R0 ?_
      refine WX.bld ttOk rfl rfl rfl rfl rfl rfl rfl ?_
      intro p12
      refine WX.opn (kk := 1) 505 3 39 rfl rfl rfl ?_
      intro xs5 hx5
      refine WX.turn [] 40 rfl (fun h hs => ol_one (α := Str) (a := (⟨#[109]⟩ : Str)) (x := ()) hs) (gs := [MF.ol [.string (⟨#[109]⟩ : Str)] ([(⟨#[109]⟩ : Str)] : List Str)]) rfl ?_
      have r28 : (⟨#[109]⟩ : Str).size = 1 := rfl
      refine WX.know (fun G hΓ => (hΓ.get 40 rfl : OwL _ _ _).rd.one) ?_
      intro ho5
      refine WX.appR1 505 29 ((n_ ++ [(⟨#[109]⟩ : Str)]) : List Str).length ttOk rfl rfl rfl rfl rfl rfl rfl rfl rfl rfl rfl rfl rfl ho5 (by simp) (by simp; omega) (by simp; omega) (fun _ _ => rfl) ?_
      intro p13 c6
      refine WX.turn [39, 40] 41 rfl (fun h hs => ol_app hs) (gs := [MF.ol (xs5 ++ [.string (⟨#[109]⟩ : Str)]) ((n_ ++ [(⟨#[109]⟩ : Str)]) : List Str)]) rfl ?_
      refine R0 ?_
      refine WX.seal 505 41 42 rfl rfl rfl rfl rfl ?_
      refine WX.turn [43] 3 rfl (fun _ h => h) rfl ?_
      exact WX.iter (p13, c6, (n_ ++ [(⟨#[109]⟩ : Str)]), u17, u18) ⟨(okl_mk (by simp; omega) (all_app v1.2 (all_cons (α := Str) (Nat.le_trans (by decide) (bd_pos _)) (fun a ha => by cases ha))) : GoT.ok n ((n_ ++ [(⟨#[109]⟩ : Str)]) : List Str)), hq6.2.1, hq6.2.2, (by first | assumption | omega | (simp; omega)), (by rw [v5]; rw [spec_l4Any_L1]; simp only [hu6, h3, h3d, ct, cf, ↓reduceIte, Bool.false_eq_true])⟩ (by dsimp only; simp only [List.length_append, List.length_cons, List.length_nil]; omega) (.cons rfl (.cons rfl (.cons rfl (.nil)))) (.cons rfl (.cons rfl (.cons rfl (.nil)))) .nil [0, 3] rfl
     ·skip
      have h3d := B.df h3
      refine R0 ?_
      have hX1 : spec_l4Any_L1 c_b (u1.parts : List Str) u5 u6 = (((n_) : List Str), u17, u18) := by rw [v5]; rw [spec_l4Any_L1]; simp only [hu6, h3, h3d, ct, cf, ↓reduceIte, Bool.false_eq_true]
      have hP5 : spec_l4Any c_b c_i c_h = (Name.mk n_, u17, u18) := by simp only [spec_l4Any, hu1, hu2, h1, h2, hX1, ct, cf]
      have hz1 := hP5.symm.trans hres
      obtain ⟨hz1, hz2⟩ := Prod.mk.inj hz1
      obtain ⟨hz2, hz3⟩ := Prod.mk.inj hz2
      subst hz1
      subst hz2
      subst hz3
      refine R1 ?_
      intro w1 G bs hI hΓ
      exact Post.ofL 999 [3] (pn_, cn_) hI hΓ rfl rfl rfl (by rw [hI.pin _ rfl]; first | done | rfl) (⟨(okl_of v1), ⟨hq6.2.1, hq6.2.2⟩⟩)
    ·skip
     refine TS.op 4 rfl (by kernel_rfl) ?_
     obtain ⟨⟨u19, u20, u21⟩, hu7⟩ : ∃ r_, spec_l1Below c_b u999_i u999_h 3 = r_ := ⟨_, rfl⟩
     refine WX.callP (ds := fun _ => []) 999 44 rfl (fun _ _ _ => All.nil) (fun _ f hf => by cases hf) rfl rfl rfl rfl rfl (fun _ => rfl) rfl (fun w G bs H hI hH hs hΓ => f84 w n (by omega) H hH (bs 999) c_b K0 M0 (hΓ.get 0 rfl) u999_i u999_h 3 hs hokc_b v2 v3 (show I64 3 from (by unfold I64; omega)) u19 u20 u21 hu7) (fun _ => rfl) (fun _ => rfl) ?_
     rintro ⟨⟩ hq7
     have q4 := l1Below_rng c_b u999_i u999_h 3
     rw [hu7] at q4
     try dsimp only at q4
     refine R0 ?_
     refine WX.back0 ?_
     refine TX.all2 2 5 (by kernel_rfl) ?_ ?_
     ·skip
      refine TS.op 2 rfl (by kernel_rfl) ?_
      refine R0 ?_
      refine WX.back0 ?_
      refine TX.tail [5, 6] rfl rfl (by kernel_rfl) ?_
      have r29 : -9223372036854775808 ≤ u19 ∧ u19 ≤ 9223372036854775807 := hq7.1
      refine WX.see rfl rfl rfl (fun _ hΓ => looks_arith rfl rfl rfl rfl (by unfold I64; first | omega | (simp only [List.length_take] at *; omega))) ?_
      refine R0 ?_
      refine WX.cases 26 rfl (fun h4 => ?_) (fun h4 => ?_)
      ·skip
       have h4d := B.dt h4
       refine R0 ?_
       refine WX.bld ttOk rfl rfl rfl rfl rfl rfl rfl ?_
       intro p14
       refine WX.opn (kk := 1) 506 3 45 rfl rfl rfl ?_
       intro xs6 hx6
       refine WX.turn [] 46 rfl (fun h hs => ol_one (α := Str) (a := (⟨#[109]⟩ : Str)) (x := ()) hs) (gs := [MF.ol [.string (⟨#[109]⟩ : Str)] ([(⟨#[109]⟩ : Str)] : List Str)]) rfl ?_
       have r30 : (⟨#[109]⟩ : Str).size = 1 := rfl
       refine WX.know (fun G hΓ => (hΓ.get 46 rfl : OwL _ _ _).rd.one) ?_
       intro ho6
       refine WX.appR1 506 29 ((n_ ++ [(⟨#[109]⟩ : Str)]) : List Str).length ttOk rfl rfl rfl rfl rfl rfl rfl rfl rfl rfl rfl rfl rfl ho6 (by simp) (by simp; omega) (by simp; omega) (fun _ _ => rfl) ?_
       intro p15 c7
       refine WX.turn [45, 46] 47 rfl (fun h hs => ol_app hs) (gs := [MF.ol (xs6 ++ [.string (⟨#[109]⟩ : Str)]) ((n_ ++ [(⟨#[109]⟩ : Str)]) : List Str)]) rfl ?_
       refine R0 ?_
       refine WX.seal 506 47 48 rfl rfl rfl rfl rfl ?_
       refine WX.turn [49] 3 rfl (fun _ h => h) rfl ?_
       exact WX.iter (p15, c7, (n_ ++ [(⟨#[109]⟩ : Str)]), u20, u21) ⟨(okl_mk (by simp; omega) (all_app v1.2 (all_cons (α := Str) (Nat.le_trans (by decide) (bd_pos _)) (fun a ha => by cases ha))) : GoT.ok n ((n_ ++ [(⟨#[109]⟩ : Str)]) : List Str)), hq7.2.1, hq7.2.2, (by first | assumption | omega | (simp; omega)), (by rw [v5]; rw [spec_l4Any_L1]; simp only [hu7, h4, h4d, ct, cf, ↓reduceIte, Bool.false_eq_true])⟩ (by dsimp only; simp only [List.length_append, List.length_cons, List.length_nil]; omega) (.cons rfl (.cons rfl (.cons rfl (.nil)))) (.cons rfl (.cons rfl (.cons rfl (.nil)))) .nil [0, 3] rfl
      ·skip
       have h4d := B.df h4
       refine R0 ?_
       have hX2 : spec_l4Any_L1 c_b (u1.parts : List Str) u5 u6 = (((n_) : List Str), u20, u21) := by rw [v5]; rw [spec_l4Any_L1]; simp only [hu7, h4, h4d, ct, cf, ↓reduceIte, Bool.false_eq_true]
       have hP6 : spec_l4Any c_b c_i c_h = (Name.mk n_, u20, u21) := by simp only [spec_l4Any, hu1, hu2, h1, h2, hX2, ct, cf]
       have hz1 := hP6.symm.trans hres
       obtain ⟨hz1, hz2⟩ := Prod.mk.inj hz1
       obtain ⟨hz2, hz3⟩ := Prod.mk.inj hz2
       subst hz1
       subst hz2
       subst hz3
       refine R1 ?_
       intro w1 G bs hI hΓ
       exact Post.ofL 999 [3] (pn_, cn_) hI hΓ rfl rfl rfl (by rw [hI.pin _ rfl]; first | done | rfl) (⟨(okl_of v1), ⟨hq7.2.1, hq7.2.2⟩⟩)
     ·skip
      refine TS.op 5 rfl (by kernel_rfl) ?_
      have r31 : -9223372036854775808 ≤ u19 ∧ u19 ≤ 9223372036854775807 := hq7.1
      refine WX.see rfl rfl rfl (fun _ hΓ => looks_arith rfl rfl rfl rfl (by unfold I64; first | omega | (simp only [List.length_take] at *; omega))) ?_
      refine R0 ?_
      refine WX.back0 ?_
      refine TX.tail [2, 6] rfl rfl (by kernel_rfl) ?_
      refine R0 ?_
      refine WX.cases 26 rfl (fun h5 => ?_) (fun h5 => ?_)
      ·skip
       have h5d := B.dt h5
       refine R0 ?_
       refine WX.bld ttOk rfl rfl rfl rfl rfl rfl rfl ?_
       intro p16
       refine WX.opn (kk := 1) 507 3 50 rfl rfl rfl ?_
       intro xs7 hx7
       refine WX.turn [] 51 rfl (fun h hs => ol_one (α := Str) (a := (⟨#[109]⟩ : Str)) (x := ()) hs) (gs := [MF.ol [.string (⟨#[109]⟩ : Str)] ([(⟨#[109]⟩ : Str)] : List Str)]) rfl ?_
       have r32 : (⟨#[109]⟩ : Str).size = 1 := rfl
       refine WX.know (fun G hΓ => (hΓ.get 51 rfl : OwL _ _ _).rd.one) ?_
       intro ho7
       refine WX.appR1 507 29 ((n_ ++ [(⟨#[109]⟩ : Str)]) : List Str).length ttOk rfl rfl rfl rfl rfl rfl rfl rfl rfl rfl rfl rfl rfl ho7 (by simp) (by simp; omega) (by simp; omega) (fun _ _ => rfl) ?_
       intro p17 c8
       refine WX.turn [50, 51] 52 rfl (fun h hs => ol_app hs) (gs := [MF.ol (xs7 ++ [.string (⟨#[109]⟩ : Str)]) ((n_ ++ [(⟨#[109]⟩ : Str)]) : List Str)]) rfl ?_
       refine R0 ?_
       refine WX.seal 507 52 53 rfl rfl rfl rfl rfl ?_
       refine WX.turn [54] 3 rfl (fun _ h => h) rfl ?_
       exact WX.iter (p17, c8, (n_ ++ [(⟨#[109]⟩ : Str)]), u20, u21) ⟨(okl_mk (by simp; omega) (all_app v1.2 (all_cons (α := Str) (Nat.le_trans (by decide) (bd_pos _)) (fun a ha => by cases ha))) : GoT.ok n ((n_ ++ [(⟨#[109]⟩ : Str)]) : List Str)), hq7.2.1, hq7.2.2, (by first | assumption | omega | (simp; omega)), (by rw [v5]; rw [spec_l4Any_L1]; simp only [hu7, h5, h5d, ct, cf, ↓reduceIte, Bool.false_eq_true])⟩ (by dsimp only; simp only [List.length_append, List.length_cons, List.length_nil]; omega) (.cons rfl (.cons rfl (.cons rfl (.nil)))) (.cons rfl (.cons rfl (.cons rfl (.nil)))) .nil [0, 3] rfl
      ·skip
       have h5d := B.df h5
       refine R0 ?_
       have hX3 : spec_l4Any_L1 c_b (u1.parts : List Str) u5 u6 = (((n_) : List Str), u20, u21) := by rw [v5]; rw [spec_l4Any_L1]; simp only [hu7, h5, h5d, ct, cf, ↓reduceIte, Bool.false_eq_true]
       have hP7 : spec_l4Any c_b c_i c_h = (Name.mk n_, u20, u21) := by simp only [spec_l4Any, hu1, hu2, h1, h2, hX3, ct, cf]
       have hz1 := hP7.symm.trans hres
       obtain ⟨hz1, hz2⟩ := Prod.mk.inj hz1
       obtain ⟨hz2, hz3⟩ := Prod.mk.inj hz2
       subst hz1
       subst hz2
       subst hz3
       refine R1 ?_
       intro w1 G bs hI hΓ
       exact Post.ofL 999 [3] (pn_, cn_) hI hΓ rfl rfl rfl (by rw [hI.pin _ rfl]; first | done | rfl) (⟨(okl_of v1), ⟨hq7.2.1, hq7.2.2⟩⟩)
   ·skip
    refine TS.op 4 rfl (by kernel_rfl) ?_
    obtain ⟨⟨u22, u23, u24⟩, hu8⟩ : ∃ r_, spec_l1Below c_b u999_i u999_h 3 = r_ := ⟨_, rfl⟩
    refine WX.callP (ds := fun _ => []) 999 55 rfl (fun _ _ _ => All.nil) (fun _ f hf => by cases hf) rfl rfl rfl rfl rfl (fun _ => rfl) rfl (fun w G bs H hI hH hs hΓ => f84 w n (by omega) H hH (bs 999) c_b K0 M0 (hΓ.get 0 rfl) u999_i u999_h 3 hs hokc_b v2 v3 (show I64 3 from (by unfold I64; omega)) u22 u23 u24 hu8) (fun _ => rfl) (fun _ => rfl) ?_
    rintro ⟨⟩ hq8
    have q5 := l1Below_rng c_b u999_i u999_h 3
    rw [hu8] at q5
    try dsimp only at q5
    refine R0 ?_
    refine WX.back0 ?_
    refine TX.all2 1 5 (by kernel_rfl) ?_ ?_
    ·skip
     refine TS.op 1 rfl (by kernel_rfl) ?_
     refine R0 ?_
     refine WX.back0 ?_
     refine TX.all2 2 5 (by kernel_rfl) ?_ ?_
     ·skip
      refine TS.op 2 rfl (by kernel_rfl) ?_
      refine R0 ?_
      refine WX.back0 ?_
      refine TX.tail [5, 6] rfl rfl (by kernel_rfl) ?_
      have r33 : -9223372036854775808 ≤ u22 ∧ u22 ≤ 9223372036854775807 := hq8.1
      refine WX.see rfl rfl rfl (fun _ hΓ => looks_arith rfl rfl rfl rfl (by unfold I64; first | omega | (simp only [List.length_take] at *; omega))) ?_
      refine R0 ?_
      refine WX.cases 26 rfl (fun h6 => ?_) (fun h6 => ?_)
      ·skip
       have h6d := B.dt h6
       refine R0 ?_
       refine WX.bld ttOk rfl rfl rfl rfl rfl rfl rfl ?_
       intro p18
       refine WX.opn (kk := 1) 508 3 56 rfl rfl rfl ?_
       intro xs8 hx8
       refine WX.turn [] 57 rfl (fun h hs => ol_one (α := Str) (a := (⟨#[109]⟩ : Str)) (x := ()) hs) (gs := [MF.ol [.string (⟨#[109]⟩ : Str)] ([(⟨#[109]⟩ : Str)] : List Str)]) rfl ?_
       have r34 : (⟨#[109]⟩ : Str).size = 1 := rfl
       refine WX.know (fun G hΓ => (hΓ.get 57 rfl : OwL _ _ _).rd.one) ?_
       intro ho8
       refine WX.appR1 508 29 ((n_ ++ [(⟨#[109]⟩ : Str)]) : List Str).length ttOk rfl rfl rfl rfl rfl rfl rfl rfl rfl rfl rfl rfl rfl ho8 (by simp) (by simp; omega) (by simp; omega) (fun _ _ => rfl) ?_
       intro p19 c9
       refine WX.turn [56, 57] 58 rfl (fun h hs => ol_app hs) (gs := [MF.ol (xs8 ++ [.string (⟨#[109]⟩ : Str)]) ((n_ ++ [(⟨#[109]⟩ : Str)]) : List Str)]) rfl ?_
       refine R0 ?_
       refine WX.seal 508 58 59 rfl rfl rfl rfl rfl ?_
       refine WX.turn [60] 3 rfl (fun _ h => h) rfl ?_
       exact WX.iter (p19, c9, (n_ ++ [(⟨#[109]⟩ : Str)]), u23, u24) ⟨(okl_mk (by simp; omega) (all_app v1.2 (all_cons (α := Str) (Nat.le_trans (by decide) (bd_pos _)) (fun a ha => by cases ha))) : GoT.ok n ((n_ ++ [(⟨#[109]⟩ : Str)]) : List Str)), hq8.2.1, hq8.2.2, (by first | assumption | omega | (simp; omega)), (by rw [v5]; rw [spec_l4Any_L1]; simp only [hu8, h6, h6d, ct, cf, ↓reduceIte, Bool.false_eq_true])⟩ (by dsimp only; simp only [List.length_append, List.length_cons, List.length_nil]; omega) (.cons rfl (.cons rfl (.cons rfl (.nil)))) (.cons rfl (.cons rfl (.cons rfl (.nil)))) .nil [0, 3] rfl
      ·skip
       have h6d := B.df h6
       refine R0 ?_
       have hX4 : spec_l4Any_L1 c_b (u1.parts : List Str) u5 u6 = (((n_) : List Str), u23, u24) := by rw [v5]; rw [spec_l4Any_L1]; simp only [hu8, h6, h6d, ct, cf, ↓reduceIte, Bool.false_eq_true]
       have hP8 : spec_l4Any c_b c_i c_h = (Name.mk n_, u23, u24) := by simp only [spec_l4Any, hu1, hu2, h1, h2, hX4, ct, cf]
       have hz1 := hP8.symm.trans hres
       obtain ⟨hz1, hz2⟩ := Prod.mk.inj hz1
       obtain ⟨hz2, hz3⟩ := Prod.mk.inj hz2
       subst hz1
       subst hz2
       subst hz3
       refine R1 ?_
       intro w1 G bs hI hΓ
       exact Post.ofL 999 [3] (pn_, cn_) hI hΓ rfl rfl rfl (by rw [hI.pin _ rfl]; first | done | rfl) (⟨(okl_of v1), ⟨hq8.2.1, hq8.2.2⟩⟩)
     ·skip
      refine TS.op 5 rfl (by kernel_rfl) ?_
      have r35 : -9223372036854775808 ≤ u22 ∧ u22 ≤ 9223372036854775807 := hq8.1
      refine WX.see rfl rfl rfl (fun _ hΓ => looks_arith rfl rfl rfl rfl (by unfold I64; first | omega | (simp only [List.length_take] at *; omega))) ?_
      refine R0 ?_
      refine WX.back0 ?_
      refine TX.tail [2, 6] rfl rfl (by kernel_rfl) ?_
      refine R0 ?_
      refine WX.cases 26 rfl (fun h7 => ?_) (fun h7 => ?_)
      ·skip
       have h7d := B.dt h7
       refine R0 ?_
       refine WX.bld ttOk rfl rfl rfl rfl rfl rfl rfl ?_
       intro p20
       refine WX.opn (kk := 1) 509 3 61 rfl rfl rfl ?_
       intro xs9 hx9
       refine WX.turn [] 62 rfl (fun h hs => ol_one (α := Str) (a := (⟨#[109]⟩ : Str)) (x := ()) hs) (gs := [MF.ol [.string (⟨#[109]⟩ : Str)] ([(⟨#[109]⟩ : Str)] : List Str)]) rfl ?_
       have r36 : (⟨#[109]⟩ : Str).size = 1 := rfl
       refine WX.know (fun G hΓ => (hΓ.get 62 rfl : OwL _ _ _).rd.one) ?_
       intro ho9
       refine WX.appR1 509 29 ((n_ ++ [(⟨#[109]⟩ : Str)]) : List Str).length ttOk rfl rfl rfl rfl rfl rfl rfl rfl rfl rfl rfl rfl rfl ho9 (by simp) (by simp; omega) (by simp; omega) (fun _ _ => rfl) ?_
       intro p21 c10
       refine WX.turn [61, 62] 63 rfl (fun h hs => ol_app hs) (gs := [MF.ol (xs9 ++ [.string (⟨#[109]⟩ : Str)]) ((n_ ++ [(⟨#[109]⟩ : Str)]) : List Str)]) rfl ?_
       refine R0 ?_
       refine WX.seal 509 63 64 rfl rfl rfl rfl rfl ?_
       refine WX.turn [65] 3 rfl (fun _ h => h) rfl ?_
       exact WX.iter (p21, c10, (n_ ++ [(⟨#[109]⟩ : Str)]), u23, u24) ⟨(okl_mk (by simp; omega) (all_app v1.2 (all_cons (α := Str) (Nat.le_trans (by decide) (bd_pos _)) (fun a ha => by cases ha))) : GoT.ok n ((n_ ++ [(⟨#[109]⟩ : Str)]) : List Str)), hq8.2.1, hq8.2.2, (by first | assumption | omega | (simp; omega)), (by rw [v5]; rw [spec_l4Any_L1]; simp only [hu8, h7, h7d, ct, cf, ↓reduceIte, Bool.false_eq_true])⟩ (by dsimp only; simp only [List.length_append, List.length_cons, List.length_nil]; omega) (.cons rfl (.cons rfl (.cons rfl (.nil)))) (.cons rfl (.cons rfl (.cons rfl (.nil)))) .nil [0, 3] rfl
      ·skip
       have h7d := B.df h7
       refine R0 ?_
       have hX5 : spec_l4Any_L1 c_b (u1.parts : List Str) u5 u6 = (((n_) : List Str), u23, u24) := by rw [v5]; rw [spec_l4Any_L1]; simp only [hu8, h7, h7d, ct, cf, ↓reduceIte, Bool.false_eq_true]
       have hP9 : spec_l4Any c_b c_i c_h = (Name.mk n_, u23, u24) := by simp only [spec_l4Any, hu1, hu2, h1, h2, hX5, ct, cf]
       have hz1 := hP9.symm.trans hres
       obtain ⟨hz1, hz2⟩ := Prod.mk.inj hz1
       obtain ⟨hz2, hz3⟩ := Prod.mk.inj hz2
       subst hz1
       subst hz2
       subst hz3
       refine R1 ?_
       intro w1 G bs hI hΓ
       exact Post.ofL 999 [3] (pn_, cn_) hI hΓ rfl rfl rfl (by rw [hI.pin _ rfl]; first | done | rfl) (⟨(okl_of v1), ⟨hq8.2.1, hq8.2.2⟩⟩)
    ·skip
     refine TS.op 5 rfl (by kernel_rfl) ?_
     have r37 : -9223372036854775808 ≤ u22 ∧ u22 ≤ 9223372036854775807 := hq8.1
     refine WX.see rfl rfl rfl (fun _ hΓ => looks_arith rfl rfl rfl rfl (by unfold I64; first | omega | (simp only [List.length_take] at *; omega))) ?_
     refine R0 ?_
     refine WX.back0 ?_
     refine TX.tail [1, 2, 6] rfl rfl (by kernel_rfl) ?_
     refine R0 ?_
     refine WX.cases 26 rfl (fun h8 => ?_) (fun h8 => ?_)
     ·skip
      have h8d := B.dt h8
      refine R0 ?_
      refine WX.bld ttOk rfl rfl rfl rfl rfl rfl rfl ?_
      intro p22
      refine WX.opn (kk := 1) 510 3 66 rfl rfl rfl ?_
      intro xs10 hx10
      refine WX.turn [] 67 rfl (fun h hs => ol_one (α := Str) (a := (⟨#[109]⟩ : Str)) (x := ()) hs) (gs := [MF.ol [.string (⟨#[109]⟩ : Str)] ([(⟨#[109]⟩ : Str)] : List Str)]) rfl ?_
      have r38 : (⟨#[109]⟩ : Str).size = 1 := rfl
      refine WX.know (fun G hΓ => (hΓ.get 67 rfl : OwL _ _ _).rd.one) ?_
      intro ho10
      refine WX.appR1 510 29 ((n_ ++ [(⟨#[109]⟩ : Str)]) : List Str).length ttOk rfl rfl rfl rfl rfl rfl rfl rfl rfl rfl rfl rfl rfl ho10 (by simp) (by simp; omega) (by simp; omega) (fun _ _ => rfl) ?_
      intro p23 c11
      refine WX.turn [66, 67] 68 rfl (fun h hs => ol_app hs) (gs := [MF.ol (xs10 ++ [.string (⟨#[109]⟩ : Str)]) ((n_ ++ [(⟨#[109]⟩ : Str)]) : List Str)]) rfl ?_
      refine R0 ?_
      refine WX.seal 510 68 69 rfl rfl rfl rfl rfl ?_
      refine WX.turn [70] 3 rfl (fun _ h => h) rfl ?_
      exact WX.iter (p23, c11, (n_ ++ [(⟨#[109]⟩ : Str)]), u23, u24) ⟨(okl_mk (by simp; omega) (all_app v1.2 (all_cons (α := Str) (Nat.le_trans (by decide) (bd_pos _)) (fun a ha => by cases ha))) : GoT.ok n ((n_ ++ [(⟨#[109]⟩ : Str)]) : List Str)), hq8.2.1, hq8.2.2, (by first | assumption | omega | (simp; omega)), (by rw [v5]; rw [spec_l4Any_L1]; simp only [hu8, h8, h8d, ct, cf, ↓reduceIte, Bool.false_eq_true])⟩ (by dsimp only; simp only [List.length_append, List.length_cons, List.length_nil]; omega) (.cons rfl (.cons rfl (.cons rfl (.nil)))) (.cons rfl (.cons rfl (.cons rfl (.nil)))) .nil [0, 3] rfl
     ·skip
      have h8d := B.df h8
      refine R0 ?_
      have hX6 : spec_l4Any_L1 c_b (u1.parts : List Str) u5 u6 = (((n_) : List Str), u23, u24) := by rw [v5]; rw [spec_l4Any_L1]; simp only [hu8, h8, h8d, ct, cf, ↓reduceIte, Bool.false_eq_true]
      have hP10 : spec_l4Any c_b c_i c_h = (Name.mk n_, u23, u24) := by simp only [spec_l4Any, hu1, hu2, h1, h2, hX6, ct, cf]
      have hz1 := hP10.symm.trans hres
      obtain ⟨hz1, hz2⟩ := Prod.mk.inj hz1
      obtain ⟨hz2, hz3⟩ := Prod.mk.inj hz2
      subst hz1
      subst hz2
      subst hz3
      refine R1 ?_
      intro w1 G bs hI hΓ
      exact Post.ofL 999 [3] (pn_, cn_) hI hΓ rfl rfl rfl (by rw [hI.pin _ rfl]; first | done | rfl) (⟨(okl_of v1), ⟨hq8.2.1, hq8.2.2⟩⟩)
  ·skip
   have h2d := B.ef h2
   refine R0 ?_
   have hP11 : spec_l4Any c_b c_i c_h = (u1, u5, u6) := by simp only [spec_l4Any, hu1, hu2, h1, h2, ct, cf]
   have hz1 := hP11.symm.trans hres
   obtain ⟨hz1, hz2⟩ := Prod.mk.inj hz1
   obtain ⟨hz2, hz3⟩ := Prod.mk.inj hz2
   subst hz1
   subst hz2
   subst hz3
   refine R1 ?_
   intro w1 G bs hI hΓ
   exact Post.ofL 999 [3] (p1, c1) hI hΓ rfl rfl rfl (by rw [hI.pin _ rfl]; first | done | rfl) (⟨hq1.1, ⟨hq2.2.1, hq2.2.2⟩⟩)
end Go.Proofs.YtolepebgdfdciaaGreat

namespace Go.Stp
set_option linter.unusedVariables false
set_option linter.unusedSimpArgs false
instance ctlInh27 {α β : Type} [Inhabited α] : Inhabited (Ctl α β) := ⟨.ret default⟩
theorem sh7 (x : Int) : Int.fdiv x (2 ^ (min (Int.toNat (7 : Int)) 64)) = x / 128 := by
  rw [show ((2 : Int) ^ (min (Int.toNat (7 : Int)) 64)) = 128 by decide, Int.fdiv_eq_ediv_of_nonneg _ (by decide)]
def avI (n : Int) (k : Nat) : Prop := 0 ≤ n ∧ ((k = 0 ∧ n ≤ 1000000000000) ∨ (k = 1 ∧ n ≤ 7812500000) ∨ (k = 2 ∧ n ≤ 61035156) ∨ (k = 3 ∧ n ≤ 476837) ∨ (k = 4 ∧ n ≤ 3725) ∨ (k = 5 ∧ n ≤ 29))
theorem avI_0 {n : Int} (h : 0 ≤ n ∧ n ≤ 1000000000000) : avI n 0 := ⟨h.1, .inl ⟨rfl, h.2⟩⟩
theorem avI_len {n : Int} {k : Nat} (h : avI n k) : k ≤ 5 := by unfold avI at h; omega
theorem avI_rng {n : Int} {k : Nat} (h : avI n k) : 0 ≤ n ∧ n ≤ 1000000000000 := by unfold avI at h; omega
theorem avI_step {n : Int} {k : Nat} (h : avI n k) (hn : n ≥ 128) : avI (n / 128) (k + 1) := by unfold avI at h ⊢; omega
theorem avI_next {n : Int} {k k' : Nat} (h : avI n k) (hn : n ≥ 128) (hk : k' = k + 1) : avI (n / 128) k' := hk ▸ avI_step h hn
theorem inR_specP {n a b : Int} (h : spec_l1In n a b = true) : a ≤ n ∧ n ≤ b := by
  unfold spec_l1In at h
  cases hd : decide (a ≤ n)
  · exact absurd (show false = true by rw [show decide (a ≤ n) = false from hd] at h; exact h) Bool.false_ne_true
  · rw [show decide (a ≤ n) = true from hd] at h
    exact ⟨of_decide_eq_true hd, of_decide_eq_true (show decide (n ≤ b) = true from h)⟩

def spec_AppendVarint_L1 (n_2 : Int) (out : List UInt8) : Int × (List UInt8) :=
  if n_2 > 127 then
    spec_AppendVarint_L1 (Int.fdiv n_2 (2 ^ (min (Int.toNat (7 : Int)) 64))) (((out ++ [(toU8 (bitO .or (bitO .and n_2 127) 128))])) : List UInt8)
  else
    (n_2, ((out) : List UInt8))
termination_by n_2.toNat
decreasing_by all_goals (rw [sh7]; omega)
def spec_AppendVarint (b : (List UInt8)) (n_ : Int) : (List UInt8) :=
  bif (!(spec_l1In n_ 0 1000000000000)) then
    b
  else
    match spec_AppendVarint_L1 n_ (b : List UInt8) with
      | (n_2, out) =>
        (out ++ [(toU8 n_2)])
theorem len_specAVL : ∀ (m : Nat) (n : Int) (out : List UInt8) (k : Nat), avI n k → 5 - k = m → (spec_AppendVarint_L1 n out).2.length ≤ out.length + m
  | 0, n, out, k, h, hm => by
    have := avI_len h
    rw [spec_AppendVarint_L1, if_neg (show ¬ n > 127 by unfold avI at h; omega)]
    exact Nat.le_refl _
  | m + 1, n, out, k, h, hm => by
    rw [spec_AppendVarint_L1]
    by_cases hn : n > 127
    · rw [if_pos hn, sh7]
      have := len_specAVL m (n / 128) (out ++ [toU8 (bitO .or (bitO .and n 127) 128)]) (k + 1) (avI_step h (by omega)) (by omega)
      rw [List.length_append, List.length_cons, List.length_nil] at this
      omega
    · rw [if_neg hn]
      show out.length ≤ _
      omega
theorem len_specAV (b : List UInt8) (n_ : Int) : (spec_AppendVarint b n_).length ≤ b.length + 6 := by
  unfold spec_AppendVarint
  cases hr : spec_l1In n_ 0 1000000000000
  · show b.length ≤ _
    omega
  · have h := len_specAVL 5 n_ b 0 (avI_0 (inR_specP hr)) rfl
    simp only [Bool.not_true, cond_false, List.length_append, List.length_cons, List.length_nil]
    omega
def spec_AppendBytes (b : (List UInt8)) (s : (List UInt8)) : (List UInt8) :=
  ((spec_AppendVarint b (((s).length : Nat) : Int)) ++ s)
theorem len_specAB (b s : List UInt8) : (spec_AppendBytes b s).length ≤ b.length + s.length + 6 := by
  have := len_specAV b ((s.length : Nat) : Int)
  unfold spec_AppendBytes
  rw [List.length_append]
  omega
theorem vpB_spec {s : Str} (h : spec_ValidPart s = true) : s.size ≤ 8 := by
  unfold spec_ValidPart at h
  cases hr : spec_l1In (((s).size : Nat) : Int) 1 8
  · rw [hr] at h; cases h
  · have := inR_specP hr
    omega
theorem vnL_spec : ∀ (l : List Str), (spec_ValidName_L1 l = none ∧ ∀ p ∈ l, p.size ≤ 8) ∨ spec_ValidName_L1 l = some false
  | [] => .inl ⟨rfl, fun p hp => by cases hp⟩
  | x :: l => by
    simp only [spec_ValidName_L1]
    cases hx : spec_ValidPart x
    · exact .inr rfl
    · rcases vnL_spec l with ⟨h1, h2⟩ | h
      · exact .inl ⟨h1, fun p hp => (List.mem_cons.1 hp).elim (fun e => e ▸ vpB_spec hx) (h2 p)⟩
      · exact .inr h
theorem vnB_spec {n_ : Name} (h : spec_ValidName n_ = true) : n_.parts.length ≤ 6 ∧ ∀ p ∈ n_.parts, p.size ≤ 8 := by
  unfold spec_ValidName at h
  rcases vnL_spec n_.parts with ⟨h1, h2⟩ | h1 <;> rw [h1] at h
  · have := of_decide_eq_true h
    exact ⟨by omega, h2⟩
  · cases h
def spec_AppendName_L1 : List Str → (List UInt8) → (List UInt8)
  | [], out => ((out) : List UInt8)
  | e1 :: rest_, out =>
    spec_AppendName_L1 rest_ (((spec_AppendBytes out ((e1).data.toList))) : List UInt8)
def spec_AppendName (b : (List UInt8)) (n_ : Name) : (List UInt8) :=
  bif (!(spec_ValidName n_)) then
    b
  else
    match spec_AppendName_L1 n_.parts ((spec_AppendVarint b (((n_.parts).length : Nat) : Int)) : List UInt8) with
      | out =>
        out
theorem len_specANL : ∀ (l : List Str) (out : List UInt8), (∀ p ∈ l, p.size ≤ 8) → (spec_AppendName_L1 l out).length ≤ out.length + 14 * l.length
  | [], out, _ => by simp [spec_AppendName_L1]
  | x :: l, out, h => by
    have h1 := len_specANL l (spec_AppendBytes out ((x).data.toList)) (fun p hp => h p (List.mem_cons_of_mem _ hp))
    have h2 := len_specAB out ((x).data.toList)
    have h3 := h x List.mem_cons_self
    have h4 : ((x).data.toList).length = (x).size := rfl
    rw [List.length_cons]
    simp only [spec_AppendName_L1]
    omega
theorem len_specAN (b : List UInt8) (n_ : Name) : (spec_AppendName b n_).length ≤ b.length + 90 := by
  unfold spec_AppendName
  cases hv : spec_ValidName n_
  · show b.length ≤ _
    omega
  · have h1 := vnB_spec hv
    have h2 := len_specANL n_.parts (spec_AppendVarint b (((n_.parts).length : Nat) : Int)) h1.2
    have h3 := len_specAV b (((n_.parts).length : Nat) : Int)
    show (spec_AppendName_L1 n_.parts (spec_AppendVarint b (((n_.parts).length : Nat) : Int))).length ≤ _
    omega
end Go.Stp

namespace Go.Proofs.YtolepebgdfdciaaGreat
open Go.Stp
set_option linter.unusedVariables false
set_option linter.unusedSimpArgs false
theorem f268 (w : World) (n : Nat) (hn : n + 1 ≤ 9) (b : (List UInt8)) (pb : Option Addr) (cb : Nat) (N0 : RdSl (hp w) pb cb b) (n_ : Int) (hokb : GoT.ok n b) (hokn_ : GoT.ok n n_) :
  Does Tryz.prog 268 #[.slice pb ((b).length) cb, .int .i64 (n_)] w emp (Post w emp (fun x : GoT.X ((List UInt8)) => (GoT.sh ((spec_AppendVarint b n_) : (List UInt8)) x).headD undef) (fun x => GoT.oa ((spec_AppendVarint b n_) : (List UInt8)) x) (GoT.ok (n + 1) ((spec_AppendVarint b n_) : (List UInt8)))) := by
 have hbP := bd_pos n
 have hbS0 : bd (n + 1) = 4 * bd (n) := bd_succ (n := n) (by omega)
 have hbB := bd_big (n := (n + 1)) (by omega)
 have hbM := bd_mono (show n ≤ n + 1 by omega)
 refine WX.enter (tt := tt) (Γ := [(0, MF.rs .stb pb cb b)]) Tryz.func268 rfl (by kernel_rfl) rfl (allS_cons rfl N0 allS_nil) ?_
 refine R0 ?_
 refine WX.bld ttOk rfl rfl rfl rfl rfl rfl rfl ?_
 intro p1
 refine R0 ?_
 refine WX.free 1 (MF.ol [] ([] : List UInt8)) rfl ?_
 have r1 : (b).length ≤ bd n := (okl hokb).1
 refine WX.appG1 6 0 2 (b : List UInt8).length ttOk rfl rfl rfl rfl rfl rfl rfl rfl rfl rfl rfl rfl rfl (by first | (simp; done) | (simp; omega)) (by omega) (by omega) (fun _ _ _ => rfl) ?_
 intro ys1 p2 c1
 refine WX.know (fun G hΓ => (hΓ.get 2 rfl : RdL _ _ _).flat) ?_
 intro hf1
 refine WX.turn [1] 3 rfl (fun h hs => ol_flat hs hf1) (gs := [MF.ol ([] ++ ys1) (b : List UInt8)]) rfl ?_
 refine R0 ?_
 refine WX.callV rfl rfl rfl rfl rfl (fun _ => rfl) rfl (fun w G bs hI hΓ => f136 w n (by omega) n_ 0 1000000000000 hokn_ (show I64 0 from (by unfold I64; omega)) (show I64 1000000000000 from (by unfold I64; omega))) ?_
 intro hq1
 refine R0 ?_
 refine WX.cases 11 rfl (fun h1 => ?_) (fun h1 => ?_)
 ·skip
  have h1d := (B.nt h1)
  refine R0 ?_
  refine WX.seal 6 3 4 rfl rfl rfl rfl rfl ?_
  have hP1 : spec_AppendVarint b n_ = b := by simp only [spec_AppendVarint, h1, ct, cf]
  refine R1 ?_
  intro w1 G bs hI hΓ
  rw [hP1]
  exact Post.of [5] (p2, c1) hI hΓ rfl rfl rfl (okl_mk (by omega) (fun _ _ => trivial) : GoT.ok (n + 1) (b : List UInt8))
 ·skip
  have h1d := (B.nf h1)
  have h1r := inR_spec (B.nf h1)
  refine R0 ?_
  refine WX.loop (ι := Int × (Option Addr) × Nat × (List Value) × (List UInt8)) ⟨fun | (n_2, pout, cout, xsout, out) => (-9223372036854775808 ≤ n_2 ∧ n_2 ≤ 9223372036854775807) ∧ (∀ z_ ∈ out, GoT.ok (n + 1) z_) ∧ (avI n_2 (out.length - b.length) ∧ b.length ≤ out.length) ∧ (spec_AppendVarint_L1 n_ (b : List UInt8) = spec_AppendVarint_L1 n_2 out), fun | (n_2, pout, cout, xsout, out) => n_2.toNat, fun | (n_2, pout, cout, xsout, out) => [(1, .v (.int .i64 (n_2))), (5, .v (.slice pout ((out).length) cout))], fun | (n_2, pout, cout, xsout, out) => [], fun | (n_2, pout, cout, xsout, out) => [(6, ⟨1, pout, (out).length, cout, xsout⟩)], fun | (n_2, pout, cout, xsout, out) => [(0, MF.rs .stb pb cb b), (3, MF.ol xsout (out : List UInt8))]⟩ (n_, p2, c1, ([] ++ ys1), (b : List UInt8)) ⟨hokn_, (fun _ _ => trivial), ⟨by rw [Nat.sub_self]; exact avI_0 h1r, Nat.le_refl _⟩, rfl⟩
   (.cons rfl (.cons rfl (.nil))) .nil (.cons rfl (.nil)) [0, 3] rfl ?_
  rintro ⟨n_2, pout, cout, xsout, out⟩ hpre
  have hpre_ : (-9223372036854775808 ≤ n_2 ∧ n_2 ≤ 9223372036854775807) ∧ (∀ z_ ∈ out, GoT.ok (n + 1) z_) ∧ (avI n_2 (out.length - b.length) ∧ b.length ≤ out.length) ∧ (spec_AppendVarint_L1 n_ (b : List UInt8) = spec_AppendVarint_L1 n_2 out) := hpre
  clear hpre
  obtain ⟨v1, v2, v3, v4⟩ := hpre_
  have hz0 := avI_len v3.1
  have hz1 := avI_rng v3.1
  have hz2 : b.length ≤ bd n := (okl hokb).1
  have hz3 := v3.2
  refine R0 ?_
  refine WX.cases 14 rfl (fun h2 => ?_) (fun h2 => ?_)
  ·skip
   have h2d := B.dt h2
   refine R0 ?_
   refine WX.see rfl rfl rfl (fun _ hΓ => looks_bits rfl rfl rfl rfl) ?_
   refine WX.see rfl rfl rfl (fun _ hΓ => looks_bits rfl rfl rfl rfl) ?_
   refine WX.see rfl rfl rfl (fun _ hΓ => looks_toU8 ttOk rfl rfl rfl rfl rfl rfl) ?_
   refine WX.bld ttOk rfl rfl rfl rfl rfl rfl rfl ?_
   intro p3
   refine WX.turn [] 6 rfl (fun h hs => ol_one (α := UInt8) (a := (toU8 (bitO .or (bitO .and n_2 127) 128))) (x := ()) hs) (gs := [MF.ol [.int .u8 ((toU8 (bitO .or (bitO .and n_2 127) 128)).toNat : Nat)] ([(toU8 (bitO .or (bitO .and n_2 127) 128))] : List UInt8)]) rfl ?_
   refine WX.know (fun G hΓ => (hΓ.get 6 rfl : OwL _ _ _).rd.one) ?_
   intro ho1
   refine WX.appR1 6 20 ((out ++ [(toU8 (bitO .or (bitO .and n_2 127) 128))]) : List UInt8).length ttOk rfl rfl rfl rfl rfl rfl rfl rfl rfl rfl rfl rfl rfl ho1 (by simp) (by simp; omega) (by simp; omega) (fun _ _ => rfl) ?_
   intro p4 c2
   refine WX.turn [3, 6] 7 rfl (fun h hs => ol_app hs) (gs := [MF.ol (xsout ++ [.int .u8 ((toU8 (bitO .or (bitO .and n_2 127) 128)).toNat : Nat)]) ((out ++ [(toU8 (bitO .or (bitO .and n_2 127) 128))]) : List UInt8)]) rfl ?_
   refine R0 ?_
   refine WX.see rfl rfl rfl (fun _ hΓ => looks_shr rfl rfl rfl (by decide)) ?_
   refine R0 ?_
   refine WX.turn [7] 3 rfl (fun _ h => h) rfl ?_
   have hs7 := sh7 n_2
   exact WX.iter (Int.fdiv n_2 (2 ^ (min (Int.toNat (7 : Int)) 64)), p4, c2, (xsout ++ [.int .u8 ((toU8 (bitO .or (bitO .and n_2 127) 128)).toNat : Nat)]), ((out ++ [(toU8 (bitO .or (bitO .and n_2 127) 128))]) : List UInt8)) ⟨(by first | assumption | omega), (fun _ _ => trivial), ⟨by rw [sh7]; exact avI_next v3.1 (by omega) (by simp; omega), by simp; omega⟩, (by rw [v4]; rw [spec_AppendVarint_L1]; simp only [h2, h2d, ct, cf, ↓reduceIte, Bool.false_eq_true])⟩ (by dsimp only; rw [sh7]; omega) (.cons rfl (.cons rfl (.nil))) .nil (.cons rfl (.nil)) [0, 3] rfl
  ·skip
   have h2d := B.df h2
   refine R0 ?_
   have hX1 : spec_AppendVarint_L1 n_ (b : List UInt8) = (n_2, ((out) : List UInt8)) := by rw [v4]; rw [spec_AppendVarint_L1]; simp only [h2, h2d, ct, cf, ↓reduceIte, Bool.false_eq_true]
   refine WX.see rfl rfl rfl (fun _ hΓ => looks_toU8 ttOk rfl rfl rfl rfl rfl rfl) ?_
   refine WX.bld ttOk rfl rfl rfl rfl rfl rfl rfl ?_
   intro p5
   refine WX.turn [] 8 rfl (fun h hs => ol_one (α := UInt8) (a := (toU8 n_2)) (x := ()) hs) (gs := [MF.ol [.int .u8 ((toU8 n_2).toNat : Nat)] ([(toU8 n_2)] : List UInt8)]) rfl ?_
   refine WX.know (fun G hΓ => (hΓ.get 8 rfl : OwL _ _ _).rd.one) ?_
   intro ho2
   refine WX.appR1 6 27 ((out ++ [(toU8 n_2)]) : List UInt8).length ttOk rfl rfl rfl rfl rfl rfl rfl rfl rfl rfl rfl rfl rfl ho2 (by simp) (by simp; omega) (by simp; omega) (fun _ _ => rfl) ?_
   intro p6 c3
   refine WX.turn [3, 8] 9 rfl (fun h hs => ol_app hs) (gs := [MF.ol (xsout ++ [.int .u8 ((toU8 n_2).toNat : Nat)]) ((out ++ [(toU8 n_2)]) : List UInt8)]) rfl ?_
   refine R0 ?_
   refine WX.seal 6 9 10 rfl rfl rfl rfl rfl ?_
   have hP2 : spec_AppendVarint b n_ = (out ++ [(toU8 n_2)]) := by simp only [spec_AppendVarint, h1, hX1, ct, cf]
   refine R1 ?_
   intro w1 G bs hI hΓ
   rw [hP2]
   exact Post.of [11] (p6, c3) hI hΓ rfl rfl rfl (okl_mk (by simp; omega) (fun _ _ => trivial) : GoT.ok (n + 1) ((out ++ [(toU8 n_2)]) : List UInt8))
theorem f290 (w : World) (n : Nat) (hn : n + 2 ≤ 9) (b : (List UInt8)) (pb : Option Addr) (cb : Nat) (N0 : RdSl (hp w) pb cb b) (s : (List UInt8)) (ps : Option Addr) (cs : Nat) (N1 : RdSl (hp w) ps cs s) (hokb : GoT.ok n b) (hoks : GoT.ok n s) :
  Does Tryz.prog 290 #[.slice pb ((b).length) cb, .slice ps ((s).length) cs] w emp (Post w emp (fun x : GoT.X ((List UInt8)) => (GoT.sh ((spec_AppendBytes b s) : (List UInt8)) x).headD undef) (fun x => GoT.oa ((spec_AppendBytes b s) : (List UInt8)) x) (GoT.ok (n + 2) ((spec_AppendBytes b s) : (List UInt8)))) := by
 have hbP := bd_pos n
 have hbS0 : bd (n + 1) = 4 * bd (n) := bd_succ (n := n) (by omega)
 have hbS1 : bd (n + 2) = 4 * bd (n + 1) := bd_succ (n := n + 1) (by omega)
 have hbB := bd_big (n := (n + 2)) (by omega)
 have hbM := bd_mono (show n ≤ n + 2 by omega)
 refine WX.enter (tt := tt) (Γ := [(0, MF.rs .stb pb cb b), (1, MF.rs .stb ps cs s)]) Tryz.func290 rfl (by kernel_rfl) rfl (allS_cons rfl N0 (allS_cons rfl N1 allS_nil)) ?_
 refine R0 ?_
 have r1 : (s).length ≤ bd n := (okl hoks).1
 refine WX.callF 2 (fun _ _ h => GoT.ow_rd h) (fun _ f hf => GoT.fak f hf) rfl rfl rfl rfl rfl (fun _ => rfl) rfl (fun w G bs hI hΓ => f268 w n (by omega) b pb cb (hΓ.get 0 rfl) (((s).length : Nat) : Int) hokb (show I64 (((s).length : Nat) : Int) from (by unfold I64; omega))) (fun _ => rfl) (fun _ => rfl) ?_
 rintro ⟨p1, c1⟩ hq1
 have q1 := len_specAV b (((s).length : Nat) : Int)
 refine R0 ?_
 refine WX.opn (kk := 1) 501 3 4 rfl rfl rfl ?_
 intro xs1 hx1
 have r2 : (b).length ≤ bd n := (okl hokb).1
 have r3 : (spec_AppendVarint b (((s).length : Nat) : Int)).length ≤ bd (n + 1) := (okl hq1).1
 refine WX.appG1 501 1 5 (((spec_AppendVarint b (((s).length : Nat) : Int)) ++ s) : List UInt8).length ttOk rfl rfl rfl rfl rfl rfl rfl rfl rfl rfl rfl rfl rfl (by first | (simp; done) | (simp; omega)) (by simp; omega) (by simp; omega) (fun _ _ _ => rfl) ?_
 intro ys1 p2 c2
 refine WX.know (fun G hΓ => (hΓ.get 5 rfl : RdL _ _ _).flat) ?_
 intro hf1
 refine WX.turn [4] 6 rfl (fun h hs => ol_flat hs hf1) (gs := [MF.ol (xs1 ++ ys1) (((spec_AppendVarint b (((s).length : Nat) : Int)) ++ s) : List UInt8)]) rfl ?_
 refine R0 ?_
 refine WX.seal 501 6 7 rfl rfl rfl rfl rfl ?_
 have hP1 : spec_AppendBytes b s = ((spec_AppendVarint b (((s).length : Nat) : Int)) ++ s) := by simp only [spec_AppendBytes, ct, cf]
 refine R1 ?_
 intro w1 G bs hI hΓ
 rw [hP1]
 exact Post.of [8] (p2, c2) hI hΓ rfl rfl rfl (okl_mk (by simp; omega) (fun _ _ => trivial) : GoT.ok (n + 2) (((spec_AppendVarint b (((s).length : Nat) : Int)) ++ s) : List UInt8))
theorem f280 (w : World) (n : Nat) (hn : n + 3 ≤ 9) (b : (List UInt8)) (pb : Option Addr) (cb : Nat) (N0 : RdSl (hp w) pb cb b) (n_ : Name) (K1 : Option Addr) (M1 : Nat) (N1 : RdSl (hp w) K1 M1 n_.parts) (hokb : GoT.ok n b) (hokn_ : GoT.ok n n_) :
  Does Tryz.prog 280 #[.slice pb ((b).length) cb, .agg #[.slice K1 ((n_.parts).length) M1]] w emp (Post w emp (fun x : GoT.X ((List UInt8)) => (GoT.sh ((spec_AppendName b n_) : (List UInt8)) x).headD undef) (fun x => GoT.oa ((spec_AppendName b n_) : (List UInt8)) x) (GoT.ok (n + 1) ((spec_AppendName b n_) : (List UInt8)))) := by
 have hbP := bd_pos n
 have hbS0 : bd (n + 1) = 4 * bd (n) := bd_succ (n := n) (by omega)
 have hbS1 : bd (n + 2) = 4 * bd (n + 1) := bd_succ (n := n + 1) (by omega)
 have hbS2 : bd (n + 3) = 4 * bd (n + 2) := bd_succ (n := n + 2) (by omega)
 have hbB := bd_big (n := (n + 3)) (by omega)
 have hbM := bd_mono (show n ≤ n + 3 by omega)
 refine WX.enter (tt := tt) (Γ := [(0, MF.rs .stb pb cb b), (1, MF.rs .stb K1 M1 n_.parts)]) Tryz.func280 rfl (by kernel_rfl) rfl (allS_cons rfl N0 (allS_cons rfl N1 allS_nil)) ?_
 refine R0 ?_
 refine WX.bld ttOk rfl rfl rfl rfl rfl rfl rfl ?_
 intro p1
 refine R0 ?_
 refine WX.free 2 (MF.ol [] ([] : List UInt8)) rfl ?_
 have r1 : (b).length ≤ bd n := (okl hokb).1
 refine WX.appG1 7 0 3 (b : List UInt8).length ttOk rfl rfl rfl rfl rfl rfl rfl rfl rfl rfl rfl rfl rfl (by first | (simp; done) | (simp; omega)) (by omega) (by omega) (fun _ _ _ => rfl) ?_
 intro ys1 p2 c1
 refine WX.know (fun G hΓ => (hΓ.get 3 rfl : RdL _ _ _).flat) ?_
 intro hf1
 refine WX.turn [2] 4 rfl (fun h hs => ol_flat hs hf1) (gs := [MF.ol ([] ++ ys1) (b : List UInt8)]) rfl ?_
 refine R0 ?_
 refine WX.callV rfl rfl rfl rfl rfl (fun _ => rfl) rfl (fun w G bs hI hΓ => f100 w n (by omega) n_ K1 M1 (hΓ.get 1 rfl) hokn_) ?_
 intro hq1
 refine R0 ?_
 refine WX.cases 12 rfl (fun h1 => ?_) (fun h1 => ?_)
 ·skip
  have h1d := (B.nt h1)
  refine R0 ?_
  refine WX.seal 7 4 5 rfl rfl rfl rfl rfl ?_
  have hP1 : spec_AppendName b n_ = b := by simp only [spec_AppendName, h1, ct, cf]
  refine R1 ?_
  intro w1 G bs hI hΓ
  rw [hP1]
  exact Post.of [6] (p2, c1) hI hΓ rfl rfl rfl (okl_mk (by omega) (fun _ _ => trivial) : GoT.ok (n + 1) (b : List UInt8))
 ·skip
  have h1d := (B.nf h1)
  refine R0 ?_
  refine WX.seal 7 4 7 rfl rfl rfl rfl rfl ?_
  have r2 : (n_.parts).length ≤ bd n := (okl (ok_Name hokn_)).1
  refine WX.callF 9 (fun _ _ h => GoT.ow_rd h) (fun _ f hf => GoT.fak f hf) rfl rfl rfl rfl rfl (fun _ => rfl) rfl (fun w G bs hI hΓ => f268 w n (by omega) b p2 c1 (hΓ.get 7 rfl) (((n_.parts).length : Nat) : Int) (okl_mk (by omega) (fun _ _ => trivial) : GoT.ok n (b : List UInt8)) (show I64 (((n_.parts).length : Nat) : Int) from (by unfold I64; omega))) (fun _ => rfl) (fun _ => rfl) ?_
  rintro ⟨p3, c2⟩ hq2
  have q1 := len_specAV b (((n_.parts).length : Nat) : Int)
  refine R0 ?_
  have hv0 := vnB_spec h1d
  have hv1 := hv0.1
  have hv2 : b.length ≤ bd n := (okl hokb).1
  refine WX.loop (ι := (Option Addr) × Nat × (List UInt8) × Nat) ⟨fun | (pout, cout, out, i) => (i ≤ (n_.parts).length) ∧ (out.length ≤ bd (n + 1) ∧ ∀ z_ ∈ out, GoT.ok (n + 1) z_) ∧ (out.length ≤ b.length + 6 + 14 * i) ∧ (spec_AppendName_L1 n_.parts ((spec_AppendVarint b (((n_.parts).length : Nat) : Int)) : List UInt8) = spec_AppendName_L1 ((n_.parts).drop i) out), fun | (pout, cout, out, i) => (n_.parts).length - i, fun | (pout, cout, out, i) => [(5, .v (.slice pout ((out).length) cout)), (6, .v (.int .i64 (((i : Nat) : Int)))), (3, .p 3 0)], fun | (pout, cout, out, i) => [(3, ⟨30, [.slice K1 ((n_.parts).length) M1]⟩)], fun | (pout, cout, out, i) => [], fun | (pout, cout, out, i) => [(0, MF.rs .stb pb cb b), (1, MF.rs .stb K1 M1 n_.parts), (10, MF.os pout cout out)]⟩ (p3, c2, ((spec_AppendVarint b (((n_.parts).length : Nat) : Int)) : List UInt8), 0) ⟨(Nat.zero_le _), hq2, (by omega), rfl⟩
   (.cons rfl (.cons rfl (.cons rfl (.nil)))) (.cons rfl (.nil)) .nil [0, 1, 10] rfl ?_
  rintro ⟨pout, cout, out, i⟩ hpre
  have hpre_ : (i ≤ (n_.parts).length) ∧ (out.length ≤ bd (n + 1) ∧ ∀ z_ ∈ out, GoT.ok (n + 1) z_) ∧ (out.length ≤ b.length + 6 + 14 * i) ∧ (spec_AppendName_L1 n_.parts ((spec_AppendVarint b (((n_.parts).length : Nat) : Int)) : List UInt8) = spec_AppendName_L1 ((n_.parts).drop i) out) := hpre
  clear hpre
  obtain ⟨v1, v2, v3, v4⟩ := hpre_
  have v2L := v2.1
  refine R0 ?_
  refine WX.cases 23 rfl (fun h2 => ?_) (fun h2 => ?_)
  ·skip
   have h2d := B.dt h2
   have e1i : i < (n_.parts).length := (by omega)
   obtain ⟨e1, e1h⟩ : ∃ e1, (n_.parts)[i]? = some e1 := ⟨_, List.getElem?_eq_getElem e1i⟩
   have ok1 : GoT.ok n e1 := (okl (ok_Name hokn_)).2 _ (List.mem_of_getElem? e1h)
   refine R0 ?_
   refine WX.idx 1 i ttOk rfl rfl rfl rfl rfl rfl rfl rfl rfl rfl e1i ?_
   rintro ad1 rfl
   refine WX.ldE 1 11 e1 ttOk rfl rfl rfl rfl rfl rfl rfl rfl e1h (fun _ => rfl) (fun _ => rfl) ?_
   rintro ⟨⟩
   have r3 : (e1).size ≤ bd n := ok1
   refine WX.toB 11 ttOk rfl rfl rfl rfl rfl rfl rfl rfl rfl rfl rfl (by omega) ?_
   intro p4 c3
   have r4 : ((e1).data.toList).length = (e1).size := rfl
   refine WX.der 12 (MF.rs .der pout cout out) rfl (fun _ hΓ => (hΓ.get 10 rfl : OwSl _ _ _ _).rd) ?_
   refine WX.callF 13 (fun _ _ h => GoT.ow_rd h) (fun _ f hf => GoT.fak f hf) rfl rfl rfl rfl rfl (fun _ => rfl) rfl (fun w G bs hI hΓ => f290 w (n + 1) (by omega) out pout cout (hΓ.get 12 rfl) ((e1).data.toList) (some p4) c3 (hΓ.get 11 rfl) (okl_of v2) (okl_mk (by omega) (fun _ _ => trivial) : GoT.ok (n + 1) ((e1).data.toList : List UInt8))) (fun _ => rfl) (fun _ => rfl) ?_
   rintro ⟨p5, c4⟩ hq3
   have q2 := len_specAB out ((e1).data.toList)
   refine R0 ?_
   refine WX.see rfl rfl rfl (fun _ hΓ => looks_arith rfl rfl rfl rfl (by unfold I64; first | omega | (simp only [List.length_take] at *; omega))) ?_
   refine R0 ?_
   refine WX.turn [14] 10 rfl (fun _ h => h) rfl ?_
   have r5 : (spec_AppendBytes out ((e1).data.toList)).length ≤ bd (n + 3) := (okl hq3).1
   exact WX.iter (p5, c4, (spec_AppendBytes out ((e1).data.toList)), i + 1) ⟨(by omega), (okl_mk (by omega) (fun _ _ => trivial) : GoT.ok (n + 1) ((spec_AppendBytes out ((e1).data.toList)) : List UInt8)), (by have z_ := hv0.2 _ (List.mem_of_getElem? e1h); have z2_ : ((e1).data.toList).length = (e1).size := rfl; omega), (by rw [v4, drop_get e1h]; simp only [spec_AppendName_L1, ct, cf])⟩ (by first | (dsimp only; omega) | omega) (.cons rfl (.cons rfl (.cons rfl (.nil)))) (.cons rfl (.nil)) .nil [0, 1, 10] rfl
  ·skip
   have h2d := B.df h2
   refine R0 ?_
   have hX1 : spec_AppendName_L1 n_.parts ((spec_AppendVarint b (((n_.parts).length : Nat) : Int)) : List UInt8) = ((out) : List UInt8) := by rw [v4, List.drop_eq_nil_of_le (show (n_.parts).length ≤ i by omega)]; simp only [spec_AppendName_L1, ct, cf]
   have hP2 : spec_AppendName b n_ = out := by simp only [spec_AppendName, h1, hX1, ct, cf]
   refine R1 ?_
   intro w1 G bs hI hΓ
   rw [hP2]
   exact Post.of [10] (pout, cout) hI hΓ rfl rfl rfl (okl_of v2)
end Go.Proofs.YtolepebgdfdciaaGreat

namespace Go.Stp
set_option linter.unusedVariables false
set_option linter.unusedSimpArgs false
def spec_Mod (n_ : Int) (m : Int) : Int :=
  bif (!(spec_l1In m 1 1000000000000)) then
    0
  else
    (Int.tmod (IntKind.i64.wrap ((Int.tmod n_ m) + m)) m)
def spec_BytesToInts_L1 : List UInt8 → (List Int) → (List Int)
  | [], l => ((l) : List Int)
  | e1 :: rest_, l =>
    spec_BytesToInts_L1 rest_ (((l ++ [((e1).toNat : Int)])) : List Int)
def spec_BytesToInts (b : (List UInt8)) : (List Int) :=
  match spec_BytesToInts_L1 b ([(((b).length : Nat) : Int)] : List Int) with
    | l =>
      l
theorem len_specBIL : ∀ (b : List UInt8) (l : List Int), (spec_BytesToInts_L1 b l).length = l.length + b.length
  | [], l => by simp [spec_BytesToInts_L1]
  | x :: b, l => by
    simp only [spec_BytesToInts_L1]
    rw [len_specBIL b]
    simp only [List.length_append, List.length_cons, List.length_nil]; omega
theorem len_specBI (b : List UInt8) : (spec_BytesToInts b).length = b.length + 1 := by
  unfold spec_BytesToInts
  rw [len_specBIL]
  simp only [List.length_cons, List.length_nil]; omega
def spec_SignedPortion (x_ : DataP) : (List Int) :=
  ((((spec_BytesToInts (spec_AppendName ([]) x_.name)) ++ (spec_BytesToInts x_.content)) ++ (spec_BytesToInts (spec_AppendName ([]) x_.keyName))) ++ [x_.freshUntil])
def spec_Digest_L1 : List Int → Int → Int
  | [], d => d
  | e1 :: rest_, d =>
    spec_Digest_L1 rest_ (Int.tmod (IntKind.i64.wrap ((IntKind.i64.wrap ((IntKind.i64.wrap (d * 1000003)) + (spec_Mod e1 2147483647))) + 13)) 2147483647)
def spec_Digest (l : (List Int)) : Int :=
  match spec_Digest_L1 l 11 with
    | d =>
      d
def spec_ComputeMAC (secret : Int) (l : (List Int)) : Int :=
  (spec_Digest (([secret] ++ l) ++ [secret]))
end Go.Stp

namespace Go.Stp
def readyAt (ops : Array Oper) (listed : Array Bool) (i : Nat) : Bool :=
  !listed.getD i true && (match ops[i]? with | some o => o.after.all (fun e => !Region.binds .any e || listed.getD e.on false) | none => false)
theorem readyAt_mem {ops : Array Oper} {listed : Array Bool} {i : Nat} (h : readyAt ops listed i = true) : (Region.ready .any ops listed).contains i = true := by
  unfold readyAt at h
  rw [List.contains_iff_mem]
  unfold Region.ready
  rw [List.mem_filter, List.mem_range]
  cases ho : ops[i]? with
  | none => simp [ho] at h
  | some o =>
    refine ⟨(Array.getElem?_eq_some_iff.1 ho).1, ?_⟩
    simpa [ho] using h
def onB (o : Oper) (i : Nat) : Bool := o.after.any (fun e => Region.binds .any e && e.on == i)
def freeRow (ops : Array Oper) (i : Nat) (oi : Oper) : Nat → List Oper → Bool
  | _, [] => true
  | j, oj :: r => (j == i || onB oj i || onB oi j || oi.apart ops oj) && freeRow ops i oi (j + 1) r
def freeTab (ops : Array Oper) : Nat → List Oper → Bool
  | _, [] => true
  | i, oi :: r => freeRow ops i oi 0 ops.toList && freeTab ops (i + 1) r
def freeAll (ops : Array Oper) : Bool := Region.noSelect ops && freeTab ops 0 ops.toList
theorem freeRow_get {ops : Array Oper} {i : Nat} {oi : Oper} : ∀ {l : List Oper} {j k : Nat} {oj : Oper}, freeRow ops i oi j l = true → l[k]? = some oj → (j + k == i || onB oj i || onB oi (j + k) || oi.apart ops oj) = true
  | [], _, _, _, _, h => by simp at h
  | o :: r, j, k, oj, h, hk => by
    simp only [freeRow, Bool.and_eq_true] at h
    cases k with
    | zero => simp at hk; subst hk; simpa using h.1
    | succ k =>
      have := freeRow_get h.2 (show r[k]? = some oj by simpa using hk)
      rwa [Nat.add_assoc, Nat.add_comm 1 k] at this
theorem freeTab_get {ops : Array Oper} : ∀ {l : List Oper} {i k : Nat} {o : Oper}, freeTab ops i l = true → l[k]? = some o → freeRow ops (i + k) o 0 ops.toList = true
  | [], _, _, _, _, h => by simp at h
  | o :: r, i, k, oj, h, hk => by
    simp only [freeTab, Bool.and_eq_true] at h
    cases k with
    | zero => simp at hk; subst hk; simpa using h.1
    | succ k =>
      have := freeTab_get h.2 (show r[k]? = some oj by simpa using hk)
      rwa [Nat.add_assoc, Nat.add_comm 1 k] at this
theorem freeAll_free {ops : Array Oper} {listed : Array Bool} {i : Nat} (h : freeAll ops = true) (hr : readyAt ops listed i = true) : Region.free .any ops listed i = true := by
  simp only [freeAll, Bool.and_eq_true] at h
  simp only [readyAt, Bool.and_eq_true] at hr
  unfold Region.free
  cases ho : ops[i]? with
  | none => simp [ho] at hr
  | some oi =>
    simp only [ho] at hr
    rw [List.all_eq_true]
    intro j hj
    have hj' : j < ops.size := by simpa using hj
    have hoj : ops[j]? = some ops[j] := by simp [hj']
    have h1 := freeRow_get (freeTab_get h.2 (show ops.toList[i]? = some oi by simpa using ho)) (show ops.toList[j]? = some ops[j] by simp [hj'])
    simp only [Nat.zero_add] at h1
    simp only [hoj]
    cases hji : (j == i) with
    | true => simp
    | false =>
      simp only [hji, Bool.false_or]
      cases hl : listed.getD j true with
      | true => simp
      | false =>
        simp only [Bool.false_or]
        simp only [hji, Bool.false_or, Bool.or_eq_true] at h1
        rcases h1 with (h1 | h1) | h1
        · simp only [onB] at h1; simp [h1]
        · exfalso
          obtain ⟨e, he, hb⟩ := Array.any_eq_true'.1 h1
          simp only [Bool.and_eq_true, beq_iff_eq] at hb
          have h2 := Array.all_eq_true_iff_forall_mem.1 hr.2 e he
          simp only [hb.1, Bool.not_true, Bool.false_or, hb.2] at h2
          rw [Array.getD_eq_getD_getElem?] at hl h2
          cases hx : listed[j]? with
          | none => simp [hx] at h2
          | some b => simp [hx] at h2 hl; rw [h2] at hl; cases hl
        · simp [h1]
def takesR (ops : Array Oper) (tl : List Nat) : Array Bool → List (Nat × Bool) → Bool
  | _, [] => true
  | listed, (i, p) :: r => (readyAt ops listed i && (match p with | true => true | false => !tl.contains i && tl.all (fun j => listed.getD j true || waits ops j i))) && takesR ops tl (listed.setIfInBounds i true) r
theorem freeAll_mayP {ops : Array Oper} {listed : Array Bool} {i : Nat} (h : freeAll ops = true) (hr : readyAt ops listed i = true) : mayP ops listed i = true := by
  have h1 := freeAll_free h hr
  simp only [freeAll, Bool.and_eq_true] at h
  simp only [mayP, h.1, h1, readyAt_mem hr, Bool.and_self]
theorem takesB_of {ops : Array Oper} {tl : List Nat} (hs : freeAll ops = true) : ∀ {is : List (Nat × Bool)} {listed : Array Bool}, takesR ops tl listed is = true → takesB ops tl listed is = true
  | [], _, _ => rfl
  | (i, p) :: r, listed, h => by
    simp only [takesR, Bool.and_eq_true] at h
    obtain ⟨⟨h2, h3⟩, h4⟩ := h
    simp only [takesB, Bool.and_eq_true]
    refine ⟨?_, takesB_of hs h4⟩
    cases p with
    | true => exact freeAll_mayP hs h2
    | false =>
      simp only [Bool.and_eq_true] at h3
      simp only [mayB, freeAll_mayP hs h2, h3.1, h3.2, Bool.and_self]
def mayR (ops : Array Oper) (tl : List Nat) (listed : Array Bool) (i : Nat) : Bool := readyAt ops listed i && (!tl.contains i && tl.all (fun j => listed.getD j true || waits ops j i))
theorem mayB_of {ops : Array Oper} {tl : List Nat} {listed : Array Bool} {i : Nat} (hs : freeAll ops = true) (h : mayR ops tl listed i = true) : mayB ops tl listed i = true := by
  simp only [mayR, Bool.and_eq_true] at h
  simp only [mayB, freeAll_mayP hs h.1, h.2.1, h.2.2, Bool.and_self]
theorem DX.tab {C : Cx} {ops : Array Oper} {tl : List Nat} {s : List It} {bs : Nat → Nat} {G0 : GH} {fuel : Nat} {listed : Array Bool} {env : Env} {L : Locs} {R : Rows} {Γ : Facts} (h : freeAll ops = true)
    (k : freeAll ops = true → DX C ops tl s bs G0 fuel listed env L R Γ) : DX C ops tl s bs G0 fuel listed env L R Γ := k h
section
open GoT (X k ok sh fa oa)
end
end Go.Stp

namespace Go.Stp
open GoT (X k ok sh fa oa)
def SY (C : Cx) (bs : Nat → Nat) (G0 : GH) (L0 : Locs) (R : Rows) : World → Prop := fun w => ∃ G, Le G0 G ∧ G (bs 999) = none ∧ HInv C w G bs L0 R
structure YOk (C : Cx) (bs : Nat → Nat) (L0 L : Locs) (R : Rows) : Prop where
  act : ∀ j, Acts L0 R j → bs j ≠ bs 999
  sub : ∀ j x, look L0 j = some x → look L j = some x
  lab : ∃ l, look L 999 = some l
theorem HInv.more {C : Cx} {w : World} {G : GH} {bs : Nat → Nat} {L : Locs} {R : Rows} (hI : HInv C w G bs L R) {b : Nat} {o : Obj} (hh : w.heap[b]? = some o) (ha : ∀ j, Acts L R j → bs j ≠ b) : HInv C w (join G (sgl b o)) bs L R := by
  have none : ∀ {j : Nat}, Acts L R j → G (bs j) = none → join G (sgl b o) (bs j) = none := fun {j} h hg => by
    unfold join; rw [hg]; exact sgl_ne _ (ha j h)
  refine ⟨hI.keep, join_le hI.le (sgl_le hh), fun j x hx => ?_, fun j r hr => ?_, hI.inj, hI.dis, hI.pin, hI.nr⟩
  · obtain ⟨q1, q2, q3⟩ := hI.loc j x hx
    exact ⟨q1, q2, none (.inl ⟨x, hx⟩) q3⟩
  · exact (hI.row j r hr).less fun hc hg => none (.inr ⟨r, hr, hc⟩) hg
theorem SY.keep {C : Cx} {bs : Nat → Nat} {G0 : GH} {L0 : Locs} {R : Rows} {w w' : World} (hb : Kp emp w w') (h : SY C bs G0 L0 R w) : SY C bs G0 L0 R w' := by
  obtain ⟨G, hle, hn, hI⟩ := h
  refine ⟨join (cut G emp) emp, hle.trans (le_join_l (cut G emp) emp), ?_, (hI.called (emp_le _) (fun _ _ h => by cases h) hb (emp_le _) (fun _ _ h => by cases h)).1⟩
  unfold join
  rw [cut_none' hn]
  rfl
theorem SY.cur {C : Cx} {bs : Nat → Nat} {G0 : GH} {L0 : Locs} {R : Rows} {w w' : World} {b : Nat} {o : Obj} (ha : ∀ j, Acts L0 R j → bs j ≠ bs 999) (hb : bs 999 = b) (hM : C.M b) (hh : w.heap[b]? = some o) (hk : Kp (sgl b o) w w') (h : SY C bs G0 L0 R w) : SY C bs G0 L0 R w' := by
  subst hb
  obtain ⟨G, hle, hn, hI⟩ := h
  have h1 := ((hI.more hh ha).called (Hc := sgl (bs 999) o) (h := emp) (le_join_r (sgl_dj hn).symm) (fun b q hx => by
    by_cases hbb : b = bs 999
    · subst hbb; exact hM
    · rw [sgl_ne _ hbb] at hx; cases hx) hk (emp_le _) (fun _ _ h => by cases h)).1
  refine ⟨_, hle.trans ((le_cut (le_join_l _ _) (sgl_dj hn).symm).trans (le_join_l _ _)), ?_, h1⟩
  unfold join
  rw [cut_some' (sgl_self _ _)]
  rfl
theorem SY.of {C : Cx} {bs : Nat → Nat} {G G0 : GH} {L0 L : Locs} {R : Rows} {w : World} (hy : YOk C bs L0 L R) (hle : Le G0 G) (hI : HInv C w G bs L R) : SY C bs G0 L0 R w := by
  obtain ⟨l, hl⟩ := hy.lab
  exact ⟨G, hle, (hI.loc 999 l hl).2.2, hI.sub hy.sub (Sub.refl _)⟩
def DY (C : Cx) (ops : Array Oper) (tl : List Nat) (s : List It) (bs : Nat → Nat) (G0 : GH) (L0 : Locs) (fuel : Nat) (listed : Array Bool) (env : Env) (L : Locs) (R : Rows) (Γ : Facts) : Prop :=
  YOk C bs L0 L R → Closed ops listed → ∀ a w G, Le G0 G → SatB C env L R Γ G bs a w → wpAnyT C.P ops (cont C s) (SY C bs G0 L0 R) tl fuel listed a w
theorem WX.drawY {C : Cx} {id : Nat} {ops : Array Oper} {s : List It} {env : Env} {L : Locs} {R : Rows} {Γ : Facts} {l : Loc} (tl : List Nat) (hm : C.P.follows .mixedOrders = true) (hl : look L 999 = some l)
    (k : ∀ bs G0, AllK C.M G0 Γ → DY C ops tl s bs G0 (delL L 999) ops.size (Array.replicate ops.size false) env L R Γ) : WX C (.code (.region id ops true) :: s) env L R Γ := by
  rintro a w ⟨G, bs, hA, hI, hΓ⟩
  show (Code.region id ops true).wp C.P (cont C s) a w
  have hsub : ∀ j x, look (delL L 999) j = some x → look L j = some x := fun j x hx => by
    rw [look_delL] at hx
    split at hx
    · cases hx
    · exact hx
  refine wp_region_any hm (wpAny_of_T _ _ _ _ (k bs G hΓ ⟨fun j hj => ?_, hsub, ⟨l, hl⟩⟩ (closed_start ops) a _ G (Le.refl _) ⟨hA, hI.drew, hΓ⟩))
  have hne : j ≠ 999 := by
    rintro rfl
    rcases hj with ⟨x, hx⟩ | ⟨r, hr, _⟩
    · rw [look_delL] at hx; simp at hx
    · exact hI.nr r hr
  exact hI.inj j 999 hne (hj.imp (fun ⟨x, hx⟩ => ⟨x, hsub _ _ hx⟩) (fun h => h)) (.inl ⟨l, hl⟩)
theorem DY.take {C : Cx} {ops : Array Oper} {tl : List Nat} {s : List It} {bs : Nat → Nat} {G0 : GH} {L0 : Locs} {fuel : Nat} {listed : Array Bool} {env : Env} {L : Locs} {R : Rows} {Γ : Facts} {i d : Nat} {o : Oper} {sv : SV} {b : Bool} (hb : mayB ops tl listed i = true) (hi : ops[i]? = some o) (hd : o.dst = some d) (hlt : d < C.fn.ntmps)
    (hg : gd ops env o = some b) (hl : b = true → Looks C env L0 R G0 o sv) (hu : b = false → sv = .v undef)
    (k : DY C ops tl s bs G0 L0 fuel (listed.setIfInBounds i true) ((d, sv) :: env) L R Γ) : DY C ops tl s bs G0 L0 (fuel + 1) listed env L R Γ := by
  intro hy hcl a w G hle ⟨hA, hI, hΓ⟩
  simp only [mayB, mayP, Bool.and_eq_true, Bool.not_eq_true', List.all_eq_true, Bool.or_eq_true] at hb
  obtain ⟨⟨⟨⟨h1, h4⟩, h5⟩, h3⟩, h6⟩ := hb
  have hr : i ∈ Region.ready .any ops listed := by simpa using h5
  refine wpAnyT_first hi h3 (Region.noSelect_spec h1) (fun c a w h => (cont_panic C s c _ _ h).elim) fuel listed a w hcl (fun j hj hun => (h6 j hj).resolve_left (by rw [hun]; simp)) (Region.free_spec hi h4) hr (v := conc bs sv) ?_ (SY.of hy hle hI) ?_
  · cases b with
    | true => exact .inl ⟨gd_sound hA hg, fun w' ⟨G', hle', _, hI'⟩ => hl rfl a w' G' bs hle' hA hI'⟩
    | false => exact .inr ⟨gd_sound hA hg, by rw [hu rfl]; rfl⟩
  · rw [hd]
    exact k hy (hcl.set hr) _ _ G hle ⟨hA.put hlt sv, hI, hΓ⟩
theorem DY.takeP {C : Cx} {ops : Array Oper} {tl : List Nat} {s : List It} {bs : Nat → Nat} {G0 : GH} {L0 : Locs} {fuel : Nat} {listed : Array Bool} {env : Env} {L : Locs} {R : Rows} {Γ : Facts} {i d : Nat} {o : Oper} {sv : SV} {b : Bool} (hb : mayP ops listed i = true) (hi : ops[i]? = some o) (hd : o.dst = some d) (hlt : d < C.fn.ntmps)
    (hg : gd ops env o = some b) (hl : b = true → ∀ a w bs, At C.fn.ntmps env bs a → (execOp a.eval o).run C.P w = .ok (.value (conc bs sv)) w) (hu : b = false → sv = .v undef)
    (k : DY C ops tl s bs G0 L0 fuel (listed.setIfInBounds i true) ((d, sv) :: env) L R Γ) : DY C ops tl s bs G0 L0 (fuel + 1) listed env L R Γ := by
  intro hy hcl a w G hle ⟨hA, hI, hΓ⟩
  simp only [mayP, Bool.and_eq_true] at hb
  obtain ⟨⟨h1, h4⟩, h5⟩ := hb
  have hr : i ∈ Region.ready .any ops listed := by simpa using h5
  refine wpAnyT_firstP hi (Region.noSelect_spec h1) (fun c a w h => (cont_panic C s c _ _ h).elim) fuel listed a w (Region.free_spec hi h4) hr (v := conc bs sv) ?_ ?_
  · cases b with
    | true => exact .inl ⟨gd_sound hA hg, fun w' _ => hl rfl a w' bs hA⟩
    | false => exact .inr ⟨gd_sound hA hg, by rw [hu rfl]; rfl⟩
  · rw [hd]
    exact k hy (hcl.set hr) _ _ G hle ⟨hA.put hlt sv, hI, hΓ⟩
theorem DY.takes {C : Cx} {ops : Array Oper} {tl : List Nat} {s : List It} {bs : Nat → Nat} {G0 : GH} {L0 : Locs} {L : Locs} {R : Rows} {Γ : Facts} (ht : TabOk C.P C.tt) : ∀ (is : List (Nat × Bool)) {fuel : Nat} {listed : Array Bool} {env env' : Env}, takesB ops tl listed is = true →
    takesE C.tt C.fn.ntmps ops L0 env is = some env' → DY C ops tl s bs G0 L0 fuel (setAll listed is) env' L R Γ → DY C ops tl s bs G0 L0 (fuel + is.length) listed env L R Γ
  | [], _, _, _, _, _, h, k => by simp [takesE] at h; subst h; exact k
  | (i, p) :: r, fuel, listed, env, env', hb, h, k => by
    simp only [takesB, Bool.and_eq_true] at hb
    simp only [takesE] at h
    split at h
    · rename_i o ho
      rw [getO_eq] at ho
      have ho' : ops[i]? = some o := by simpa using ho
      split at h
      · rename_i d hd
        split at h
        · rename_i hlt
          have hlt' : d < C.fn.ntmps := by simpa [Nat.blt_eq] using hlt
          split at h
          · rename_i hg
            split at h
            · rename_i sv hsv
              cases p with
              | true => exact DY.takeP hb.1 ho' hd hlt' hg (fun _ a w bs' hA => pureS_any ht w hA hsv) (fun h => by cases h) (DY.takes ht r hb.2 h k)
              | false => exact DY.take hb.1 ho' hd hlt' hg (fun _ a w G' bs' hle hA hI => pureS_sound ht hA hI hsv) (fun h => by cases h) (DY.takes ht r hb.2 h k)
            · cases h
          · rename_i hg
            cases p with
            | true => exact DY.takeP hb.1 ho' hd hlt' hg (fun h => by cases h) (fun _ => rfl) (DY.takes ht r hb.2 h k)
            | false => exact DY.take hb.1 ho' hd hlt' hg (fun h => by cases h) (fun _ => rfl) (DY.takes ht r hb.2 h k)
          · cases h
        · cases h
      · cases h
    · cases h
def CurK (C : Cx) (S : World → Prop) : Prop := ∀ b w w' o, C.pin = some b → C.M b → w.heap[b]? = some o → Kp (sgl b o) w w' → S w → S w'
theorem DY.toTX {C : Cx} {ops : Array Oper} {tl : List Nat} {s : List It} {bs : Nat → Nat} {G0 : GH} {L0 : Locs} {fuel : Nat} {listed : Array Bool} {env : Env} {L : Locs} {R : Rows} {Γ : Facts} (k : ∀ S, CurK C S → TX C ops tl s S fuel listed env L R Γ) : DY C ops tl s bs G0 L0 fuel listed env L R Γ :=
  fun hy _ a w G _ hS => k _ (fun b _ _ _ hp hM hh hk h => h.cur hy.act (hS.2.1.pin b hp) hM hh hk) (fun _ _ hb h => h.keep hb) a w ⟨G, bs, hS⟩
theorem TX.takeP {C : Cx} {ops : Array Oper} {tl : List Nat} {s : List It} {S : World → Prop} {fuel : Nat} {listed : Array Bool} {env : Env} {L : Locs} {R : Rows} {Γ : Facts} {i d : Nat} {o : Oper} {sv : SV} {b : Bool} (hb : mayP ops listed i = true) (hi : ops[i]? = some o) (hd : o.dst = some d) (hlt : d < C.fn.ntmps)
    (hg : gd ops env o = some b) (hl : b = true → ∀ a w bs, At C.fn.ntmps env bs a → (execOp a.eval o).run C.P w = .ok (.value (conc bs sv)) w) (hu : b = false → sv = .v undef)
    (k : TX C ops tl s S fuel (listed.setIfInBounds i true) ((d, sv) :: env) L R Γ) : TX C ops tl s S (fuel + 1) listed env L R Γ := by
  intro hS a w ⟨G, bs, hA, hI, hΓ⟩
  simp only [mayP, Bool.and_eq_true] at hb
  obtain ⟨⟨h1, h4⟩, h5⟩ := hb
  have hr : i ∈ Region.ready .any ops listed := by simpa using h5
  refine wpAnyT_firstP hi (Region.noSelect_spec h1) (fun c a w h => (cont_panic C s c _ _ h).elim) fuel listed a w (Region.free_spec hi h4) hr (v := conc bs sv) ?_ ?_
  · cases b with
    | true => exact .inl ⟨gd_sound hA hg, fun w' _ => hl rfl a w' bs hA⟩
    | false => exact .inr ⟨gd_sound hA hg, by rw [hu rfl]; rfl⟩
  · rw [hd]
    exact k hS _ _ ⟨G, bs, hA.put hlt sv, hI, hΓ⟩
theorem TX.takes {C : Cx} {ops : Array Oper} {tl : List Nat} {s : List It} {S : World → Prop} {L : Locs} {R : Rows} {Γ : Facts} (ht : TabOk C.P C.tt) : ∀ (is : List Nat) {fuel : Nat} {listed : Array Bool} {env env' : Env}, takesB ops tl listed (is.map fun i => (i, true)) = true →
    takesE C.tt C.fn.ntmps ops [] env (is.map fun i => (i, true)) = some env' → TX C ops tl s S fuel (setAll listed (is.map fun i => (i, true))) env' L R Γ → TX C ops tl s S (fuel + is.length) listed env L R Γ
  | [], _, _, _, _, _, h, k => by simp [takesE] at h; subst h; exact k
  | i :: r, fuel, listed, env, env', hb, h, k => by
    simp only [List.map_cons, takesB, Bool.and_eq_true] at hb
    simp only [List.map_cons, takesE] at h
    split at h
    · rename_i o ho
      rw [getO_eq] at ho
      have ho' : ops[i]? = some o := by simpa using ho
      split at h
      · rename_i d hd
        split at h
        · rename_i hlt
          have hlt' : d < C.fn.ntmps := by simpa [Nat.blt_eq] using hlt
          split at h
          · rename_i hg
            split at h
            · rename_i sv hsv
              exact TX.takeP hb.1 ho' hd hlt' hg (fun _ a w bs' hA => pureS_any ht w hA hsv) (fun h => by cases h) (TX.takes ht r hb.2 h k)
            · cases h
          · rename_i hg
            exact TX.takeP hb.1 ho' hd hlt' hg (fun h => by cases h) (fun _ => rfl) (TX.takes ht r hb.2 h k)
          · cases h
        · cases h
      · cases h
    · cases h
theorem TX.seeP {C : Cx} {ops : Array Oper} {tl : List Nat} {s : List It} {S : World → Prop} {fuel : Nat} {listed : Array Bool} {env : Env} {L : Locs} {R : Rows} {Γ : Facts} {d : Nat} {o : Oper} {sv : SV} (i : Nat) (hb : mayP ops listed i = true) (hi : getO ops.toList i = some o) (hg : gd ops env o = some true) (hd : o.dst = some d) (hlt : Nat.blt d C.fn.ntmps = true)
    (hl : LooksP C env o sv) (k : TX C ops tl s S fuel (listed.setIfInBounds i true) ((d, sv) :: env) L R Γ) : TX C ops tl s S (fuel + 1) listed env L R Γ := by
  rw [getO_eq] at hi
  exact TX.takeP hb (by simpa using hi) hd (by simpa [Nat.blt_eq] using hlt) hg (fun _ a w bs hA => hl a w bs hA) (fun h => by cases h) k
theorem TS.peek {C : Cx} {ops : Array Oper} {tl : List Nat} {s : List It} {S : World → Prop} {fuel : Nat} {listed : Array Bool} {env : Env} {L : Locs} {R : Rows} {Γ : Facts} {d : Nat} {o : Oper} (i : Nat) (hi : getO ops.toList i = some o) (hg : gd ops env o = some true) (hd : o.dst = some d) (hlt : Nat.blt d C.fn.ntmps = true)
    (k : ∀ G, AllK C.M G Γ → ∃ sv Γ', Looks C env L R G o sv ∧ (AllK C.M G Γ → AllK C.M G Γ') ∧ TX C ops tl s S fuel (listed.setIfInBounds i true) ((d, sv) :: env) L R Γ') : TS C ops tl s S fuel listed env L R Γ i := by
  intro hS a w ⟨G, bs, hA, hI, hΓ⟩
  obtain ⟨sv, Γ', hl, hΓ', hk⟩ := k G hΓ
  rw [getO_eq] at hi
  have hi' : ops[i]? = some o := by simpa using hi
  unfold wpOp
  simp only [hi']
  rw [if_pos (gd_sound hA hg)]
  refine .inl ?_
  unfold Oper.wp
  rw [hl a w G bs (Le.refl _) hA hI]
  simp only [Oper.upon, hd]
  exact ⟨fun _ h => h, hk hS _ _ ⟨G, bs, hA.put (by simpa [Nat.blt_eq] using hlt) sv, hI, hΓ' hΓ⟩⟩
theorem TS.see {C : Cx} {ops : Array Oper} {tl : List Nat} {s : List It} {S : World → Prop} {fuel : Nat} {listed : Array Bool} {env : Env} {L : Locs} {R : Rows} {Γ : Facts} {d : Nat} {o : Oper} {sv : SV} (i : Nat) (hi : getO ops.toList i = some o) (hg : gd ops env o = some true) (hd : o.dst = some d) (hlt : Nat.blt d C.fn.ntmps = true)
    (hl : ∀ G, AllK C.M G Γ → Looks C env L R G o sv) (k : TX C ops tl s S fuel (listed.setIfInBounds i true) ((d, sv) :: env) L R Γ) : TS C ops tl s S fuel listed env L R Γ i :=
  TS.peek i hi hg hd hlt fun G hΓ => ⟨sv, Γ, hl G hΓ, fun h => h, k⟩
theorem TS.callP {C : Cx} {ops : Array Oper} {tl : List Nat} {st : List It} {S : World → Prop} {fuel : Nat} {listed : Array Bool} {env : Env} {L : Locs} {R : Rows} {Γ : Facts} {o : Oper} (hcur : CurK C S) (i : Nat) {f : Operand} {args : List Operand} {ats : Array TypeId} {g : FuncId} {sf : SV} {svs : List SV} {caps : (Nat → Nat) → List Value} {T : Nat} {cs : List Value}
    {ι : Type} {val val' : ι → Value} {cs' : ι → List Value} {gs ds : ι → List MF} {Q : Prop} {d : Nat} {Γ' : ι → Facts} (n : Nat) (hpin : ∃ b, C.pin = some b) (hl : look L 999 = some ⟨T, cs⟩) (hds : ∀ i h, Sep h (gs i) → All h (ds i)) (hdk : ∀ i, ∀ f ∈ ds i, f.k = .der) (hi : getO ops.toList i = some o) (hg : gd ops env o = some true) (hd : o.dst = some d) (hlt : Nat.blt d C.fn.ntmps = true) (ho : o.op = .call { callee := .value f, args := args.toArray, argTypes := ats })
    (hf : ev env f = some sf) (hsf : ∀ bs, conc bs sf = .func (.func g) #[] (caps bs).toArray) (hargs : evs env args = some svs)
    (hc : ∀ w G bs H, HInv C w G bs L R → Le H (hp w) → Sep H [MF.bx (bs 999) T cs] → AllK C.M (cut (hp w) H) Γ → Does C.P g (svs.map (conc bs) ++ caps bs).toArray w H (Post w H val (fun i => MF.bx (bs 999) T (cs' i) :: gs i) Q))
    (hv : ∀ i, normV (val i) = some (val' i)) (hΓ' : ∀ i, addF n (ds i ++ gs i) Γ = some (Γ' i))
    (k : ∀ j, Q → TX C ops tl st S fuel (listed.setIfInBounds i true) ((d, .v (val' j)) :: env) (setL L 999 (cs' j)) R (Γ' j)) : TS C ops tl st S fuel listed env L R Γ i := by
  intro hS a w ⟨G, bs, hA, hI, hΓ⟩
  rw [getO_eq] at hi
  have hi' : ops[i]? = some o := by simpa using hi
  unfold wpOp
  simp only [hi']
  rw [if_pos (gd_sound hA hg)]
  refine .inl ?_
  unfold Oper.wp
  obtain ⟨h1, h2, h3⟩ := hI.loc 999 _ hl
  have hGH : Le G (cut (hp w) (sgl (bs 999) (lobj ⟨T, cs⟩))) := le_cut hI.le (sgl_dj h3).symm
  obtain ⟨he, hcalls⟩ := hc w G bs (sgl (bs 999) (lobj ⟨T, cs⟩)) hI (sgl_le h1) ⟨_, emp, Le.refl _, emp_le _, (emp_dj _).symm, sgl_self _ _, trivial⟩ (hΓ.mono hGH)
  rw [exec_call he ho (by rw [ev_conc hA hf, hsf]) (evs_sound hA args svs hargs)]
  simp only [Oper.upon]
  refine hcalls.mono fun e w' ⟨v, hve, hb, hψ⟩ => ?_
  subst hve
  refine ⟨fun _ hs => ?_, ?_⟩
  · obtain ⟨b, hpb⟩ := hpin
    have := hI.pin b hpb
    subst this
    exact hcur _ _ _ _ hpb h2 h1 hb hs
  obtain ⟨j, h, rfl, hq, hle, hdom, ha, hr, a1, a2, a3, a4, a5⟩ := hψ
  have a4' : ha (bs 999) = some (lobj ⟨T, cs' j⟩) := a4
  rw [hd, ← normV_eq (hv j)]
  obtain ⟨hI', hdj⟩ := (hI.drop hl).called (Hc := sgl (bs 999) (lobj ⟨T, cs⟩)) (le_join_r (sgl_dj h3).symm) (fun b q hx => by
    by_cases hbb : b = bs 999
    · subst hbb; exact h2
    · rw [sgl_ne _ hbb] at hx; cases hx) hb hle hdom
  have hG1 : Le G (cut (join G (sgl (bs 999) (lobj ⟨T, cs⟩))) (sgl (bs 999) (lobj ⟨T, cs⟩))) := le_cut (le_join_l _ _) (sgl_dj h3).symm
  have hlab : h (bs 999) = some (lobj ⟨T, cs' j⟩) := a1 _ _ a4'
  have hG2 : join (cut (join G (sgl (bs 999) (lobj ⟨T, cs⟩))) (sgl (bs 999) (lobj ⟨T, cs⟩))) h (bs 999) = some (lobj ⟨T, cs' j⟩) := le_join_r hdj.symm _ _ hlab
  have hI2 := hI'.take (i := 999) (l := ⟨T, cs' j⟩) (L' := setL L 999 (cs' j)) (fun x => by
    rw [look_setL, look_delL]
    by_cases hij : 999 = x
    · subst hij; simp [hl]
    · simp [hij]) (fun r hr' => hI.dis 999 _ r hl hr') hG2 h2
  have hdr : Dj hr G := hdj.mono a2 hG1
  have hΓ2 := hΓ.after (h := hr) (n := n) (ds := ds j) hdr (fun b q hx => by
    rcases hdom b q (a2 b q hx) with h4 | h4
    · exact .inl (Nat.le_trans hI.keep.size h4)
    · by_cases hbb : b = bs 999
      · subst hbb; exact h2
      · exact absurd (sgl_ne _ hbb) h4) a5 (hdk j) (hds j hr a5) (hΓ' j)
  refine k j hq hS _ _ ⟨_, bs, hA.put (by simpa [Nat.blt_eq] using hlt) (.v _), hI2, hΓ2.mono (join_le ?_ ?_)⟩
  · exact le_cut (hG1.trans (le_join_l _ _)) (sgl_dj h3).symm
  · refine le_cut (a2.trans (le_join_r hdj.symm)) (sgl_dj ?_).symm
    cases hx : hr (bs 999) with
    | none => rfl
    | some q => rcases a3 (bs 999) with h5 | h5
                · rw [a4'] at h5; cases h5
                · rw [hx] at h5; cases h5
theorem WX.respL {C : Cx} {s : List It} {env : Env} {L L' : Locs} {R : Rows} {Γ : Facts} (h : L = L') (k : WX C s env L' R Γ) : WX C s env L R Γ := h ▸ k
end Go.Stp

