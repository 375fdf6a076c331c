/-
  What the proof of one law needs: rules of the program logic, functions as Lean functions, contracts. No condition but what each says. Written by a program (pack.py) out of my own texts.
-/
import Derived.Test.YtolepebgdfdciaaGreatKFnGroups7
namespace Go.Proofs.YtolepebgdfdciaaGreat
open Go.Stp
set_option linter.unusedVariables false
set_option linter.unusedSimpArgs false
theorem f104 (w : World) (n : Nat) (hn : n + 5 ≤ 9) (H : GH) (hH : Le H (hp w)) (bc_ : Nat) (c_b : (List UInt8)) (K0 : Option Addr) (M0 : Nat) (N0 : RdSl (cut (hp w) H) K0 M0 c_b) (c_i : Int) (c_h : Int) (hown : Sep H [MF.bx bc_ 182 [.slice K0 ((c_b).length) M0, .int .i64 (c_i), .int .i64 (c_h)]]) (hokc_b : GoT.ok n c_b) (hokc_i : NN c_i) (hokc_h : GoT.ok n c_h) (o0_ : (List Member)) (o1_ : Int) (o2_ : Int) (hres : a2r c_b c_i c_h = (o0_, o1_, o2_)) :
 Does Tryz.prog 104 #[.pointer (some ⟨bc_, 0, none⟩)] w H (Post w H (fun x : GoT.X ((List Member)) => (GoT.sh (o0_ : (List Member)) x).headD undef) (fun x => MF.bx bc_ 182 [.slice K0 ((c_b).length) M0, .int .i64 (o1_), .int .i64 (o2_)] :: GoT.oa (o0_ : (List Member)) x) (GoT.ok (n + 1) (o0_ : (List Member)) ∧ NN (o1_) ∧ I64 (o2_))) := by
 have hbP := bd_pos n
 have hbS0 : bd (n + 1) = 4 * bd (n) := bd_succ (n := n) (by omega)
 have hbS1 : bd (n + 2) = 4 * bd (n + 1) := bd_succ (n := n + 1) (by omega)
 have hbS2 : bd (n + 3) = 4 * bd (n + 2) := bd_succ (n := n + 2) (by omega)
 have hbS3 : bd (n + 4) = 4 * bd (n + 3) := bd_succ (n := n + 3) (by omega)
 have hbS4 : bd (n + 5) = 4 * bd (n + 4) := bd_succ (n := n + 4) (by omega)
 have hbB := bd_big (n := (n + 5)) (by omega)
 have hbM := bd_mono (show n ≤ n + 5 by omega)
 have hc_bz : (c_b).length ≤ bd n := (okl hokc_b).1
 refine WX.enterP (tt := tt) (Γ := [(0, MF.rs .stb K0 M0 c_b)]) 1 Tryz.func104 Z J Z (allS_cons Z N0 allS_nil) hH hown (fun f hf => by cases hf) Z ?_
 refine R0 ?_
 refine WX.callF 2 (fun _ _ h => GoT.ow_rd h) (fun _ f hf => GoT.fak f hf) Z Z Z Z Z O Z (fun w G bs hI hΓ => f109 w n (by omega) (⟨#[47, 97]⟩ : Str) (Nat.le_trans (by decide) (bd_pos n))) O O ?_
 rintro ⟨p1, c1⟩ hq1
 refine WX.callF 4 (fun _ _ h => GoT.ow_rd h) (fun _ f hf => GoT.fak f hf) Z Z Z Z Z O Z (fun w G bs hI hΓ => f56 w (n + 1) (by omega) (a01 (⟨#[47, 97]⟩ : Str)) p1 c1 (hΓ.get 2 Z) hq1) O O ?_
 rintro ⟨⟨p2, c2⟩, ⟨p3, c3⟩, ⟨p4, c4⟩⟩ hq2
 refine WX.callF 10 (fun _ _ h => GoT.ow_rd h) (fun _ f hf => GoT.fak f hf) Z Z Z Z Z O Z (fun w G bs hI hΓ => f109 w n (by omega) (⟨#[47, 98]⟩ : Str) (Nat.le_trans (by decide) (bd_pos n))) O O ?_
 rintro ⟨p5, c5⟩ hq3
 refine WX.callF 12 (fun _ _ h => GoT.ow_rd h) (fun _ f hf => GoT.fak f hf) Z Z Z Z Z O Z (fun w G bs hI hΓ => f56 w (n + 1) (by omega) (a01 (⟨#[47, 98]⟩ : Str)) p5 c5 (hΓ.get 10 Z) hq3) O O ?_
 rintro ⟨⟨p6, c6⟩, ⟨p7, c7⟩, ⟨p8, c8⟩⟩ hq4
 refine WX.callF 18 (fun _ _ h => GoT.ow_rd h) (fun _ f hf => GoT.fak f hf) Z Z Z Z Z O Z (fun w G bs hI hΓ => f109 w n (by omega) (⟨#[47, 99]⟩ : Str) (Nat.le_trans (by decide) (bd_pos n))) O O ?_
 rintro ⟨p9, c9⟩ hq5
 refine WX.callF 20 (fun _ _ h => GoT.ow_rd h) (fun _ f hf => GoT.fak f hf) Z Z Z Z Z O Z (fun w G bs hI hΓ => f56 w (n + 1) (by omega) (a01 (⟨#[47, 99]⟩ : Str)) p9 c9 (hΓ.get 18 Z) hq5) O O ?_
 rintro ⟨⟨p10, c10⟩, ⟨p11, c11⟩, ⟨p12, c12⟩⟩ hq6
 refine WX.bld ttOk Z Z Z Z Z Z Z ?_
 intro p13
 refine R0 ?_
 obtain ⟨⟨u1, u2, u3⟩, hu1⟩ : ∃ r_, a08 c_b c_i c_h 12 = r_ := ⟨_, rfl⟩
 refine WX.callP (ds := fun _ => []) 999 26 Z (fun _ _ _ => All.nil) (fun _ f hf => by cases hf) Z Z Z Z Z O Z (fun w G bs H hI hH hs hΓ => f84 w n (by omega) H hH (bs 999) c_b K0 M0 (hΓ.get 0 Z) c_i c_h 12 hs hokc_b hokc_i hokc_h (show I64 12 from (by unfold I64; omega)) u1 u2 u3 hu1) O O ?_
 rintro ⟨⟩ hq7
 have q1 := l1Below_rng c_b c_i c_h 12
 rw [hu1] at q1
 try dsimp only at q1
 refine R0 ?_
 refine WX.turn [7, 8, 9] 28 Z (fun h hs => ol_one (α := Member) (a := (a0e (a01 (⟨#[47, 97]⟩ : Str)))) (x := ((p2, c2), (p3, c3), (p4, c4))) hs) (gs := [MF.ol (GoT.sh ((a0e (a01 (⟨#[47, 97]⟩ : Str))) : Member) ((p2, c2), (p3, c3), (p4, c4))) (([(a0e (a01 (⟨#[47, 97]⟩ : Str)))]) : List Member)]) Z ?_
 refine WX.turn [28, 15, 16, 17] 29 Z (fun h hs => ol_snoc (α := Member) (a := (a0e (a01 (⟨#[47, 98]⟩ : Str)))) (x := ((p6, c6), (p7, c7), (p8, c8))) hs) (gs := [MF.ol (GoT.sh ((a0e (a01 (⟨#[47, 97]⟩ : Str))) : Member) ((p2, c2), (p3, c3), (p4, c4)) ++ GoT.sh ((a0e (a01 (⟨#[47, 98]⟩ : Str))) : Member) ((p6, c6), (p7, c7), (p8, c8))) (([(a0e (a01 (⟨#[47, 97]⟩ : Str)))] ++ [(a0e (a01 (⟨#[47, 98]⟩ : Str)))]) : List Member)]) Z ?_
 refine WX.turn [29, 23, 24, 25] 27 Z (fun h hs => ol_snoc (α := Member) (a := (a0e (a01 (⟨#[47, 99]⟩ : Str)))) (x := ((p10, c10), (p11, c11), (p12, c12))) hs) (gs := [MF.ol [.slice p2 (((a0e (a01 (⟨#[47, 97]⟩ : Str))).name.parts).length) c2, .slice p3 (((a0e (a01 (⟨#[47, 97]⟩ : Str))).vector.entries).length) c3, .slice p4 (((a0e (a01 (⟨#[47, 97]⟩ : Str))).publications).length) c4, .slice p6 (((a0e (a01 (⟨#[47, 98]⟩ : Str))).name.parts).length) c6, .slice p7 (((a0e (a01 (⟨#[47, 98]⟩ : Str))).vector.entries).length) c7, .slice p8 (((a0e (a01 (⟨#[47, 98]⟩ : Str))).publications).length) c8, .slice p10 (((a0e (a01 (⟨#[47, 99]⟩ : Str))).name.parts).length) c10, .slice p11 (((a0e (a01 (⟨#[47, 99]⟩ : Str))).vector.entries).length) c11, .slice p12 (((a0e (a01 (⟨#[47, 99]⟩ : Str))).publications).length) c12] ([(a0e (a01 (⟨#[47, 97]⟩ : Str))), (a0e (a01 (⟨#[47, 98]⟩ : Str))), (a0e (a01 (⟨#[47, 99]⟩ : Str)))] : List Member)]) Z ?_
 refine WX.seal 13 27 30 Z Z Z Z Z ?_
 have r1 : (⟨#[47, 97]⟩ : Str).size = 2 := rfl
 have r2 : (⟨#[47, 98]⟩ : Str).size = 2 := rfl
 have r3 : (⟨#[47, 99]⟩ : Str).size = 2 := rfl
 refine WX.loop (ι := (Option Addr) × Nat × (List Member) × Int × Int × Int) ⟨fun | (pl, cl, l, i, u999_i, u999_h) => (l.length ≤ bd (n + 1) ∧ ∀ z_ ∈ l, GoT.ok (n + 1) z_) ∧ (-9223372036854775808 ≤ i ∧ i ≤ 9223372036854775807) ∧ (NN u999_i) ∧ (-9223372036854775808 ≤ u999_h ∧ u999_h ≤ 9223372036854775807) ∧ (∀ a ∈ l, GB i a) ∧ (l.length = 3) ∧ (a1x c_b ([(a0e (a01 (⟨#[47, 97]⟩ : Str))), (a0e (a01 (⟨#[47, 98]⟩ : Str))), (a0e (a01 (⟨#[47, 99]⟩ : Str)))] : List Member) u1 u2 u3 = a1x c_b l i u999_i u999_h), fun | (pl, cl, l, i, u999_i, u999_h) => i.toNat, fun | (pl, cl, l, i, u999_i, u999_h) => [(3, .v (.slice pl ((l).length) cl)), (4, .v (.int .i64 (i))), (0, .p 999 0)], fun | (pl, cl, l, i, u999_i, u999_h) => [(999, ⟨182, [.slice K0 ((c_b).length) M0, .int .i64 (u999_i), .int .i64 (u999_h)]⟩)], fun | (pl, cl, l, i, u999_i, u999_h) => [], fun | (pl, cl, l, i, u999_i, u999_h) => [(0, MF.rs .stb K0 M0 c_b), (31, MF.os pl cl l)]⟩ (p13, 3, ([(a0e (a01 (⟨#[47, 97]⟩ : Str))), (a0e (a01 (⟨#[47, 98]⟩ : Str))), (a0e (a01 (⟨#[47, 99]⟩ : Str)))] : List Member), u1, u2, u3) ⟨(okl_mk (by simp; omega) (all_cons (α := Member) hq2 (all_cons (α := Member) hq4 (all_cons (α := Member) hq6 (fun a ha => by cases ha)))) : GoT.ok (n + 1) ([(a0e (a01 (⟨#[47, 97]⟩ : Str))), (a0e (a01 (⟨#[47, 98]⟩ : Str))), (a0e (a01 (⟨#[47, 99]⟩ : Str)))] : List Member)), hq7.1, hq7.2.1, hq7.2.2, (by intro a ha; simp only [List.mem_cons, List.not_mem_nil, or_false] at ha; rcases ha with rfl | rfl | rfl <;> (unfold GB; simp [a0e]; omega)), Z, Z⟩
  (.cons Z (.cons Z (.cons Z (.nil)))) (.cons Z (.nil)) .nil [0, 31] Z ?_
 rintro ⟨pl, cl, l, i, u999_i, u999_h⟩ hpre
 have hpre_ : (l.length ≤ bd (n + 1) ∧ ∀ z_ ∈ l, GoT.ok (n + 1) z_) ∧ (-9223372036854775808 ≤ i ∧ i ≤ 9223372036854775807) ∧ (NN u999_i) ∧ (-9223372036854775808 ≤ u999_h ∧ u999_h ≤ 9223372036854775807) ∧ (∀ a ∈ l, GB i a) ∧ (l.length = 3) ∧ (a1x c_b ([(a0e (a01 (⟨#[47, 97]⟩ : Str))), (a0e (a01 (⟨#[47, 98]⟩ : Str))), (a0e (a01 (⟨#[47, 99]⟩ : Str)))] : List Member) u1 u2 u3 = a1x c_b l i u999_i u999_h) := hpre
 clear hpre
 obtain ⟨v1, v2, v3, v4, v5, v6, v7⟩ := hpre_
 have v1L := v1.1
 refine R0 ?_
 refine WX.cases 17 Z (fun h1 => ?_) (fun h1 => ?_)
 ·skip
  have h1d := B.dt h1
  refine R0 ?_
  obtain ⟨⟨u4, u5, u6⟩, hu2⟩ : ∃ r_, a08 c_b u999_i u999_h 3 = r_ := ⟨_, rfl⟩
  refine WX.callP (ds := fun _ => []) 999 32 Z (fun _ _ _ => All.nil) (fun _ f hf => by cases hf) Z Z Z Z Z O Z (fun w G bs H hI hH hs hΓ => f84 w n (by omega) H hH (bs 999) c_b K0 M0 (hΓ.get 0 Z) u999_i u999_h 3 hs hokc_b v3 v4 (show I64 3 from (by unfold I64; omega)) u4 u5 u6 hu2) O O ?_
  rintro ⟨⟩ hq8
  have q2 := l1Below_rng c_b u999_i u999_h 3
  rw [hu2] at q2
  try dsimp only at q2
  refine R0 ?_
  have r4 : -9223372036854775808 ≤ u4 ∧ u4 ≤ 9223372036854775807 := hq8.1
  refine WX.slot 23 (y := .v (.int .i64 (((u4).toNat : Nat) : Int))) Z (fun _ => congrArg (Value.int .i64) (show u4 = (((u4).toNat : Nat) : Int) from by omega)) ?_
  refine WX.der 33 (MF.rs .der pl cl l) Z (fun _ hΓ => (hΓ.get 31 Z : OwSl _ _ _ _).rd) ?_
  have e1i : (u4).toNat < (l).length := (by omega)
  obtain ⟨e1, e1h⟩ : ∃ e1, (l)[(u4).toNat]? = some e1 := ⟨_, List.getElem?_eq_getElem e1i⟩
  have ok1 : GoT.ok (n + 1) e1 := v1.2 _ (List.mem_of_getElem? e1h)
  refine WX.idx 33 ((u4).toNat) ttOk Z Z Z Z Z Z Z Z Z Z e1i ?_
  rintro ad1 rfl
  refine WX.ldE 33 34 e1 ttOk Z Z Z Z Z Z Z Z e1h O O ?_
  rintro ⟨⟨p14, c13⟩, ⟨p15, c14⟩, ⟨p16, c15⟩⟩
  refine R0 ?_
  obtain ⟨⟨u7, u8, u9⟩, hu3⟩ : ∃ r_, a33 c_b u5 u6 2 = r_ := ⟨_, rfl⟩
  refine WX.callP (ds := fun _ => []) 999 37 Z (fun _ _ _ => All.nil) (fun _ f hf => by cases hf) Z Z Z Z Z O Z (fun w G bs H hI hH hs hΓ => f111 w n (by omega) H hH (bs 999) c_b K0 M0 (hΓ.get 0 Z) u5 u6 2 hs hokc_b hq8.2.1 hq8.2.2 (show I64 2 from (by unfold I64; omega)) u7 u8 u9 hu3) O O ?_
  rintro ⟨⟩ hq9
  refine R0 ?_
  refine WX.cases 27 Z (fun h2 => ?_) (fun h2 => ?_)
  ·skip
   refine R0 ?_
   refine WX.drawY [9] mixed Z ?_
   intro bs G0 hΓ0
   refine DY.takes (fuel := 7) ttOk [(0, false), (1, true), (2, true)] J Z ?_
   refine DY.toTX ?_
   intro S_ hS_
   refine TX.all1 3 J ?_
   obtain ⟨⟨u10, u11, u12⟩, hu4⟩ : ∃ r_, a08 c_b u8 u9 3 = r_ := ⟨_, rfl⟩
   refine TS.callP (ds := fun _ => []) hS_ 3 38 ⟨_, Z⟩ Z (fun _ _ _ => All.nil) (fun _ f hf => by cases hf) Z Z Z Z Z Z O Z (fun w G bs H hI hH hs hΓ => f84 w n (by omega) H hH (bs 999) c_b K0 M0 (hΓ.get 0 Z) u8 u9 3 hs hokc_b hq9.1 hq9.2 (show I64 3 from (by unfold I64; omega)) u10 u11 u12 hu4) O O ?_
   rintro ⟨⟩ hq10
   have q3 := l1Below_rng c_b u8 u9 3
   rw [hu4] at q3
   try dsimp only at q3
   refine TX.all1 4 J ?_
   obtain ⟨⟨u13, u14, u15⟩, hu5⟩ : ∃ r_, a19 c_b u11 u12 u10 = r_ := ⟨_, rfl⟩
   refine TS.callP hS_ 4 39 ⟨_, Z⟩ Z (fun _ _ h => GoT.ow_rd h) (fun _ f hf => GoT.fak f hf) Z Z Z Z Z Z O Z (fun w G bs H hI hH hs hΓ => f106 w n (by omega) H hH (bs 999) c_b K0 M0 (hΓ.get 0 Z) u11 u12 u10 hs hokc_b hq10.2.1 hq10.2.2 (by first | assumption | omega | (simp; done) | (simp; omega)) hq10.1 u13 u14 u15 hu5) O O ?_
   rintro ⟨p17, c16⟩ hq11
   have q4 := len_l1Bytes c_b u11 u12 u10
   rw [hu5] at q4
   try dsimp only at q4
   refine TX.all1 5 J ?_
   refine TS.callF 5 41 (fun _ _ h => GoT.ow_rd h) (fun _ f hf => GoT.fak f hf) Z Z Z Z Z Z O Z (fun w G bs hI hΓ => f35 w (n + 1) (by omega) e1 p14 c13 (hΓ.get 34 Z) p15 c14 (hΓ.get 35 Z) p16 c15 (hΓ.get 36 Z) u13 p17 c16 (hΓ.get 39 Z) ok1 (GoT.okm (α := List UInt8) (by omega) hq11.1)) O O ?_
   rintro ⟨⟨p18, c17⟩, ⟨p19, c18⟩, ⟨p20, c19⟩⟩ hq12
   have hfx1 := pe37 (k := (n + 1)) e1 u13 ⟨(okl (ok_Name (ok_Member ok1).1)).2, (okl (ok_StateVector (ok_Member ok1).2.1)).2, (okl (ok_Member ok1).2.2).2⟩ (ok_Member ok1).1 (GoT.okm (α := List UInt8) (by omega) hq11.1)
   have r5 : (e1.name.parts).length ≤ bd (n + 1) := (okl (ok_Name (ok_Member ok1).1)).1
   have q5 := pl37 e1 u13
   have q6 := v5 _ (List.mem_of_getElem? e1h)
   unfold GB at q6
   refine TX.takes (fuel := 1) ttOk [6, 7, 8] J Z ?_
   refine TX.tail [9] Z Z J ?_
   refine R0 ?_
   refine WX.slot 45 (y := .v (.int .i64 (((u4).toNat : Nat) : Int))) Z (fun _ => congrArg (Value.int .i64) (show u4 = (((u4).toNat : Nat) : Int) from by omega)) ?_
   refine WX.opn (kk := 3) 501 31 47 Z Z Z ?_
   intro xs1 hx1
   have hr1 : (u4).toNat < (l).length := (by omega)
   refine WX.idxR 501 ((u4).toNat) ttOk Z Z Z Z Z Z Z Z Z hr1 ?_
   rintro ad2 ⟨⟩
   refine WX.opnE (α := Member) (e := e1) 501 47 48 ((u4).toNat) Z Z Z e1h O (fun _ _ _ => Z) (fun _ _ _ => Z) ?_
   rintro A1 B1 ⟨⟨p21, c20⟩, ⟨p22, c21⟩, ⟨p23, c22⟩⟩ hA1 hB1
   refine WX.stA 501 ttOk Z Z Z Z Z Z Z Z Z Z Z Z Z Z hA1 hr1 Z Z Z Z (by simp) Z ?_
   refine R0 ?_
   refine WX.see Z Z Z (fun _ hΓ => looks_arith Z Z Z Z (by unfold I64; first | omega | (simp only [List.length_take] at *; omega))) ?_
   refine R0 ?_
   have r6 : (u13).length ≤ bd n := (okl hq11.1).1
   have r7 : ((a0f e1 u13).1.name.parts).length ≤ bd (n + 4) := (okl (ok_Name (ok_Member hq12).1)).1
   have r8 : ((a0f e1 u13).1.vector.entries).length ≤ bd (n + 4) := (okl (ok_StateVector (ok_Member hq12).2.1)).1
   have r9 : ((a0f e1 u13).1.publications).length ≤ bd (n + 4) := (okl (ok_Member hq12).2.2).1
   refine WX.turn [44, 45, 46, 54, 55] 56 Z (fun h hs => cl_elem (α := Member) (e := ((a0f e1 u13).1)) (x := ((p18, c17), (p19, c18), (p20, c19))) e1i hs) (gs := [MF.ol (A1 ++ [.slice p18 (((a0f e1 u13).1.name.parts).length) c17, .slice p19 (((a0f e1 u13).1.vector.entries).length) c18, .slice p20 (((a0f e1 u13).1.publications).length) c19] ++ B1) (l.set ((u4).toNat) ((a0f e1 u13).1))]) Z ?_
   refine WX.seal 501 56 57 Z Z (show (l).length = ((l.set ((u4).toNat) ((a0f e1 u13).1))).length from by first | (simp; done) | (simp; omega)) Z Z ?_
   refine WX.slot 44 (y := .v (.slice (some ad1) ((l.set ((u4).toNat) ((a0f e1 u13).1))).length cl)) Z (fun _ => by show (Value.slice (some ad1) ((l).length) cl : Value) = Value.slice (some ad1) ((l.set ((u4).toNat) ((a0f e1 u13).1))).length cl; rw [(show (l).length = ((l.set ((u4).toNat) ((a0f e1 u13).1))).length from by first | (simp; done) | (simp; omega))]) ?_
   refine WX.slot 22 (y := .v (.slice (some ad1) ((l.set ((u4).toNat) ((a0f e1 u13).1))).length cl)) Z (fun _ => by show (Value.slice (some ad1) ((l).length) cl : Value) = Value.slice (some ad1) ((l.set ((u4).toNat) ((a0f e1 u13).1))).length cl; rw [(show (l).length = ((l.set ((u4).toNat) ((a0f e1 u13).1))).length from by first | (simp; done) | (simp; omega))]) ?_
   refine WX.slot 3 (y := .v (.slice (some ad1) ((l.set ((u4).toNat) ((a0f e1 u13).1))).length cl)) Z (fun _ => by show (Value.slice (some ad1) ((l).length) cl : Value) = Value.slice (some ad1) ((l.set ((u4).toNat) ((a0f e1 u13).1))).length cl; rw [(show (l).length = ((l.set ((u4).toNat) ((a0f e1 u13).1))).length from by first | (simp; done) | (simp; omega))]) ?_
   refine WX.turn [58] 31 Z (fun _ h => h) Z ?_
   exact WX.iter ((some ad1), cl, (l.set ((u4).toNat) ((a0f e1 u13).1)), i - 1, u14, u15) ⟨(okl_mk (by simp; omega) (all_set v1.2 (show GoT.ok (n + 1) (((a0f e1 u13).1) : Member) from (And.intro (okl_mk (by omega) hfx1.1 : GoT.ok (n + 1) ((a0f e1 u13).1.name.parts : List Str)) (And.intro (okl_mk (by omega) hfx1.2.1 : GoT.ok (n + 1) ((a0f e1 u13).1.vector.entries : List TableEntry)) (okl_mk (by omega) hfx1.2.2 : GoT.ok (n + 1) ((a0f e1 u13).1.publications : List Publication)))))) : GoT.ok (n + 1) ((l.set ((u4).toNat) ((a0f e1 u13).1)) : List Member)), (by first | assumption | omega), hq11.2.1, hq11.2.2, (by first | exact gb_set v5 (by omega) (gb_pub _ (v5 _ (List.mem_of_getElem? e1h)) (by omega)) | exact gb_set v5 (by omega) (gb_cu _ (v5 _ (List.mem_of_getElem? e1h)) (by omega))), (by simp; omega), (by rw [v7]; rw [a1x]; simp only [h1, h1d, hu2, e1h, hu3, h2, hu4, hu5, ct, cf, ↓reduceIte, Bool.false_eq_true])⟩ (by first | (dsimp only; omega) | omega) (.cons Z (.cons Z (.cons Z (.nil)))) (.cons Z (.nil)) .nil [0, 31] Z
  refine R0 ?_
  refine WX.drawY [7] mixed Z ?_
  intro bs G0 hΓ0
  refine DY.takes (fuel := 5) ttOk [(0, false), (1, true), (2, true)] J Z ?_
  refine DY.toTX ?_
  intro S_ hS_
  refine TX.all1 3 J ?_
  obtain ⟨⟨u16, u17, u18⟩, hu6⟩ : ∃ r_, a08 c_b u8 u9 3 = r_ := ⟨_, rfl⟩
  refine TS.callP (ds := fun _ => []) hS_ 3 59 ⟨_, Z⟩ Z (fun _ _ _ => All.nil) (fun _ f hf => by cases hf) Z Z Z Z Z Z O Z (fun w G bs H hI hH hs hΓ => f84 w n (by omega) H hH (bs 999) c_b K0 M0 (hΓ.get 0 Z) u8 u9 3 hs hokc_b hq9.1 hq9.2 (show I64 3 from (by unfold I64; omega)) u16 u17 u18 hu6) O O ?_
  rintro ⟨⟩ hq13
  have q7 := l1Below_rng c_b u8 u9 3
  rw [hu6] at q7
  try dsimp only at q7
  have r10 : -9223372036854775808 ≤ u16 ∧ u16 ≤ 9223372036854775807 := hq13.1
  refine TX.slot 40 (y := .v (.int .i64 (((u16).toNat : Nat) : Int))) Z (fun _ => congrArg (Value.int .i64) (show u16 = (((u16).toNat : Nat) : Int) from by omega)) ?_
  refine TX.all1 4 J ?_
  have e2i : (u16).toNat < (l).length := (by omega)
  obtain ⟨e2, e2h⟩ : ∃ e2, (l)[(u16).toNat]? = some e2 := ⟨_, List.getElem?_eq_getElem e2i⟩
  have ok2 : GoT.ok (n + 1) e2 := v1.2 _ (List.mem_of_getElem? e2h)
  refine TS.idx 4 33 ((u16).toNat) ttOk Z Z Z Z Z Z Z Z Z Z Z e2i ?_
  rintro ad3 ⟨⟩
  refine TX.all1 5 J ?_
  refine TS.ldE 5 33 60 e2 ttOk Z Z Z Z Z Z Z Z e2h O O ?_
  rintro ⟨⟨p24, c23⟩, ⟨p25, c24⟩, ⟨p26, c25⟩⟩
  refine TX.all1 6 J ?_
  refine TS.callF 6 63 (fun _ _ h => GoT.ow_rd h) (fun _ f hf => GoT.fak f hf) Z Z Z Z Z Z O Z (fun w G bs hI hΓ => f48 w (n + 1) (by omega) e1 p14 c13 (hΓ.get 34 Z) p15 c14 (hΓ.get 35 Z) p16 c15 (hΓ.get 36 Z) e2 p24 c23 (hΓ.get 60 Z) p25 c24 (hΓ.get 61 Z) p26 c25 (hΓ.get 62 Z) ok1 ok2) O O ?_
  rintro ⟨⟨p27, c26⟩, ⟨p28, c27⟩, ⟨p29, c28⟩⟩ hq14
  have hfx2 := cu37 (k := (n + 1)) e1 e2 ⟨(okl (ok_Name (ok_Member ok1).1)).2, (okl (ok_StateVector (ok_Member ok1).2.1)).2, (okl (ok_Member ok1).2.2).2⟩ ok2
  have r11 : (e1.name.parts).length ≤ bd (n + 1) := (okl (ok_Name (ok_Member ok1).1)).1
  have q8 := cl37 e1 e2
  have q9 := v5 _ (List.mem_of_getElem? e1h)
  unfold GB at q9
  refine TX.tail [7] Z Z J ?_
  refine R0 ?_
  refine WX.slot 45 (y := .v (.int .i64 (((u4).toNat : Nat) : Int))) Z (fun _ => congrArg (Value.int .i64) (show u4 = (((u4).toNat : Nat) : Int) from by omega)) ?_
  refine WX.opn (kk := 3) 502 31 69 Z Z Z ?_
  intro xs2 hx2
  have hr2 : (u4).toNat < (l).length := (by omega)
  refine WX.idxR 502 ((u4).toNat) ttOk Z Z Z Z Z Z Z Z Z hr2 ?_
  rintro ad4 ⟨⟩
  refine WX.opnE (α := Member) (e := e1) 502 69 70 ((u4).toNat) Z Z Z e1h O (fun _ _ _ => Z) (fun _ _ _ => Z) ?_
  rintro A2 B2 ⟨⟨p30, c29⟩, ⟨p31, c30⟩, ⟨p32, c31⟩⟩ hA2 hB2
  refine WX.stA 502 ttOk Z Z Z Z Z Z Z Z Z Z Z Z Z Z hA2 hr2 Z Z Z Z (by simp) Z ?_
  refine R0 ?_
  refine WX.see Z Z Z (fun _ hΓ => looks_arith Z Z Z Z (by unfold I64; first | omega | (simp only [List.length_take] at *; omega))) ?_
  refine R0 ?_
  have r12 : ((a07 e1 e2).name.parts).length ≤ bd (n + 2) := (okl (ok_Name (ok_Member hq14).1)).1
  have r13 : ((a07 e1 e2).vector.entries).length ≤ bd (n + 2) := (okl (ok_StateVector (ok_Member hq14).2.1)).1
  have r14 : ((a07 e1 e2).publications).length ≤ bd (n + 2) := (okl (ok_Member hq14).2.2).1
  refine WX.turn [66, 67, 68, 76, 77] 78 Z (fun h hs => cl_elem (α := Member) (e := (a07 e1 e2)) (x := ((p27, c26), (p28, c27), (p29, c28))) e1i hs) (gs := [MF.ol (A2 ++ [.slice p27 (((a07 e1 e2).name.parts).length) c26, .slice p28 (((a07 e1 e2).vector.entries).length) c27, .slice p29 (((a07 e1 e2).publications).length) c28] ++ B2) (l.set ((u4).toNat) (a07 e1 e2))]) Z ?_
  refine WX.seal 502 78 79 Z Z (show (l).length = ((l.set ((u4).toNat) (a07 e1 e2))).length from by first | (simp; done) | (simp; omega)) Z Z ?_
  refine WX.slot 44 (y := .v (.slice (some ad1) ((l.set ((u4).toNat) (a07 e1 e2))).length cl)) Z (fun _ => by show (Value.slice (some ad1) ((l).length) cl : Value) = Value.slice (some ad1) ((l.set ((u4).toNat) (a07 e1 e2))).length cl; rw [(show (l).length = ((l.set ((u4).toNat) (a07 e1 e2))).length from by first | (simp; done) | (simp; omega))]) ?_
  refine WX.slot 38 (y := .v (.slice (some ad1) ((l.set ((u4).toNat) (a07 e1 e2))).length cl)) Z (fun _ => by show (Value.slice (some ad1) ((l).length) cl : Value) = Value.slice (some ad1) ((l.set ((u4).toNat) (a07 e1 e2))).length cl; rw [(show (l).length = ((l.set ((u4).toNat) (a07 e1 e2))).length from by first | (simp; done) | (simp; omega))]) ?_
  refine WX.slot 22 (y := .v (.slice (some ad1) ((l.set ((u4).toNat) (a07 e1 e2))).length cl)) Z (fun _ => by show (Value.slice (some ad1) ((l).length) cl : Value) = Value.slice (some ad1) ((l.set ((u4).toNat) (a07 e1 e2))).length cl; rw [(show (l).length = ((l.set ((u4).toNat) (a07 e1 e2))).length from by first | (simp; done) | (simp; omega))]) ?_
  refine WX.slot 3 (y := .v (.slice (some ad1) ((l.set ((u4).toNat) (a07 e1 e2))).length cl)) Z (fun _ => by show (Value.slice (some ad1) ((l).length) cl : Value) = Value.slice (some ad1) ((l.set ((u4).toNat) (a07 e1 e2))).length cl; rw [(show (l).length = ((l.set ((u4).toNat) (a07 e1 e2))).length from by first | (simp; done) | (simp; omega))]) ?_
  refine WX.turn [80] 31 Z (fun _ h => h) Z ?_
  exact WX.iter ((some ad1), cl, (l.set ((u4).toNat) (a07 e1 e2)), i - 1, u17, u18) ⟨(okl_mk (by simp; omega) (all_set v1.2 (show GoT.ok (n + 1) ((a07 e1 e2) : Member) from (And.intro (okl_mk (by omega) hfx2.1 : GoT.ok (n + 1) ((a07 e1 e2).name.parts : List Str)) (And.intro (okl_mk (by omega) hfx2.2.1 : GoT.ok (n + 1) ((a07 e1 e2).vector.entries : List TableEntry)) (okl_mk (by omega) hfx2.2.2 : GoT.ok (n + 1) ((a07 e1 e2).publications : List Publication)))))) : GoT.ok (n + 1) ((l.set ((u4).toNat) (a07 e1 e2)) : List Member)), (by first | assumption | omega), hq13.2.1, hq13.2.2, (by first | exact gb_set v5 (by omega) (gb_pub _ (v5 _ (List.mem_of_getElem? e1h)) (by omega)) | exact gb_set v5 (by omega) (gb_cu _ (v5 _ (List.mem_of_getElem? e1h)) (by omega))), (by simp; omega), (by rw [v7]; rw [a1x]; simp only [h1, h1d, hu2, e1h, hu3, h2, hu6, e2h, ct, cf, ↓reduceIte, Bool.false_eq_true])⟩ (by first | (dsimp only; omega) | omega) (.cons Z (.cons Z (.cons Z (.nil)))) (.cons Z (.nil)) .nil [0, 31] Z
 have h1d := B.df h1
 refine R0 ?_
 have hX1 : a1x c_b ([(a0e (a01 (⟨#[47, 97]⟩ : Str))), (a0e (a01 (⟨#[47, 98]⟩ : Str))), (a0e (a01 (⟨#[47, 99]⟩ : Str)))] : List Member) u1 u2 u3 = (((l) : List Member), i, u999_i, u999_h) := by rw [v7]; rw [a1x]; simp only [h1, h1d, ct, cf, ↓reduceIte, Bool.false_eq_true]
 have hP1 : a2r c_b c_i c_h = (l, u999_i, u999_h) := by simp only [a2r, hu1, hX1, ct, cf]
 have hz1 := hP1.symm.trans hres
 obtain ⟨hz1, hz2⟩ := Prod.mk.inj hz1
 obtain ⟨hz2, hz3⟩ := Prod.mk.inj hz2
 subst hz1
 subst hz2
 subst hz3
 refine R1 ?_
 intro w1 G bs hI hΓ
 exact Post.ofL 999 [31] (pl, cl) hI hΓ Z Z Z (by rw [hI.pin _ rfl]; first | done | rfl) (⟨(okl_of v1), ⟨v3, v4⟩⟩)
theorem f105 (w : World) (n : Nat) (hn : n + 5 ≤ 9) (H : GH) (hH : Le H (hp w)) (bc_ : Nat) (c_b : (List UInt8)) (K0 : Option Addr) (M0 : Nat) (N0 : RdSl (cut (hp w) H) K0 M0 c_b) (c_i : Int) (c_h : Int) (hown : Sep H [MF.bx bc_ 182 [.slice K0 ((c_b).length) M0, .int .i64 (c_i), .int .i64 (c_h)]]) (hokc_b : GoT.ok n c_b) (hokc_i : NN c_i) (hokc_h : GoT.ok n c_h) (o0_ : Member) (o1_ : Int) (o2_ : Int) (hres : a1y c_b c_i c_h = (o0_, o1_, o2_)) :
 Does Tryz.prog 105 #[.pointer (some ⟨bc_, 0, none⟩)] w H (Post w H (fun x : GoT.X (Member) => .agg ⟨GoT.sh (o0_ : Member) x⟩) (fun x => MF.bx bc_ 182 [.slice K0 ((c_b).length) M0, .int .i64 (o1_), .int .i64 (o2_)] :: GoT.oa (o0_ : Member) x) (GoT.ok (n + 2) (o0_ : Member) ∧ NN (o1_) ∧ I64 (o2_))) := by
 have hbP := bd_pos n
 have hbS0 : bd (n + 1) = 4 * bd (n) := bd_succ (n := n) (by omega)
 have hbS1 : bd (n + 2) = 4 * bd (n + 1) := bd_succ (n := n + 1) (by omega)
 have hbS2 : bd (n + 3) = 4 * bd (n + 2) := bd_succ (n := n + 2) (by omega)
 have hbS3 : bd (n + 4) = 4 * bd (n + 3) := bd_succ (n := n + 3) (by omega)
 have hbS4 : bd (n + 5) = 4 * bd (n + 4) := bd_succ (n := n + 4) (by omega)
 have hbB := bd_big (n := (n + 5)) (by omega)
 have hbM := bd_mono (show n ≤ n + 5 by omega)
 have hc_bz : (c_b).length ≤ bd n := (okl hokc_b).1
 refine WX.enterP (tt := tt) (Γ := [(0, MF.rs .stb K0 M0 c_b)]) 1 Tryz.func105 Z J Z (allS_cons Z N0 allS_nil) hH hown (fun f hf => by cases hf) Z ?_
 refine R0 ?_
 obtain ⟨⟨u1, u2, u3⟩, hu1⟩ : ∃ r_, a2r c_b c_i c_h = r_ := ⟨_, rfl⟩
 refine WX.callP 999 2 Z (fun _ _ h => GoT.ow_rd h) (fun _ f hf => GoT.fak f hf) Z Z Z Z Z O Z (fun w G bs H hI hH hs hΓ => f104 w n (by omega) H hH (bs 999) c_b K0 M0 (hΓ.get 0 Z) c_i c_h hs hokc_b hokc_i hokc_h u1 u2 u3 hu1) O O ?_
 rintro ⟨p1, c1⟩ hq1
 have q1 := l28Group_len c_b c_i c_h
 rw [hu1] at q1
 try dsimp only at q1
 refine R0 ?_
 obtain ⟨⟨u4, u5, u6⟩, hu2⟩ : ∃ r_, a08 c_b u2 u3 3 = r_ := ⟨_, rfl⟩
 refine WX.callP (ds := fun _ => []) 999 4 Z (fun _ _ _ => All.nil) (fun _ f hf => by cases hf) Z Z Z Z Z O Z (fun w G bs H hI hH hs hΓ => f84 w n (by omega) H hH (bs 999) c_b K0 M0 (hΓ.get 0 Z) u2 u3 3 hs hokc_b hq1.2.1 hq1.2.2 (show I64 3 from (by unfold I64; omega)) u4 u5 u6 hu2) O O ?_
 rintro ⟨⟩ hq2
 have q2 := l1Below_rng c_b u2 u3 3
 rw [hu2] at q2
 try dsimp only at q2
 have r1 : -9223372036854775808 ≤ u4 ∧ u4 ≤ 9223372036854775807 := hq2.1
 refine WX.slot 7 (y := .v (.int .i64 (((u4).toNat : Nat) : Int))) Z (fun _ => congrArg (Value.int .i64) (show u4 = (((u4).toNat : Nat) : Int) from by omega)) ?_
 refine WX.opn (kk := 3) 501 3 5 Z Z Z ?_
 intro xs1 hx1
 have hr1 : (u4).toNat < (u1).length := (by omega)
 refine WX.idxR 501 ((u4).toNat) ttOk Z Z Z Z Z Z Z Z Z hr1 ?_
 rintro ad1 rfl
 have e1i : (u4).toNat < (u1).length := (by omega)
 obtain ⟨e1, e1h⟩ : ∃ e1, (u1)[(u4).toNat]? = some e1 := ⟨_, List.getElem?_eq_getElem e1i⟩
 have ok1 : GoT.ok (n + 1) e1 := (okl hq1.1).2 _ (List.mem_of_getElem? e1h)
 refine WX.opnE (α := Member) (e := e1) 501 5 6 ((u4).toNat) Z Z Z e1h O (fun _ _ _ => Z) (fun _ _ _ => Z) ?_
 rintro A1 B1 ⟨⟨p2, c2⟩, ⟨p3, c3⟩, ⟨p4, c4⟩⟩ hA1 hB1
 refine WX.ldA 501 ttOk Z Z Z Z Z Z Z Z Z Z hA1 hr1 Z ?_
 refine R0 ?_
 obtain ⟨⟨u7, u8, u9⟩, hu3⟩ : ∃ r_, a08 c_b u5 u6 10 = r_ := ⟨_, rfl⟩
 refine WX.callP (ds := fun _ => []) 999 14 Z (fun _ _ _ => All.nil) (fun _ f hf => by cases hf) Z Z Z Z Z O Z (fun w G bs H hI hH hs hΓ => f84 w n (by omega) H hH (bs 999) c_b K0 M0 (hΓ.get 0 Z) u5 u6 10 hs hokc_b hq2.2.1 hq2.2.2 (show I64 10 from (by unfold I64; omega)) u7 u8 u9 hu3) O O ?_
 rintro ⟨⟩ hq3
 have q3 := l1Below_rng c_b u5 u6 10
 rw [hu3] at q3
 try dsimp only at q3
 refine R0 ?_
 refine WX.cases 12 Z (fun h1 => ?_) (fun h1 => ?_)
 ·skip
  have h1d := B.et h1
  refine R0 ?_
  obtain ⟨⟨u10, u11, u12⟩, hu4⟩ : ∃ r_, a0s c_b u8 u9 = r_ := ⟨_, rfl⟩
  refine WX.callP 999 15 Z (fun _ _ h => GoT.ow_rd h) (fun _ f hf => GoT.fak f hf) Z Z Z Z Z O Z (fun w G bs H hI hH hs hΓ => f122 w n (by omega) H hH (bs 999) c_b K0 M0 (hΓ.get 0 Z) u8 u9 hs hokc_b hq3.2.1 hq3.2.2 u10 u11 u12 hu4) O O ?_
  rintro ⟨p5, c5⟩ hq4
  have q4 := l27Any_len c_b u8 u9
  rw [hu4] at q4
  try dsimp only at q4
  refine R0 ?_
  have hP1 : a1y c_b c_i c_h = (Member.mk e1.name u10 e1.publications, u11, u12) := by simp only [a1y, hu1, hu2, e1h, hu3, h1, hu4, ct, cf]
  have hz1 := hP1.symm.trans hres
  obtain ⟨hz1, hz2⟩ := Prod.mk.inj hz1
  obtain ⟨hz2, hz3⟩ := Prod.mk.inj hz2
  subst hz1
  subst hz2
  subst hz3
  refine R1 ?_
  intro w1 G bs hI hΓ
  exact Post.ofL 999 [9, 16, 11] ((p2, c2), (p5, c5), (p4, c4)) hI hΓ Z Z Z (by rw [hI.pin _ rfl]; first | done | rfl) (⟨(And.intro (GoT.okm (α := List Str) (by omega) (ok_Name (ok_Member ok1).1)) (And.intro (GoT.okm (α := List TableEntry) (by omega) (ok_StateVector hq4.1)) (GoT.okm (α := List Publication) (by omega) (ok_Member ok1).2.2))), ⟨hq4.2.1, hq4.2.2⟩⟩)
 have h1d := B.ef h1
 refine R0 ?_
 refine WX.cases 17 Z (fun h2 => ?_) (fun h2 => ?_)
 ·skip
  have h2d := B.et h2
  refine R0 ?_
  refine WX.drawY [7, 9] mixed Z ?_
  intro bs G0 hΓ0
  refine DY.takes (fuel := 7) ttOk [(0, true), (1, false), (3, true)] J Z ?_
  refine DY.toTX ?_
  intro S_ hS_
  refine TX.all1 2 J ?_
  refine TS.callF 2 17 (fun _ _ h => GoT.ow_rd h) (fun _ f hf => GoT.fak f hf) Z Z Z Z Z Z O Z (fun w G bs hI hΓ => f109 w n (by omega) (⟨#[47, 97]⟩ : Str) (Nat.le_trans (by decide) (bd_pos n))) O O ?_
  rintro ⟨p6, c6⟩ hq5
  refine TX.all1 4 J ?_
  obtain ⟨⟨u13, u14, u15⟩, hu5⟩ : ∃ r_, a08 c_b u8 u9 4 = r_ := ⟨_, rfl⟩
  refine TS.callP (ds := fun _ => []) hS_ 4 19 ⟨_, Z⟩ Z (fun _ _ _ => All.nil) (fun _ f hf => by cases hf) Z Z Z Z Z Z O Z (fun w G bs H hI hH hs hΓ => f84 w n (by omega) H hH (bs 999) c_b K0 M0 (hΓ.get 0 Z) u8 u9 4 hs hokc_b hq3.2.1 hq3.2.2 (show I64 4 from (by unfold I64; omega)) u13 u14 u15 hu5) O O ?_
  rintro ⟨⟩ hq6
  have q5 := l1Below_rng c_b u8 u9 4
  rw [hu5] at q5
  try dsimp only at q5
  refine TX.takes (fuel := 4) ttOk [5] J Z ?_
  refine TX.all1 6 J ?_
  refine TS.op 6 Z J ?_
  refine WX.bld ttOk Z Z Z Z Z Z Z ?_
  intro p7
  refine R0 ?_
  refine WX.free 21 (MF.os none 0 ([] : List UInt8)) (owSl_nil _ _) ?_
  refine WX.turn [18, 21] 20 Z (fun h hs => ol_one (α := Publication) (a := (Publication.mk (a01 (⟨#[47, 97]⟩ : Str)) u13 ([]))) (x := ((p6, c6), (), (none, 0))) hs) (gs := [MF.ol [.slice p6 (((a01 (⟨#[47, 97]⟩ : Str)).parts).length) c6, .int .i64 (u13), .slice none (0) 0] ([(Publication.mk (a01 (⟨#[47, 97]⟩ : Str)) u13 ([]))] : List Publication)]) Z ?_
  refine WX.seal 25 20 22 Z Z Z Z Z ?_
  refine WX.back0 ?_
  refine TX.all1 7 J ?_
  refine TS.op 7 Z J ?_
  refine WX.opn (kk := 3) 502 11 24 Z Z Z ?_
  intro xs2 hx2
  refine WX.opn (kk := 3) 503 23 25 Z Z Z ?_
  intro xs3 hx3
  have r2 : (⟨#[47, 97]⟩ : Str).size = 2 := rfl
  have r3 : (e1.publications).length ≤ bd (n + 1) := (okl (ok_Member ok1).2.2).1
  have r4 : -9223372036854775808 ≤ u13 ∧ u13 ≤ 9223372036854775807 := hq6.1
  refine WX.know (fun G hΓ => (hΓ.get 25 Z : OwL _ _ _).rd.one) ?_
  intro ho1
  refine WX.appR1 502 503 ((e1.publications ++ [(Publication.mk (a01 (⟨#[47, 97]⟩ : Str)) u13 ([]))]) : List Publication).length ttOk Z Z Z Z Z Z Z Z Z Z Z Z Z ho1 (by simp) (by simp; omega) (by simp; omega) (fun _ _ => Z) ?_
  intro p8 c7
  refine WX.turn [24, 25] 26 Z (fun h hs => ol_app hs) (gs := [MF.ol (xs2 ++ xs3) ((e1.publications ++ [(Publication.mk (a01 (⟨#[47, 97]⟩ : Str)) u13 ([]))]) : List Publication)]) Z ?_
  refine R0 ?_
  refine WX.back0 ?_
  refine TX.takes (fuel := 1) ttOk [8] J Z ?_
  refine TX.tail [9] Z Z J ?_
  refine R0 ?_
  refine WX.seal 502 26 27 Z Z Z Z Z ?_
  have hP2 : a1y c_b c_i c_h = (Member.mk e1.name e1.vector (e1.publications ++ [(Publication.mk (a01 (⟨#[47, 97]⟩ : Str)) u13 ([]))]), u14, u15) := by simp only [a1y, hu1, hu2, e1h, hu3, h1, h2, hu5, ct, cf]
  have hz1 := hP2.symm.trans hres
  obtain ⟨hz1, hz2⟩ := Prod.mk.inj hz1
  obtain ⟨hz2, hz3⟩ := Prod.mk.inj hz2
  subst hz1
  subst hz2
  subst hz3
  refine R1 ?_
  intro w1 G bs hI hΓ
  exact Post.ofL 999 [9, 10, 28] ((p2, c2), (p3, c3), (p8, c7)) hI hΓ Z Z Z (by rw [hI.pin _ rfl]; first | done | rfl) (⟨(And.intro (GoT.okm (α := List Str) (by omega) (ok_Name (ok_Member ok1).1)) (And.intro (GoT.okm (α := List TableEntry) (by omega) (ok_StateVector (ok_Member ok1).2.1)) (okl_mk (by simp; omega) (fun a ha => GoT.okm (show (n + 1) ≤ (n + 2) by omega) ((all_app (okl (ok_Member ok1).2.2).2 (all_cons (α := Publication) (And.intro hq5 (And.intro hq6.1 (ok_nil (α := UInt8)))) (fun a ha => by cases ha))) a ha)) : GoT.ok (n + 2) ((e1.publications ++ [(Publication.mk (a01 (⟨#[47, 97]⟩ : Str)) u13 ([]))]) : List Publication)))), ⟨hq6.2.1, hq6.2.2⟩⟩)
 have h2d := B.ef h2
 refine R0 ?_
 refine WX.cases 28 Z (fun h3 => ?_) (fun h3 => ?_)
 ·skip
  have h3d := B.et h3
  refine R0 ?_
  obtain ⟨⟨u16, u17, u18⟩, hu6⟩ : ∃ r_, a0r c_b u8 u9 = r_ := ⟨_, rfl⟩
  refine WX.callP 999 29 Z (fun _ _ h => GoT.ow_rd h) (fun _ f hf => GoT.fak f hf) Z Z Z Z Z O Z (fun w G bs H hI hH hs hΓ => f123 w n (by omega) H hH (bs 999) c_b K0 M0 (hΓ.get 0 Z) u8 u9 hs hokc_b hq3.2.1 hq3.2.2 u16 u17 u18 hu6) O O ?_
  rintro ⟨p9, c8⟩ hq7
  have q6 := l4Any_len c_b u8 u9
  rw [hu6] at q6
  try dsimp only at q6
  refine R0 ?_
  have hP3 : a1y c_b c_i c_h = (Member.mk u16 e1.vector e1.publications, u17, u18) := by simp only [a1y, hu1, hu2, e1h, hu3, h1, h2, h3, hu6, ct, cf]
  have hz1 := hP3.symm.trans hres
  obtain ⟨hz1, hz2⟩ := Prod.mk.inj hz1
  obtain ⟨hz2, hz3⟩ := Prod.mk.inj hz2
  subst hz1
  subst hz2
  subst hz3
  refine R1 ?_
  intro w1 G bs hI hΓ
  exact Post.ofL 999 [30, 10, 11] ((p9, c8), (p3, c3), (p4, c4)) hI hΓ Z Z Z (by rw [hI.pin _ rfl]; first | done | rfl) (⟨(And.intro (GoT.okm (α := List Str) (by omega) (ok_Name hq7.1)) (And.intro (GoT.okm (α := List TableEntry) (by omega) (ok_StateVector (ok_Member ok1).2.1)) (GoT.okm (α := List Publication) (by omega) (ok_Member ok1).2.2))), ⟨hq7.2.1, hq7.2.2⟩⟩)
 have h3d := B.ef h3
 refine R0 ?_
 have hP4 : a1y c_b c_i c_h = (e1, u8, u9) := by simp only [a1y, hu1, hu2, e1h, hu3, h1, h2, h3, ct, cf]
 have hz1 := hP4.symm.trans hres
 obtain ⟨hz1, hz2⟩ := Prod.mk.inj hz1
 obtain ⟨hz2, hz3⟩ := Prod.mk.inj hz2
 subst hz1
 subst hz2
 subst hz3
 refine R1 ?_
 intro w1 G bs hI hΓ
 exact Post.ofL 999 [9, 10, 11] ((p2, c2), (p3, c3), (p4, c4)) hI hΓ Z Z Z (by rw [hI.pin _ rfl]; first | done | rfl) (⟨(And.intro (GoT.okm (α := List Str) (by omega) (ok_Name (ok_Member ok1).1)) (And.intro (GoT.okm (α := List TableEntry) (by omega) (ok_StateVector (ok_Member ok1).2.1)) (GoT.okm (α := List Publication) (by omega) (ok_Member ok1).2.2))), ⟨hq3.2.1, hq3.2.2⟩⟩)
theorem f32 (w : World) (n : Nat) (hn : n + 5 ≤ 9) (code : (List UInt8)) (K0 : Option Addr) (M0 : Nat) (N0 : RdSl (hp w) K0 M0 code) (hokcode : GoT.ok n code) :
 Does Tryz.prog 32 #[.slice K0 ((code).length) M0] w emp (Post w emp (fun x : GoT.X ((List Member)) => (GoT.sh ((a1p code) : (List Member)) x).headD undef) (fun x => GoT.oa ((a1p code) : (List Member)) x) (GoT.ok (n + 1) ((a1p code) : (List Member)))) := by
 have hbP := bd_pos n
 have hbS0 : bd (n + 1) = 4 * bd (n) := bd_succ (n := n) (by omega)
 have hbS1 : bd (n + 2) = 4 * bd (n + 1) := bd_succ (n := n + 1) (by omega)
 have hbS2 : bd (n + 3) = 4 * bd (n + 2) := bd_succ (n := n + 2) (by omega)
 have hbS3 : bd (n + 4) = 4 * bd (n + 3) := bd_succ (n := n + 3) (by omega)
 have hbS4 : bd (n + 5) = 4 * bd (n + 4) := bd_succ (n := n + 4) (by omega)
 have hbB := bd_big (n := (n + 5)) (by omega)
 have hbM := bd_mono (show n ≤ n + 5 by omega)
 refine WX.enter (tt := tt) (Γ := [(0, MF.rs .stb K0 M0 code)]) Tryz.func32 Z J Z (allS_cons Z N0 allS_nil) ?_
 refine R0 ?_
 obtain ⟨⟨u1, u2⟩, hu1⟩ : ∃ r_, a1n code = r_ := ⟨_, rfl⟩
 refine WX.callF (ds := fun _ => []) 1 (fun _ _ _ => All.nil) (fun _ f hf => by cases hf) Z Z Z Z Z O Z (fun w G bs hI hΓ => f76 w n (by omega) code K0 M0 (hΓ.get 0 Z) hokcode u1 u2 hu1) O O ?_
 rintro bn1 hq1
 refine WX.adopt 5 1 Z Z Z ?_
 refine R0 ?_
 obtain ⟨⟨u3, u4, u5⟩, hu2⟩ : ∃ r_, a2r code u1 u2 = r_ := ⟨_, rfl⟩
 refine WX.callP 5 2 Z (fun _ _ h => GoT.ow_rd h) (fun _ f hf => GoT.fak f hf) Z Z Z Z Z O Z (fun w G bs H hI hH hs hΓ => f104 w n (by omega) H hH (bs 5) code K0 M0 (hΓ.get 0 Z) u1 u2 hs hokcode hq1.1 hq1.2 u3 u4 u5 hu2) O O ?_
 rintro ⟨p1, c1⟩ hq2
 have q1 := l28Group_len code u1 u2
 rw [hu2] at q1
 try dsimp only at q1
 refine R0 ?_
 have hP1 : a1p code = u3 := by simp only [a1p, hu1, hu2, ct, cf]
 refine R1 ?_
 intro w1 G bs hI hΓ
 rw [hP1]
 exact Post.of [3] (p1, c1) hI hΓ Z Z Z hq2.1
theorem f36 (w : World) (n : Nat) (hn : n + 5 ≤ 9) (code : (List UInt8)) (K0 : Option Addr) (M0 : Nat) (N0 : RdSl (hp w) K0 M0 code) (hokcode : GoT.ok n code) :
 Does Tryz.prog 36 #[.slice K0 ((code).length) M0] w emp (Post w emp (fun x : GoT.X (Member × Publication) => .tuple #[.agg ⟨GoT.sh ((a05 code).1 : Member) x.1⟩, .agg ⟨GoT.sh ((a05 code).2 : Publication) x.2⟩]) (fun x => GoT.oa (((a05 code).1, (a05 code).2) : Member × Publication) x) (GoT.ok (n + 2) ((a05 code).1 : Member) ∧ GoT.ok (n + 2) ((a05 code).2 : Publication))) := by
 have hbP := bd_pos n
 have hbS0 : bd (n + 1) = 4 * bd (n) := bd_succ (n := n) (by omega)
 have hbS1 : bd (n + 2) = 4 * bd (n + 1) := bd_succ (n := n + 1) (by omega)
 have hbS2 : bd (n + 3) = 4 * bd (n + 2) := bd_succ (n := n + 2) (by omega)
 have hbS3 : bd (n + 4) = 4 * bd (n + 3) := bd_succ (n := n + 3) (by omega)
 have hbS4 : bd (n + 5) = 4 * bd (n + 4) := bd_succ (n := n + 4) (by omega)
 have hbB := bd_big (n := (n + 5)) (by omega)
 have hbM := bd_mono (show n ≤ n + 5 by omega)
 refine WX.enter (tt := tt) (Γ := [(0, MF.rs .stb K0 M0 code)]) Tryz.func36 Z J Z (allS_cons Z N0 allS_nil) ?_
 refine R0 ?_
 obtain ⟨⟨u1, u2⟩, hu1⟩ : ∃ r_, a1n code = r_ := ⟨_, rfl⟩
 refine WX.callF (ds := fun _ => []) 1 (fun _ _ _ => All.nil) (fun _ f hf => by cases hf) Z Z Z Z Z O Z (fun w G bs hI hΓ => f76 w n (by omega) code K0 M0 (hΓ.get 0 Z) hokcode u1 u2 hu1) O O ?_
 rintro bn1 hq1
 refine WX.adopt 9 1 Z Z Z ?_
 refine R0 ?_
 obtain ⟨⟨u3, u4, u5⟩, hu2⟩ : ∃ r_, a1y code u1 u2 = r_ := ⟨_, rfl⟩
 refine WX.callP 9 2 Z (fun _ _ h => GoT.ow_rd h) (fun _ f hf => GoT.fak f hf) Z Z Z Z Z O Z (fun w G bs H hI hH hs hΓ => f105 w n (by omega) H hH (bs 9) code K0 M0 (hΓ.get 0 Z) u1 u2 hs hokcode hq1.1 hq1.2 u3 u4 u5 hu2) O O ?_
 rintro ⟨⟨p1, c1⟩, ⟨p2, c2⟩, ⟨p3, c3⟩⟩ hq2
 refine R0 ?_
 refine WX.bld ttOk Z Z Z Z Z Z Z ?_
 intro p4
 refine WX.turn [] 8 Z (fun h hs => one_sep (⟨(), _, emp, _, Z, emp_le _, Le.refl _, emp_dj _, trivial, ⟨(), _, emp, _, Z, emp_le _, Le.refl _, emp_dj _, trivial, ⟨(), _, emp, _, Z, emp_le _, Le.refl _, emp_dj _, trivial, Z⟩⟩⟩ : OwL _ _ ([(⟨#[47, 97]⟩ : Str), (⟨#[47, 98]⟩ : Str), (⟨#[47, 100]⟩ : Str)] : List Str))) (gs := [MF.ol [.string (⟨#[47, 97]⟩ : Str), .string (⟨#[47, 98]⟩ : Str), .string (⟨#[47, 100]⟩ : Str)] ([(⟨#[47, 97]⟩ : Str), (⟨#[47, 98]⟩ : Str), (⟨#[47, 100]⟩ : Str)] : List Str)]) Z ?_
 refine WX.seal 13 8 9 Z Z Z Z Z ?_
 have r1 : (⟨#[47, 97]⟩ : Str).size = 2 := rfl
 have r2 : (⟨#[47, 98]⟩ : Str).size = 2 := rfl
 have r3 : (⟨#[47, 100]⟩ : Str).size = 2 := rfl
 obtain ⟨⟨u6, u7, u8⟩, hu3⟩ : ∃ r_, a1o code u4 u5 ([(⟨#[47, 97]⟩ : Str), (⟨#[47, 98]⟩ : Str), (⟨#[47, 100]⟩ : Str)]) = r_ := ⟨_, rfl⟩
 refine WX.callP (ds := fun _ => []) 9 11 Z (fun _ _ _ => All.nil) (fun _ f hf => by cases hf) Z Z Z Z Z O Z (fun w G bs H hI hH hs hΓ => f110 w n (by omega) H hH (bs 9) code K0 M0 (hΓ.get 0 Z) u4 u5 ([(⟨#[47, 97]⟩ : Str), (⟨#[47, 98]⟩ : Str), (⟨#[47, 100]⟩ : Str)]) p4 3 (hΓ.get 9 Z) hs hokcode hq2.2.1 hq2.2.2 (by first | assumption | omega | (simp; done) | (simp; omega)) (okl_mk (by simp; omega) (all_cons (α := Str) (Nat.le_trans (by decide) (bd_pos n)) (all_cons (α := Str) (Nat.le_trans (by decide) (bd_pos n)) (all_cons (α := Str) (Nat.le_trans (by decide) (bd_pos n)) (fun a ha => by cases ha)))) : GoT.ok n ([(⟨#[47, 97]⟩ : Str), (⟨#[47, 98]⟩ : Str), (⟨#[47, 100]⟩ : Str)] : List Str)) u6 u7 u8 hu3) O O ?_
 rintro ⟨⟩ hq3
 refine WX.callF 12 (fun _ _ h => GoT.ow_rd h) (fun _ f hf => GoT.fak f hf) Z Z Z Z Z O Z (fun w G bs hI hΓ => f109 w n (by omega) u6 hq3.1) O O ?_
 rintro ⟨p5, c4⟩ hq4
 refine R0 ?_
 refine WX.der 14 (MF.rs .der p2 c2 u3.vector.entries) Z (fun _ hΓ => (hΓ.get 6 Z : OwSl _ _ _ _).rd) ?_
 refine WX.callV Z Z Z Z Z O Z (fun w G bs hI hΓ => f108 w (n + 2) (by omega) u3.vector p2 c2 (hΓ.get 14 Z) (a01 u6) p5 c4 (hΓ.get 12 Z) ((ok_Member hq2.1).2.1) (GoT.okm (α := List Str) (by omega) (ok_Name hq4))) ?_
 intro hq5
 refine WX.see Z Z Z (fun _ hΓ => looks_wrap Z Z Z Z) ?_
 refine R0 ?_
 obtain ⟨⟨u9, u10, u11⟩, hu4⟩ : ∃ r_, a33 code u7 u8 4 = r_ := ⟨_, rfl⟩
 refine WX.callP (ds := fun _ => []) 9 15 Z (fun _ _ _ => All.nil) (fun _ f hf => by cases hf) Z Z Z Z Z O Z (fun w G bs H hI hH hs hΓ => f111 w n (by omega) H hH (bs 9) code K0 M0 (hΓ.get 0 Z) u7 u8 4 hs hokcode hq3.2.1 hq3.2.2 (show I64 4 from (by unfold I64; omega)) u9 u10 u11 hu4) O O ?_
 rintro ⟨⟩ hq6
 refine R0 ?_
 refine WX.cases 22 Z (fun h1 => ?_) (fun h1 => ?_)
 ·skip
  refine R0 ?_
  obtain ⟨⟨u12, u13, u14⟩, hu5⟩ : ∃ r_, a08 code u10 u11 4 = r_ := ⟨_, rfl⟩
  refine WX.callP (ds := fun _ => []) 9 16 Z (fun _ _ _ => All.nil) (fun _ f hf => by cases hf) Z Z Z Z Z O Z (fun w G bs H hI hH hs hΓ => f84 w n (by omega) H hH (bs 9) code K0 M0 (hΓ.get 0 Z) u10 u11 4 hs hokcode hq6.1 hq6.2 (show I64 4 from (by unfold I64; omega)) u12 u13 u14 hu5) O O ?_
  rintro ⟨⟩ hq7
  have q1 := l1Below_rng code u10 u11 4
  rw [hu5] at q1
  try dsimp only at q1
  refine R0 ?_
  refine WX.der 17 (MF.rs .der p1 c1 u3.name.parts) Z (fun _ hΓ => (hΓ.get 5 Z : OwSl _ _ _ _).rd) ?_
  refine WX.der 18 (MF.rs .der p3 c3 u3.publications) Z (fun _ hΓ => (hΓ.get 7 Z : OwSl _ _ _ _).rd) ?_
  refine WX.draw [0, 1, 4, 5, 6, 7] mixed ?_
  intro bs G0 hΓ0
  refine DX.takes (fuel := 6) ttOk [(2, true), (3, true)] J Z ?_
  refine DX.toTX ?_
  intro S_
  refine TX.all3 0 1 4 J ?_ ?_ ?_
  ·skip
   refine TS.op 0 Z J ?_
   refine R0 ?_
   refine WX.back0 ?_
   refine TX.all2 1 4 J ?_ ?_
   ·skip
    refine TS.op 1 Z J ?_
    refine R0 ?_
    refine WX.back0 ?_
    refine TX.all1 4 J ?_
    refine TS.op 4 Z J ?_
    obtain ⟨⟨u15, u16, u17⟩, hu6⟩ : ∃ r_, a19 code u13 u14 1 = r_ := ⟨_, rfl⟩
    refine WX.callP 9 19 Z (fun _ _ h => GoT.ow_rd h) (fun _ f hf => GoT.fak f hf) Z Z Z Z Z O Z (fun w G bs H hI hH hs hΓ => f106 w n (by omega) H hH (bs 9) code K0 M0 (hΓ.get 0 Z) u13 u14 1 hs hokcode hq7.2.1 hq7.2.2 (by first | assumption | omega | (simp; done) | (simp; omega)) (show I64 1 from (by unfold I64; omega)) u15 u16 u17 hu6) O O ?_
    rintro ⟨p6, c5⟩ hq8
    have q2 := len_l1Bytes code u13 u14 1
    rw [hu6] at q2
    try dsimp only at q2
    refine R0 ?_
    refine WX.back0 ?_
    refine TX.all2 5 6 J ?_ ?_
    ·skip
     refine TS.op 5 Z J ?_
     refine R0 ?_
     refine WX.back0 ?_
     refine TX.tail [6, 7] Z Z J ?_
     refine R0 ?_
     have hP1 : a05 code = (u3, Publication.mk (a01 u6) u12 u15) := by simp only [a05, hu1, hu2, hu3, hu4, h1, hu5, hu6, ct, cf]
     refine R1 ?_
     intro w1 G bs hI hΓ
     rw [hP1]
     exact Post.of [5, 6, 7, 13, 20] (((p1, c1), (p2, c2), (p3, c3)), ((p5, c4), (), (p6, c5))) hI hΓ Z Z Z (⟨hq2.1, (And.intro (GoT.okm (α := List Str) (by omega) (ok_Name hq4)) (And.intro hq7.1 (GoT.okm (α := List UInt8) (by omega) hq8.1)))⟩)
    refine TS.op 6 Z J ?_
    refine R0 ?_
    refine WX.back0 ?_
    refine TX.tail [5, 7] Z Z J ?_
    refine R0 ?_
    have hP2 : a05 code = (u3, Publication.mk (a01 u6) u12 u15) := by simp only [a05, hu1, hu2, hu3, hu4, h1, hu5, hu6, ct, cf]
    refine R1 ?_
    intro w1 G bs hI hΓ
    rw [hP2]
    exact Post.of [5, 6, 7, 13, 20] (((p1, c1), (p2, c2), (p3, c3)), ((p5, c4), (), (p6, c5))) hI hΓ Z Z Z (⟨hq2.1, (And.intro (GoT.okm (α := List Str) (by omega) (ok_Name hq4)) (And.intro hq7.1 (GoT.okm (α := List UInt8) (by omega) hq8.1)))⟩)
   refine TS.op 4 Z J ?_
   obtain ⟨⟨u18, u19, u20⟩, hu7⟩ : ∃ r_, a19 code u13 u14 1 = r_ := ⟨_, rfl⟩
   refine WX.callP 9 21 Z (fun _ _ h => GoT.ow_rd h) (fun _ f hf => GoT.fak f hf) Z Z Z Z Z O Z (fun w G bs H hI hH hs hΓ => f106 w n (by omega) H hH (bs 9) code K0 M0 (hΓ.get 0 Z) u13 u14 1 hs hokcode hq7.2.1 hq7.2.2 (by first | assumption | omega | (simp; done) | (simp; omega)) (show I64 1 from (by unfold I64; omega)) u18 u19 u20 hu7) O O ?_
   rintro ⟨p7, c6⟩ hq9
   have q3 := len_l1Bytes code u13 u14 1
   rw [hu7] at q3
   try dsimp only at q3
   refine R0 ?_
   refine WX.back0 ?_
   refine TX.all2 1 6 J ?_ ?_
   ·skip
    refine TS.op 1 Z J ?_
    refine R0 ?_
    refine WX.back0 ?_
    refine TX.all2 5 6 J ?_ ?_
    ·skip
     refine TS.op 5 Z J ?_
     refine R0 ?_
     refine WX.back0 ?_
     refine TX.tail [6, 7] Z Z J ?_
     refine R0 ?_
     have hP3 : a05 code = (u3, Publication.mk (a01 u6) u12 u18) := by simp only [a05, hu1, hu2, hu3, hu4, h1, hu5, hu7, ct, cf]
     refine R1 ?_
     intro w1 G bs hI hΓ
     rw [hP3]
     exact Post.of [5, 6, 7, 13, 22] (((p1, c1), (p2, c2), (p3, c3)), ((p5, c4), (), (p7, c6))) hI hΓ Z Z Z (⟨hq2.1, (And.intro (GoT.okm (α := List Str) (by omega) (ok_Name hq4)) (And.intro hq7.1 (GoT.okm (α := List UInt8) (by omega) hq9.1)))⟩)
    refine TS.op 6 Z J ?_
    refine R0 ?_
    refine WX.back0 ?_
    refine TX.tail [5, 7] Z Z J ?_
    refine R0 ?_
    have hP4 : a05 code = (u3, Publication.mk (a01 u6) u12 u18) := by simp only [a05, hu1, hu2, hu3, hu4, h1, hu5, hu7, ct, cf]
    refine R1 ?_
    intro w1 G bs hI hΓ
    rw [hP4]
    exact Post.of [5, 6, 7, 13, 22] (((p1, c1), (p2, c2), (p3, c3)), ((p5, c4), (), (p7, c6))) hI hΓ Z Z Z (⟨hq2.1, (And.intro (GoT.okm (α := List Str) (by omega) (ok_Name hq4)) (And.intro hq7.1 (GoT.okm (α := List UInt8) (by omega) hq9.1)))⟩)
   refine TS.op 6 Z J ?_
   refine R0 ?_
   refine WX.back0 ?_
   refine TX.tail [1, 5, 7] Z Z J ?_
   refine R0 ?_
   have hP5 : a05 code = (u3, Publication.mk (a01 u6) u12 u18) := by simp only [a05, hu1, hu2, hu3, hu4, h1, hu5, hu7, ct, cf]
   refine R1 ?_
   intro w1 G bs hI hΓ
   rw [hP5]
   exact Post.of [5, 6, 7, 13, 22] (((p1, c1), (p2, c2), (p3, c3)), ((p5, c4), (), (p7, c6))) hI hΓ Z Z Z (⟨hq2.1, (And.intro (GoT.okm (α := List Str) (by omega) (ok_Name hq4)) (And.intro hq7.1 (GoT.okm (α := List UInt8) (by omega) hq9.1)))⟩)
  ·skip
   refine TS.op 1 Z J ?_
   refine R0 ?_
   refine WX.back0 ?_
   refine TX.all2 0 4 J ?_ ?_
   ·skip
    refine TS.op 0 Z J ?_
    refine R0 ?_
    refine WX.back0 ?_
    refine TX.all1 4 J ?_
    refine TS.op 4 Z J ?_
    obtain ⟨⟨u21, u22, u23⟩, hu8⟩ : ∃ r_, a19 code u13 u14 1 = r_ := ⟨_, rfl⟩
    refine WX.callP 9 23 Z (fun _ _ h => GoT.ow_rd h) (fun _ f hf => GoT.fak f hf) Z Z Z Z Z O Z (fun w G bs H hI hH hs hΓ => f106 w n (by omega) H hH (bs 9) code K0 M0 (hΓ.get 0 Z) u13 u14 1 hs hokcode hq7.2.1 hq7.2.2 (by first | assumption | omega | (simp; done) | (simp; omega)) (show I64 1 from (by unfold I64; omega)) u21 u22 u23 hu8) O O ?_
    rintro ⟨p8, c7⟩ hq10
    have q4 := len_l1Bytes code u13 u14 1
    rw [hu8] at q4
    try dsimp only at q4
    refine R0 ?_
    refine WX.back0 ?_
    refine TX.all2 5 6 J ?_ ?_
    ·skip
     refine TS.op 5 Z J ?_
     refine R0 ?_
     refine WX.back0 ?_
     refine TX.tail [6, 7] Z Z J ?_
     refine R0 ?_
     have hP6 : a05 code = (u3, Publication.mk (a01 u6) u12 u21) := by simp only [a05, hu1, hu2, hu3, hu4, h1, hu5, hu8, ct, cf]
     refine R1 ?_
     intro w1 G bs hI hΓ
     rw [hP6]
     exact Post.of [5, 6, 7, 13, 24] (((p1, c1), (p2, c2), (p3, c3)), ((p5, c4), (), (p8, c7))) hI hΓ Z Z Z (⟨hq2.1, (And.intro (GoT.okm (α := List Str) (by omega) (ok_Name hq4)) (And.intro hq7.1 (GoT.okm (α := List UInt8) (by omega) hq10.1)))⟩)
    refine TS.op 6 Z J ?_
    refine R0 ?_
    refine WX.back0 ?_
    refine TX.tail [5, 7] Z Z J ?_
    refine R0 ?_
    have hP7 : a05 code = (u3, Publication.mk (a01 u6) u12 u21) := by simp only [a05, hu1, hu2, hu3, hu4, h1, hu5, hu8, ct, cf]
    refine R1 ?_
    intro w1 G bs hI hΓ
    rw [hP7]
    exact Post.of [5, 6, 7, 13, 24] (((p1, c1), (p2, c2), (p3, c3)), ((p5, c4), (), (p8, c7))) hI hΓ Z Z Z (⟨hq2.1, (And.intro (GoT.okm (α := List Str) (by omega) (ok_Name hq4)) (And.intro hq7.1 (GoT.okm (α := List UInt8) (by omega) hq10.1)))⟩)
   refine TS.op 4 Z J ?_
   obtain ⟨⟨u24, u25, u26⟩, hu9⟩ : ∃ r_, a19 code u13 u14 1 = r_ := ⟨_, rfl⟩
   refine WX.callP 9 25 Z (fun _ _ h => GoT.ow_rd h) (fun _ f hf => GoT.fak f hf) Z Z Z Z Z O Z (fun w G bs H hI hH hs hΓ => f106 w n (by omega) H hH (bs 9) code K0 M0 (hΓ.get 0 Z) u13 u14 1 hs hokcode hq7.2.1 hq7.2.2 (by first | assumption | omega | (simp; done) | (simp; omega)) (show I64 1 from (by unfold I64; omega)) u24 u25 u26 hu9) O O ?_
   rintro ⟨p9, c8⟩ hq11
   have q5 := len_l1Bytes code u13 u14 1
   rw [hu9] at q5
   try dsimp only at q5
   refine R0 ?_
   refine WX.back0 ?_
   refine TX.all2 0 5 J ?_ ?_
   ·skip
    refine TS.op 0 Z J ?_
    refine R0 ?_
    refine WX.back0 ?_
    refine TX.all2 5 6 J ?_ ?_
    ·skip
     refine TS.op 5 Z J ?_
     refine R0 ?_
     refine WX.back0 ?_
     refine TX.tail [6, 7] Z Z J ?_
     refine R0 ?_
     have hP8 : a05 code = (u3, Publication.mk (a01 u6) u12 u24) := by simp only [a05, hu1, hu2, hu3, hu4, h1, hu5, hu9, ct, cf]
     refine R1 ?_
     intro w1 G bs hI hΓ
     rw [hP8]
     exact Post.of [5, 6, 7, 13, 26] (((p1, c1), (p2, c2), (p3, c3)), ((p5, c4), (), (p9, c8))) hI hΓ Z Z Z (⟨hq2.1, (And.intro (GoT.okm (α := List Str) (by omega) (ok_Name hq4)) (And.intro hq7.1 (GoT.okm (α := List UInt8) (by omega) hq11.1)))⟩)
    refine TS.op 6 Z J ?_
    refine R0 ?_
    refine WX.back0 ?_
    refine TX.tail [5, 7] Z Z J ?_
    refine R0 ?_
    have hP9 : a05 code = (u3, Publication.mk (a01 u6) u12 u24) := by simp only [a05, hu1, hu2, hu3, hu4, h1, hu5, hu9, ct, cf]
    refine R1 ?_
    intro w1 G bs hI hΓ
    rw [hP9]
    exact Post.of [5, 6, 7, 13, 26] (((p1, c1), (p2, c2), (p3, c3)), ((p5, c4), (), (p9, c8))) hI hΓ Z Z Z (⟨hq2.1, (And.intro (GoT.okm (α := List Str) (by omega) (ok_Name hq4)) (And.intro hq7.1 (GoT.okm (α := List UInt8) (by omega) hq11.1)))⟩)
   refine TS.op 5 Z J ?_
   refine R0 ?_
   refine WX.back0 ?_
   refine TX.tail [0, 6, 7] Z Z J ?_
   refine R0 ?_
   have hP10 : a05 code = (u3, Publication.mk (a01 u6) u12 u24) := by simp only [a05, hu1, hu2, hu3, hu4, h1, hu5, hu9, ct, cf]
   refine R1 ?_
   intro w1 G bs hI hΓ
   rw [hP10]
   exact Post.of [5, 6, 7, 13, 26] (((p1, c1), (p2, c2), (p3, c3)), ((p5, c4), (), (p9, c8))) hI hΓ Z Z Z (⟨hq2.1, (And.intro (GoT.okm (α := List Str) (by omega) (ok_Name hq4)) (And.intro hq7.1 (GoT.okm (α := List UInt8) (by omega) hq11.1)))⟩)
  refine TS.op 4 Z J ?_
  obtain ⟨⟨u27, u28, u29⟩, hu10⟩ : ∃ r_, a19 code u13 u14 1 = r_ := ⟨_, rfl⟩
  refine WX.callP 9 27 Z (fun _ _ h => GoT.ow_rd h) (fun _ f hf => GoT.fak f hf) Z Z Z Z Z O Z (fun w G bs H hI hH hs hΓ => f106 w n (by omega) H hH (bs 9) code K0 M0 (hΓ.get 0 Z) u13 u14 1 hs hokcode hq7.2.1 hq7.2.2 (by first | assumption | omega | (simp; done) | (simp; omega)) (show I64 1 from (by unfold I64; omega)) u27 u28 u29 hu10) O O ?_
  rintro ⟨p10, c9⟩ hq12
  have q6 := len_l1Bytes code u13 u14 1
  rw [hu10] at q6
  try dsimp only at q6
  refine R0 ?_
  refine WX.back0 ?_
  refine TX.all2 0 1 J ?_ ?_
  ·skip
   refine TS.op 0 Z J ?_
   refine R0 ?_
   refine WX.back0 ?_
   refine TX.all2 1 6 J ?_ ?_
   ·skip
    refine TS.op 1 Z J ?_
    refine R0 ?_
    refine WX.back0 ?_
    refine TX.all2 5 6 J ?_ ?_
    ·skip
     refine TS.op 5 Z J ?_
     refine R0 ?_
     refine WX.back0 ?_
     refine TX.tail [6, 7] Z Z J ?_
     refine R0 ?_
     have hP11 : a05 code = (u3, Publication.mk (a01 u6) u12 u27) := by simp only [a05, hu1, hu2, hu3, hu4, h1, hu5, hu10, ct, cf]
     refine R1 ?_
     intro w1 G bs hI hΓ
     rw [hP11]
     exact Post.of [5, 6, 7, 13, 28] (((p1, c1), (p2, c2), (p3, c3)), ((p5, c4), (), (p10, c9))) hI hΓ Z Z Z (⟨hq2.1, (And.intro (GoT.okm (α := List Str) (by omega) (ok_Name hq4)) (And.intro hq7.1 (GoT.okm (α := List UInt8) (by omega) hq12.1)))⟩)
    refine TS.op 6 Z J ?_
    refine R0 ?_
    refine WX.back0 ?_
    refine TX.tail [5, 7] Z Z J ?_
    refine R0 ?_
    have hP12 : a05 code = (u3, Publication.mk (a01 u6) u12 u27) := by simp only [a05, hu1, hu2, hu3, hu4, h1, hu5, hu10, ct, cf]
    refine R1 ?_
    intro w1 G bs hI hΓ
    rw [hP12]
    exact Post.of [5, 6, 7, 13, 28] (((p1, c1), (p2, c2), (p3, c3)), ((p5, c4), (), (p10, c9))) hI hΓ Z Z Z (⟨hq2.1, (And.intro (GoT.okm (α := List Str) (by omega) (ok_Name hq4)) (And.intro hq7.1 (GoT.okm (α := List UInt8) (by omega) hq12.1)))⟩)
   refine TS.op 6 Z J ?_
   refine R0 ?_
   refine WX.back0 ?_
   refine TX.tail [1, 5, 7] Z Z J ?_
   refine R0 ?_
   have hP13 : a05 code = (u3, Publication.mk (a01 u6) u12 u27) := by simp only [a05, hu1, hu2, hu3, hu4, h1, hu5, hu10, ct, cf]
   refine R1 ?_
   intro w1 G bs hI hΓ
   rw [hP13]
   exact Post.of [5, 6, 7, 13, 28] (((p1, c1), (p2, c2), (p3, c3)), ((p5, c4), (), (p10, c9))) hI hΓ Z Z Z (⟨hq2.1, (And.intro (GoT.okm (α := List Str) (by omega) (ok_Name hq4)) (And.intro hq7.1 (GoT.okm (α := List UInt8) (by omega) hq12.1)))⟩)
  refine TS.op 1 Z J ?_
  refine R0 ?_
  refine WX.back0 ?_
  refine TX.all2 0 5 J ?_ ?_
  ·skip
   refine TS.op 0 Z J ?_
   refine R0 ?_
   refine WX.back0 ?_
   refine TX.all2 5 6 J ?_ ?_
   ·skip
    refine TS.op 5 Z J ?_
    refine R0 ?_
    refine WX.back0 ?_
    refine TX.tail [6, 7] Z Z J ?_
    refine R0 ?_
    have hP14 : a05 code = (u3, Publication.mk (a01 u6) u12 u27) := by simp only [a05, hu1, hu2, hu3, hu4, h1, hu5, hu10, ct, cf]
    refine R1 ?_
    intro w1 G bs hI hΓ
    rw [hP14]
    exact Post.of [5, 6, 7, 13, 28] (((p1, c1), (p2, c2), (p3, c3)), ((p5, c4), (), (p10, c9))) hI hΓ Z Z Z (⟨hq2.1, (And.intro (GoT.okm (α := List Str) (by omega) (ok_Name hq4)) (And.intro hq7.1 (GoT.okm (α := List UInt8) (by omega) hq12.1)))⟩)
   refine TS.op 6 Z J ?_
   refine R0 ?_
   refine WX.back0 ?_
   refine TX.tail [5, 7] Z Z J ?_
   refine R0 ?_
   have hP15 : a05 code = (u3, Publication.mk (a01 u6) u12 u27) := by simp only [a05, hu1, hu2, hu3, hu4, h1, hu5, hu10, ct, cf]
   refine R1 ?_
   intro w1 G bs hI hΓ
   rw [hP15]
   exact Post.of [5, 6, 7, 13, 28] (((p1, c1), (p2, c2), (p3, c3)), ((p5, c4), (), (p10, c9))) hI hΓ Z Z Z (⟨hq2.1, (And.intro (GoT.okm (α := List Str) (by omega) (ok_Name hq4)) (And.intro hq7.1 (GoT.okm (α := List UInt8) (by omega) hq12.1)))⟩)
  refine TS.op 5 Z J ?_
  refine R0 ?_
  refine WX.back0 ?_
  refine TX.tail [0, 6, 7] Z Z J ?_
  refine R0 ?_
  have hP16 : a05 code = (u3, Publication.mk (a01 u6) u12 u27) := by simp only [a05, hu1, hu2, hu3, hu4, h1, hu5, hu10, ct, cf]
  refine R1 ?_
  intro w1 G bs hI hΓ
  rw [hP16]
  exact Post.of [5, 6, 7, 13, 28] (((p1, c1), (p2, c2), (p3, c3)), ((p5, c4), (), (p10, c9))) hI hΓ Z Z Z (⟨hq2.1, (And.intro (GoT.okm (α := List Str) (by omega) (ok_Name hq4)) (And.intro hq7.1 (GoT.okm (α := List UInt8) (by omega) hq12.1)))⟩)
 refine R0 ?_
 refine WX.der 29 (MF.rs .der p1 c1 u3.name.parts) Z (fun _ hΓ => (hΓ.get 5 Z : OwSl _ _ _ _).rd) ?_
 refine WX.der 30 (MF.rs .der p3 c3 u3.publications) Z (fun _ hΓ => (hΓ.get 7 Z : OwSl _ _ _ _).rd) ?_
 refine WX.draw [0, 1, 4, 5, 6, 7] mixed ?_
 intro bs G0 hΓ0
 refine DX.takes (fuel := 6) ttOk [(2, true), (3, true)] J Z ?_
 refine DX.toTX ?_
 intro S_
 refine TX.all3 0 1 4 J ?_ ?_ ?_
 ·skip
  refine TS.op 0 Z J ?_
  refine R0 ?_
  refine WX.back0 ?_
  refine TX.all2 1 4 J ?_ ?_
  ·skip
   refine TS.op 1 Z J ?_
   refine R0 ?_
   refine WX.back0 ?_
   refine TX.all1 4 J ?_
   refine TS.op 4 Z J ?_
   obtain ⟨⟨u30, u31, u32⟩, hu11⟩ : ∃ r_, a19 code u10 u11 1 = r_ := ⟨_, rfl⟩
   refine WX.callP 9 31 Z (fun _ _ h => GoT.ow_rd h) (fun _ f hf => GoT.fak f hf) Z Z Z Z Z O Z (fun w G bs H hI hH hs hΓ => f106 w n (by omega) H hH (bs 9) code K0 M0 (hΓ.get 0 Z) u10 u11 1 hs hokcode hq6.1 hq6.2 (by first | assumption | omega | (simp; done) | (simp; omega)) (show I64 1 from (by unfold I64; omega)) u30 u31 u32 hu11) O O ?_
   rintro ⟨p11, c10⟩ hq13
   have q7 := len_l1Bytes code u10 u11 1
   rw [hu11] at q7
   try dsimp only at q7
   refine R0 ?_
   refine WX.back0 ?_
   refine TX.all2 5 6 J ?_ ?_
   ·skip
    refine TS.op 5 Z J ?_
    refine R0 ?_
    refine WX.back0 ?_
    refine TX.tail [6, 7] Z Z J ?_
    refine R0 ?_
    have hP17 : a05 code = (u3, Publication.mk (a01 u6) (IntKind.i64.wrap ((a0b u3.vector (a01 u6)) + 1)) u30) := by simp only [a05, hu1, hu2, hu3, hu4, h1, hu11, ct, cf]
    refine R1 ?_
    intro w1 G bs hI hΓ
    rw [hP17]
    exact Post.of [5, 6, 7, 13, 32] (((p1, c1), (p2, c2), (p3, c3)), ((p5, c4), (), (p11, c10))) hI hΓ Z Z Z (⟨hq2.1, (And.intro (GoT.okm (α := List Str) (by omega) (ok_Name hq4)) (And.intro (i64_wrap _) (GoT.okm (α := List UInt8) (by omega) hq13.1)))⟩)
   refine TS.op 6 Z J ?_
   refine R0 ?_
   refine WX.back0 ?_
   refine TX.tail [5, 7] Z Z J ?_
   refine R0 ?_
   have hP18 : a05 code = (u3, Publication.mk (a01 u6) (IntKind.i64.wrap ((a0b u3.vector (a01 u6)) + 1)) u30) := by simp only [a05, hu1, hu2, hu3, hu4, h1, hu11, ct, cf]
   refine R1 ?_
   intro w1 G bs hI hΓ
   rw [hP18]
   exact Post.of [5, 6, 7, 13, 32] (((p1, c1), (p2, c2), (p3, c3)), ((p5, c4), (), (p11, c10))) hI hΓ Z Z Z (⟨hq2.1, (And.intro (GoT.okm (α := List Str) (by omega) (ok_Name hq4)) (And.intro (i64_wrap _) (GoT.okm (α := List UInt8) (by omega) hq13.1)))⟩)
  refine TS.op 4 Z J ?_
  obtain ⟨⟨u33, u34, u35⟩, hu12⟩ : ∃ r_, a19 code u10 u11 1 = r_ := ⟨_, rfl⟩
  refine WX.callP 9 33 Z (fun _ _ h => GoT.ow_rd h) (fun _ f hf => GoT.fak f hf) Z Z Z Z Z O Z (fun w G bs H hI hH hs hΓ => f106 w n (by omega) H hH (bs 9) code K0 M0 (hΓ.get 0 Z) u10 u11 1 hs hokcode hq6.1 hq6.2 (by first | assumption | omega | (simp; done) | (simp; omega)) (show I64 1 from (by unfold I64; omega)) u33 u34 u35 hu12) O O ?_
  rintro ⟨p12, c11⟩ hq14
  have q8 := len_l1Bytes code u10 u11 1
  rw [hu12] at q8
  try dsimp only at q8
  refine R0 ?_
  refine WX.back0 ?_
  refine TX.all2 1 6 J ?_ ?_
  ·skip
   refine TS.op 1 Z J ?_
   refine R0 ?_
   refine WX.back0 ?_
   refine TX.all2 5 6 J ?_ ?_
   ·skip
    refine TS.op 5 Z J ?_
    refine R0 ?_
    refine WX.back0 ?_
    refine TX.tail [6, 7] Z Z J ?_
    refine R0 ?_
    have hP19 : a05 code = (u3, Publication.mk (a01 u6) (IntKind.i64.wrap ((a0b u3.vector (a01 u6)) + 1)) u33) := by simp only [a05, hu1, hu2, hu3, hu4, h1, hu12, ct, cf]
    refine R1 ?_
    intro w1 G bs hI hΓ
    rw [hP19]
    exact Post.of [5, 6, 7, 13, 34] (((p1, c1), (p2, c2), (p3, c3)), ((p5, c4), (), (p12, c11))) hI hΓ Z Z Z (⟨hq2.1, (And.intro (GoT.okm (α := List Str) (by omega) (ok_Name hq4)) (And.intro (i64_wrap _) (GoT.okm (α := List UInt8) (by omega) hq14.1)))⟩)
   refine TS.op 6 Z J ?_
   refine R0 ?_
   refine WX.back0 ?_
   refine TX.tail [5, 7] Z Z J ?_
   refine R0 ?_
   have hP20 : a05 code = (u3, Publication.mk (a01 u6) (IntKind.i64.wrap ((a0b u3.vector (a01 u6)) + 1)) u33) := by simp only [a05, hu1, hu2, hu3, hu4, h1, hu12, ct, cf]
   refine R1 ?_
   intro w1 G bs hI hΓ
   rw [hP20]
   exact Post.of [5, 6, 7, 13, 34] (((p1, c1), (p2, c2), (p3, c3)), ((p5, c4), (), (p12, c11))) hI hΓ Z Z Z (⟨hq2.1, (And.intro (GoT.okm (α := List Str) (by omega) (ok_Name hq4)) (And.intro (i64_wrap _) (GoT.okm (α := List UInt8) (by omega) hq14.1)))⟩)
  refine TS.op 6 Z J ?_
  refine R0 ?_
  refine WX.back0 ?_
  refine TX.tail [1, 5, 7] Z Z J ?_
  refine R0 ?_
  have hP21 : a05 code = (u3, Publication.mk (a01 u6) (IntKind.i64.wrap ((a0b u3.vector (a01 u6)) + 1)) u33) := by simp only [a05, hu1, hu2, hu3, hu4, h1, hu12, ct, cf]
  refine R1 ?_
  intro w1 G bs hI hΓ
  rw [hP21]
  exact Post.of [5, 6, 7, 13, 34] (((p1, c1), (p2, c2), (p3, c3)), ((p5, c4), (), (p12, c11))) hI hΓ Z Z Z (⟨hq2.1, (And.intro (GoT.okm (α := List Str) (by omega) (ok_Name hq4)) (And.intro (i64_wrap _) (GoT.okm (α := List UInt8) (by omega) hq14.1)))⟩)
 ·skip
  refine TS.op 1 Z J ?_
  refine R0 ?_
  refine WX.back0 ?_
  refine TX.all2 0 4 J ?_ ?_
  ·skip
   refine TS.op 0 Z J ?_
   refine R0 ?_
   refine WX.back0 ?_
   refine TX.all1 4 J ?_
   refine TS.op 4 Z J ?_
   obtain ⟨⟨u36, u37, u38⟩, hu13⟩ : ∃ r_, a19 code u10 u11 1 = r_ := ⟨_, rfl⟩
   refine WX.callP 9 35 Z (fun _ _ h => GoT.ow_rd h) (fun _ f hf => GoT.fak f hf) Z Z Z Z Z O Z (fun w G bs H hI hH hs hΓ => f106 w n (by omega) H hH (bs 9) code K0 M0 (hΓ.get 0 Z) u10 u11 1 hs hokcode hq6.1 hq6.2 (by first | assumption | omega | (simp; done) | (simp; omega)) (show I64 1 from (by unfold I64; omega)) u36 u37 u38 hu13) O O ?_
   rintro ⟨p13, c12⟩ hq15
   have q9 := len_l1Bytes code u10 u11 1
   rw [hu13] at q9
   try dsimp only at q9
   refine R0 ?_
   refine WX.back0 ?_
   refine TX.all2 5 6 J ?_ ?_
   ·skip
    refine TS.op 5 Z J ?_
    refine R0 ?_
    refine WX.back0 ?_
    refine TX.tail [6, 7] Z Z J ?_
    refine R0 ?_
    have hP22 : a05 code = (u3, Publication.mk (a01 u6) (IntKind.i64.wrap ((a0b u3.vector (a01 u6)) + 1)) u36) := by simp only [a05, hu1, hu2, hu3, hu4, h1, hu13, ct, cf]
    refine R1 ?_
    intro w1 G bs hI hΓ
    rw [hP22]
    exact Post.of [5, 6, 7, 13, 36] (((p1, c1), (p2, c2), (p3, c3)), ((p5, c4), (), (p13, c12))) hI hΓ Z Z Z (⟨hq2.1, (And.intro (GoT.okm (α := List Str) (by omega) (ok_Name hq4)) (And.intro (i64_wrap _) (GoT.okm (α := List UInt8) (by omega) hq15.1)))⟩)
   refine TS.op 6 Z J ?_
   refine R0 ?_
   refine WX.back0 ?_
   refine TX.tail [5, 7] Z Z J ?_
   refine R0 ?_
   have hP23 : a05 code = (u3, Publication.mk (a01 u6) (IntKind.i64.wrap ((a0b u3.vector (a01 u6)) + 1)) u36) := by simp only [a05, hu1, hu2, hu3, hu4, h1, hu13, ct, cf]
   refine R1 ?_
   intro w1 G bs hI hΓ
   rw [hP23]
   exact Post.of [5, 6, 7, 13, 36] (((p1, c1), (p2, c2), (p3, c3)), ((p5, c4), (), (p13, c12))) hI hΓ Z Z Z (⟨hq2.1, (And.intro (GoT.okm (α := List Str) (by omega) (ok_Name hq4)) (And.intro (i64_wrap _) (GoT.okm (α := List UInt8) (by omega) hq15.1)))⟩)
  refine TS.op 4 Z J ?_
  obtain ⟨⟨u39, u40, u41⟩, hu14⟩ : ∃ r_, a19 code u10 u11 1 = r_ := ⟨_, rfl⟩
  refine WX.callP 9 37 Z (fun _ _ h => GoT.ow_rd h) (fun _ f hf => GoT.fak f hf) Z Z Z Z Z O Z (fun w G bs H hI hH hs hΓ => f106 w n (by omega) H hH (bs 9) code K0 M0 (hΓ.get 0 Z) u10 u11 1 hs hokcode hq6.1 hq6.2 (by first | assumption | omega | (simp; done) | (simp; omega)) (show I64 1 from (by unfold I64; omega)) u39 u40 u41 hu14) O O ?_
  rintro ⟨p14, c13⟩ hq16
  have q10 := len_l1Bytes code u10 u11 1
  rw [hu14] at q10
  try dsimp only at q10
  refine R0 ?_
  refine WX.back0 ?_
  refine TX.all2 0 5 J ?_ ?_
  ·skip
   refine TS.op 0 Z J ?_
   refine R0 ?_
   refine WX.back0 ?_
   refine TX.all2 5 6 J ?_ ?_
   ·skip
    refine TS.op 5 Z J ?_
    refine R0 ?_
    refine WX.back0 ?_
    refine TX.tail [6, 7] Z Z J ?_
    refine R0 ?_
    have hP24 : a05 code = (u3, Publication.mk (a01 u6) (IntKind.i64.wrap ((a0b u3.vector (a01 u6)) + 1)) u39) := by simp only [a05, hu1, hu2, hu3, hu4, h1, hu14, ct, cf]
    refine R1 ?_
    intro w1 G bs hI hΓ
    rw [hP24]
    exact Post.of [5, 6, 7, 13, 38] (((p1, c1), (p2, c2), (p3, c3)), ((p5, c4), (), (p14, c13))) hI hΓ Z Z Z (⟨hq2.1, (And.intro (GoT.okm (α := List Str) (by omega) (ok_Name hq4)) (And.intro (i64_wrap _) (GoT.okm (α := List UInt8) (by omega) hq16.1)))⟩)
   refine TS.op 6 Z J ?_
   refine R0 ?_
   refine WX.back0 ?_
   refine TX.tail [5, 7] Z Z J ?_
   refine R0 ?_
   have hP25 : a05 code = (u3, Publication.mk (a01 u6) (IntKind.i64.wrap ((a0b u3.vector (a01 u6)) + 1)) u39) := by simp only [a05, hu1, hu2, hu3, hu4, h1, hu14, ct, cf]
   refine R1 ?_
   intro w1 G bs hI hΓ
   rw [hP25]
   exact Post.of [5, 6, 7, 13, 38] (((p1, c1), (p2, c2), (p3, c3)), ((p5, c4), (), (p14, c13))) hI hΓ Z Z Z (⟨hq2.1, (And.intro (GoT.okm (α := List Str) (by omega) (ok_Name hq4)) (And.intro (i64_wrap _) (GoT.okm (α := List UInt8) (by omega) hq16.1)))⟩)
  refine TS.op 5 Z J ?_
  refine R0 ?_
  refine WX.back0 ?_
  refine TX.tail [0, 6, 7] Z Z J ?_
  refine R0 ?_
  have hP26 : a05 code = (u3, Publication.mk (a01 u6) (IntKind.i64.wrap ((a0b u3.vector (a01 u6)) + 1)) u39) := by simp only [a05, hu1, hu2, hu3, hu4, h1, hu14, ct, cf]
  refine R1 ?_
  intro w1 G bs hI hΓ
  rw [hP26]
  exact Post.of [5, 6, 7, 13, 38] (((p1, c1), (p2, c2), (p3, c3)), ((p5, c4), (), (p14, c13))) hI hΓ Z Z Z (⟨hq2.1, (And.intro (GoT.okm (α := List Str) (by omega) (ok_Name hq4)) (And.intro (i64_wrap _) (GoT.okm (α := List UInt8) (by omega) hq16.1)))⟩)
 refine TS.op 4 Z J ?_
 obtain ⟨⟨u42, u43, u44⟩, hu15⟩ : ∃ r_, a19 code u10 u11 1 = r_ := ⟨_, rfl⟩
 refine WX.callP 9 39 Z (fun _ _ h => GoT.ow_rd h) (fun _ f hf => GoT.fak f hf) Z Z Z Z Z O Z (fun w G bs H hI hH hs hΓ => f106 w n (by omega) H hH (bs 9) code K0 M0 (hΓ.get 0 Z) u10 u11 1 hs hokcode hq6.1 hq6.2 (by first | assumption | omega | (simp; done) | (simp; omega)) (show I64 1 from (by unfold I64; omega)) u42 u43 u44 hu15) O O ?_
 rintro ⟨p15, c14⟩ hq17
 have q11 := len_l1Bytes code u10 u11 1
 rw [hu15] at q11
 try dsimp only at q11
 refine R0 ?_
 refine WX.back0 ?_
 refine TX.all2 0 1 J ?_ ?_
 ·skip
  refine TS.op 0 Z J ?_
  refine R0 ?_
  refine WX.back0 ?_
  refine TX.all2 1 6 J ?_ ?_
  ·skip
   refine TS.op 1 Z J ?_
   refine R0 ?_
   refine WX.back0 ?_
   refine TX.all2 5 6 J ?_ ?_
   ·skip
    refine TS.op 5 Z J ?_
    refine R0 ?_
    refine WX.back0 ?_
    refine TX.tail [6, 7] Z Z J ?_
    refine R0 ?_
    have hP27 : a05 code = (u3, Publication.mk (a01 u6) (IntKind.i64.wrap ((a0b u3.vector (a01 u6)) + 1)) u42) := by simp only [a05, hu1, hu2, hu3, hu4, h1, hu15, ct, cf]
    refine R1 ?_
    intro w1 G bs hI hΓ
    rw [hP27]
    exact Post.of [5, 6, 7, 13, 40] (((p1, c1), (p2, c2), (p3, c3)), ((p5, c4), (), (p15, c14))) hI hΓ Z Z Z (⟨hq2.1, (And.intro (GoT.okm (α := List Str) (by omega) (ok_Name hq4)) (And.intro (i64_wrap _) (GoT.okm (α := List UInt8) (by omega) hq17.1)))⟩)
   refine TS.op 6 Z J ?_
   refine R0 ?_
   refine WX.back0 ?_
   refine TX.tail [5, 7] Z Z J ?_
   refine R0 ?_
   have hP28 : a05 code = (u3, Publication.mk (a01 u6) (IntKind.i64.wrap ((a0b u3.vector (a01 u6)) + 1)) u42) := by simp only [a05, hu1, hu2, hu3, hu4, h1, hu15, ct, cf]
   refine R1 ?_
   intro w1 G bs hI hΓ
   rw [hP28]
   exact Post.of [5, 6, 7, 13, 40] (((p1, c1), (p2, c2), (p3, c3)), ((p5, c4), (), (p15, c14))) hI hΓ Z Z Z (⟨hq2.1, (And.intro (GoT.okm (α := List Str) (by omega) (ok_Name hq4)) (And.intro (i64_wrap _) (GoT.okm (α := List UInt8) (by omega) hq17.1)))⟩)
  refine TS.op 6 Z J ?_
  refine R0 ?_
  refine WX.back0 ?_
  refine TX.tail [1, 5, 7] Z Z J ?_
  refine R0 ?_
  have hP29 : a05 code = (u3, Publication.mk (a01 u6) (IntKind.i64.wrap ((a0b u3.vector (a01 u6)) + 1)) u42) := by simp only [a05, hu1, hu2, hu3, hu4, h1, hu15, ct, cf]
  refine R1 ?_
  intro w1 G bs hI hΓ
  rw [hP29]
  exact Post.of [5, 6, 7, 13, 40] (((p1, c1), (p2, c2), (p3, c3)), ((p5, c4), (), (p15, c14))) hI hΓ Z Z Z (⟨hq2.1, (And.intro (GoT.okm (α := List Str) (by omega) (ok_Name hq4)) (And.intro (i64_wrap _) (GoT.okm (α := List UInt8) (by omega) hq17.1)))⟩)
 refine TS.op 1 Z J ?_
 refine R0 ?_
 refine WX.back0 ?_
 refine TX.all2 0 5 J ?_ ?_
 ·skip
  refine TS.op 0 Z J ?_
  refine R0 ?_
  refine WX.back0 ?_
  refine TX.all2 5 6 J ?_ ?_
  ·skip
   refine TS.op 5 Z J ?_
   refine R0 ?_
   refine WX.back0 ?_
   refine TX.tail [6, 7] Z Z J ?_
   refine R0 ?_
   have hP30 : a05 code = (u3, Publication.mk (a01 u6) (IntKind.i64.wrap ((a0b u3.vector (a01 u6)) + 1)) u42) := by simp only [a05, hu1, hu2, hu3, hu4, h1, hu15, ct, cf]
   refine R1 ?_
   intro w1 G bs hI hΓ
   rw [hP30]
   exact Post.of [5, 6, 7, 13, 40] (((p1, c1), (p2, c2), (p3, c3)), ((p5, c4), (), (p15, c14))) hI hΓ Z Z Z (⟨hq2.1, (And.intro (GoT.okm (α := List Str) (by omega) (ok_Name hq4)) (And.intro (i64_wrap _) (GoT.okm (α := List UInt8) (by omega) hq17.1)))⟩)
  refine TS.op 6 Z J ?_
  refine R0 ?_
  refine WX.back0 ?_
  refine TX.tail [5, 7] Z Z J ?_
  refine R0 ?_
  have hP31 : a05 code = (u3, Publication.mk (a01 u6) (IntKind.i64.wrap ((a0b u3.vector (a01 u6)) + 1)) u42) := by simp only [a05, hu1, hu2, hu3, hu4, h1, hu15, ct, cf]
  refine R1 ?_
  intro w1 G bs hI hΓ
  rw [hP31]
  exact Post.of [5, 6, 7, 13, 40] (((p1, c1), (p2, c2), (p3, c3)), ((p5, c4), (), (p15, c14))) hI hΓ Z Z Z (⟨hq2.1, (And.intro (GoT.okm (α := List Str) (by omega) (ok_Name hq4)) (And.intro (i64_wrap _) (GoT.okm (α := List UInt8) (by omega) hq17.1)))⟩)
 refine TS.op 5 Z J ?_
 refine R0 ?_
 refine WX.back0 ?_
 refine TX.tail [0, 6, 7] Z Z J ?_
 refine R0 ?_
 have hP32 : a05 code = (u3, Publication.mk (a01 u6) (IntKind.i64.wrap ((a0b u3.vector (a01 u6)) + 1)) u42) := by simp only [a05, hu1, hu2, hu3, hu4, h1, hu15, ct, cf]
 refine R1 ?_
 intro w1 G bs hI hΓ
 rw [hP32]
 exact Post.of [5, 6, 7, 13, 40] (((p1, c1), (p2, c2), (p3, c3)), ((p5, c4), (), (p15, c14))) hI hΓ Z Z Z (⟨hq2.1, (And.intro (GoT.okm (α := List Str) (by omega) (ok_Name hq4)) (And.intro (i64_wrap _) (GoT.okm (α := List UInt8) (by omega) hq17.1)))⟩)
theorem f33 (w : World) (n : Nat) (hn : n + 5 ≤ 9) (code : (List UInt8)) (K0 : Option Addr) (M0 : Nat) (N0 : RdSl (hp w) K0 M0 code) (hokcode : GoT.ok n code) :
 Does Tryz.prog 33 #[.slice K0 ((code).length) M0] w emp (Post w emp (fun x : GoT.X (Member × (List UInt8)) => .tuple #[.agg ⟨GoT.sh ((a06 code).1 : Member) x.1⟩, (GoT.sh ((a06 code).2 : (List UInt8)) x.2).headD undef]) (fun x => GoT.oa (((a06 code).1, (a06 code).2) : Member × (List UInt8)) x) (GoT.ok (n + 2) ((a06 code).1 : Member) ∧ GoT.ok (n + 2) ((a06 code).2 : (List UInt8)))) := by
 have hbP := bd_pos n
 have hbS0 : bd (n + 1) = 4 * bd (n) := bd_succ (n := n) (by omega)
 have hbS1 : bd (n + 2) = 4 * bd (n + 1) := bd_succ (n := n + 1) (by omega)
 have hbS2 : bd (n + 3) = 4 * bd (n + 2) := bd_succ (n := n + 2) (by omega)
 have hbS3 : bd (n + 4) = 4 * bd (n + 3) := bd_succ (n := n + 3) (by omega)
 have hbS4 : bd (n + 5) = 4 * bd (n + 4) := bd_succ (n := n + 4) (by omega)
 have hbB := bd_big (n := (n + 5)) (by omega)
 have hbM := bd_mono (show n ≤ n + 5 by omega)
 refine WX.enter (tt := tt) (Γ := [(0, MF.rs .stb K0 M0 code)]) Tryz.func33 Z J Z (allS_cons Z N0 allS_nil) ?_
 refine R0 ?_
 obtain ⟨⟨u1, u2⟩, hu1⟩ : ∃ r_, a1n code = r_ := ⟨_, rfl⟩
 refine WX.callF (ds := fun _ => []) 1 (fun _ _ _ => All.nil) (fun _ f hf => by cases hf) Z Z Z Z Z O Z (fun w G bs hI hΓ => f76 w n (by omega) code K0 M0 (hΓ.get 0 Z) hokcode u1 u2 hu1) O O ?_
 rintro bn1 hq1
 refine WX.adopt 7 1 Z Z Z ?_
 refine R0 ?_
 obtain ⟨⟨u3, u4, u5⟩, hu2⟩ : ∃ r_, a1y code u1 u2 = r_ := ⟨_, rfl⟩
 refine WX.callP 7 2 Z (fun _ _ h => GoT.ow_rd h) (fun _ f hf => GoT.fak f hf) Z Z Z Z Z O Z (fun w G bs H hI hH hs hΓ => f105 w n (by omega) H hH (bs 7) code K0 M0 (hΓ.get 0 Z) u1 u2 hs hokcode hq1.1 hq1.2 u3 u4 u5 hu2) O O ?_
 rintro ⟨⟨p1, c1⟩, ⟨p2, c2⟩, ⟨p3, c3⟩⟩ hq2
 refine R0 ?_
 refine WX.draw [0, 4, 5, 6, 7] mixed ?_
 intro bs G0 hΓ0
 refine DX.takes (fuel := 6) ttOk [(1, true), (2, true)] J Z ?_
 refine DX.toTX ?_
 intro S_
 refine TX.all2 0 3 J ?_ ?_
 ·skip
  refine TS.op 0 Z J ?_
  refine R0 ?_
  refine WX.back0 ?_
  refine TX.tail [3, 4, 5, 6, 7] Z Z J ?_
  refine WX.bld ttOk Z Z Z Z Z Z Z ?_
  intro p4
  refine WX.turn [] 8 Z (fun h hs => one_sep (⟨(), _, emp, _, Z, emp_le _, Le.refl _, emp_dj _, trivial, ⟨(), _, emp, _, Z, emp_le _, Le.refl _, emp_dj _, trivial, ⟨(), _, emp, _, Z, emp_le _, Le.refl _, emp_dj _, trivial, ⟨(), _, emp, _, Z, emp_le _, Le.refl _, emp_dj _, trivial, ⟨(), _, emp, _, Z, emp_le _, Le.refl _, emp_dj _, trivial, Z⟩⟩⟩⟩⟩ : OwL _ _ ([0, 1, 2, 60, 61] : List Int))) (gs := [MF.ol [.int .i64 (0), .int .i64 (1), .int .i64 (2), .int .i64 (60), .int .i64 (61)] ([0, 1, 2, 60, 61] : List Int)]) Z ?_
  refine WX.seal 13 8 9 Z Z Z Z Z ?_
  obtain ⟨⟨u6, u7, u8⟩, hu3⟩ : ∃ r_, a1w code u4 u5 ([0, 1, 2, 60, 61]) = r_ := ⟨_, rfl⟩
  refine WX.callP (ds := fun _ => []) 7 11 Z (fun _ _ _ => All.nil) (fun _ f hf => by cases hf) Z Z Z Z Z O Z (fun w G bs H hI hH hs hΓ => f107 w n (by omega) H hH (bs 7) code K0 M0 (hΓ.get 0 Z) u4 u5 ([0, 1, 2, 60, 61]) p4 5 (hΓ.get 9 Z) hs hokcode hq2.2.1 hq2.2.2 (by first | assumption | omega | (simp; done) | (simp; omega)) (okl_mk (by simp; omega) (all_cons (α := Int) (show I64 0 from (by unfold I64; omega)) (all_cons (α := Int) (show I64 1 from (by unfold I64; omega)) (all_cons (α := Int) (show I64 2 from (by unfold I64; omega)) (all_cons (α := Int) (show I64 60 from (by unfold I64; omega)) (all_cons (α := Int) (show I64 61 from (by unfold I64; omega)) (fun a ha => by cases ha)))))) : GoT.ok n ([0, 1, 2, 60, 61] : List Int)) u6 u7 u8 hu3) O O ?_
  rintro ⟨⟩ hq3
  have q1 := l1Int_le (M := 61) code u4 u5 ([0, 1, 2, 60, 61]) (by decide) (by decide)
  rw [hu3] at q1
  try dsimp only at q1
  obtain ⟨⟨u9, u10, u11⟩, hu4⟩ : ∃ r_, a19 code u7 u8 u6 = r_ := ⟨_, rfl⟩
  refine WX.callP 7 12 Z (fun _ _ h => GoT.ow_rd h) (fun _ f hf => GoT.fak f hf) Z Z Z Z Z O Z (fun w G bs H hI hH hs hΓ => f106 w n (by omega) H hH (bs 7) code K0 M0 (hΓ.get 0 Z) u7 u8 u6 hs hokcode hq3.2.1 hq3.2.2 (by first | assumption | omega | (simp; done) | (simp; omega)) hq3.1 u9 u10 u11 hu4) O O ?_
  rintro ⟨p5, c4⟩ hq4
  have q2 := len_l1Bytes code u7 u8 u6
  rw [hu4] at q2
  try dsimp only at q2
  refine R0 ?_
  have hP1 : a06 code = (u3, u9) := by simp only [a06, hu1, hu2, hu3, hu4, ct, cf]
  refine R1 ?_
  intro w1 G bs hI hΓ
  rw [hP1]
  exact Post.of [5, 6, 7, 13] (((p1, c1), (p2, c2), (p3, c3)), (p5, c4)) hI hΓ Z Z Z (⟨hq2.1, (GoT.okm (α := List UInt8) (by omega) hq4.1)⟩)
 refine TS.op 3 Z J ?_
 refine WX.bld ttOk Z Z Z Z Z Z Z ?_
 intro p6
 refine R0 ?_
 refine WX.back0 ?_
 refine TX.all2 0 4 J ?_ ?_
 ·skip
  refine TS.op 0 Z J ?_
  refine R0 ?_
  refine WX.back0 ?_
  refine TX.tail [4, 5, 6, 7] Z Z J ?_
  refine WX.turn [] 14 Z (fun h hs => one_sep (⟨(), _, emp, _, Z, emp_le _, Le.refl _, emp_dj _, trivial, ⟨(), _, emp, _, Z, emp_le _, Le.refl _, emp_dj _, trivial, ⟨(), _, emp, _, Z, emp_le _, Le.refl _, emp_dj _, trivial, ⟨(), _, emp, _, Z, emp_le _, Le.refl _, emp_dj _, trivial, ⟨(), _, emp, _, Z, emp_le _, Le.refl _, emp_dj _, trivial, Z⟩⟩⟩⟩⟩ : OwL _ _ ([0, 1, 2, 60, 61] : List Int))) (gs := [MF.ol [.int .i64 (0), .int .i64 (1), .int .i64 (2), .int .i64 (60), .int .i64 (61)] ([0, 1, 2, 60, 61] : List Int)]) Z ?_
  refine WX.seal 13 14 15 Z Z Z Z Z ?_
  obtain ⟨⟨u12, u13, u14⟩, hu5⟩ : ∃ r_, a1w code u4 u5 ([0, 1, 2, 60, 61]) = r_ := ⟨_, rfl⟩
  refine WX.callP (ds := fun _ => []) 7 17 Z (fun _ _ _ => All.nil) (fun _ f hf => by cases hf) Z Z Z Z Z O Z (fun w G bs H hI hH hs hΓ => f107 w n (by omega) H hH (bs 7) code K0 M0 (hΓ.get 0 Z) u4 u5 ([0, 1, 2, 60, 61]) p6 5 (hΓ.get 15 Z) hs hokcode hq2.2.1 hq2.2.2 (by first | assumption | omega | (simp; done) | (simp; omega)) (okl_mk (by simp; omega) (all_cons (α := Int) (show I64 0 from (by unfold I64; omega)) (all_cons (α := Int) (show I64 1 from (by unfold I64; omega)) (all_cons (α := Int) (show I64 2 from (by unfold I64; omega)) (all_cons (α := Int) (show I64 60 from (by unfold I64; omega)) (all_cons (α := Int) (show I64 61 from (by unfold I64; omega)) (fun a ha => by cases ha)))))) : GoT.ok n ([0, 1, 2, 60, 61] : List Int)) u12 u13 u14 hu5) O O ?_
  rintro ⟨⟩ hq5
  have q3 := l1Int_le (M := 61) code u4 u5 ([0, 1, 2, 60, 61]) (by decide) (by decide)
  rw [hu5] at q3
  try dsimp only at q3
  obtain ⟨⟨u15, u16, u17⟩, hu6⟩ : ∃ r_, a19 code u13 u14 u12 = r_ := ⟨_, rfl⟩
  refine WX.callP 7 18 Z (fun _ _ h => GoT.ow_rd h) (fun _ f hf => GoT.fak f hf) Z Z Z Z Z O Z (fun w G bs H hI hH hs hΓ => f106 w n (by omega) H hH (bs 7) code K0 M0 (hΓ.get 0 Z) u13 u14 u12 hs hokcode hq5.2.1 hq5.2.2 (by first | assumption | omega | (simp; done) | (simp; omega)) hq5.1 u15 u16 u17 hu6) O O ?_
  rintro ⟨p7, c5⟩ hq6
  have q4 := len_l1Bytes code u13 u14 u12
  rw [hu6] at q4
  try dsimp only at q4
  refine R0 ?_
  have hP2 : a06 code = (u3, u15) := by simp only [a06, hu1, hu2, hu5, hu6, ct, cf]
  refine R1 ?_
  intro w1 G bs hI hΓ
  rw [hP2]
  exact Post.of [5, 6, 7, 19] (((p1, c1), (p2, c2), (p3, c3)), (p7, c5)) hI hΓ Z Z Z (⟨hq2.1, (GoT.okm (α := List UInt8) (by omega) hq6.1)⟩)
 refine TS.op 4 Z J ?_
 refine WX.turn [] 20 Z (fun h hs => one_sep (⟨(), _, emp, _, Z, emp_le _, Le.refl _, emp_dj _, trivial, ⟨(), _, emp, _, Z, emp_le _, Le.refl _, emp_dj _, trivial, ⟨(), _, emp, _, Z, emp_le _, Le.refl _, emp_dj _, trivial, ⟨(), _, emp, _, Z, emp_le _, Le.refl _, emp_dj _, trivial, ⟨(), _, emp, _, Z, emp_le _, Le.refl _, emp_dj _, trivial, Z⟩⟩⟩⟩⟩ : OwL _ _ ([0, 1, 2, 60, 61] : List Int))) (gs := [MF.ol [.int .i64 (0), .int .i64 (1), .int .i64 (2), .int .i64 (60), .int .i64 (61)] ([0, 1, 2, 60, 61] : List Int)]) Z ?_
 refine WX.seal 13 20 21 Z Z Z Z Z ?_
 obtain ⟨⟨u18, u19, u20⟩, hu7⟩ : ∃ r_, a1w code u4 u5 ([0, 1, 2, 60, 61]) = r_ := ⟨_, rfl⟩
 refine WX.callP (ds := fun _ => []) 7 23 Z (fun _ _ _ => All.nil) (fun _ f hf => by cases hf) Z Z Z Z Z O Z (fun w G bs H hI hH hs hΓ => f107 w n (by omega) H hH (bs 7) code K0 M0 (hΓ.get 0 Z) u4 u5 ([0, 1, 2, 60, 61]) p6 5 (hΓ.get 21 Z) hs hokcode hq2.2.1 hq2.2.2 (by first | assumption | omega | (simp; done) | (simp; omega)) (okl_mk (by simp; omega) (all_cons (α := Int) (show I64 0 from (by unfold I64; omega)) (all_cons (α := Int) (show I64 1 from (by unfold I64; omega)) (all_cons (α := Int) (show I64 2 from (by unfold I64; omega)) (all_cons (α := Int) (show I64 60 from (by unfold I64; omega)) (all_cons (α := Int) (show I64 61 from (by unfold I64; omega)) (fun a ha => by cases ha)))))) : GoT.ok n ([0, 1, 2, 60, 61] : List Int)) u18 u19 u20 hu7) O O ?_
 rintro ⟨⟩ hq7
 have q5 := l1Int_le (M := 61) code u4 u5 ([0, 1, 2, 60, 61]) (by decide) (by decide)
 rw [hu7] at q5
 try dsimp only at q5
 refine R0 ?_
 refine WX.back0 ?_
 refine TX.all2 0 5 J ?_ ?_
 ·skip
  refine TS.op 0 Z J ?_
  refine R0 ?_
  refine WX.back0 ?_
  refine TX.tail [5, 6, 7] Z Z J ?_
  obtain ⟨⟨u21, u22, u23⟩, hu8⟩ : ∃ r_, a19 code u19 u20 u18 = r_ := ⟨_, rfl⟩
  refine WX.callP 7 24 Z (fun _ _ h => GoT.ow_rd h) (fun _ f hf => GoT.fak f hf) Z Z Z Z Z O Z (fun w G bs H hI hH hs hΓ => f106 w n (by omega) H hH (bs 7) code K0 M0 (hΓ.get 0 Z) u19 u20 u18 hs hokcode hq7.2.1 hq7.2.2 (by first | assumption | omega | (simp; done) | (simp; omega)) hq7.1 u21 u22 u23 hu8) O O ?_
  rintro ⟨p8, c6⟩ hq8
  have q6 := len_l1Bytes code u19 u20 u18
  rw [hu8] at q6
  try dsimp only at q6
  refine R0 ?_
  have hP3 : a06 code = (u3, u21) := by simp only [a06, hu1, hu2, hu7, hu8, ct, cf]
  refine R1 ?_
  intro w1 G bs hI hΓ
  rw [hP3]
  exact Post.of [5, 6, 7, 25] (((p1, c1), (p2, c2), (p3, c3)), (p8, c6)) hI hΓ Z Z Z (⟨hq2.1, (GoT.okm (α := List UInt8) (by omega) hq8.1)⟩)
 refine TS.op 5 Z J ?_
 obtain ⟨⟨u24, u25, u26⟩, hu9⟩ : ∃ r_, a19 code u19 u20 u18 = r_ := ⟨_, rfl⟩
 refine WX.callP 7 26 Z (fun _ _ h => GoT.ow_rd h) (fun _ f hf => GoT.fak f hf) Z Z Z Z Z O Z (fun w G bs H hI hH hs hΓ => f106 w n (by omega) H hH (bs 7) code K0 M0 (hΓ.get 0 Z) u19 u20 u18 hs hokcode hq7.2.1 hq7.2.2 (by first | assumption | omega | (simp; done) | (simp; omega)) hq7.1 u24 u25 u26 hu9) O O ?_
 rintro ⟨p9, c7⟩ hq9
 have q7 := len_l1Bytes code u19 u20 u18
 rw [hu9] at q7
 try dsimp only at q7
 refine R0 ?_
 refine WX.back0 ?_
 refine TX.tail [0, 6, 7] Z Z J ?_
 refine R0 ?_
 have hP4 : a06 code = (u3, u24) := by simp only [a06, hu1, hu2, hu7, hu9, ct, cf]
 refine R1 ?_
 intro w1 G bs hI hΓ
 rw [hP4]
 exact Post.of [5, 6, 7, 27] (((p1, c1), (p2, c2), (p3, c3)), (p9, c7)) hI hΓ Z Z Z (⟨hq2.1, (GoT.okm (α := List UInt8) (by omega) hq9.1)⟩)
theorem f41 (w : World) (n : Nat) (hn : n + 5 ≤ 9) (code : (List UInt8)) (K0 : Option Addr) (M0 : Nat) (N0 : RdSl (hp w) K0 M0 code) (hokcode : GoT.ok n code) :
 Does Tryz.prog 41 #[.slice K0 ((code).length) M0] w emp (Post w emp (fun x : GoT.X (Member × Name) => .tuple #[.agg ⟨GoT.sh ((a0n code).1 : Member) x.1⟩, .agg ⟨GoT.sh ((a0n code).2.1 : Name) x.2⟩, .int .i64 ((a0n code).2.2)]) (fun x => GoT.oa (((a0n code).1, (a0n code).2.1) : Member × Name) x) (GoT.ok (n + 2) ((a0n code).1 : Member) ∧ GoT.ok (n + 2) ((a0n code).2.1 : Name) ∧ GoT.ok (n + 2) ((a0n code).2.2 : Int))) := by
 have hbP := bd_pos n
 have hbS0 : bd (n + 1) = 4 * bd (n) := bd_succ (n := n) (by omega)
 have hbS1 : bd (n + 2) = 4 * bd (n + 1) := bd_succ (n := n + 1) (by omega)
 have hbS2 : bd (n + 3) = 4 * bd (n + 2) := bd_succ (n := n + 2) (by omega)
 have hbS3 : bd (n + 4) = 4 * bd (n + 3) := bd_succ (n := n + 3) (by omega)
 have hbS4 : bd (n + 5) = 4 * bd (n + 4) := bd_succ (n := n + 4) (by omega)
 have hbB := bd_big (n := (n + 5)) (by omega)
 have hbM := bd_mono (show n ≤ n + 5 by omega)
 refine WX.enter (tt := tt) (Γ := [(0, MF.rs .stb K0 M0 code)]) Tryz.func41 Z J Z (allS_cons Z N0 allS_nil) ?_
 refine R0 ?_
 obtain ⟨⟨u1, u2⟩, hu1⟩ : ∃ r_, a1n code = r_ := ⟨_, rfl⟩
 refine WX.callF (ds := fun _ => []) 1 (fun _ _ _ => All.nil) (fun _ f hf => by cases hf) Z Z Z Z Z O Z (fun w G bs hI hΓ => f76 w n (by omega) code K0 M0 (hΓ.get 0 Z) hokcode u1 u2 hu1) O O ?_
 rintro bn1 hq1
 refine WX.adopt 8 1 Z Z Z ?_
 refine R0 ?_
 obtain ⟨⟨u3, u4, u5⟩, hu2⟩ : ∃ r_, a1y code u1 u2 = r_ := ⟨_, rfl⟩
 refine WX.callP 8 2 Z (fun _ _ h => GoT.ow_rd h) (fun _ f hf => GoT.fak f hf) Z Z Z Z Z O Z (fun w G bs H hI hH hs hΓ => f105 w n (by omega) H hH (bs 8) code K0 M0 (hΓ.get 0 Z) u1 u2 hs hokcode hq1.1 hq1.2 u3 u4 u5 hu2) O O ?_
 rintro ⟨⟨p1, c1⟩, ⟨p2, c2⟩, ⟨p3, c3⟩⟩ hq2
 refine R0 ?_
 refine WX.draw [0, 3, 4, 6, 7, 8, 9] mixed ?_
 intro bs G0 hΓ0
 refine DX.takes (fuel := 8) ttOk [(1, true), (5, true)] J Z ?_
 refine DX.toTX ?_
 intro S_
 refine TX.all2 0 2 J ?_ ?_
 ·skip
  refine TS.op 0 Z J ?_
  refine R0 ?_
  refine WX.back0 ?_
  refine TX.all1 2 J ?_
  refine TS.op 2 Z J ?_
  refine WX.bld ttOk Z Z Z Z Z Z Z ?_
  intro p4
  refine R0 ?_
  refine WX.back0 ?_
  refine TX.all1 3 J ?_
  refine TS.op 3 Z J ?_
  refine WX.turn [] 8 Z (fun h hs => one_sep (⟨(), _, emp, _, Z, emp_le _, Le.refl _, emp_dj _, trivial, ⟨(), _, emp, _, Z, emp_le _, Le.refl _, emp_dj _, trivial, ⟨(), _, emp, _, Z, emp_le _, Le.refl _, emp_dj _, trivial, ⟨(), _, emp, _, Z, emp_le _, Le.refl _, emp_dj _, trivial, Z⟩⟩⟩⟩ : OwL _ _ ([(⟨#[47, 97]⟩ : Str), (⟨#[47, 98]⟩ : Str), (⟨#[47, 99]⟩ : Str), (⟨#[47, 100]⟩ : Str)] : List Str))) (gs := [MF.ol [.string (⟨#[47, 97]⟩ : Str), .string (⟨#[47, 98]⟩ : Str), .string (⟨#[47, 99]⟩ : Str), .string (⟨#[47, 100]⟩ : Str)] ([(⟨#[47, 97]⟩ : Str), (⟨#[47, 98]⟩ : Str), (⟨#[47, 99]⟩ : Str), (⟨#[47, 100]⟩ : Str)] : List Str)]) Z ?_
  refine WX.seal 13 8 9 Z Z Z Z Z ?_
  have r1 : (⟨#[47, 97]⟩ : Str).size = 2 := rfl
  have r2 : (⟨#[47, 98]⟩ : Str).size = 2 := rfl
  have r3 : (⟨#[47, 99]⟩ : Str).size = 2 := rfl
  have r4 : (⟨#[47, 100]⟩ : Str).size = 2 := rfl
  obtain ⟨⟨u6, u7, u8⟩, hu3⟩ : ∃ r_, a1o code u4 u5 ([(⟨#[47, 97]⟩ : Str), (⟨#[47, 98]⟩ : Str), (⟨#[47, 99]⟩ : Str), (⟨#[47, 100]⟩ : Str)]) = r_ := ⟨_, rfl⟩
  refine WX.callP (ds := fun _ => []) 8 11 Z (fun _ _ _ => All.nil) (fun _ f hf => by cases hf) Z Z Z Z Z O Z (fun w G bs H hI hH hs hΓ => f110 w n (by omega) H hH (bs 8) code K0 M0 (hΓ.get 0 Z) u4 u5 ([(⟨#[47, 97]⟩ : Str), (⟨#[47, 98]⟩ : Str), (⟨#[47, 99]⟩ : Str), (⟨#[47, 100]⟩ : Str)]) p4 4 (hΓ.get 9 Z) hs hokcode hq2.2.1 hq2.2.2 (by first | assumption | omega | (simp; done) | (simp; omega)) (okl_mk (by simp; omega) (all_cons (α := Str) (Nat.le_trans (by decide) (bd_pos n)) (all_cons (α := Str) (Nat.le_trans (by decide) (bd_pos n)) (all_cons (α := Str) (Nat.le_trans (by decide) (bd_pos n)) (all_cons (α := Str) (Nat.le_trans (by decide) (bd_pos n)) (fun a ha => by cases ha))))) : GoT.ok n ([(⟨#[47, 97]⟩ : Str), (⟨#[47, 98]⟩ : Str), (⟨#[47, 99]⟩ : Str), (⟨#[47, 100]⟩ : Str)] : List Str)) u6 u7 u8 hu3) O O ?_
  rintro ⟨⟩ hq3
  refine R0 ?_
  refine WX.back0 ?_
  refine TX.all1 4 J ?_
  refine TS.callF 4 12 (fun _ _ h => GoT.ow_rd h) (fun _ f hf => GoT.fak f hf) Z Z Z Z Z Z O Z (fun w G bs hI hΓ => f109 w n (by omega) u6 hq3.1) O O ?_
  rintro ⟨p5, c4⟩ hq4
  refine TX.tail [6, 7, 8, 9] Z Z J ?_
  obtain ⟨⟨u9, u10, u11⟩, hu4⟩ : ∃ r_, a08 code u7 u8 4 = r_ := ⟨_, rfl⟩
  refine WX.callP (ds := fun _ => []) 8 14 Z (fun _ _ _ => All.nil) (fun _ f hf => by cases hf) Z Z Z Z Z O Z (fun w G bs H hI hH hs hΓ => f84 w n (by omega) H hH (bs 8) code K0 M0 (hΓ.get 0 Z) u7 u8 4 hs hokcode hq3.2.1 hq3.2.2 (show I64 4 from (by unfold I64; omega)) u9 u10 u11 hu4) O O ?_
  rintro ⟨⟩ hq5
  have q1 := l1Below_rng code u7 u8 4
  rw [hu4] at q1
  try dsimp only at q1
  refine R0 ?_
  have hP1 : a0n code = (u3, a01 u6, u9) := by simp only [a0n, hu1, hu2, hu3, hu4, ct, cf]
  refine R1 ?_
  intro w1 G bs hI hΓ
  rw [hP1]
  exact Post.of [5, 6, 7, 13] (((p1, c1), (p2, c2), (p3, c3)), (p5, c4)) hI hΓ Z Z Z (⟨hq2.1, ⟨(GoT.okm (α := List Str) (by omega) (ok_Name hq4)), hq5.1⟩⟩)
 refine TS.op 2 Z J ?_
 refine WX.bld ttOk Z Z Z Z Z Z Z ?_
 intro p6
 refine R0 ?_
 refine WX.back0 ?_
 refine TX.all2 0 3 J ?_ ?_
 ·skip
  refine TS.op 0 Z J ?_
  refine R0 ?_
  refine WX.back0 ?_
  refine TX.all1 3 J ?_
  refine TS.op 3 Z J ?_
  refine WX.turn [] 15 Z (fun h hs => one_sep (⟨(), _, emp, _, Z, emp_le _, Le.refl _, emp_dj _, trivial, ⟨(), _, emp, _, Z, emp_le _, Le.refl _, emp_dj _, trivial, ⟨(), _, emp, _, Z, emp_le _, Le.refl _, emp_dj _, trivial, ⟨(), _, emp, _, Z, emp_le _, Le.refl _, emp_dj _, trivial, Z⟩⟩⟩⟩ : OwL _ _ ([(⟨#[47, 97]⟩ : Str), (⟨#[47, 98]⟩ : Str), (⟨#[47, 99]⟩ : Str), (⟨#[47, 100]⟩ : Str)] : List Str))) (gs := [MF.ol [.string (⟨#[47, 97]⟩ : Str), .string (⟨#[47, 98]⟩ : Str), .string (⟨#[47, 99]⟩ : Str), .string (⟨#[47, 100]⟩ : Str)] ([(⟨#[47, 97]⟩ : Str), (⟨#[47, 98]⟩ : Str), (⟨#[47, 99]⟩ : Str), (⟨#[47, 100]⟩ : Str)] : List Str)]) Z ?_
  refine WX.seal 13 15 16 Z Z Z Z Z ?_
  have r5 : (⟨#[47, 97]⟩ : Str).size = 2 := rfl
  have r6 : (⟨#[47, 98]⟩ : Str).size = 2 := rfl
  have r7 : (⟨#[47, 99]⟩ : Str).size = 2 := rfl
  have r8 : (⟨#[47, 100]⟩ : Str).size = 2 := rfl
  obtain ⟨⟨u12, u13, u14⟩, hu5⟩ : ∃ r_, a1o code u4 u5 ([(⟨#[47, 97]⟩ : Str), (⟨#[47, 98]⟩ : Str), (⟨#[47, 99]⟩ : Str), (⟨#[47, 100]⟩ : Str)]) = r_ := ⟨_, rfl⟩
  refine WX.callP (ds := fun _ => []) 8 18 Z (fun _ _ _ => All.nil) (fun _ f hf => by cases hf) Z Z Z Z Z O Z (fun w G bs H hI hH hs hΓ => f110 w n (by omega) H hH (bs 8) code K0 M0 (hΓ.get 0 Z) u4 u5 ([(⟨#[47, 97]⟩ : Str), (⟨#[47, 98]⟩ : Str), (⟨#[47, 99]⟩ : Str), (⟨#[47, 100]⟩ : Str)]) p6 4 (hΓ.get 16 Z) hs hokcode hq2.2.1 hq2.2.2 (by first | assumption | omega | (simp; done) | (simp; omega)) (okl_mk (by simp; omega) (all_cons (α := Str) (Nat.le_trans (by decide) (bd_pos n)) (all_cons (α := Str) (Nat.le_trans (by decide) (bd_pos n)) (all_cons (α := Str) (Nat.le_trans (by decide) (bd_pos n)) (all_cons (α := Str) (Nat.le_trans (by decide) (bd_pos n)) (fun a ha => by cases ha))))) : GoT.ok n ([(⟨#[47, 97]⟩ : Str), (⟨#[47, 98]⟩ : Str), (⟨#[47, 99]⟩ : Str), (⟨#[47, 100]⟩ : Str)] : List Str)) u12 u13 u14 hu5) O O ?_
  rintro ⟨⟩ hq6
  refine R0 ?_
  refine WX.back0 ?_
  refine TX.all1 4 J ?_
  refine TS.callF 4 19 (fun _ _ h => GoT.ow_rd h) (fun _ f hf => GoT.fak f hf) Z Z Z Z Z Z O Z (fun w G bs hI hΓ => f109 w n (by omega) u12 hq6.1) O O ?_
  rintro ⟨p7, c5⟩ hq7
  refine TX.tail [6, 7, 8, 9] Z Z J ?_
  obtain ⟨⟨u15, u16, u17⟩, hu6⟩ : ∃ r_, a08 code u13 u14 4 = r_ := ⟨_, rfl⟩
  refine WX.callP (ds := fun _ => []) 8 21 Z (fun _ _ _ => All.nil) (fun _ f hf => by cases hf) Z Z Z Z Z O Z (fun w G bs H hI hH hs hΓ => f84 w n (by omega) H hH (bs 8) code K0 M0 (hΓ.get 0 Z) u13 u14 4 hs hokcode hq6.2.1 hq6.2.2 (show I64 4 from (by unfold I64; omega)) u15 u16 u17 hu6) O O ?_
  rintro ⟨⟩ hq8
  have q2 := l1Below_rng code u13 u14 4
  rw [hu6] at q2
  try dsimp only at q2
  refine R0 ?_
  have hP2 : a0n code = (u3, a01 u12, u15) := by simp only [a0n, hu1, hu2, hu5, hu6, ct, cf]
  refine R1 ?_
  intro w1 G bs hI hΓ
  rw [hP2]
  exact Post.of [5, 6, 7, 20] (((p1, c1), (p2, c2), (p3, c3)), (p7, c5)) hI hΓ Z Z Z (⟨hq2.1, ⟨(GoT.okm (α := List Str) (by omega) (ok_Name hq7)), hq8.1⟩⟩)
 refine TS.op 3 Z J ?_
 refine WX.turn [] 22 Z (fun h hs => one_sep (⟨(), _, emp, _, Z, emp_le _, Le.refl _, emp_dj _, trivial, ⟨(), _, emp, _, Z, emp_le _, Le.refl _, emp_dj _, trivial, ⟨(), _, emp, _, Z, emp_le _, Le.refl _, emp_dj _, trivial, ⟨(), _, emp, _, Z, emp_le _, Le.refl _, emp_dj _, trivial, Z⟩⟩⟩⟩ : OwL _ _ ([(⟨#[47, 97]⟩ : Str), (⟨#[47, 98]⟩ : Str), (⟨#[47, 99]⟩ : Str), (⟨#[47, 100]⟩ : Str)] : List Str))) (gs := [MF.ol [.string (⟨#[47, 97]⟩ : Str), .string (⟨#[47, 98]⟩ : Str), .string (⟨#[47, 99]⟩ : Str), .string (⟨#[47, 100]⟩ : Str)] ([(⟨#[47, 97]⟩ : Str), (⟨#[47, 98]⟩ : Str), (⟨#[47, 99]⟩ : Str), (⟨#[47, 100]⟩ : Str)] : List Str)]) Z ?_
 refine WX.seal 13 22 23 Z Z Z Z Z ?_
 have r9 : (⟨#[47, 97]⟩ : Str).size = 2 := rfl
 have r10 : (⟨#[47, 98]⟩ : Str).size = 2 := rfl
 have r11 : (⟨#[47, 99]⟩ : Str).size = 2 := rfl
 have r12 : (⟨#[47, 100]⟩ : Str).size = 2 := rfl
 obtain ⟨⟨u18, u19, u20⟩, hu7⟩ : ∃ r_, a1o code u4 u5 ([(⟨#[47, 97]⟩ : Str), (⟨#[47, 98]⟩ : Str), (⟨#[47, 99]⟩ : Str), (⟨#[47, 100]⟩ : Str)]) = r_ := ⟨_, rfl⟩
 refine WX.callP (ds := fun _ => []) 8 25 Z (fun _ _ _ => All.nil) (fun _ f hf => by cases hf) Z Z Z Z Z O Z (fun w G bs H hI hH hs hΓ => f110 w n (by omega) H hH (bs 8) code K0 M0 (hΓ.get 0 Z) u4 u5 ([(⟨#[47, 97]⟩ : Str), (⟨#[47, 98]⟩ : Str), (⟨#[47, 99]⟩ : Str), (⟨#[47, 100]⟩ : Str)]) p6 4 (hΓ.get 23 Z) hs hokcode hq2.2.1 hq2.2.2 (by first | assumption | omega | (simp; done) | (simp; omega)) (okl_mk (by simp; omega) (all_cons (α := Str) (Nat.le_trans (by decide) (bd_pos n)) (all_cons (α := Str) (Nat.le_trans (by decide) (bd_pos n)) (all_cons (α := Str) (Nat.le_trans (by decide) (bd_pos n)) (all_cons (α := Str) (Nat.le_trans (by decide) (bd_pos n)) (fun a ha => by cases ha))))) : GoT.ok n ([(⟨#[47, 97]⟩ : Str), (⟨#[47, 98]⟩ : Str), (⟨#[47, 99]⟩ : Str), (⟨#[47, 100]⟩ : Str)] : List Str)) u18 u19 u20 hu7) O O ?_
 rintro ⟨⟩ hq9
 refine R0 ?_
 refine WX.back0 ?_
 refine TX.all2 0 4 J ?_ ?_
 ·skip
  refine TS.op 0 Z J ?_
  refine R0 ?_
  refine WX.back0 ?_
  refine TX.all1 4 J ?_
  refine TS.callF 4 26 (fun _ _ h => GoT.ow_rd h) (fun _ f hf => GoT.fak f hf) Z Z Z Z Z Z O Z (fun w G bs hI hΓ => f109 w n (by omega) u18 hq9.1) O O ?_
  rintro ⟨p8, c6⟩ hq10
  refine TX.tail [6, 7, 8, 9] Z Z J ?_
  obtain ⟨⟨u21, u22, u23⟩, hu8⟩ : ∃ r_, a08 code u19 u20 4 = r_ := ⟨_, rfl⟩
  refine WX.callP (ds := fun _ => []) 8 28 Z (fun _ _ _ => All.nil) (fun _ f hf => by cases hf) Z Z Z Z Z O Z (fun w G bs H hI hH hs hΓ => f84 w n (by omega) H hH (bs 8) code K0 M0 (hΓ.get 0 Z) u19 u20 4 hs hokcode hq9.2.1 hq9.2.2 (show I64 4 from (by unfold I64; omega)) u21 u22 u23 hu8) O O ?_
  rintro ⟨⟩ hq11
  have q3 := l1Below_rng code u19 u20 4
  rw [hu8] at q3
  try dsimp only at q3
  refine R0 ?_
  have hP3 : a0n code = (u3, a01 u18, u21) := by simp only [a0n, hu1, hu2, hu7, hu8, ct, cf]
  refine R1 ?_
  intro w1 G bs hI hΓ
  rw [hP3]
  exact Post.of [5, 6, 7, 27] (((p1, c1), (p2, c2), (p3, c3)), (p8, c6)) hI hΓ Z Z Z (⟨hq2.1, ⟨(GoT.okm (α := List Str) (by omega) (ok_Name hq10)), hq11.1⟩⟩)
 refine TS.callF 4 29 (fun _ _ h => GoT.ow_rd h) (fun _ f hf => GoT.fak f hf) Z Z Z Z Z Z O Z (fun w G bs hI hΓ => f109 w n (by omega) u18 hq9.1) O O ?_
 rintro ⟨p9, c7⟩ hq12
 refine TX.all2 0 6 J ?_ ?_
 ·skip
  refine TS.op 0 Z J ?_
  refine R0 ?_
  refine WX.back0 ?_
  refine TX.tail [6, 7, 8, 9] Z Z J ?_
  obtain ⟨⟨u24, u25, u26⟩, hu9⟩ : ∃ r_, a08 code u19 u20 4 = r_ := ⟨_, rfl⟩
  refine WX.callP (ds := fun _ => []) 8 31 Z (fun _ _ _ => All.nil) (fun _ f hf => by cases hf) Z Z Z Z Z O Z (fun w G bs H hI hH hs hΓ => f84 w n (by omega) H hH (bs 8) code K0 M0 (hΓ.get 0 Z) u19 u20 4 hs hokcode hq9.2.1 hq9.2.2 (show I64 4 from (by unfold I64; omega)) u24 u25 u26 hu9) O O ?_
  rintro ⟨⟩ hq13
  have q4 := l1Below_rng code u19 u20 4
  rw [hu9] at q4
  try dsimp only at q4
  refine R0 ?_
  have hP4 : a0n code = (u3, a01 u18, u24) := by simp only [a0n, hu1, hu2, hu7, hu9, ct, cf]
  refine R1 ?_
  intro w1 G bs hI hΓ
  rw [hP4]
  exact Post.of [5, 6, 7, 30] (((p1, c1), (p2, c2), (p3, c3)), (p9, c7)) hI hΓ Z Z Z (⟨hq2.1, ⟨(GoT.okm (α := List Str) (by omega) (ok_Name hq12)), hq13.1⟩⟩)
 refine TS.op 6 Z J ?_
 obtain ⟨⟨u27, u28, u29⟩, hu10⟩ : ∃ r_, a08 code u19 u20 4 = r_ := ⟨_, rfl⟩
 refine WX.callP (ds := fun _ => []) 8 32 Z (fun _ _ _ => All.nil) (fun _ f hf => by cases hf) Z Z Z Z Z O Z (fun w G bs H hI hH hs hΓ => f84 w n (by omega) H hH (bs 8) code K0 M0 (hΓ.get 0 Z) u19 u20 4 hs hokcode hq9.2.1 hq9.2.2 (show I64 4 from (by unfold I64; omega)) u27 u28 u29 hu10) O O ?_
 rintro ⟨⟩ hq14
 have q5 := l1Below_rng code u19 u20 4
 rw [hu10] at q5
 try dsimp only at q5
 refine R0 ?_
 refine WX.back0 ?_
 refine TX.tail [0, 7, 8, 9] Z Z J ?_
 refine R0 ?_
 have hP5 : a0n code = (u3, a01 u18, u27) := by simp only [a0n, hu1, hu2, hu7, hu10, ct, cf]
 refine R1 ?_
 intro w1 G bs hI hΓ
 rw [hP5]
 exact Post.of [5, 6, 7, 30] (((p1, c1), (p2, c2), (p3, c3)), (p9, c7)) hI hΓ Z Z Z (⟨hq2.1, ⟨(GoT.okm (α := List Str) (by omega) (ok_Name hq12)), hq14.1⟩⟩)
theorem f44 (w : World) (n : Nat) (hn : n + 5 ≤ 9) (code : (List UInt8)) (K0 : Option Addr) (M0 : Nat) (N0 : RdSl (hp w) K0 M0 code) (hokcode : GoT.ok n code) :
 Does Tryz.prog 44 #[.slice K0 ((code).length) M0] w emp (Post w emp (fun x : GoT.X (Member × StateVector) => .tuple #[.agg ⟨GoT.sh ((a1j code).1 : Member) x.1⟩, .agg ⟨GoT.sh ((a1j code).2 : StateVector) x.2⟩]) (fun x => GoT.oa (((a1j code).1, (a1j code).2) : Member × StateVector) x) (GoT.ok (n + 2) ((a1j code).1 : Member) ∧ GoT.ok (n + 2) ((a1j code).2 : StateVector))) := by
 have hbP := bd_pos n
 have hbS0 : bd (n + 1) = 4 * bd (n) := bd_succ (n := n) (by omega)
 have hbS1 : bd (n + 2) = 4 * bd (n + 1) := bd_succ (n := n + 1) (by omega)
 have hbS2 : bd (n + 3) = 4 * bd (n + 2) := bd_succ (n := n + 2) (by omega)
 have hbS3 : bd (n + 4) = 4 * bd (n + 3) := bd_succ (n := n + 3) (by omega)
 have hbS4 : bd (n + 5) = 4 * bd (n + 4) := bd_succ (n := n + 4) (by omega)
 have hbB := bd_big (n := (n + 5)) (by omega)
 have hbM := bd_mono (show n ≤ n + 5 by omega)
 refine WX.enter (tt := tt) (Γ := [(0, MF.rs .stb K0 M0 code)]) Tryz.func44 Z J Z (allS_cons Z N0 allS_nil) ?_
 refine R0 ?_
 obtain ⟨⟨u1, u2⟩, hu1⟩ : ∃ r_, a1n code = r_ := ⟨_, rfl⟩
 refine WX.callF (ds := fun _ => []) 1 (fun _ _ _ => All.nil) (fun _ f hf => by cases hf) Z Z Z Z Z O Z (fun w G bs hI hΓ => f76 w n (by omega) code K0 M0 (hΓ.get 0 Z) hokcode u1 u2 hu1) O O ?_
 rintro bn1 hq1
 refine WX.adopt 7 1 Z Z Z ?_
 refine R0 ?_
 obtain ⟨⟨u3, u4, u5⟩, hu2⟩ : ∃ r_, a1y code u1 u2 = r_ := ⟨_, rfl⟩
 refine WX.callP 7 2 Z (fun _ _ h => GoT.ow_rd h) (fun _ f hf => GoT.fak f hf) Z Z Z Z Z O Z (fun w G bs H hI hH hs hΓ => f105 w n (by omega) H hH (bs 7) code K0 M0 (hΓ.get 0 Z) u1 u2 hs hokcode hq1.1 hq1.2 u3 u4 u5 hu2) O O ?_
 rintro ⟨⟨p1, c1⟩, ⟨p2, c2⟩, ⟨p3, c3⟩⟩ hq2
 refine R0 ?_
 refine WX.draw [0, 2, 3, 4] mixed ?_
 intro bs G0 hΓ0
 refine DX.takes (fuel := 4) ttOk [(1, true)] J Z ?_
 refine DX.toTX ?_
 intro S_
 refine TX.all2 0 2 J ?_ ?_
 ·skip
  refine TS.op 0 Z J ?_
  refine R0 ?_
  refine WX.back0 ?_
  refine TX.tail [2, 3, 4] Z Z J ?_
  obtain ⟨⟨u6, u7, u8⟩, hu3⟩ : ∃ r_, a0s code u4 u5 = r_ := ⟨_, rfl⟩
  refine WX.callP 7 8 Z (fun _ _ h => GoT.ow_rd h) (fun _ f hf => GoT.fak f hf) Z Z Z Z Z O Z (fun w G bs H hI hH hs hΓ => f122 w n (by omega) H hH (bs 7) code K0 M0 (hΓ.get 0 Z) u4 u5 hs hokcode hq2.2.1 hq2.2.2 u6 u7 u8 hu3) O O ?_
  rintro ⟨p4, c4⟩ hq3
  have q1 := l27Any_len code u4 u5
  rw [hu3] at q1
  try dsimp only at q1
  refine R0 ?_
  have hP1 : a1j code = (u3, u6) := by simp only [a1j, hu1, hu2, hu3, ct, cf]
  refine R1 ?_
  intro w1 G bs hI hΓ
  rw [hP1]
  exact Post.of [5, 6, 7, 9] (((p1, c1), (p2, c2), (p3, c3)), (p4, c4)) hI hΓ Z Z Z (⟨hq2.1, (GoT.okm (α := List TableEntry) (by omega) (ok_StateVector hq3.1))⟩)
 refine TS.op 2 Z J ?_
 obtain ⟨⟨u9, u10, u11⟩, hu4⟩ : ∃ r_, a0s code u4 u5 = r_ := ⟨_, rfl⟩
 refine WX.callP 7 10 Z (fun _ _ h => GoT.ow_rd h) (fun _ f hf => GoT.fak f hf) Z Z Z Z Z O Z (fun w G bs H hI hH hs hΓ => f122 w n (by omega) H hH (bs 7) code K0 M0 (hΓ.get 0 Z) u4 u5 hs hokcode hq2.2.1 hq2.2.2 u9 u10 u11 hu4) O O ?_
 rintro ⟨p5, c5⟩ hq4
 have q2 := l27Any_len code u4 u5
 rw [hu4] at q2
 try dsimp only at q2
 refine R0 ?_
 refine WX.back0 ?_
 refine TX.tail [0, 3, 4] Z Z J ?_
 refine R0 ?_
 have hP2 : a1j code = (u3, u9) := by simp only [a1j, hu1, hu2, hu4, ct, cf]
 refine R1 ?_
 intro w1 G bs hI hΓ
 rw [hP2]
 exact Post.of [5, 6, 7, 11] (((p1, c1), (p2, c2), (p3, c3)), (p5, c5)) hI hΓ Z Z Z (⟨hq2.1, (GoT.okm (α := List TableEntry) (by omega) (ok_StateVector hq4.1))⟩)
theorem f45 (w : World) (n : Nat) (hn : n + 1 ≤ 9) (code : (List UInt8)) (K0 : Option Addr) (M0 : Nat) (N0 : RdSl (hp w) K0 M0 code) (hokcode : GoT.ok n code) :
 Does Tryz.prog 45 #[.slice K0 ((code).length) M0] w emp (Post w emp (fun x : GoT.X (Name) => .agg ⟨GoT.sh ((a36 code) : Name) x⟩) (fun x => GoT.oa ((a36 code) : Name) x) (GoT.ok (n + 1) ((a36 code) : Name))) := by
 have hbP := bd_pos n
 have hbS0 : bd (n + 1) = 4 * bd (n) := bd_succ (n := n) (by omega)
 have hbB := bd_big (n := (n + 1)) (by omega)
 have hbM := bd_mono (show n ≤ n + 1 by omega)
 refine WX.enter (tt := tt) (Γ := [(0, MF.rs .stb K0 M0 code)]) Tryz.func45 Z J Z (allS_cons Z N0 allS_nil) ?_
 refine R0 ?_
 obtain ⟨⟨u1, u2⟩, hu1⟩ : ∃ r_, a1n code = r_ := ⟨_, rfl⟩
 refine WX.callF (ds := fun _ => []) 1 (fun _ _ _ => All.nil) (fun _ f hf => by cases hf) Z Z Z Z Z O Z (fun w G bs hI hΓ => f76 w n (by omega) code K0 M0 (hΓ.get 0 Z) hokcode u1 u2 hu1) O O ?_
 rintro bn1 hq1
 refine WX.adopt 5 1 Z Z Z ?_
 refine R0 ?_
 obtain ⟨⟨u3, u4, u5⟩, hu2⟩ : ∃ r_, a0r code u1 u2 = r_ := ⟨_, rfl⟩
 refine WX.callP 5 2 Z (fun _ _ h => GoT.ow_rd h) (fun _ f hf => GoT.fak f hf) Z Z Z Z Z O Z (fun w G bs H hI hH hs hΓ => f123 w n (by omega) H hH (bs 5) code K0 M0 (hΓ.get 0 Z) u1 u2 hs hokcode hq1.1 hq1.2 u3 u4 u5 hu2) O O ?_
 rintro ⟨p1, c1⟩ hq2
 have q1 := l4Any_len code u1 u2
 rw [hu2] at q1
 try dsimp only at q1
 refine R0 ?_
 have hP1 : a36 code = u3 := by simp only [a36, hu1, hu2, ct, cf]
 refine R1 ?_
 intro w1 G bs hI hΓ
 rw [hP1]
 exact Post.of [3] (p1, c1) hI hΓ Z Z Z (GoT.okm (α := List Str) (by omega) (ok_Name hq2.1))
theorem f119 (w : World) (n : Nat) (hn : n + 5 ≤ 9) (code : (List UInt8)) (K0 : Option Addr) (M0 : Nat) (N0 : RdSl (hp w) K0 M0 code) (hokcode : GoT.ok n code) :
 Does Tryz.prog 119 #[.slice K0 ((code).length) M0] w emp (Post w emp (fun x : GoT.X (Member × Member) => .tuple #[.agg ⟨GoT.sh ((a04 code).1 : Member) x.1⟩, .agg ⟨GoT.sh ((a04 code).2 : Member) x.2⟩]) (fun x => [MF.oz (GoT.fa .der (((a04 code).1, (a04 code).2) : Member × Member) x)]) (GoT.ok (n + 2) ((a04 code).1 : Member) ∧ GoT.ok (n + 2) ((a04 code).2 : Member))) := by
 have hbP := bd_pos n
 have hbS0 : bd (n + 1) = 4 * bd (n) := bd_succ (n := n) (by omega)
 have hbS1 : bd (n + 2) = 4 * bd (n + 1) := bd_succ (n := n + 1) (by omega)
 have hbS2 : bd (n + 3) = 4 * bd (n + 2) := bd_succ (n := n + 2) (by omega)
 have hbS3 : bd (n + 4) = 4 * bd (n + 3) := bd_succ (n := n + 3) (by omega)
 have hbS4 : bd (n + 5) = 4 * bd (n + 4) := bd_succ (n := n + 4) (by omega)
 have hbB := bd_big (n := (n + 5)) (by omega)
 have hbM := bd_mono (show n ≤ n + 5 by omega)
 refine WX.enter (tt := tt) (Γ := [(0, MF.rs .stb K0 M0 code)]) Tryz.func119 Z J Z (allS_cons Z N0 allS_nil) ?_
 refine R0 ?_
 obtain ⟨⟨u1, u2⟩, hu1⟩ : ∃ r_, a1n code = r_ := ⟨_, rfl⟩
 refine WX.callF (ds := fun _ => []) 1 (fun _ _ _ => All.nil) (fun _ f hf => by cases hf) Z Z Z Z Z O Z (fun w G bs hI hΓ => f76 w n (by omega) code K0 M0 (hΓ.get 0 Z) hokcode u1 u2 hu1) O O ?_
 rintro bn1 hq1
 refine WX.adopt 9 1 Z Z Z ?_
 refine R0 ?_
 obtain ⟨⟨u3, u4, u5⟩, hu2⟩ : ∃ r_, a2r code u1 u2 = r_ := ⟨_, rfl⟩
 refine WX.callP 9 2 Z (fun _ _ h => GoT.ow_rd h) (fun _ f hf => GoT.fak f hf) Z Z Z Z Z O Z (fun w G bs H hI hH hs hΓ => f104 w n (by omega) H hH (bs 9) code K0 M0 (hΓ.get 0 Z) u1 u2 hs hokcode hq1.1 hq1.2 u3 u4 u5 hu2) O O ?_
 rintro ⟨p1, c1⟩ hq2
 have q1 := l28Group_len code u1 u2
 rw [hu2] at q1
 try dsimp only at q1
 refine R0 ?_
 obtain ⟨⟨u6, u7, u8⟩, hu3⟩ : ∃ r_, a08 code u4 u5 3 = r_ := ⟨_, rfl⟩
 refine WX.callP (ds := fun _ => []) 9 4 Z (fun _ _ _ => All.nil) (fun _ f hf => by cases hf) Z Z Z Z Z O Z (fun w G bs H hI hH hs hΓ => f84 w n (by omega) H hH (bs 9) code K0 M0 (hΓ.get 0 Z) u4 u5 3 hs hokcode hq2.2.1 hq2.2.2 (show I64 3 from (by unfold I64; omega)) u6 u7 u8 hu3) O O ?_
 rintro ⟨⟩ hq3
 have q2 := l1Below_rng code u4 u5 3
 rw [hu3] at q2
 try dsimp only at q2
 have r1 : -9223372036854775808 ≤ u6 ∧ u6 ≤ 9223372036854775807 := hq3.1
 refine WX.slot 14 (y := .v (.int .i64 (((u6).toNat : Nat) : Int))) Z (fun _ => congrArg (Value.int .i64) (show u6 = (((u6).toNat : Nat) : Int) from by omega)) ?_
 refine WX.opn (kk := 3) 501 3 5 Z Z Z ?_
 intro xs1 hx1
 have hr1 : (u6).toNat < (u3).length := (by omega)
 refine WX.idxR 501 ((u6).toNat) ttOk Z Z Z Z Z Z Z Z Z hr1 ?_
 rintro ad1 rfl
 have e1i : (u6).toNat < (u3).length := (by omega)
 obtain ⟨e1, e1h⟩ : ∃ e1, (u3)[(u6).toNat]? = some e1 := ⟨_, List.getElem?_eq_getElem e1i⟩
 have ok1 : GoT.ok (n + 1) e1 := (okl hq2.1).2 _ (List.mem_of_getElem? e1h)
 refine WX.ldR 501 6 e1 ttOk Z Z Z Z Z Z Z Z Z hr1 (fun G hΓ => (hΓ.get 5 Z : OwL _ _ _).rd) e1h O O ?_
 rintro ⟨⟨p2, c2⟩, ⟨p3, c3⟩, ⟨p4, c4⟩⟩ hx2
 refine R0 ?_
 obtain ⟨⟨u9, u10, u11⟩, hu4⟩ : ∃ r_, a08 code u7 u8 3 = r_ := ⟨_, rfl⟩
 refine WX.callP (ds := fun _ => []) 9 9 Z (fun _ _ _ => All.nil) (fun _ f hf => by cases hf) Z Z Z Z Z O Z (fun w G bs H hI hH hs hΓ => f84 w n (by omega) H hH (bs 9) code K0 M0 (hΓ.get 0 Z) u7 u8 3 hs hokcode hq3.2.1 hq3.2.2 (show I64 3 from (by unfold I64; omega)) u9 u10 u11 hu4) O O ?_
 rintro ⟨⟩ hq4
 have q3 := l1Below_rng code u7 u8 3
 rw [hu4] at q3
 try dsimp only at q3
 have r2 : -9223372036854775808 ≤ u9 ∧ u9 ≤ 9223372036854775807 := hq4.1
 refine WX.slot 19 (y := .v (.int .i64 (((u9).toNat : Nat) : Int))) Z (fun _ => congrArg (Value.int .i64) (show u9 = (((u9).toNat : Nat) : Int) from by omega)) ?_
 have hr2 : (u9).toNat < (u3).length := (by omega)
 refine WX.idxR 501 ((u9).toNat) ttOk Z Z Z Z Z Z Z Z Z hr2 ?_
 rintro ad2 ⟨⟩
 have e2i : (u9).toNat < (u3).length := (by omega)
 obtain ⟨e2, e2h⟩ : ∃ e2, (u3)[(u9).toNat]? = some e2 := ⟨_, List.getElem?_eq_getElem e2i⟩
 have ok2 : GoT.ok (n + 1) e2 := (okl hq2.1).2 _ (List.mem_of_getElem? e2h)
 refine WX.ldR 501 10 e2 ttOk Z Z Z Z Z Z Z Z Z hr2 (fun G hΓ => (hΓ.get 5 Z : OwL _ _ _).rd) e2h O O ?_
 rintro ⟨⟨p5, c5⟩, ⟨p6, c6⟩, ⟨p7, c7⟩⟩ hx3
 refine R0 ?_
 obtain ⟨⟨u12, u13, u14⟩, hu5⟩ : ∃ r_, a33 code u10 u11 8 = r_ := ⟨_, rfl⟩
 refine WX.callP (ds := fun _ => []) 9 13 Z (fun _ _ _ => All.nil) (fun _ f hf => by cases hf) Z Z Z Z Z O Z (fun w G bs H hI hH hs hΓ => f111 w n (by omega) H hH (bs 9) code K0 M0 (hΓ.get 0 Z) u10 u11 8 hs hokcode hq4.2.1 hq4.2.2 (show I64 8 from (by unfold I64; omega)) u12 u13 u14 hu5) O O ?_
 rintro ⟨⟩ hq5
 refine R0 ?_
 refine WX.cases 23 Z (fun h1 => ?_) (fun h1 => ?_)
 ·skip
  refine R0 ?_
  obtain ⟨⟨u15, u16, u17⟩, hu6⟩ : ∃ r_, a1y code u13 u14 = r_ := ⟨_, rfl⟩
  refine WX.callP 9 14 Z (fun _ _ h => GoT.ow_rd h) (fun _ f hf => GoT.fak f hf) Z Z Z Z Z O Z (fun w G bs H hI hH hs hΓ => f105 w n (by omega) H hH (bs 9) code K0 M0 (hΓ.get 0 Z) u13 u14 hs hokcode hq5.1 hq5.2 u15 u16 u17 hu6) O O ?_
  rintro ⟨⟨p8, c8⟩, ⟨p9, c9⟩, ⟨p10, c10⟩⟩ hq6
  refine R0 ?_
  refine WX.draw [0, 1, 2, 3] mixed ?_
  intro bs G0 hΓ0
  refine DX.toTX ?_
  intro S_
  refine TX.all2 0 1 J ?_ ?_
  ·skip
   refine TS.op 0 Z J ?_
   refine R0 ?_
   refine WX.back0 ?_
   refine TX.all2 1 2 J ?_ ?_
   ·skip
    refine TS.op 1 Z J ?_
    refine R0 ?_
    refine WX.back0 ?_
    refine TX.tail [2, 3] Z Z J ?_
    refine R0 ?_
    have hP1 : a04 code = (e1, u15) := by simp only [a04, hu1, hu2, hu3, e1h, hu4, e2h, hu5, h1, hu6, ct, cf]
    refine R1 ?_
    intro w1 G bs hI hΓ
    rw [hP1]
    exact Post.ofZ [5, 17, 18, 19] (((p2, c2), (p3, c3), (p4, c4)), ((p8, c8), (p9, c9), (p10, c10))) hI hΓ Z Z Z (fun h hs => (all_app2 (mem_read (hs.all (MF.ol xs1 (u3 : List Member)) (List.mem_of_getElem? (i := 0) Z) : OwL _ _ _).rd e1h hx2) (All.cons ((hs.all (MF.os p8 c8 u15.name.parts) (List.mem_of_getElem? (i := 1) Z) : OwSl _ _ _ _).rd : RdSl _ _ _ _) (All.cons ((hs.all (MF.os p9 c9 u15.vector.entries) (List.mem_of_getElem? (i := 2) Z) : OwSl _ _ _ _).rd : RdSl _ _ _ _) (All.cons ((hs.all (MF.os p10 c10 u15.publications) (List.mem_of_getElem? (i := 3) Z) : OwSl _ _ _ _).rd : RdSl _ _ _ _) All.nil))))) (⟨(And.intro (GoT.okm (α := List Str) (by omega) (ok_Name (ok_Member ok1).1)) (And.intro (GoT.okm (α := List TableEntry) (by omega) (ok_StateVector (ok_Member ok1).2.1)) (GoT.okm (α := List Publication) (by omega) (ok_Member ok1).2.2))), hq6.1⟩)
   refine TS.op 2 Z J ?_
   refine R0 ?_
   refine WX.back0 ?_
   refine TX.tail [1, 3] Z Z J ?_
   refine R0 ?_
   have hP2 : a04 code = (e1, u15) := by simp only [a04, hu1, hu2, hu3, e1h, hu4, e2h, hu5, h1, hu6, ct, cf]
   refine R1 ?_
   intro w1 G bs hI hΓ
   rw [hP2]
   exact Post.ofZ [5, 17, 18, 19] (((p2, c2), (p3, c3), (p4, c4)), ((p8, c8), (p9, c9), (p10, c10))) hI hΓ Z Z Z (fun h hs => (all_app2 (mem_read (hs.all (MF.ol xs1 (u3 : List Member)) (List.mem_of_getElem? (i := 0) Z) : OwL _ _ _).rd e1h hx2) (All.cons ((hs.all (MF.os p8 c8 u15.name.parts) (List.mem_of_getElem? (i := 1) Z) : OwSl _ _ _ _).rd : RdSl _ _ _ _) (All.cons ((hs.all (MF.os p9 c9 u15.vector.entries) (List.mem_of_getElem? (i := 2) Z) : OwSl _ _ _ _).rd : RdSl _ _ _ _) (All.cons ((hs.all (MF.os p10 c10 u15.publications) (List.mem_of_getElem? (i := 3) Z) : OwSl _ _ _ _).rd : RdSl _ _ _ _) All.nil))))) (⟨(And.intro (GoT.okm (α := List Str) (by omega) (ok_Name (ok_Member ok1).1)) (And.intro (GoT.okm (α := List TableEntry) (by omega) (ok_StateVector (ok_Member ok1).2.1)) (GoT.okm (α := List Publication) (by omega) (ok_Member ok1).2.2))), hq6.1⟩)
  refine TS.op 1 Z J ?_
  refine R0 ?_
  refine WX.back0 ?_
  refine TX.tail [0, 2, 3] Z Z J ?_
  refine R0 ?_
  have hP3 : a04 code = (e1, u15) := by simp only [a04, hu1, hu2, hu3, e1h, hu4, e2h, hu5, h1, hu6, ct, cf]
  refine R1 ?_
  intro w1 G bs hI hΓ
  rw [hP3]
  exact Post.ofZ [5, 17, 18, 19] (((p2, c2), (p3, c3), (p4, c4)), ((p8, c8), (p9, c9), (p10, c10))) hI hΓ Z Z Z (fun h hs => (all_app2 (mem_read (hs.all (MF.ol xs1 (u3 : List Member)) (List.mem_of_getElem? (i := 0) Z) : OwL _ _ _).rd e1h hx2) (All.cons ((hs.all (MF.os p8 c8 u15.name.parts) (List.mem_of_getElem? (i := 1) Z) : OwSl _ _ _ _).rd : RdSl _ _ _ _) (All.cons ((hs.all (MF.os p9 c9 u15.vector.entries) (List.mem_of_getElem? (i := 2) Z) : OwSl _ _ _ _).rd : RdSl _ _ _ _) (All.cons ((hs.all (MF.os p10 c10 u15.publications) (List.mem_of_getElem? (i := 3) Z) : OwSl _ _ _ _).rd : RdSl _ _ _ _) All.nil))))) (⟨(And.intro (GoT.okm (α := List Str) (by omega) (ok_Name (ok_Member ok1).1)) (And.intro (GoT.okm (α := List TableEntry) (by omega) (ok_StateVector (ok_Member ok1).2.1)) (GoT.okm (α := List Publication) (by omega) (ok_Member ok1).2.2))), hq6.1⟩)
 refine R0 ?_
 refine WX.draw [0, 1, 2, 3] mixed ?_
 intro bs G0 hΓ0
 refine DX.toTX ?_
 intro S_
 refine TX.all2 0 1 J ?_ ?_
 ·skip
  refine TS.op 0 Z J ?_
  refine R0 ?_
  refine WX.back0 ?_
  refine TX.all2 1 2 J ?_ ?_
  ·skip
   refine TS.op 1 Z J ?_
   refine R0 ?_
   refine WX.back0 ?_
   refine TX.tail [2, 3] Z Z J ?_
   refine R0 ?_
   have hP4 : a04 code = (e1, e2) := by simp only [a04, hu1, hu2, hu3, e1h, hu4, e2h, hu5, h1, ct, cf]
   refine R1 ?_
   intro w1 G bs hI hΓ
   rw [hP4]
   exact Post.ofZ [5] (((p2, c2), (p3, c3), (p4, c4)), ((p5, c5), (p6, c6), (p7, c7))) hI hΓ Z Z Z (fun h hs => (all_app2 (mem_read (hs.all (MF.ol xs1 (u3 : List Member)) (List.mem_of_getElem? (i := 0) Z) : OwL _ _ _).rd e1h hx2) (mem_read (hs.all (MF.ol xs1 (u3 : List Member)) (List.mem_of_getElem? (i := 0) Z) : OwL _ _ _).rd e2h hx3))) (⟨(And.intro (GoT.okm (α := List Str) (by omega) (ok_Name (ok_Member ok1).1)) (And.intro (GoT.okm (α := List TableEntry) (by omega) (ok_StateVector (ok_Member ok1).2.1)) (GoT.okm (α := List Publication) (by omega) (ok_Member ok1).2.2))), (And.intro (GoT.okm (α := List Str) (by omega) (ok_Name (ok_Member ok2).1)) (And.intro (GoT.okm (α := List TableEntry) (by omega) (ok_StateVector (ok_Member ok2).2.1)) (GoT.okm (α := List Publication) (by omega) (ok_Member ok2).2.2)))⟩)
  refine TS.op 2 Z J ?_
  refine R0 ?_
  refine WX.back0 ?_
  refine TX.tail [1, 3] Z Z J ?_
  refine R0 ?_
  have hP5 : a04 code = (e1, e2) := by simp only [a04, hu1, hu2, hu3, e1h, hu4, e2h, hu5, h1, ct, cf]
  refine R1 ?_
  intro w1 G bs hI hΓ
  rw [hP5]
  exact Post.ofZ [5] (((p2, c2), (p3, c3), (p4, c4)), ((p5, c5), (p6, c6), (p7, c7))) hI hΓ Z Z Z (fun h hs => (all_app2 (mem_read (hs.all (MF.ol xs1 (u3 : List Member)) (List.mem_of_getElem? (i := 0) Z) : OwL _ _ _).rd e1h hx2) (mem_read (hs.all (MF.ol xs1 (u3 : List Member)) (List.mem_of_getElem? (i := 0) Z) : OwL _ _ _).rd e2h hx3))) (⟨(And.intro (GoT.okm (α := List Str) (by omega) (ok_Name (ok_Member ok1).1)) (And.intro (GoT.okm (α := List TableEntry) (by omega) (ok_StateVector (ok_Member ok1).2.1)) (GoT.okm (α := List Publication) (by omega) (ok_Member ok1).2.2))), (And.intro (GoT.okm (α := List Str) (by omega) (ok_Name (ok_Member ok2).1)) (And.intro (GoT.okm (α := List TableEntry) (by omega) (ok_StateVector (ok_Member ok2).2.1)) (GoT.okm (α := List Publication) (by omega) (ok_Member ok2).2.2)))⟩)
 refine TS.op 1 Z J ?_
 refine R0 ?_
 refine WX.back0 ?_
 refine TX.tail [0, 2, 3] Z Z J ?_
 refine R0 ?_
 have hP6 : a04 code = (e1, e2) := by simp only [a04, hu1, hu2, hu3, e1h, hu4, e2h, hu5, h1, ct, cf]
 refine R1 ?_
 intro w1 G bs hI hΓ
 rw [hP6]
 exact Post.ofZ [5] (((p2, c2), (p3, c3), (p4, c4)), ((p5, c5), (p6, c6), (p7, c7))) hI hΓ Z Z Z (fun h hs => (all_app2 (mem_read (hs.all (MF.ol xs1 (u3 : List Member)) (List.mem_of_getElem? (i := 0) Z) : OwL _ _ _).rd e1h hx2) (mem_read (hs.all (MF.ol xs1 (u3 : List Member)) (List.mem_of_getElem? (i := 0) Z) : OwL _ _ _).rd e2h hx3))) (⟨(And.intro (GoT.okm (α := List Str) (by omega) (ok_Name (ok_Member ok1).1)) (And.intro (GoT.okm (α := List TableEntry) (by omega) (ok_StateVector (ok_Member ok1).2.1)) (GoT.okm (α := List Publication) (by omega) (ok_Member ok1).2.2))), (And.intro (GoT.okm (α := List Str) (by omega) (ok_Name (ok_Member ok2).1)) (And.intro (GoT.okm (α := List TableEntry) (by omega) (ok_StateVector (ok_Member ok2).2.1)) (GoT.okm (α := List Publication) (by omega) (ok_Member ok2).2.2)))⟩)
theorem f39 (w : World) (n : Nat) (hn : n + 5 ≤ 9) (code : (List UInt8)) (K0 : Option Addr) (M0 : Nat) (N0 : RdSl (hp w) K0 M0 code) (hokcode : GoT.ok n code) :
 Does Tryz.prog 39 #[.slice K0 ((code).length) M0] w emp (Post w emp (fun x : GoT.X (Member × Member) => .tuple #[.agg ⟨GoT.sh ((a1r code).1 : Member) x.1⟩, .agg ⟨GoT.sh ((a1r code).2 : Member) x.2⟩]) (fun x => [MF.oz (GoT.fa .der (((a1r code).1, (a1r code).2) : Member × Member) x)]) (GoT.ok (n + 2) ((a1r code).1 : Member) ∧ GoT.ok (n + 2) ((a1r code).2 : Member))) := by
 have hbP := bd_pos n
 have hbS0 : bd (n + 1) = 4 * bd (n) := bd_succ (n := n) (by omega)
 have hbS1 : bd (n + 2) = 4 * bd (n + 1) := bd_succ (n := n + 1) (by omega)
 have hbS2 : bd (n + 3) = 4 * bd (n + 2) := bd_succ (n := n + 2) (by omega)
 have hbS3 : bd (n + 4) = 4 * bd (n + 3) := bd_succ (n := n + 3) (by omega)
 have hbS4 : bd (n + 5) = 4 * bd (n + 4) := bd_succ (n := n + 4) (by omega)
 have hbB := bd_big (n := (n + 5)) (by omega)
 have hbM := bd_mono (show n ≤ n + 5 by omega)
 refine WX.enter (tt := tt) (Γ := [(0, MF.rs .stb K0 M0 code)]) Tryz.func39 Z J Z (allS_cons Z N0 allS_nil) ?_
 refine R0 ?_
 refine WX.callF 1 (fun _ _ h => sep_one h) (fun _ f hf => GoT.fak f hf) Z Z Z Z Z O Z (fun w G bs hI hΓ => f119 w n (by omega) code K0 M0 (hΓ.get 0 Z) hokcode) O O ?_
 rintro ⟨⟨⟨p1, c1⟩, ⟨p2, c2⟩, ⟨p3, c3⟩⟩, ⟨⟨p4, c4⟩, ⟨p5, c5⟩, ⟨p6, c6⟩⟩⟩ hq1
 refine R0 ?_
 have hP1 : a1r code = ((a04 code).1, (a04 code).2) := by simp only [a1r, ct, cf]
 refine R1 ?_
 intro w1 G bs hI hΓ
 rw [hP1]
 exact Post.ofZ [7] (((p1, c1), (p2, c2), (p3, c3)), ((p4, c4), (p5, c5), (p6, c6))) hI hΓ Z Z Z (fun h hs => (all_app2 (All.cons ((hs.all (MF.oz (GoT.fa .der (((a04 code).1, (a04 code).2) : Member × Member) (((p1, c1), (p2, c2), (p3, c3)), ((p4, c4), (p5, c5), (p6, c6))))) (List.mem_of_getElem? (i := 0) Z) : All _ _) _ (List.mem_of_getElem? (i := 0) Z)) (All.cons ((hs.all (MF.oz (GoT.fa .der (((a04 code).1, (a04 code).2) : Member × Member) (((p1, c1), (p2, c2), (p3, c3)), ((p4, c4), (p5, c5), (p6, c6))))) (List.mem_of_getElem? (i := 0) Z) : All _ _) _ (List.mem_of_getElem? (i := 1) Z)) (All.cons ((hs.all (MF.oz (GoT.fa .der (((a04 code).1, (a04 code).2) : Member × Member) (((p1, c1), (p2, c2), (p3, c3)), ((p4, c4), (p5, c5), (p6, c6))))) (List.mem_of_getElem? (i := 0) Z) : All _ _) _ (List.mem_of_getElem? (i := 2) Z)) All.nil))) (All.cons ((hs.all (MF.oz (GoT.fa .der (((a04 code).1, (a04 code).2) : Member × Member) (((p1, c1), (p2, c2), (p3, c3)), ((p4, c4), (p5, c5), (p6, c6))))) (List.mem_of_getElem? (i := 0) Z) : All _ _) _ (List.mem_of_getElem? (i := 3) Z)) (All.cons ((hs.all (MF.oz (GoT.fa .der (((a04 code).1, (a04 code).2) : Member × Member) (((p1, c1), (p2, c2), (p3, c3)), ((p4, c4), (p5, c5), (p6, c6))))) (List.mem_of_getElem? (i := 0) Z) : All _ _) _ (List.mem_of_getElem? (i := 4) Z)) (All.cons ((hs.all (MF.oz (GoT.fa .der (((a04 code).1, (a04 code).2) : Member × Member) (((p1, c1), (p2, c2), (p3, c3)), ((p4, c4), (p5, c5), (p6, c6))))) (List.mem_of_getElem? (i := 0) Z) : All _ _) _ (List.mem_of_getElem? (i := 5) Z)) All.nil))))) (⟨hq1.1, hq1.2⟩)
theorem f40 (w : World) (n : Nat) (hn : n + 6 ≤ 9) (code : (List UInt8)) (K0 : Option Addr) (M0 : Nat) (N0 : RdSl (hp w) K0 M0 code) (hokcode : GoT.ok n code) :
 Does Tryz.prog 40 #[.slice K0 ((code).length) M0] w emp (Post w emp (fun x : GoT.X (Member × Member) => .tuple #[.agg ⟨GoT.sh ((a1k code).1 : Member) x.1⟩, .agg ⟨GoT.sh ((a1k code).2 : Member) x.2⟩]) (fun x => [MF.oz (GoT.fa .der (((a1k code).1, (a1k code).2) : Member × Member) x)]) (GoT.ok (n + 3) ((a1k code).1 : Member) ∧ GoT.ok (n + 3) ((a1k code).2 : Member))) := by
 have hbP := bd_pos n
 have hbS0 : bd (n + 1) = 4 * bd (n) := bd_succ (n := n) (by omega)
 have hbS1 : bd (n + 2) = 4 * bd (n + 1) := bd_succ (n := n + 1) (by omega)
 have hbS2 : bd (n + 3) = 4 * bd (n + 2) := bd_succ (n := n + 2) (by omega)
 have hbS3 : bd (n + 4) = 4 * bd (n + 3) := bd_succ (n := n + 3) (by omega)
 have hbS4 : bd (n + 5) = 4 * bd (n + 4) := bd_succ (n := n + 4) (by omega)
 have hbS5 : bd (n + 6) = 4 * bd (n + 5) := bd_succ (n := n + 5) (by omega)
 have hbB := bd_big (n := (n + 6)) (by omega)
 have hbM := bd_mono (show n ≤ n + 6 by omega)
 refine WX.enter (tt := tt) (Γ := [(0, MF.rs .stb K0 M0 code)]) Tryz.func40 Z J Z (allS_cons Z N0 allS_nil) ?_
 refine R0 ?_
 refine WX.callF 1 (fun _ _ h => sep_one h) (fun _ f hf => GoT.fak f hf) Z Z Z Z Z O Z (fun w G bs hI hΓ => f119 w n (by omega) code K0 M0 (hΓ.get 0 Z) hokcode) O O ?_
 rintro ⟨⟨⟨p1, c1⟩, ⟨p2, c2⟩, ⟨p3, c3⟩⟩, ⟨⟨p4, c4⟩, ⟨p5, c5⟩, ⟨p6, c6⟩⟩⟩ hq1
 refine R0 ?_
 have r1 := tmod_rng (((code).length : Nat) : Int) (show (0 : Int) < 2 by omega)
 refine WX.see Z Z Z (fun _ hΓ => looks_rem Z Z Z (by decide)) ?_
 refine R0 ?_
 refine WX.cases 14 Z (fun h1 => ?_) (fun h1 => ?_)
 ·skip
  have h1d := B.et h1
  refine R0 ?_
  refine WX.draw [6, 7] mixed ?_
  intro bs G0 hΓ0
  refine DX.takes (fuel := 4) ttOk [(0, false), (1, false), (3, false), (4, false)] J Z ?_
  refine DX.toTX ?_
  intro S_
  refine TX.all1 2 J ?_
  refine TS.callF 2 8 (fun _ _ h => GoT.ow_rd h) (fun _ f hf => GoT.fak f hf) Z Z Z Z Z Z O Z (fun w G bs hI hΓ => f48 w (n + 2) (by omega) ((a04 code).1) p1 c1 (hΓ.get 1 Z) p2 c2 (hΓ.get 2 Z) p3 c3 (hΓ.get 3 Z) ((a04 code).2) p4 c4 (hΓ.get 4 Z) p5 c5 (hΓ.get 5 Z) p6 c6 (hΓ.get 6 Z) hq1.1 hq1.2) O O ?_
  rintro ⟨⟨p7, c7⟩, ⟨p8, c8⟩, ⟨p9, c9⟩⟩ hq2
  refine TX.all1 5 J ?_
  refine TS.callF 5 14 (fun _ _ h => GoT.ow_rd h) (fun _ f hf => GoT.fak f hf) Z Z Z Z Z Z O Z (fun w G bs hI hΓ => f48 w (n + 2) (by omega) ((a04 code).2) p4 c4 (hΓ.get 4 Z) p5 c5 (hΓ.get 5 Z) p6 c6 (hΓ.get 6 Z) ((a04 code).1) p1 c1 (hΓ.get 1 Z) p2 c2 (hΓ.get 2 Z) p3 c3 (hΓ.get 3 Z) hq1.2 hq1.1) O O ?_
  rintro ⟨⟨p10, c10⟩, ⟨p11, c11⟩, ⟨p12, c12⟩⟩ hq3
  refine TX.tail [6, 7] Z Z J ?_
  refine R0 ?_
  have hP1 : a1k code = (a07 ((a04 code).1) ((a04 code).2), a07 ((a04 code).2) ((a04 code).1)) := by simp only [a1k, h1, ct, cf]
  refine R1 ?_
  intro w1 G bs hI hΓ
  rw [hP1]
  exact Post.ofZ [11, 12, 13, 17, 18, 19] (((p7, c7), (p8, c8), (p9, c9)), ((p10, c10), (p11, c11), (p12, c12))) hI hΓ Z Z Z (fun h hs => (all_app2 (All.cons ((hs.all (MF.os p7 c7 ((a07 ((a04 code).1) ((a04 code).2)).name.parts)) (List.mem_of_getElem? (i := 0) Z) : OwSl _ _ _ _).rd : RdSl _ _ _ _) (All.cons ((hs.all (MF.os p8 c8 ((a07 ((a04 code).1) ((a04 code).2)).vector.entries)) (List.mem_of_getElem? (i := 1) Z) : OwSl _ _ _ _).rd : RdSl _ _ _ _) (All.cons ((hs.all (MF.os p9 c9 ((a07 ((a04 code).1) ((a04 code).2)).publications)) (List.mem_of_getElem? (i := 2) Z) : OwSl _ _ _ _).rd : RdSl _ _ _ _) All.nil))) (All.cons ((hs.all (MF.os p10 c10 ((a07 ((a04 code).2) ((a04 code).1)).name.parts)) (List.mem_of_getElem? (i := 3) Z) : OwSl _ _ _ _).rd : RdSl _ _ _ _) (All.cons ((hs.all (MF.os p11 c11 ((a07 ((a04 code).2) ((a04 code).1)).vector.entries)) (List.mem_of_getElem? (i := 4) Z) : OwSl _ _ _ _).rd : RdSl _ _ _ _) (All.cons ((hs.all (MF.os p12 c12 ((a07 ((a04 code).2) ((a04 code).1)).publications)) (List.mem_of_getElem? (i := 5) Z) : OwSl _ _ _ _).rd : RdSl _ _ _ _) All.nil))))) (⟨hq2, hq3⟩)
 have h1d := B.ef h1
 refine R0 ?_
 refine WX.draw [0, 1, 2, 3] mixed ?_
 intro bs G0 hΓ0
 refine DX.toTX ?_
 intro S_
 refine TX.all2 0 1 J ?_ ?_
 ·skip
  refine TS.op 0 Z J ?_
  refine R0 ?_
  refine WX.back0 ?_
  refine TX.all2 1 2 J ?_ ?_
  ·skip
   refine TS.op 1 Z J ?_
   refine R0 ?_
   refine WX.back0 ?_
   refine TX.tail [2, 3] Z Z J ?_
   refine R0 ?_
   have hP2 : a1k code = ((a04 code).1, (a04 code).2) := by simp only [a1k, h1, ct, cf]
   refine R1 ?_
   intro w1 G bs hI hΓ
   rw [hP2]
   exact Post.ofZ [7] (((p1, c1), (p2, c2), (p3, c3)), ((p4, c4), (p5, c5), (p6, c6))) hI hΓ Z Z Z (fun h hs => (all_app2 (All.cons ((hs.all (MF.oz (GoT.fa .der (((a04 code).1, (a04 code).2) : Member × Member) (((p1, c1), (p2, c2), (p3, c3)), ((p4, c4), (p5, c5), (p6, c6))))) (List.mem_of_getElem? (i := 0) Z) : All _ _) _ (List.mem_of_getElem? (i := 0) Z)) (All.cons ((hs.all (MF.oz (GoT.fa .der (((a04 code).1, (a04 code).2) : Member × Member) (((p1, c1), (p2, c2), (p3, c3)), ((p4, c4), (p5, c5), (p6, c6))))) (List.mem_of_getElem? (i := 0) Z) : All _ _) _ (List.mem_of_getElem? (i := 1) Z)) (All.cons ((hs.all (MF.oz (GoT.fa .der (((a04 code).1, (a04 code).2) : Member × Member) (((p1, c1), (p2, c2), (p3, c3)), ((p4, c4), (p5, c5), (p6, c6))))) (List.mem_of_getElem? (i := 0) Z) : All _ _) _ (List.mem_of_getElem? (i := 2) Z)) All.nil))) (All.cons ((hs.all (MF.oz (GoT.fa .der (((a04 code).1, (a04 code).2) : Member × Member) (((p1, c1), (p2, c2), (p3, c3)), ((p4, c4), (p5, c5), (p6, c6))))) (List.mem_of_getElem? (i := 0) Z) : All _ _) _ (List.mem_of_getElem? (i := 3) Z)) (All.cons ((hs.all (MF.oz (GoT.fa .der (((a04 code).1, (a04 code).2) : Member × Member) (((p1, c1), (p2, c2), (p3, c3)), ((p4, c4), (p5, c5), (p6, c6))))) (List.mem_of_getElem? (i := 0) Z) : All _ _) _ (List.mem_of_getElem? (i := 4) Z)) (All.cons ((hs.all (MF.oz (GoT.fa .der (((a04 code).1, (a04 code).2) : Member × Member) (((p1, c1), (p2, c2), (p3, c3)), ((p4, c4), (p5, c5), (p6, c6))))) (List.mem_of_getElem? (i := 0) Z) : All _ _) _ (List.mem_of_getElem? (i := 5) Z)) All.nil))))) (⟨(And.intro (GoT.okm (α := List Str) (by omega) (ok_Name (ok_Member hq1.1).1)) (And.intro (GoT.okm (α := List TableEntry) (by omega) (ok_StateVector (ok_Member hq1.1).2.1)) (GoT.okm (α := List Publication) (by omega) (ok_Member hq1.1).2.2))), (And.intro (GoT.okm (α := List Str) (by omega) (ok_Name (ok_Member hq1.2).1)) (And.intro (GoT.okm (α := List TableEntry) (by omega) (ok_StateVector (ok_Member hq1.2).2.1)) (GoT.okm (α := List Publication) (by omega) (ok_Member hq1.2).2.2)))⟩)
  refine TS.op 2 Z J ?_
  refine R0 ?_
  refine WX.back0 ?_
  refine TX.tail [1, 3] Z Z J ?_
  refine R0 ?_
  have hP3 : a1k code = ((a04 code).1, (a04 code).2) := by simp only [a1k, h1, ct, cf]
  refine R1 ?_
  intro w1 G bs hI hΓ
  rw [hP3]
  exact Post.ofZ [7] (((p1, c1), (p2, c2), (p3, c3)), ((p4, c4), (p5, c5), (p6, c6))) hI hΓ Z Z Z (fun h hs => (all_app2 (All.cons ((hs.all (MF.oz (GoT.fa .der (((a04 code).1, (a04 code).2) : Member × Member) (((p1, c1), (p2, c2), (p3, c3)), ((p4, c4), (p5, c5), (p6, c6))))) (List.mem_of_getElem? (i := 0) Z) : All _ _) _ (List.mem_of_getElem? (i := 0) Z)) (All.cons ((hs.all (MF.oz (GoT.fa .der (((a04 code).1, (a04 code).2) : Member × Member) (((p1, c1), (p2, c2), (p3, c3)), ((p4, c4), (p5, c5), (p6, c6))))) (List.mem_of_getElem? (i := 0) Z) : All _ _) _ (List.mem_of_getElem? (i := 1) Z)) (All.cons ((hs.all (MF.oz (GoT.fa .der (((a04 code).1, (a04 code).2) : Member × Member) (((p1, c1), (p2, c2), (p3, c3)), ((p4, c4), (p5, c5), (p6, c6))))) (List.mem_of_getElem? (i := 0) Z) : All _ _) _ (List.mem_of_getElem? (i := 2) Z)) All.nil))) (All.cons ((hs.all (MF.oz (GoT.fa .der (((a04 code).1, (a04 code).2) : Member × Member) (((p1, c1), (p2, c2), (p3, c3)), ((p4, c4), (p5, c5), (p6, c6))))) (List.mem_of_getElem? (i := 0) Z) : All _ _) _ (List.mem_of_getElem? (i := 3) Z)) (All.cons ((hs.all (MF.oz (GoT.fa .der (((a04 code).1, (a04 code).2) : Member × Member) (((p1, c1), (p2, c2), (p3, c3)), ((p4, c4), (p5, c5), (p6, c6))))) (List.mem_of_getElem? (i := 0) Z) : All _ _) _ (List.mem_of_getElem? (i := 4) Z)) (All.cons ((hs.all (MF.oz (GoT.fa .der (((a04 code).1, (a04 code).2) : Member × Member) (((p1, c1), (p2, c2), (p3, c3)), ((p4, c4), (p5, c5), (p6, c6))))) (List.mem_of_getElem? (i := 0) Z) : All _ _) _ (List.mem_of_getElem? (i := 5) Z)) All.nil))))) (⟨(And.intro (GoT.okm (α := List Str) (by omega) (ok_Name (ok_Member hq1.1).1)) (And.intro (GoT.okm (α := List TableEntry) (by omega) (ok_StateVector (ok_Member hq1.1).2.1)) (GoT.okm (α := List Publication) (by omega) (ok_Member hq1.1).2.2))), (And.intro (GoT.okm (α := List Str) (by omega) (ok_Name (ok_Member hq1.2).1)) (And.intro (GoT.okm (α := List TableEntry) (by omega) (ok_StateVector (ok_Member hq1.2).2.1)) (GoT.okm (α := List Publication) (by omega) (ok_Member hq1.2).2.2)))⟩)
 refine TS.op 1 Z J ?_
 refine R0 ?_
 refine WX.back0 ?_
 refine TX.tail [0, 2, 3] Z Z J ?_
 refine R0 ?_
 have hP4 : a1k code = ((a04 code).1, (a04 code).2) := by simp only [a1k, h1, ct, cf]
 refine R1 ?_
 intro w1 G bs hI hΓ
 rw [hP4]
 exact Post.ofZ [7] (((p1, c1), (p2, c2), (p3, c3)), ((p4, c4), (p5, c5), (p6, c6))) hI hΓ Z Z Z (fun h hs => (all_app2 (All.cons ((hs.all (MF.oz (GoT.fa .der (((a04 code).1, (a04 code).2) : Member × Member) (((p1, c1), (p2, c2), (p3, c3)), ((p4, c4), (p5, c5), (p6, c6))))) (List.mem_of_getElem? (i := 0) Z) : All _ _) _ (List.mem_of_getElem? (i := 0) Z)) (All.cons ((hs.all (MF.oz (GoT.fa .der (((a04 code).1, (a04 code).2) : Member × Member) (((p1, c1), (p2, c2), (p3, c3)), ((p4, c4), (p5, c5), (p6, c6))))) (List.mem_of_getElem? (i := 0) Z) : All _ _) _ (List.mem_of_getElem? (i := 1) Z)) (All.cons ((hs.all (MF.oz (GoT.fa .der (((a04 code).1, (a04 code).2) : Member × Member) (((p1, c1), (p2, c2), (p3, c3)), ((p4, c4), (p5, c5), (p6, c6))))) (List.mem_of_getElem? (i := 0) Z) : All _ _) _ (List.mem_of_getElem? (i := 2) Z)) All.nil))) (All.cons ((hs.all (MF.oz (GoT.fa .der (((a04 code).1, (a04 code).2) : Member × Member) (((p1, c1), (p2, c2), (p3, c3)), ((p4, c4), (p5, c5), (p6, c6))))) (List.mem_of_getElem? (i := 0) Z) : All _ _) _ (List.mem_of_getElem? (i := 3) Z)) (All.cons ((hs.all (MF.oz (GoT.fa .der (((a04 code).1, (a04 code).2) : Member × Member) (((p1, c1), (p2, c2), (p3, c3)), ((p4, c4), (p5, c5), (p6, c6))))) (List.mem_of_getElem? (i := 0) Z) : All _ _) _ (List.mem_of_getElem? (i := 4) Z)) (All.cons ((hs.all (MF.oz (GoT.fa .der (((a04 code).1, (a04 code).2) : Member × Member) (((p1, c1), (p2, c2), (p3, c3)), ((p4, c4), (p5, c5), (p6, c6))))) (List.mem_of_getElem? (i := 0) Z) : All _ _) _ (List.mem_of_getElem? (i := 5) Z)) All.nil))))) (⟨(And.intro (GoT.okm (α := List Str) (by omega) (ok_Name (ok_Member hq1.1).1)) (And.intro (GoT.okm (α := List TableEntry) (by omega) (ok_StateVector (ok_Member hq1.1).2.1)) (GoT.okm (α := List Publication) (by omega) (ok_Member hq1.1).2.2))), (And.intro (GoT.okm (α := List Str) (by omega) (ok_Name (ok_Member hq1.2).1)) (And.intro (GoT.okm (α := List TableEntry) (by omega) (ok_StateVector (ok_Member hq1.2).2.1)) (GoT.okm (α := List Publication) (by omega) (ok_Member hq1.2).2.2)))⟩)
theorem f46 (w : World) (n : Nat) (hn : n + 0 ≤ 9) (a : Member) (K0 : Option Addr) (M0 : Nat) (N0 : RdSl (hp w) K0 M0 a.name.parts) (K1 : Option Addr) (M1 : Nat) (N1 : RdSl (hp w) K1 M1 a.vector.entries) (K2 : Option Addr) (M2 : Nat) (N2 : RdSl (hp w) K2 M2 a.publications) (b : Member) (K3 : Option Addr) (M3 : Nat) (N3 : RdSl (hp w) K3 M3 b.name.parts) (K4 : Option Addr) (M4 : Nat) (N4 : RdSl (hp w) K4 M4 b.vector.entries) (K5 : Option Addr) (M5 : Nat) (N5 : RdSl (hp w) K5 M5 b.publications) (hoka : GoT.ok n a) (hokb : GoT.ok n b) :
 Does Tryz.prog 46 #[.agg #[.slice K0 ((a.name.parts).length) M0, .slice K1 ((a.vector.entries).length) M1, .slice K2 ((a.publications).length) M2], .agg #[.slice K3 ((b.name.parts).length) M3, .slice K4 ((b.vector.entries).length) M4, .slice K5 ((b.publications).length) M5]] w emp (fun (rv : Value) (_ : World) => rv = .bool (a1l a b) ∧ True) := by
 have hbP := bd_pos n
 have hbB := bd_big (n := n) (by omega)
 refine WX.enter (tt := tt) (Γ := [(0, MF.rs .stb K0 M0 a.name.parts), (1, MF.rs .stb K1 M1 a.vector.entries), (2, MF.rs .stb K2 M2 a.publications), (3, MF.rs .stb K3 M3 b.name.parts), (4, MF.rs .stb K4 M4 b.vector.entries), (5, MF.rs .stb K5 M5 b.publications)]) Tryz.func46 Z J Z (allS_cons Z N0 (allS_cons Z N1 (allS_cons Z N2 (allS_cons Z N3 (allS_cons Z N4 (allS_cons Z N5 allS_nil)))))) ?_
 refine R0 ?_
 refine WX.callV Z Z Z Z Z O Z (fun w G bs hI hΓ => f124 w n (by omega) a.name K0 M0 (hΓ.get 0 Z) b.name K3 M3 (hΓ.get 3 Z) ((ok_Member hoka).1) ((ok_Member hokb).1)) ?_
 intro hq1
 refine R0 ?_
 refine WX.cases 12 Z (fun h1 => ?_) (fun h1 => ?_)
 ·skip
  have h1d := (B.nt h1)
  refine R0 ?_
  have hP1 : a1l a b = false := by simp only [a1l, h1, ct, cf]
  exact R3 hP1
 have h1d := (B.nf h1)
 refine R0 ?_
 refine WX.callV Z Z Z Z Z O Z (fun w G bs hI hΓ => f52 w n (by omega) a.vector.entries K1 M1 (hΓ.get 1 Z) b.vector.entries K4 M4 (hΓ.get 4 Z) (ok_StateVector (ok_Member hoka).2.1) (ok_StateVector (ok_Member hokb).2.1)) ?_
 intro hq2
 refine R0 ?_
 refine WX.cases 22 Z (fun h2 => ?_) (fun h2 => ?_)
 ·skip
  have h2d := (B.nt h2)
  refine R0 ?_
  have hP2 : a1l a b = false := by simp only [a1l, h1, h2, ct, cf]
  exact R3 hP2
 have h2d := (B.nf h2)
 refine R0 ?_
 refine WX.cases 30 Z (fun h3 => ?_) (fun h3 => ?_)
 ·skip
  have h3d := B.nt' h3
  refine R0 ?_
  have hP3 : a1l a b = false := by simp only [a1l, h1, h2, h3, ct, cf]
  exact R3 hP3
 have h3d := B.nf' h3
 refine R0 ?_
 have r1 : (a.publications).length ≤ bd n := (okl (ok_Member hoka).2.2).1
 refine WX.loop (ι := Nat) ⟨fun i => (i ≤ (a.publications).length) ∧ (a24 b a.publications 0 = a24 b ((a.publications).drop i) i), fun i => (a.publications).length - i, fun i => [(5, .v (.int .i64 (((i : Nat) : Int)))), (3, .p 3 0), (2, .p 2 0)], fun i => [(3, ⟨60, [.slice K3 ((b.name.parts).length) M3, .slice K4 ((b.vector.entries).length) M4, .slice K5 ((b.publications).length) M5]⟩), (2, ⟨60, [.slice K0 ((a.name.parts).length) M0, .slice K1 ((a.vector.entries).length) M1, .slice K2 ((a.publications).length) M2]⟩)], fun i => [], fun i => [(0, MF.rs .stb K0 M0 a.name.parts), (1, MF.rs .stb K1 M1 a.vector.entries), (2, MF.rs .stb K2 M2 a.publications), (3, MF.rs .stb K3 M3 b.name.parts), (4, MF.rs .stb K4 M4 b.vector.entries), (5, MF.rs .stb K5 M5 b.publications)]⟩ 0 ⟨(Nat.zero_le _), Z⟩
  (.cons Z (.cons Z (.cons Z (.nil)))) (.cons Z (.cons Z (.nil))) .nil [0, 1, 2, 3, 4, 5] Z ?_
 rintro i hpre
 have hpre_ : (i ≤ (a.publications).length) ∧ (a24 b a.publications 0 = a24 b ((a.publications).drop i) i) := hpre
 clear hpre
 obtain ⟨v1, v2⟩ := hpre_
 refine R0 ?_
 refine WX.cases 35 Z (fun h4 => ?_) (fun h4 => ?_)
 ·skip
  have h4d := B.dt h4
  have e1i : i < (a.publications).length := (by omega)
  obtain ⟨e1, e1h⟩ : ∃ e1, (a.publications)[i]? = some e1 := ⟨_, List.getElem?_eq_getElem e1i⟩
  have ok1 : GoT.ok n e1 := (okl (ok_Member hoka).2.2).2 _ (List.mem_of_getElem? e1h)
  refine R0 ?_
  refine WX.draw [] mixed ?_
  intro bs G0 hΓ0
  refine DX.takes (fuel := 42) ttOk [(0, true), (1, false), (2, true)] J Z ?_
  refine DX.idx 3 2 i ttOk hΓ0 J Z Z Z Z Z Z Z Z Z Z Z e1i ?_
  rintro ad1 rfl
  refine DX.takes (fuel := 40) ttOk [(4, true)] J Z ?_
  refine DX.ldE 5 2 6 e1 ttOk hΓ0 J Z Z Z Z Z Z Z Z e1h O O ?_
  rintro ⟨⟨p1, c1⟩, ⟨⟩, ⟨p2, c2⟩⟩
  refine DX.takes (fuel := 36) ttOk [(6, true), (7, false), (8, true)] J Z ?_
  have e2i : i < (b.publications).length := (by first | assumption | omega)
  obtain ⟨e2, e2h⟩ : ∃ e2, (b.publications)[i]? = some e2 := ⟨_, List.getElem?_eq_getElem e2i⟩
  have ok2 : GoT.ok n e2 := (okl (ok_Member hokb).2.2).2 _ (List.mem_of_getElem? e2h)
  refine DX.idx 9 5 i ttOk hΓ0 J Z Z Z Z Z Z Z Z Z Z Z e2i ?_
  rintro ad2 rfl
  refine DX.takes (fuel := 34) ttOk [(10, true)] J Z ?_
  refine DX.ldE 11 5 8 e2 ttOk hΓ0 J Z Z Z Z Z Z Z Z e2h O O ?_
  rintro ⟨⟨p3, c3⟩, ⟨⟩, ⟨p4, c4⟩⟩
  refine DX.takes (fuel := 31) ttOk [(12, true), (13, true)] J Z ?_
  refine DX.cases 51 Z (fun h5 => ?_) (fun h5 => ?_)
  ·skip
   have h5d := B.nt' h5
   refine DX.takes (fuel := 0) ttOk [(14, true), (15, true), (16, true), (17, true), (18, true), (19, true), (20, true), (21, true), (22, true), (23, true), (24, true), (25, true), (26, true), (27, true), (28, true), (29, true), (30, true), (31, true), (32, true), (33, true), (34, true), (35, true), (36, true), (37, true), (38, true), (39, true), (40, true), (41, true), (42, true), (43, true), (44, true)] J Z ?_
   refine DX.tail2 [] Z Z J ?_
   refine R0 ?_
   have hP4 : a24 b a.publications 0 = (some false) := by rw [v2, drop_get e1h]; simp only [a24, e2h, h5, ct, cf]
   have hP5 : a1l a b = false := by simp only [a1l, h1, h2, h3, hP4, ct, cf]
   exact R3 hP5
  have h5d := B.nf' h5
  refine DX.takes (fuel := 28) ttOk [(14, true), (15, false), (16, true)] J Z ?_
  refine DX.idx 17 2 i ttOk hΓ0 J Z Z Z Z Z Z Z Z Z Z Z e1i ?_
  rintro ad3 ⟨⟩
  refine DX.takes (fuel := 26) ttOk [(18, true)] J Z ?_
  refine DX.ldE 19 2 10 e1 ttOk hΓ0 J Z Z Z Z Z Z Z Z e1h O O ?_
  rintro ⟨⟨p5, c5⟩, ⟨⟩, ⟨p6, c6⟩⟩
  refine DX.takes (fuel := 22) ttOk [(20, true), (21, false), (22, true)] J Z ?_
  refine DX.idx 23 5 i ttOk hΓ0 J Z Z Z Z Z Z Z Z Z Z Z e2i ?_
  rintro ad4 ⟨⟩
  refine DX.takes (fuel := 20) ttOk [(24, true)] J Z ?_
  refine DX.ldE 25 5 12 e2 ttOk hΓ0 J Z Z Z Z Z Z Z Z e2h O O ?_
  rintro ⟨⟨p7, c7⟩, ⟨⟩, ⟨p8, c8⟩⟩
  refine DX.callV 26 Z J Z Z Z Z Z Z O Z (fun w G bs hI hΓ => f124 w n (by omega) e1.publisher p5 c5 (hΓ.get 10 Z) e2.publisher p7 c7 (hΓ.get 12 Z) ((ok_Publication ok1).1) ((ok_Publication ok2).1)) ?_
  intro hq3
  refine DX.takes (fuel := 15) ttOk [(27, true), (28, true), (29, true)] J Z ?_
  refine DX.cases 67 Z (fun h6 => ?_) (fun h6 => ?_)
  ·skip
   have h6d := (B.nt h6)
   refine DX.takes (fuel := 0) ttOk [(30, true), (31, true), (32, true), (33, true), (34, true), (35, true), (36, true), (37, true), (38, true), (39, true), (40, true), (41, true), (42, true), (43, true), (44, true)] J Z ?_
   refine DX.tail2 [] Z Z J ?_
   refine R0 ?_
   have hP6 : a24 b a.publications 0 = (some false) := by rw [v2, drop_get e1h]; simp only [a24, e2h, h5, h6, ct, cf]
   have hP7 : a1l a b = false := by simp only [a1l, h1, h2, h3, hP6, ct, cf]
   exact R3 hP7
  have h6d := (B.nf h6)
  refine DX.takes (fuel := 12) ttOk [(30, true), (31, false), (32, true)] J Z ?_
  refine DX.idx 33 2 i ttOk hΓ0 J Z Z Z Z Z Z Z Z Z Z Z e1i ?_
  rintro ad5 ⟨⟩
  refine DX.takes (fuel := 10) ttOk [(34, true)] J Z ?_
  refine DX.ldE 35 2 14 e1 ttOk hΓ0 J Z Z Z Z Z Z Z Z e1h O O ?_
  rintro ⟨⟨p9, c9⟩, ⟨⟩, ⟨p10, c10⟩⟩
  refine DX.takes (fuel := 6) ttOk [(36, true), (37, false), (38, true)] J Z ?_
  refine DX.idx 39 5 i ttOk hΓ0 J Z Z Z Z Z Z Z Z Z Z Z e2i ?_
  rintro ad6 ⟨⟩
  refine DX.takes (fuel := 4) ttOk [(40, true)] J Z ?_
  refine DX.ldE 41 5 16 e2 ttOk hΓ0 J Z Z Z Z Z Z Z Z e2h O O ?_
  rintro ⟨⟨p11, c11⟩, ⟨⟩, ⟨p12, c12⟩⟩
  refine DX.callV 42 Z J Z Z Z Z Z Z O Z (fun w G bs hI hΓ => f51 w n (by omega) e1.content p10 c10 (hΓ.get 15 Z) e2.content p12 c12 (hΓ.get 17 Z) ((ok_Publication ok1).2.2) ((ok_Publication ok2).2.2)) ?_
  intro hq4
  refine DX.takes (fuel := 0) ttOk [(43, true), (44, true)] J Z ?_
  refine DX.tail2 [] Z Z J ?_
  refine R0 ?_
  refine WX.cases 82 Z (fun h7 => ?_) (fun h7 => ?_)
  ·skip
   have h7d := (B.nt h7)
   refine R0 ?_
   have hP8 : a24 b a.publications 0 = (some false) := by rw [v2, drop_get e1h]; simp only [a24, e2h, h5, h6, h7, ct, cf]
   have hP9 : a1l a b = false := by simp only [a1l, h1, h2, h3, hP8, ct, cf]
   exact R3 hP9
  have h7d := (B.nf h7)
  refine R0 ?_
  refine WX.see Z Z Z (fun _ hΓ => looks_arith Z Z Z Z (by unfold I64; first | omega | (simp only [List.length_take] at *; omega))) ?_
  refine R0 ?_
  exact WX.iter (i + 1) ⟨(by omega), (by rw [v2, drop_get e1h]; simp only [a24, e2h, h5, h6, h7, ct, cf])⟩ (by first | (dsimp only; omega) | omega) (.cons Z (.cons Z (.cons Z (.nil)))) (.cons Z (.cons Z (.nil))) .nil [0, 1, 2, 3, 4, 5] Z
 have h4d := B.df h4
 refine R0 ?_
 have hX1 : a24 b a.publications 0 = none := by rw [v2, List.drop_eq_nil_of_le (show (a.publications).length ≤ i by omega)]; simp only [a24, ct, cf]
 have hP10 : a1l a b = true := by simp only [a1l, h1, h2, h3, hX1, ct, cf]
 exact R3 hP10
end Go.Proofs.YtolepebgdfdciaaGreat

namespace Go.Stp
set_option linter.unusedVariables false
set_option linter.unusedSimpArgs false
theorem drawGroup_len (code : List UInt8) : (a1p code).length = 3 := by
 unfold a1p
 rcases a1n code with ⟨a, b⟩
 dsimp only
 have h2 := l28Group_len code a b
 rcases e : a2r code a b with ⟨p, q, r⟩
 rw [e] at h2
 exact h2
def a27 (e1 : Member) (e2 : Member) (i : Nat) : Ctl (Bool) (Nat) :=
 if ((i : Nat) : Int) < (((e1.publications).length : Nat) : Int) then
  match (e1.publications)[i]? with
   | none => default
   | some e3 =>
    if (!((a0o (a0h e1 e2) e3.publisher e3.seq).2)) = true then
     (Ctl.ret false)
    else
     if (!(a2q ((a0o (a0h e1 e2) e3.publisher e3.seq).1) e3.content)) = true then
      (Ctl.ret false)
     else
      a27 e1 e2 (i + 1)
 else
  (Ctl.nxt i)
termination_by e1.publications.length - i
decreasing_by all_goals (simp_wf; omega)
def a0m (code : (List UInt8)) : Bool :=
 bif (a3t code) then
  true
 else
  bif (!(a1l ((a16 ((a06 code).1) ((a06 code).2)).1) ((a0f ((a06 code).1) ((a06 code).2)).1))) then
   false
  else
   bif (!(((a16 ((a06 code).1) ((a06 code).2)).2) == ((a0f ((a06 code).1) ((a06 code).2)).2))) then
    false
   else
    bif (!(a1l ((a0t ((a05 code).1) ((a05 code).2)).1) ((a0k ((a05 code).1) ((a05 code).2)).1))) then
     false
    else
     bif (!(((a0t ((a05 code).1) ((a05 code).2)).2) == ((a0k ((a05 code).1) ((a05 code).2)).2))) then
      false
     else
      bif (!(a1l (a0h ((a1r code).1) ((a1r code).2)) (a07 ((a1r code).1) ((a1r code).2)))) then
       false
      else
       bif (!((a32 ((a1k code).1) ((a1k code).2)) == (a2w ((a1k code).1) ((a1k code).2)))) then
        false
       else
        bif (!(a2q ((a0o ((a0n code).1) ((a0n code).2.1) ((a0n code).2.2)).1) ((a0g ((a0n code).1) ((a0n code).2.1) ((a0n code).2.2)).1))) then
         false
        else
         bif (!(((a0o ((a0n code).1) ((a0n code).2.1) ((a0n code).2.2)).2) == ((a0g ((a0n code).1) ((a0n code).2.1) ((a0n code).2.2)).2))) then
          false
         else
          bif (!(a2b (a10 ((a1j code).1) ((a1j code).2)) (a0q ((a1j code).1) ((a1j code).2)))) then
           false
          else
           bif (!(a1l (a3i (a36 code)) (a0e (a36 code)))) then
            false
           else
            bif (!((a1e ((a06 code).1)) == (a15 ((a06 code).1)))) then
             false
            else
             match ((a1p code))[0]? with
              | none => default
              | some e1 =>
               match ((a1p code))[1]? with
                | none => default
                | some e2 =>
                 bif (!(a1e (a0h e1 e2))) then
                  false
                 else
                  bif (!(a1e (a0h e2 (a0h e1 e2)))) then
                   false
                  else
                   bif (!(a2b ((a0h e1 e2).vector.entries) ((a34 e1.vector e2.vector).entries))) then
                    false
                   else
                    bif (((((a10 (a0h e1 e2) e2.vector)).length : Nat) : Int) != 0) then
                     false
                    else
                     bif (!(a32 (a0h e1 e2) (a0h e2 (a0h e1 e2)))) then
                      false
                     else
                      match a27 e1 e2 0 with
                       | .ret r_ => r_
                       | .nxt i =>
                        bif (a1l (a0h (a0h e1 e2) e2) (a0h e1 e2)) then
                         bif (!((a16 ((a06 code).1) ((a06 code).2)).2)) then
                          true
                         else
                          ((a11 ((a16 ((a06 code).1) ((a06 code).2)).1.vector) ((a06 code).1.name)) == IntKind.i64.wrap ((a11 ((a06 code).1.vector) ((a06 code).1.name)) + 1))
                        else
                         false
end Go.Stp

namespace Go.Stp
open GoT (X k ok sh fa oa)
theorem DX.ldE2 {C : Cx} {ops : Array Oper} {tl : List Nat} {s : List It} {bs : Nat → Nat} {G0 : GH} {fuel : Nat} {listed : Array Bool} {env : Env} {L : Locs} {R : Rows} {Γ Γ0 : Facts} {o : Oper} {α : Type} [GoT α] {d : Nat} {x : Operand} {T c j off : Nat} {ti : TI} {ad : Addr} {kd : Kd} {l : List α} (i ℓ m : Nat) (a : α) {val : X α → Value} {Γ' Γ0' : X α → Facts} (ht : TabOk C.P C.tt) (h0 : AllK C.M G0 Γ0)
  (hb : mayB ops tl listed i = true) (hi : getO ops.toList i = some o) (hg : gd ops env o = some true) (hd : o.dst = some d) (hlt : Nat.blt d C.fn.ntmps = true) (ho : o.op = .load T x)
  (hx : ev env x = some (.e (some ad) j (GoT.k α) off)) (hT : look C.tt T = some ti) (hℓ : look Γ0 ℓ = some (MF.rs kd (some ad) c l)) (ha : l[j]? = some a)
  (hv : ∀ x, asm ti (sh a x) off = some (val x)) (hf : ∀ x, addF m (fa .der a x) Γ = some (Γ' x)) (hf0 : ∀ x, addF m (fa .der a x) Γ0 = some (Γ0' x))
  (k : ∀ x, AllK C.M G0 (Γ0' x) → DX C ops tl s bs G0 fuel (listed.setIfInBounds i true) ((d, .v (val x)) :: env) L R (Γ' x)) : DX C ops tl s bs G0 (fuel + 1) listed env L R Γ := by
 obtain ⟨x', ad', had, hfa, hc⟩ := RdSl.get (i := j) (h0.get ℓ hℓ : RdSl G0 (some ad) c l) ha
 simp at had; subst had
 rw [getO_eq] at hi
 intro hcl a' w G hle hS
 exact DX.take (Γ := Γ' x') hb (by simpa using hi) hd (by simpa [Nat.blt_eq] using hlt) hg (fun _ => looks_ldE ht ho hx hT hc (hv x')) (fun h => by cases h) (k x' (AllK.ders (hf0 x') (fun f hf => GoT.fak f hf) hfa h0)) hcl a' w G hle ⟨hS.1, hS.2.1, AllK.ders (hf x') (fun f hf => GoT.fak f hf) (hfa.mono hle) hS.2.2⟩
end Go.Stp

