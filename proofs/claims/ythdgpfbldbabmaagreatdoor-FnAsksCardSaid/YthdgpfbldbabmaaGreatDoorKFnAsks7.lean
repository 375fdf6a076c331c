/-
  What the proof of one law needs: rules of the program logic, functions as Lean functions, contracts. No condition but what each says. Written by a program (pack.py) out of my own texts.
-/
import Derived.Shelf.Strings.OnBuilder
import Derived.Shelf.Strconv.Itoa0
import Derived.Shelf.Strconv.Itoa1
import Derived.Shelf.LaysM
import Derived.Shelf.Strconv.Itoa2
import Derived.Shelf.Strconv.Itoa3
import Derived.Test.YthdgpfbldbabmaaGreatDoorProg
import Derived.Lib.ItoaLen
import Derived.Lib.AppendIntMem
import Derived.Lib.Join
import Derived.Test.YthdgpfbldbabmaaGreatDoorKFnAsks6
namespace Go.Proofs.YthdgpfbldbabmaaGreatDoor
open Go.Stp
set_option linter.unusedVariables false
set_option linter.unusedSimpArgs false
theorem f28 (w : World) (n : Nat) (hn : n + 0 ≤ 9) (w_ : Interest) (K0 M0) (N0 : RdSl (hp w) K0 M0 w_.name.parts) (hokw_ : GoT.ok n w_) :
 Does Tryz.prog 28 #[.agg #[.slice K0 ((w_.name.parts).length) M0, .int .i64 (w_.nonce), .int .i64 (w_.hopLimit), .int .i64 (w_.lifetime)]] w emp (pB (a2j w_)) := by
 have hb := bS0 hn
 refine EN Tryz.func28 Z (aS1 N0) ?_
 refine R0 ?_
 refine CV Z Z Z Z Z O Z (fun w γ => f53 w n τ1 w_.name K0 M0 (γ.q 0 Z) ((ok_Interest hokw_).1)) ?_
 intro hq1
 refine R0 ?_
 refine WX.cases 6 Z ?_ ?_ <;> intro h1
 ·skip
  refine R0 ?_
  refine WX.cases 13 Z ?_ ?_ <;> intro h2
  ·skip
   have h2d := B.dt h2
   refine R0 ?_
   refine CV Z Z Z Z Z O Z (fun w γ => f52 w n τ1 w_.nonce 0 1000000 ((ok_Interest hokw_).2.1) (i6 0) (i6 1000000)) ?_
   intro hq2
   refine R0 ?_
   refine WX.cases 18 Z ?_ ?_ <;> intro h3
   ·skip
    have h3r := inR_impl h3
    refine R0 ?_
    refine CV Z Z Z Z Z O Z (fun w γ => f52 w n τ1 w_.hopLimit 0 16 ((ok_Interest hokw_).2.2.1) (i6 0) (i6 16)) ?_
    intro hq3
    refine R0 ?_
    refine WX.cases 23 Z ?_ ?_ <;> intro h4
    ·skip
     have h4r := inR_impl h4
     refine R0 ?_
     refine CV Z Z Z Z Z O Z (fun w γ => f52 w n τ1 w_.lifetime 1 20 ((ok_Interest hokw_).2.2.2) (i6 1) (i6 20)) ?_
     intro hq4
     refine R0 ?_
     exact R4 Z (by simp only [a2j, h1, h2, h3, h4, cT, cF])
    refine R0 ?_
    exact R4 Z (by simp only [a2j, h1, h2, h3, h4, cT, cF])
   refine R0 ?_
   exact R4 Z (by simp only [a2j, h1, h2, h3, cT, cF])
  have h2d := B.df h2
  refine R0 ?_
  exact R4 Z (by simp only [a2j, h1, h2, cT, cF])
 refine R0 ?_
 exact R4 Z (by simp only [a2j, h1, cT, cF])
theorem f137 (w : World) (n : Nat) (hn : n + 1 ≤ 9) (s : Str) (hoks : GoT.ok n s) :
 Does Tryz.prog 137 #[.string s] w emp (Post w emp (fun x : GoT.X (Pattern) => .tuple #[.agg ⟨GoT.sh ((a0u s).1 : Pattern) x⟩, .bool ((a0u s).2)]) (fun x => GoT.oa ((a0u s).1 : Pattern) x) (GoT.ok (n + 1) ((a0u s).1 : Pattern))) := by
 have hb := bS1 hn
 refine EN Tryz.func137 Z allS_nil ?_
 refine R0 ?_
 refine WX.cases 7 Z ?_ ?_ <;> intro h1
 ·skip
  have h1d := B.et h1
  refine R0 ?_
  refine WX.free 0 (MF.os none 0 ([] : List Str)) (owSl_nil _ _) ?_
  have hP1 : a0u s = (Pattern.mk ([]), true) := by simp only [a0u, h1, cT, cF]
  refine R1 ?_
  intro w1 G bs hI hΓ
  rw [hP1]
  exact Post.of [0] (none, 0) hI hΓ Z Z Z (ok_nil (α := Str))
 have h1d := B.ef h1
 refine R0 ?_
 refine CF 1 Z Z Z Z Z O Z (fun w γ => f92 w n τ1 s (47 : UInt8) hoks) ?_
 rintro ⟨p1, c1⟩ hq1
 have q1 := len_l4Split s (47 : UInt8)
 refine R0 ?_
 have r1 : (s).size ≤ bd n := hoks
 have r2 : (a0b s (47 : UInt8)).length ≤ bd (n + 1) := (okl hq1).1
 refine WX.see Z Z Z (fun _ hΓ => looks_slL 1 ttOk Z Z Z Z τ11 (show 1 ≤ ((a0b s (47 : UInt8))).length from τ1)) ?_
 refine WX.slot 12 (y := .v (.slice (offP p1 c1 1 1) (((List.drop 1 (a0b s (47 : UInt8)))).length) (c1 - 1))) Z (fun _ => by rw [show ((List.drop 1 (a0b s (47 : UInt8)))).length = (((a0b s (47 : UInt8))).length) - 1 from (by simp only [List.length_drop])]) ?_
 refine WX.der 3 (MF.rs .der (offP p1 c1 1 1) (c1 - 1) (List.drop 1 (a0b s (47 : UInt8)))) Z (fun _ hΓ => RdSl.suf (hΓ.get 1 Z : RdSl _ _ _ _) 1) ?_
 refine R0 ?_
 refine WX.cases 17 Z ?_ ?_ <;> intro h2
 ·skip
  have h2d := B.dt h2
  refine R0 ?_
  refine WX.free 4 (MF.os none 0 ([] : List Str)) (owSl_nil _ _) ?_
  have hP2 : a0u s = (Pattern.mk ([]), false) := by simp only [a0u, h1, h2, cT, cF]
  refine R1 ?_
  intro w1 G bs hI hΓ
  rw [hP2]
  exact Post.of [4] (none, 0) hI hΓ Z Z Z (ok_nil (α := Str))
 have h2d := B.df h2
 refine R0 ?_
 have e1i : 0 < ((a0b s (47 : UInt8))).length := τ6
 obtain ⟨e1, e1h⟩ : ∃ e1, ((a0b s (47 : UInt8)))[0]? = some e1 := ⟨_, List.getElem?_eq_getElem e1i⟩
 have ok1 : GoT.ok (n + 1) e1 := (okl hq1).2 _ (List.mem_of_getElem? e1h)
 refine WX.idx 1 0 ttOk Z Z Z Z Z Z Z Z Z Z e1i ?_
 rintro ad1 rfl
 refine WX.ldE 1 5 e1 ttOk Z Z Z Z Z Z Z Z e1h O O ?_
 rintro ⟨⟩
 refine R0 ?_
 refine WX.cases 23 Z ?_ ?_ <;> intro h3
 ·skip
  have h3d := B.ef (B.nt h3)
  refine R0 ?_
  refine WX.free 5 (MF.os none 0 ([] : List Str)) (owSl_nil _ _) ?_
  have hP3 : a0u s = (Pattern.mk ([]), false) := by simp only [a0u, h1, h2, e1h, h3, cT, cF]
  refine R1 ?_
  intro w1 G bs hI hΓ
  rw [hP3]
  exact Post.of [5] (none, 0) hI hΓ Z Z Z (ok_nil (α := Str))
 have h3d := B.et (B.nf h3)
 refine R0 ?_
 refine CV Z Z Z Z Z O Z (fun w γ => f153 w (n + 1) τ1 (Pattern.mk (List.drop 1 (a0b s (47 : UInt8)))) (offP (some ad1) c1 1 1) (c1 - 1) (γ.q 3 Z) (okl_mk τ5 (fun a ha => (okl hq1).2 a (List.mem_of_mem_drop ha)) : GoT.ok (n + 1) ((List.drop 1 (a0b s (47 : UInt8))) : List Str))) ?_
 intro hq2
 refine R0 ?_
 refine WX.cases 27 Z ?_ ?_ <;> intro h4
 ·skip
  have h4d := (B.nt h4)
  refine R0 ?_
  refine WX.free 6 (MF.os none 0 ([] : List Str)) (owSl_nil _ _) ?_
  have hP4 : a0u s = (Pattern.mk ([]), false) := by simp only [a0u, h1, h2, e1h, h3, h4, cT, cF]
  refine R1 ?_
  intro w1 G bs hI hΓ
  rw [hP4]
  exact Post.of [6] (none, 0) hI hΓ Z Z Z (ok_nil (α := Str))
 have h4d := (B.nf h4)
 refine R0 ?_
 refine WX.turn [2] 7 Z (fun h hs => os_suf 1 (show 1 ≤ ((a0b s (47 : UInt8))).length from τ1) hs) (gs := [MF.os (offP (some ad1) c1 1 1) (c1 - 1) ((List.drop 1 (a0b s (47 : UInt8))) : List Str)]) Z ?_
 have hP5 : a0u s = (Pattern.mk (List.drop 1 (a0b s (47 : UInt8))), true) := by simp only [a0u, h1, h2, e1h, h3, h4, cT, cF]
 refine R1 ?_
 intro w1 G bs hI hΓ
 rw [hP5]
 exact Post.of [7] ((offP (some ad1) c1 1 1), (c1 - 1)) hI hΓ Z Z Z (okl_mk τ5 (fun a ha => (okl hq1).2 a (List.mem_of_mem_drop ha)) : GoT.ok (n + 1) ((List.drop 1 (a0b s (47 : UInt8))) : List Str))
theorem f115 (w : World) (n : Nat) (hn : n + 2 ≤ 9) (s : Str) (hoks : GoT.ok n s) :
 Does Tryz.prog 115 #[.string s] w emp (Post w emp (fun x : GoT.X (Rule) => .tuple #[.agg ⟨GoT.sh ((a0o s).1 : Rule) x⟩, .bool ((a0o s).2)]) (fun x => GoT.oa ((a0o s).1 : Rule) x) (GoT.ok n ((a0o s).1 : Rule))) := by
 have hb := bS2 hn
 refine EN Tryz.func115 Z allS_nil ?_
 refine R0 ?_
 refine CF 0 Z Z Z Z Z O Z (fun w γ => f92 w n τ1 s (32 : UInt8) hoks) ?_
 rintro ⟨p1, c1⟩ hq1
 have q1 := len_l4Split s (32 : UInt8)
 refine R0 ?_
 refine WX.cases 15 Z ?_ ?_ <;> intro h1
 ·skip
  have h1d := B.nt' h1
  refine R0 ?_
  refine WX.free 2 (MF.os none 0 ([] : List Str)) (owSl_nil _ _) ?_
  refine WX.free 3 (MF.os none 0 ([] : List Str)) (owSl_nil _ _) ?_
  have hP1 : a0o s = (Rule.mk (Pattern.mk ([])) (Pattern.mk ([])), false) := by simp only [a0o, h1, cT, cF]
  refine R1 ?_
  intro w1 G bs hI hΓ
  rw [hP1]
  exact Post.of [2, 3] ((none, 0), (none, 0)) hI hΓ Z Z Z (by have z_ := (show GoT.ok 0 (a0o s).1 from pr_ok s); rw [hP1] at z_; exact GoT.okm τ1 z_)
 have h1d := B.nf' h1
 refine R0 ?_
 have e1i : 1 < ((a0b s (32 : UInt8))).length := τ6
 obtain ⟨e1, e1h⟩ : ∃ e1, ((a0b s (32 : UInt8)))[1]? = some e1 := ⟨_, List.getElem?_eq_getElem e1i⟩
 have ok1 : GoT.ok (n + 1) e1 := (okl hq1).2 _ (List.mem_of_getElem? e1h)
 refine WX.idx 0 1 ttOk Z Z Z Z Z Z Z Z Z Z e1i ?_
 rintro ad1 rfl
 refine WX.ldE 0 4 e1 ttOk Z Z Z Z Z Z Z Z e1h O O ?_
 rintro ⟨⟩
 refine R0 ?_
 refine WX.cases 20 Z ?_ ?_ <;> intro h2
 ·skip
  have h2d := B.ef (B.nt h2)
  refine R0 ?_
  refine WX.free 4 (MF.os none 0 ([] : List Str)) (owSl_nil _ _) ?_
  refine WX.free 5 (MF.os none 0 ([] : List Str)) (owSl_nil _ _) ?_
  have hP2 : a0o s = (Rule.mk (Pattern.mk ([])) (Pattern.mk ([])), false) := by simp only [a0o, h1, e1h, h2, cT, cF]
  refine R1 ?_
  intro w1 G bs hI hΓ
  rw [hP2]
  exact Post.of [4, 5] ((none, 0), (none, 0)) hI hΓ Z Z Z (by have z_ := (show GoT.ok 0 (a0o s).1 from pr_ok s); rw [hP2] at z_; exact GoT.okm τ1 z_)
 have h2d := B.et (B.nf h2)
 refine R0 ?_
 have e2i : 0 < ((a0b s (32 : UInt8))).length := τ6
 obtain ⟨e2, e2h⟩ : ∃ e2, ((a0b s (32 : UInt8)))[0]? = some e2 := ⟨_, List.getElem?_eq_getElem e2i⟩
 have ok2 : GoT.ok (n + 1) e2 := (okl hq1).2 _ (List.mem_of_getElem? e2h)
 refine WX.idx 0 0 ttOk Z Z Z Z Z Z Z Z Z Z e2i ?_
 rintro ad2 ⟨⟩
 refine WX.ldE 0 6 e2 ttOk Z Z Z Z Z Z Z Z e2h O O ?_
 rintro ⟨⟩
 refine CF 6 Z Z Z Z Z O Z (fun w γ => f137 w (n + 1) τ1 e2 ok2) ?_
 rintro ⟨p2, c2⟩ hq2
 refine R0 ?_
 have e3i : 2 < ((a0b s (32 : UInt8))).length := τ6
 obtain ⟨e3, e3h⟩ : ∃ e3, ((a0b s (32 : UInt8)))[2]? = some e3 := ⟨_, List.getElem?_eq_getElem e3i⟩
 have ok3 : GoT.ok (n + 1) e3 := (okl hq1).2 _ (List.mem_of_getElem? e3h)
 refine WX.idx 0 2 ttOk Z Z Z Z Z Z Z Z Z Z e3i ?_
 rintro ad3 ⟨⟩
 refine WX.ldE 0 8 e3 ttOk Z Z Z Z Z Z Z Z e3h O O ?_
 rintro ⟨⟩
 refine CF 8 Z Z Z Z Z O Z (fun w γ => f137 w (n + 1) τ1 e3 ok3) ?_
 rintro ⟨p3, c3⟩ hq3
 refine R0 ?_
 refine WX.cases 41 Z ?_ ?_ <;> intro h3
 ·skip
  have h3d := (B.nt h3)
  refine R0 ?_
  refine WX.free 10 (MF.os none 0 ([] : List Str)) (owSl_nil _ _) ?_
  refine WX.free 11 (MF.os none 0 ([] : List Str)) (owSl_nil _ _) ?_
  have hP3 : a0o s = (Rule.mk (Pattern.mk ([])) (Pattern.mk ([])), false) := by simp only [a0o, h1, e1h, h2, e2h, e3h, h3, cT, cF]
  refine R1 ?_
  intro w1 G bs hI hΓ
  rw [hP3]
  exact Post.of [10, 11] ((none, 0), (none, 0)) hI hΓ Z Z Z (by have z_ := (show GoT.ok 0 (a0o s).1 from pr_ok s); rw [hP3] at z_; exact GoT.okm τ1 z_)
 have h3d := (B.nf h3)
 refine R0 ?_
 refine WX.cases 45 Z ?_ ?_ <;> intro h4
 ·skip
  have h4d := (B.nt h4)
  refine R0 ?_
  refine WX.free 12 (MF.os none 0 ([] : List Str)) (owSl_nil _ _) ?_
  refine WX.free 13 (MF.os none 0 ([] : List Str)) (owSl_nil _ _) ?_
  have hP4 : a0o s = (Rule.mk (Pattern.mk ([])) (Pattern.mk ([])), false) := by simp only [a0o, h1, e1h, h2, e2h, e3h, h3, h4, cT, cF]
  refine R1 ?_
  intro w1 G bs hI hΓ
  rw [hP4]
  exact Post.of [12, 13] ((none, 0), (none, 0)) hI hΓ Z Z Z (by have z_ := (show GoT.ok 0 (a0o s).1 from pr_ok s); rw [hP4] at z_; exact GoT.okm τ1 z_)
 have h4d := (B.nf h4)
 refine R0 ?_
 refine CV Z Z Z Z Z O Z (fun w γ => f138 w (n + 2) τ1 (Rule.mk (Pattern.mk ((a0u e2).1.parts)) (Pattern.mk ((a0u e3).1.parts))) p2 c2 (γ.q 6 Z) p3 c3 (γ.q 8 Z) (And.intro hq2 hq3)) ?_
 intro hq4
 refine R0 ?_
 refine WX.cases 49 Z ?_ ?_ <;> intro h5
 ·skip
  have h5d := (B.nt h5)
  refine R0 ?_
  refine WX.free 14 (MF.os none 0 ([] : List Str)) (owSl_nil _ _) ?_
  refine WX.free 15 (MF.os none 0 ([] : List Str)) (owSl_nil _ _) ?_
  have hP5 : a0o s = (Rule.mk (Pattern.mk ([])) (Pattern.mk ([])), false) := by simp only [a0o, h1, e1h, h2, e2h, e3h, h3, h4, h5, cT, cF]
  refine R1 ?_
  intro w1 G bs hI hΓ
  rw [hP5]
  exact Post.of [14, 15] ((none, 0), (none, 0)) hI hΓ Z Z Z (by have z_ := (show GoT.ok 0 (a0o s).1 from pr_ok s); rw [hP5] at z_; exact GoT.okm τ1 z_)
 have h5d := (B.nf h5)
 refine R0 ?_
 have hP6 : a0o s = (Rule.mk (Pattern.mk ((a0u e2).1.parts)) (Pattern.mk ((a0u e3).1.parts)), true) := by simp only [a0o, h1, e1h, h2, e2h, e3h, h3, h4, h5, cT, cF]
 refine R1 ?_
 intro w1 G bs hI hΓ
 rw [hP6]
 exact Post.of [7, 9] ((p2, c2), (p3, c3)) hI hΓ Z Z Z (by have z_ := (show GoT.ok 0 (a0o s).1 from pr_ok s); rw [hP6] at z_; exact GoT.okm τ1 z_)
theorem f36 (w : World) (n : Nat) (hn : n + 7 ≤ 9) (l : (List Key)) (pl cl) (N0 : RdSl (hp w) pl cl l) (by_ : Name) (K1 M1) (N1 : RdSl (hp w) K1 M1 by_.parts) (n_ : Name) (K2 M2) (N2 : RdSl (hp w) K2 M2 n_.parts) (b : (List UInt8)) (pb cb) (N3 : RdSl (hp w) pb cb b) (till : Int) (hokl : GoT.ok n l) (hokby_ : GoT.ok n by_) (hokn_ : GoT.ok n n_) (hokb : GoT.ok n b) (hoktill : GoT.ok n till) :
 Does Tryz.prog 36 #[.slice pl ((l).length) cl, .agg #[.slice K1 ((by_.parts).length) M1], .agg #[.slice K2 ((n_.parts).length) M2], .slice pb ((b).length) cb, .int .i64 (till)] w emp (Post w emp (fun x : GoT.X (DataP) => .tuple #[.agg ⟨GoT.sh ((a08 l by_ n_ b till).1 : DataP) x⟩, .bool ((a08 l by_ n_ b till).2)]) (fun x => GoT.oa ((a08 l by_ n_ b till).1 : DataP) x) (GoT.ok n ((a08 l by_ n_ b till).1 : DataP))) := by
 have hb := bS7 hn
 refine EN Tryz.func36 Z (aS4 N0 N1 N2 N3) ?_
 refine R0 ?_
 refine WX.draw [10] mixed ?_
 intro bs G0 hΓ0
 refine DX.takes (fuel := 4) ttOk [(0, true), (1, false), (3, false), (4, true), (5, false), (6, true), (7, true)] J Z ?_
 refine DX.pend 9 12 ⟨28, [.slice none (0) 0, .slice none (0) 0, .slice none (0) 0, .int .i64 (0), .int .i64 (0)]⟩ ?_
 refine DXA.callV 2 ttOk Z Z Z Z Z Z Z J J J Z Z Z Z Z Z Z Z Z Z O Z Z (fun w G bs hI hΓ => f67 w n τ1 l pl cl (hΓ.get 0 Z) by_ K1 M1 (hΓ.get 1 Z) hokl hokby_) ?_
 intro hq1
 refine DXA.callF 8 4 (fun _ _ h => GoT.ow_rd h) (fun _ f hf => GoT.fak f hf) ttOk Z Z Z Z Z Z Z J J J Z Z Z Z Z Z Z Z Z Z O Z Z (fun w G bs hI hΓ => f66 w n τ1 (a0n l by_) (DataP.mk n_ b by_ till 0) K2 M2 (hΓ.get 2 Z) pb cb (hΓ.get 3 Z) K1 M1 (hΓ.get 1 Z) hq1 (And.intro hokn_ (And.intro hokb (And.intro hokby_ (And.intro hoktill (i6 0)))))) O O ?_
 rintro ⟨⟨p1, c1⟩, ⟨p2, c2⟩, ⟨p3, c3⟩, ⟨⟩, ⟨⟩⟩ hq2
 refine DXA.tail [10] ttOk Z Z Z Z Z Z J Z Z J ?_
 refine R0 ?_
 refine CV Z Z Z Z Z O Z (fun w γ => f67 w n τ1 l pl cl (γ.q 0 Z) by_ K1 M1 (γ.q 1 Z) hokl hokby_) ?_
 intro hq3
 refine R0 ?_
 refine WX.cases 26 Z ?_ ?_ <;> intro h1
 ·skip
  have h1d := B.et h1
  refine R0 ?_
  refine WX.free 10 (MF.os none 0 ([] : List Str)) (owSl_nil _ _) ?_
  refine WX.free 11 (MF.os none 0 ([] : List UInt8)) (owSl_nil _ _) ?_
  refine WX.free 12 (MF.os none 0 ([] : List Str)) (owSl_nil _ _) ?_
  have hP1 : a08 l by_ n_ b till = (DataP.mk (Name.mk ([])) ([]) (Name.mk ([])) 0 0, false) := by simp only [a08, h1, cT, cF]
  refine R1 ?_
  intro w1 G bs hI hΓ
  rw [hP1]
  exact Post.of [10, 11, 12] ((none, 0), (none, 0), (none, 0), (), ()) hI hΓ Z Z Z (by have z_ := (show GoT.ok 0 (a08 l by_ n_ b till).1 from (sk_ok l by_ n_ b till).1); rw [hP1] at z_; exact GoT.okm τ1 z_)
 have h1d := B.ef h1
 refine R0 ?_
 refine CV Z Z Z Z Z O Z (fun w γ => f57 w n τ1 (a3n (a0n l by_) (DataP.mk n_ b by_ till 0)) p1 c1 (γ.q 4 Z) p2 c2 (γ.q 5 Z) p3 c3 (γ.q 6 Z) hq2) ?_
 intro hq4
 refine R0 ?_
 refine WX.cases 30 Z ?_ ?_ <;> intro h2
 ·skip
  have h2d := (B.nt h2)
  refine R0 ?_
  refine WX.free 13 (MF.os none 0 ([] : List Str)) (owSl_nil _ _) ?_
  refine WX.free 14 (MF.os none 0 ([] : List UInt8)) (owSl_nil _ _) ?_
  refine WX.free 15 (MF.os none 0 ([] : List Str)) (owSl_nil _ _) ?_
  have hP2 : a08 l by_ n_ b till = (DataP.mk (Name.mk ([])) ([]) (Name.mk ([])) 0 0, false) := by simp only [a08, h1, h2, cT, cF]
  refine R1 ?_
  intro w1 G bs hI hΓ
  rw [hP2]
  exact Post.of [13, 14, 15] ((none, 0), (none, 0), (none, 0), (), ()) hI hΓ Z Z Z (by have z_ := (show GoT.ok 0 (a08 l by_ n_ b till).1 from (sk_ok l by_ n_ b till).1); rw [hP2] at z_; exact GoT.okm τ1 z_)
 have h2d := (B.nf h2)
 refine R0 ?_
 have hP3 : a08 l by_ n_ b till = (a3n (a0n l by_) (DataP.mk n_ b by_ till 0), true) := by simp only [a08, h1, h2, cT, cF]
 refine R1 ?_
 intro w1 G bs hI hΓ
 rw [hP3]
 exact Post.of [7, 8, 9] ((p1, c1), (p2, c2), (p3, c3), (), ()) hI hΓ Z Z Z (by have z_ := (show GoT.ok 0 (a08 l by_ n_ b till).1 from (sk_ok l by_ n_ b till).1); rw [hP3] at z_; exact GoT.okm τ1 z_)
theorem f116 (w : World) (n : Nat) (hn : n + 8 ≤ 9) (l : (List Key)) (pl cl) (N0 : RdSl (hp w) pl cl l) (n_ : Name) (K1 M1) (N1 : RdSl (hp w) K1 M1 n_.parts) (by_ : Name) (K2 M2) (N2 : RdSl (hp w) K2 M2 by_.parts) (till : Int) (hokl : GoT.ok n l) (hokn_ : GoT.ok n n_) (hokby_ : GoT.ok n by_) (hoktill : GoT.ok n till) :
 Does Tryz.prog 116 #[.slice pl ((l).length) cl, .agg #[.slice K1 ((n_.parts).length) M1], .agg #[.slice K2 ((by_.parts).length) M2], .int .i64 (till)] w emp (Post w emp (fun x : GoT.X (DataP) => .tuple #[.agg ⟨GoT.sh ((a1h l n_ by_ till).1 : DataP) x⟩, .bool ((a1h l n_ by_ till).2)]) (fun x => GoT.oa ((a1h l n_ by_ till).1 : DataP) x) (GoT.ok n ((a1h l n_ by_ till).1 : DataP))) := by
 have hb := bS8 hn
 refine EN Tryz.func116 Z (aS3 N0 N1 N2) ?_
 refine R0 ?_
 refine WX.draw [10, 11] mixed ?_
 intro bs G0 hΓ0
 refine DX.takes (fuel := 6) ttOk [(0, true), (1, false), (2, false), (3, true), (4, false), (6, true)] J Z ?_
 refine DXF 5 3 Z J Z Z Z Z Z Z O Z (fun w γ => f120 w n τ1 l pl cl (γ.q 0 Z) n_ K1 M1 (γ.q 1 Z) hokl hokn_) ?_
 rintro ⟨p1, c1⟩ hq1
 refine DXF 7 5 Z J Z Z Z Z Z Z O Z (fun w γ => f36 w (n + 1) τ1 l pl cl (γ.q 0 Z) by_ K2 M2 (γ.q 2 Z) n_ K1 M1 (γ.q 1 Z) (a1v l n_) p1 c1 (γ.q 3 Z) till (GoT.okm (α := List Key) τ1 hokl) (GoT.okm (α := List Str) τ1 (ok_Name hokby_)) (GoT.okm (α := List Str) τ1 (ok_Name hokn_)) hq1 hoktill) ?_
 rintro ⟨⟨p2, c2⟩, ⟨p3, c3⟩, ⟨p4, c4⟩, ⟨⟩, ⟨⟩⟩ hq2
 refine DX.takes (fuel := 2) ttOk [(8, true), (9, true)] J Z ?_
 refine DX.tail2 [10, 11] Z Z J ?_
 refine R0 ?_
 have hP1 : a1h l n_ by_ till = ((a08 l by_ n_ (a1v l n_) till).1, (a08 l by_ n_ (a1v l n_) till).2) := by simp only [a1h, cT, cF]
 refine R1 ?_
 intro w1 G bs hI hΓ
 rw [hP1]
 exact Post.of [8, 9, 10] ((p2, c2), (p3, c3), (p4, c4), (), ()) hI hΓ Z Z Z (by have z_ := (show GoT.ok 0 (a1h l n_ by_ till).1 from (sk_ok l by_ n_ _ till).1); rw [hP1] at z_; exact GoT.okm τ1 z_)
theorem f93 (w : World) (n : Nat) (hn : n + 8 ≤ 9) (H : GH) (hH : Le H (hp w)) (bc_ : Nat) (c_b : (List UInt8)) (K0 M0) (N0 : RdSl (cut (hp w) H) K0 M0 c_b) (c_i : Int) (c_h : Int) (hown : Sep H [MF.bx bc_ 96 [.slice K0 ((c_b).length) M0, .int .i64 (c_i), .int .i64 (c_h)]]) (hokc_b : GoT.ok n c_b) (hokc_i : NN c_i) (hokc_h : GoT.ok n c_h) (o0_ : TrustPolicy) (o1_ : Int) (o2_ : Int) (hres : a4s c_b c_i c_h = (o0_, o1_, o2_)) :
 Does Tryz.prog 93 #[.pointer (some ⟨bc_, 0, none⟩)] w H (Post w H (fun x : GoT.X (TrustPolicy) => .agg ⟨GoT.sh (o0_ : TrustPolicy) x⟩) (fun x => MF.bx bc_ 96 [.slice K0 ((c_b).length) M0, .int .i64 (o1_), .int .i64 (o2_)] :: GoT.oa (o0_ : TrustPolicy) x) (GoT.ok n (o0_ : TrustPolicy) ∧ NN (o1_) ∧ I64 (o2_))) := by
 have hb := bS8 hn
 have hc_bz : (c_b).length ≤ bd n := (okl hokc_b).1
 refine WX.enterP (tt := tt) (Γ := [(0, MF.rs .stb K0 M0 c_b)]) 1 Tryz.func93 Z J Z (allS_cons Z N0 allS_nil) hH hown (fun f hf => by cases hf) Z ?_
 refine R0 ?_
 refine CF 2 Z Z Z Z Z O Z (fun w γ => f37 w n τ1 (⟨#[47, 107, 101, 121, 47, 97]⟩ : Str) (Nat.le_trans τ9 (bd_pos n))) ?_
 rintro ⟨p1, c1⟩ hq1
 refine R0 ?_
 refine CF 4 Z Z Z Z Z O Z (fun w γ => f37 w n τ1 (⟨#[47, 97, 47, 107, 101, 121]⟩ : Str) (Nat.le_trans τ9 (bd_pos n))) ?_
 rintro ⟨p2, c2⟩ hq2
 refine R0 ?_
 refine CF 6 Z Z Z Z Z O Z (fun w γ => f37 w n τ1 (⟨#[47, 98, 47, 107, 101, 121]⟩ : Str) (Nat.le_trans τ9 (bd_pos n))) ?_
 rintro ⟨p3, c3⟩ hq3
 refine R0 ?_
 refine CF 8 Z Z Z Z Z O Z (fun w γ => f37 w n τ1 (⟨#[47, 98, 97, 100, 47, 107, 101, 121]⟩ : Str) (Nat.le_trans τ9 (bd_pos n))) ?_
 rintro ⟨p4, c4⟩ hq4
 refine R0 ?_
 refine WX.bld ttOk Z Z Z Z Z Z Z ?_
 intro p5
 refine WX.turn [3] 11 Z (fun h hs => ol_one (α := Key) (a := (Key.mk (a02 (⟨#[47, 107, 101, 121, 47, 97]⟩ : Str)) 100)) (x := ((p1, c1), ())) hs) (gs := [MF.ol (GoT.sh ((Key.mk (a02 (⟨#[47, 107, 101, 121, 47, 97]⟩ : Str)) 100) : Key) ((p1, c1), ())) (([(Key.mk (a02 (⟨#[47, 107, 101, 121, 47, 97]⟩ : Str)) 100)]) : List Key)]) Z ?_
 refine WX.turn [11, 5] 12 Z (fun h hs => ol_snoc (α := Key) (a := (Key.mk (a02 (⟨#[47, 97, 47, 107, 101, 121]⟩ : Str)) 101)) (x := ((p2, c2), ())) hs) (gs := [MF.ol (GoT.sh ((Key.mk (a02 (⟨#[47, 107, 101, 121, 47, 97]⟩ : Str)) 100) : Key) ((p1, c1), ()) ++ GoT.sh ((Key.mk (a02 (⟨#[47, 97, 47, 107, 101, 121]⟩ : Str)) 101) : Key) ((p2, c2), ())) (([(Key.mk (a02 (⟨#[47, 107, 101, 121, 47, 97]⟩ : Str)) 100)] ++ [(Key.mk (a02 (⟨#[47, 97, 47, 107, 101, 121]⟩ : Str)) 101)]) : List Key)]) Z ?_
 refine WX.turn [12, 7] 13 Z (fun h hs => ol_snoc (α := Key) (a := (Key.mk (a02 (⟨#[47, 98, 47, 107, 101, 121]⟩ : Str)) 102)) (x := ((p3, c3), ())) hs) (gs := [MF.ol (GoT.sh ((Key.mk (a02 (⟨#[47, 107, 101, 121, 47, 97]⟩ : Str)) 100) : Key) ((p1, c1), ()) ++ GoT.sh ((Key.mk (a02 (⟨#[47, 97, 47, 107, 101, 121]⟩ : Str)) 101) : Key) ((p2, c2), ()) ++ GoT.sh ((Key.mk (a02 (⟨#[47, 98, 47, 107, 101, 121]⟩ : Str)) 102) : Key) ((p3, c3), ())) (([(Key.mk (a02 (⟨#[47, 107, 101, 121, 47, 97]⟩ : Str)) 100)] ++ [(Key.mk (a02 (⟨#[47, 97, 47, 107, 101, 121]⟩ : Str)) 101)] ++ [(Key.mk (a02 (⟨#[47, 98, 47, 107, 101, 121]⟩ : Str)) 102)]) : List Key)]) Z ?_
 refine WX.turn [13, 9] 10 Z (fun h hs => ol_snoc (α := Key) (a := (Key.mk (a02 (⟨#[47, 98, 97, 100, 47, 107, 101, 121]⟩ : Str)) 103)) (x := ((p4, c4), ())) hs) (gs := [MF.ol [.slice p1 (((a02 (⟨#[47, 107, 101, 121, 47, 97]⟩ : Str)).parts).length) c1, .int .i64 (100), .slice p2 (((a02 (⟨#[47, 97, 47, 107, 101, 121]⟩ : Str)).parts).length) c2, .int .i64 (101), .slice p3 (((a02 (⟨#[47, 98, 47, 107, 101, 121]⟩ : Str)).parts).length) c3, .int .i64 (102), .slice p4 (((a02 (⟨#[47, 98, 97, 100, 47, 107, 101, 121]⟩ : Str)).parts).length) c4, .int .i64 (103)] ([(Key.mk (a02 (⟨#[47, 107, 101, 121, 47, 97]⟩ : Str)) 100), (Key.mk (a02 (⟨#[47, 97, 47, 107, 101, 121]⟩ : Str)) 101), (Key.mk (a02 (⟨#[47, 98, 47, 107, 101, 121]⟩ : Str)) 102), (Key.mk (a02 (⟨#[47, 98, 97, 100, 47, 107, 101, 121]⟩ : Str)) 103)] : List Key)]) Z ?_
 refine WX.seal 20 10 14 Z Z Z Z Z ?_
 refine CF 16 Z Z Z Z Z O Z (fun w γ => f37 w n τ1 (⟨#[47, 107, 101, 121, 47, 97]⟩ : Str) (Nat.le_trans τ9 (bd_pos n))) ?_
 rintro ⟨p6, c5⟩ hq5
 refine WX.bld ttOk Z Z Z Z Z Z Z ?_
 intro p7
 refine WX.turn [17] 18 Z (fun h hs => ol_one (α := Name) (a := (a02 (⟨#[47, 107, 101, 121, 47, 97]⟩ : Str))) (x := (p6, c5)) hs) (gs := [MF.ol [.slice p6 (((a02 (⟨#[47, 107, 101, 121, 47, 97]⟩ : Str)).parts).length) c5] ([(a02 (⟨#[47, 107, 101, 121, 47, 97]⟩ : Str))] : List Name)]) Z ?_
 refine WX.seal 22 18 19 Z Z Z Z Z ?_
 refine R0 ?_
 refine WX.bld ttOk Z Z Z Z Z Z Z ?_
 intro p8
 refine R0 ?_
 refine WX.row0 501 2 none Z ?_
 refine WX.free 21 (MF.ol [] ([] : List Rule)) Z ?_
 refine WX.loop (ι := Nat × (Option Addr) × Nat × (List Value) × (List Rule)) ⟨fun | (i, pt, ct, xst, t) => (i ≤ 2) ∧ (∀ z_ ∈ t, GoT.ok n z_) ∧ (t.length ≤ i) ∧ (a4g 2 0 ([] : List Rule) = a4g (2 - i) i t), fun | (i, pt, ct, xst, t) => 2 - i, fun | (i, pt, ct, xst, t) => [(26, .v (.int .i64 (((i : Nat) : Int)))), (25, .v (.int .i64 (((2 : Nat) : Int)))), (24, .v (.slice p8 (2) 2)), (3, .p 3 0), (2, .p 2 0), (0, .p 999 0)], fun | (i, pt, ct, xst, t) => [(3, ⟨41, [.slice p5 (4) 4, .slice pt ((t).length) ct, .slice p7 (1) 1, .slice none (0) 0]⟩), (2, ⟨41, [.slice none (0) 0, .slice none (0) 0, .slice none (0) 0, .slice none (0) 0]⟩), (999, ⟨96, [.slice K0 ((c_b).length) M0, .int .i64 (c_i), .int .i64 (c_h)]⟩)], fun | (i, pt, ct, xst, t) => [(24, ⟨1, p8, 2, 2, [.string (⟨#[47, 63, 120, 47, 107, 101, 121, 32, 60, 32, 47, 107, 101, 121, 47, 97]⟩ : Str), .string (⟨#[47, 63, 120, 47, 42, 42, 32, 60, 32, 47, 63, 120, 47, 107, 101, 121]⟩ : Str)]⟩), (501, ⟨2, pt, (t).length, ct, xst⟩)], fun | (i, pt, ct, xst, t) => [(0, MF.rs .stb K0 M0 c_b), (15, MF.os p5 4 ([(Key.mk (a02 (⟨#[47, 107, 101, 121, 47, 97]⟩ : Str)) 100), (Key.mk (a02 (⟨#[47, 97, 47, 107, 101, 121]⟩ : Str)) 101), (Key.mk (a02 (⟨#[47, 98, 47, 107, 101, 121]⟩ : Str)) 102), (Key.mk (a02 (⟨#[47, 98, 97, 100, 47, 107, 101, 121]⟩ : Str)) 103)])), (20, MF.os p7 1 ([(a02 (⟨#[47, 107, 101, 121, 47, 97]⟩ : Str))])), (21, MF.ol xst (t : List Rule))]⟩ (0, none, 0, [], ([] : List Rule)) ⟨(Nat.zero_le _), (fun a ha => by cases ha), τ11, Z⟩
  (.cons Z (.cons Z (.cons Z (.cons Z (.cons Z (.cons Z (.nil))))))) (.cons Z (.cons Z (.cons Z (.nil)))) (.cons Z (.cons Z (.nil))) [0, 15, 20, 21] Z ?_
 rintro ⟨i, pt, ct, xst, t⟩ ⟨v1, v2, v3, v4⟩
 refine R0 ?_
 refine WX.cases 27 Z ?_ ?_ <;> intro h1
 ·skip
  have h1d := B.dt h1
  refine R0 ?_
  have hr1 : i < 2 := τ6
  refine WX.idxR 24 i ttOk Z Z Z Z Z Z Z Z Z hr1 ?_
  rintro ad1 rfl
  have e1i : i < ([(⟨#[47, 63, 120, 47, 107, 101, 121, 32, 60, 32, 47, 107, 101, 121, 47, 97]⟩ : Str), (⟨#[47, 63, 120, 47, 42, 42, 32, 60, 32, 47, 63, 120, 47, 107, 101, 121]⟩ : Str)]).length := τ6
  obtain ⟨e1, e1h⟩ : ∃ e1, ([(⟨#[47, 63, 120, 47, 107, 101, 121, 32, 60, 32, 47, 107, 101, 121, 47, 97]⟩ : Str), (⟨#[47, 63, 120, 47, 42, 42, 32, 60, 32, 47, 63, 120, 47, 107, 101, 121]⟩ : Str)])[i]? = some e1 := ⟨_, List.getElem?_eq_getElem e1i⟩
  have ok1 : GoT.ok n e1 := (all_cons (α := Str) (Nat.le_trans τ9 (bd_pos n)) (all_cons (α := Str) (Nat.le_trans τ9 (bd_pos n)) (fun a ha => by cases ha))) _ (List.mem_of_getElem? e1h)
  refine WX.turn [] 22 Z (fun h hs => one_sep (⟨(), _, emp, _, Z, emp_le _, Le.refl _, emp_dj _, trivial, ⟨(), _, emp, _, Z, emp_le _, Le.refl _, emp_dj _, trivial, Z⟩⟩ : OwL _ _ ([(⟨#[47, 63, 120, 47, 107, 101, 121, 32, 60, 32, 47, 107, 101, 121, 47, 97]⟩ : Str), (⟨#[47, 63, 120, 47, 42, 42, 32, 60, 32, 47, 63, 120, 47, 107, 101, 121]⟩ : Str)] : List Str))) (gs := [MF.ol [.string (⟨#[47, 63, 120, 47, 107, 101, 121, 32, 60, 32, 47, 107, 101, 121, 47, 97]⟩ : Str), .string (⟨#[47, 63, 120, 47, 42, 42, 32, 60, 32, 47, 63, 120, 47, 107, 101, 121]⟩ : Str)] ([(⟨#[47, 63, 120, 47, 107, 101, 121, 32, 60, 32, 47, 107, 101, 121, 47, 97]⟩ : Str), (⟨#[47, 63, 120, 47, 42, 42, 32, 60, 32, 47, 63, 120, 47, 107, 101, 121]⟩ : Str)] : List Str)]) Z ?_
  refine WX.ldR 24 22 e1 ttOk Z Z Z Z Z Z Z Z Z hr1 (fun G hΓ => (hΓ.get 22 Z : OwL _ _ _).rd) e1h O O ?_
  rintro ⟨⟩ hx1
  refine R0 ?_
  refine CF 23 Z Z Z Z Z O Z (fun w γ => f115 w n τ1 e1 ok1) ?_
  rintro ⟨⟨p9, c6⟩, ⟨p10, c7⟩⟩ hq6
  refine R0 ?_
  refine WX.bld ttOk Z Z Z Z Z Z Z ?_
  intro p11
  refine WX.turn [25, 26] 27 Z (fun h hs => ol_one (α := Rule) (a := ((a0o e1).1)) (x := ((p9, c6), (p10, c7))) hs) (gs := [MF.ol [.slice p9 (((a0o e1).1.dataPattern.parts).length) c6, .slice p10 (((a0o e1).1.keyPattern.parts).length) c7] ([((a0o e1).1)] : List Rule)]) Z ?_
  refine WX.seal 38 27 28 Z Z Z Z Z ?_
  refine WX.opn (kk := 2) 502 29 30 Z Z Z ?_
  intro xs1 hx2
  have r1 : (e1).size ≤ bd n := ok1
  refine WX.know (fun G hΓ => (hΓ.get 30 Z : OwL _ _ _).rd.one) ?_
  intro ho1
  refine WX.appR1 501 502 ((t ++ [((a0o e1).1)]) : List Rule).length ttOk Z Z Z Z Z Z Z Z Z Z Z Z Z ho1 τ11 τ3 τ3 (fun _ _ => Z) ?_
  intro p12 c8
  refine WX.turn [21, 30] 31 Z (fun h hs => ol_app hs) (gs := [MF.ol (xst ++ xs1) ((t ++ [((a0o e1).1)]) : List Rule)]) Z ?_
  refine R0 ?_
  refine WX.see Z Z Z (fun _ hΓ => looks_arith Z Z Z Z τ2) ?_
  refine R0 ?_
  refine WX.turn [31] 21 Z (fun _ h => h) Z ?_
  exact WX.iter (i + 1, p12, c8, (xst ++ xs1), ((t ++ [((a0o e1).1)]) : List Rule)) ⟨τ1, (all_app v2 (all_cons (α := Rule) hq6 (fun a ha => by cases ha))), τ5, (by rw [v4, show 2 - i = (2 - (i + 1)) + 1 by omega]; simp only [a4g, e1h, cT, cF])⟩ τ4 (.cons Z (.cons Z (.cons Z (.cons Z (.cons Z (.cons Z (.nil))))))) (.cons Z (.cons Z (.cons Z (.nil)))) (.cons Z (.cons Z (.nil))) [0, 15, 20, 21] Z
 have h1d := B.df h1
 refine R0 ?_
 have hX1 : a4g 2 0 ([] : List Rule) = ((t) : List Rule) := by rw [v4, show 2 - i = 0 by omega]; simp only [a4g, cT, cF]
 refine WX.seal 501 21 32 Z Z Z Z Z ?_
 refine WX.bld ttOk Z Z Z Z Z Z Z ?_
 intro p13
 refine R0 ?_
 refine WX.free 35 (MF.os none 0 ([] : List DataP)) (owSl_nil _ _) ?_
 refine WX.der 34 (MF.rs .der none 0 ([] : List DataP)) Z (fun _ hΓ => (hΓ.get 35 Z : OwSl _ _ _ _).rd) ?_
 refine WX.loop (ι := Nat × (Option Addr) × Nat × (List DataP) × Int × Int) ⟨fun | (i, pt2, ct2, t2, u999_i, u999_h) => (i ≤ 2) ∧ (t2.length ≤ bd n ∧ ∀ z_ ∈ t2, GoT.ok n z_) ∧ (NN u999_i) ∧ (-9223372036854775808 ≤ u999_h ∧ u999_h ≤ 9223372036854775807) ∧ (t2.length ≤ i) ∧ (a3h c_b 2 0 (([] : List DataP) : List DataP) c_i c_h = a3h c_b (2 - i) i t2 u999_i u999_h), fun | (i, pt2, ct2, t2, u999_i, u999_h) => 2 - i, fun | (i, pt2, ct2, t2, u999_i, u999_h) => [(44, .v (.int .i64 (((i : Nat) : Int)))), (43, .v (.int .i64 (((2 : Nat) : Int)))), (42, .v (.slice p13 (2) 2)), (3, .p 3 0), (2, .p 2 0), (0, .p 999 0)], fun | (i, pt2, ct2, t2, u999_i, u999_h) => [(3, ⟨41, [.slice p5 (4) 4, .slice pt ((t).length) ct, .slice p7 (1) 1, .slice pt2 ((t2).length) ct2]⟩), (2, ⟨41, [.slice none (0) 0, .slice none (0) 0, .slice none (0) 0, .slice none (0) 0]⟩), (999, ⟨96, [.slice K0 ((c_b).length) M0, .int .i64 (u999_i), .int .i64 (u999_h)]⟩)], fun | (i, pt2, ct2, t2, u999_i, u999_h) => [(42, ⟨1, p13, 2, 2, [.string (⟨#[47, 97, 47, 107, 101, 121]⟩ : Str), .string (⟨#[47, 98, 47, 107, 101, 121]⟩ : Str)]⟩)], fun | (i, pt2, ct2, t2, u999_i, u999_h) => [(0, MF.rs .stb K0 M0 c_b), (15, MF.os p5 4 ([(Key.mk (a02 (⟨#[47, 107, 101, 121, 47, 97]⟩ : Str)) 100), (Key.mk (a02 (⟨#[47, 97, 47, 107, 101, 121]⟩ : Str)) 101), (Key.mk (a02 (⟨#[47, 98, 47, 107, 101, 121]⟩ : Str)) 102), (Key.mk (a02 (⟨#[47, 98, 97, 100, 47, 107, 101, 121]⟩ : Str)) 103)])), (20, MF.os p7 1 ([(a02 (⟨#[47, 107, 101, 121, 47, 97]⟩ : Str))])), (33, MF.os pt ct t), (35, MF.os pt2 ct2 t2)]⟩ (0, none, 0, (([] : List DataP) : List DataP), c_i, c_h) ⟨(Nat.zero_le _), (okl_mk (Nat.zero_le _) (fun a ha => by cases ha) : GoT.ok n (([] : List DataP) : List DataP)), hokc_i, hokc_h, τ11, Z⟩
  (.cons Z (.cons Z (.cons Z (.cons Z (.cons Z (.cons Z (.nil))))))) (.cons Z (.cons Z (.cons Z (.nil)))) (.cons Z (.nil)) [0, 15, 20, 33, 35] Z ?_
 rintro ⟨i, pt2, ct2, t2, u999_i, u999_h⟩ ⟨v5, v6, v7, v8, v9, v10⟩
 have v6L := v6.1
 refine R0 ?_
 refine WX.cases 45 Z ?_ ?_ <;> intro h2
 ·skip
  have h2d := B.dt h2
  refine R0 ?_
  have hr2 : i < 2 := τ6
  refine WX.idxR 42 i ttOk Z Z Z Z Z Z Z Z Z hr2 ?_
  rintro ad2 rfl
  have e2i : i < ([(⟨#[47, 97, 47, 107, 101, 121]⟩ : Str), (⟨#[47, 98, 47, 107, 101, 121]⟩ : Str)]).length := τ6
  obtain ⟨e2, e2h⟩ : ∃ e2, ([(⟨#[47, 97, 47, 107, 101, 121]⟩ : Str), (⟨#[47, 98, 47, 107, 101, 121]⟩ : Str)])[i]? = some e2 := ⟨_, List.getElem?_eq_getElem e2i⟩
  have ok2 : GoT.ok n e2 := (all_cons (α := Str) (Nat.le_trans τ9 (bd_pos n)) (all_cons (α := Str) (Nat.le_trans τ9 (bd_pos n)) (fun a ha => by cases ha))) _ (List.mem_of_getElem? e2h)
  refine WX.turn [] 36 Z (fun h hs => one_sep (⟨(), _, emp, _, Z, emp_le _, Le.refl _, emp_dj _, trivial, ⟨(), _, emp, _, Z, emp_le _, Le.refl _, emp_dj _, trivial, Z⟩⟩ : OwL _ _ ([(⟨#[47, 97, 47, 107, 101, 121]⟩ : Str), (⟨#[47, 98, 47, 107, 101, 121]⟩ : Str)] : List Str))) (gs := [MF.ol [.string (⟨#[47, 97, 47, 107, 101, 121]⟩ : Str), .string (⟨#[47, 98, 47, 107, 101, 121]⟩ : Str)] ([(⟨#[47, 97, 47, 107, 101, 121]⟩ : Str), (⟨#[47, 98, 47, 107, 101, 121]⟩ : Str)] : List Str)]) Z ?_
  refine WX.ldR 42 36 e2 ttOk Z Z Z Z Z Z Z Z Z hr2 (fun G hΓ => (hΓ.get 36 Z : OwL _ _ _).rd) e2h O O ?_
  rintro ⟨⟩ hx3
  refine R0 ?_
  refine WX.der 37 (MF.rs .der p5 4 ([(Key.mk (a02 (⟨#[47, 107, 101, 121, 47, 97]⟩ : Str)) 100), (Key.mk (a02 (⟨#[47, 97, 47, 107, 101, 121]⟩ : Str)) 101), (Key.mk (a02 (⟨#[47, 98, 47, 107, 101, 121]⟩ : Str)) 102), (Key.mk (a02 (⟨#[47, 98, 97, 100, 47, 107, 101, 121]⟩ : Str)) 103)])) Z (fun _ hΓ => (hΓ.get 15 Z : OwSl _ _ _ _).rd) ?_
  refine WX.der 38 (MF.rs .der pt ct t) Z (fun _ hΓ => (hΓ.get 33 Z : OwSl _ _ _ _).rd) ?_
  refine WX.der 39 (MF.rs .der p7 1 ([(a02 (⟨#[47, 107, 101, 121, 47, 97]⟩ : Str))])) Z (fun _ hΓ => (hΓ.get 20 Z : OwSl _ _ _ _).rd) ?_
  refine WX.der 40 (MF.rs .der pt2 ct2 t2) Z (fun _ hΓ => (hΓ.get 35 Z : OwSl _ _ _ _).rd) ?_
  refine WX.draw [10] mixed ?_
  intro bs G0 hΓ0
  refine DX.takes (fuel := 9) ttOk [(0, true), (1, false), (2, true)] J Z ?_
  refine DX.toTX ?_
  intro S_
  refine TX.toP ?_
  refine TXP.pend (PI.loc 9 10 ⟨28, [.slice none (0) 0, .slice none (0) 0, .slice none (0) 0, .int .i64 (0), .int .i64 (0)]⟩) (loc_ok ttOk Z Z Z Z Z) .nil Z J Z ?_
  refine TPF 3 41 J J Z Z Z Z Z Z Z O Z (fun w γ => f37 w n τ1 e2 ok2) ?_
  rintro ⟨p14, c9⟩ hq7
  refine TPF 4 43 J J Z Z Z Z Z Z Z O Z (fun w γ => f37 w n τ1 (⟨#[47, 107, 101, 121, 47, 97]⟩ : Str) (Nat.le_trans τ9 (bd_pos n))) ?_
  rintro ⟨p15, c10⟩ hq8
  have r2 : (⟨#[47, 107, 101, 121, 47, 97]⟩ : Str).size = 6 := rfl
  have r3 : (⟨#[47, 97, 47, 107, 101, 121]⟩ : Str).size = 6 := rfl
  have r4 : (⟨#[47, 98, 47, 107, 101, 121]⟩ : Str).size = 6 := rfl
  have r5 : (⟨#[47, 98, 97, 100, 47, 107, 101, 121]⟩ : Str).size = 8 := rfl
  refine TPF 5 45 J J Z Z Z Z Z Z Z O Z (fun w γ => f116 w n τ1 ([(Key.mk (a02 (⟨#[47, 107, 101, 121, 47, 97]⟩ : Str)) 100), (Key.mk (a02 (⟨#[47, 97, 47, 107, 101, 121]⟩ : Str)) 101), (Key.mk (a02 (⟨#[47, 98, 47, 107, 101, 121]⟩ : Str)) 102), (Key.mk (a02 (⟨#[47, 98, 97, 100, 47, 107, 101, 121]⟩ : Str)) 103)]) p5 4 (γ.q 37 Z) (a02 e2) p14 c9 (γ.q 41 Z) (a02 (⟨#[47, 107, 101, 121, 47, 97]⟩ : Str)) p15 c10 (γ.q 43 Z) 5000 (okl_mk τ3 (all_cons (α := Key) (And.intro hq1 (i6 100)) (all_cons (α := Key) (And.intro hq2 (i6 101)) (all_cons (α := Key) (And.intro hq3 (i6 102)) (all_cons (α := Key) (And.intro hq4 (i6 103)) (fun a ha => by cases ha))))) : GoT.ok n ([(Key.mk (a02 (⟨#[47, 107, 101, 121, 47, 97]⟩ : Str)) 100), (Key.mk (a02 (⟨#[47, 97, 47, 107, 101, 121]⟩ : Str)) 101), (Key.mk (a02 (⟨#[47, 98, 47, 107, 101, 121]⟩ : Str)) 102), (Key.mk (a02 (⟨#[47, 98, 97, 100, 47, 107, 101, 121]⟩ : Str)) 103)] : List Key)) hq7 hq8 (i6 5000)) ?_
  rintro ⟨⟨p16, c11⟩, ⟨p17, c12⟩, ⟨p18, c13⟩, ⟨⟩, ⟨⟩⟩ hq9
  refine TXP.takes (fuel := 2) ttOk [6, 7, 8] Z J Z ?_
  refine TXP.settleL 0 Z Z J Z ?_
  refine TXP.done ?_
  refine TX.all1 10 J ?_
  refine TS.op 10 Z J ?_
  refine R0 ?_
  refine WX.back0 ?_
  refine TX.takes (fuel := 0) ttOk [11] J Z ?_
  refine TX.tail [] Z Z J ?_
  refine R0 ?_
  refine WX.cases 58 Z ?_ ?_ <;> intro h3
  ·skip
   refine R0 ?_
   obtain ⟨⟨u1, u2, u3⟩, hu1⟩ := xE (a1b c_b u999_i u999_h 8)
   refine CP 999 51 Z Z Z Z Z Z O Z (fun w β H η σ γ => f35 w n τ1 H η (β 999) c_b K0 M0 (γ.q 0 Z) u999_i u999_h 8 σ hokc_b v7 v8 (i6 8) u1 u2 u3 hu1) ?_
   rintro ⟨⟩ hq10
   refine R0 ?_
   refine WX.cases 62 Z ?_ ?_ <;> intro h4
   ·skip
    have h4d := (B.nt h4)
    refine R0 ?_
    refine WX.bld ttOk Z Z Z Z Z Z Z ?_
    intro p19
    refine WX.turn [48, 49, 50] 52 Z (fun h hs => ol_one (α := DataP) (a := ((a1h ([(Key.mk (a02 (⟨#[47, 107, 101, 121, 47, 97]⟩ : Str)) 100), (Key.mk (a02 (⟨#[47, 97, 47, 107, 101, 121]⟩ : Str)) 101), (Key.mk (a02 (⟨#[47, 98, 47, 107, 101, 121]⟩ : Str)) 102), (Key.mk (a02 (⟨#[47, 98, 97, 100, 47, 107, 101, 121]⟩ : Str)) 103)]) (a02 e2) (a02 (⟨#[47, 107, 101, 121, 47, 97]⟩ : Str)) 5000).1)) (x := ((p16, c11), (p17, c12), (p18, c13), (), ())) hs) (gs := [MF.ol [.slice p16 (((a1h ([(Key.mk (a02 (⟨#[47, 107, 101, 121, 47, 97]⟩ : Str)) 100), (Key.mk (a02 (⟨#[47, 97, 47, 107, 101, 121]⟩ : Str)) 101), (Key.mk (a02 (⟨#[47, 98, 47, 107, 101, 121]⟩ : Str)) 102), (Key.mk (a02 (⟨#[47, 98, 97, 100, 47, 107, 101, 121]⟩ : Str)) 103)]) (a02 e2) (a02 (⟨#[47, 107, 101, 121, 47, 97]⟩ : Str)) 5000).1.name.parts).length) c11, .slice p17 (((a1h ([(Key.mk (a02 (⟨#[47, 107, 101, 121, 47, 97]⟩ : Str)) 100), (Key.mk (a02 (⟨#[47, 97, 47, 107, 101, 121]⟩ : Str)) 101), (Key.mk (a02 (⟨#[47, 98, 47, 107, 101, 121]⟩ : Str)) 102), (Key.mk (a02 (⟨#[47, 98, 97, 100, 47, 107, 101, 121]⟩ : Str)) 103)]) (a02 e2) (a02 (⟨#[47, 107, 101, 121, 47, 97]⟩ : Str)) 5000).1.content).length) c12, .slice p18 (((a1h ([(Key.mk (a02 (⟨#[47, 107, 101, 121, 47, 97]⟩ : Str)) 100), (Key.mk (a02 (⟨#[47, 97, 47, 107, 101, 121]⟩ : Str)) 101), (Key.mk (a02 (⟨#[47, 98, 47, 107, 101, 121]⟩ : Str)) 102), (Key.mk (a02 (⟨#[47, 98, 97, 100, 47, 107, 101, 121]⟩ : Str)) 103)]) (a02 e2) (a02 (⟨#[47, 107, 101, 121, 47, 97]⟩ : Str)) 5000).1.keyName.parts).length) c13, .int .i64 ((a1h ([(Key.mk (a02 (⟨#[47, 107, 101, 121, 47, 97]⟩ : Str)) 100), (Key.mk (a02 (⟨#[47, 97, 47, 107, 101, 121]⟩ : Str)) 101), (Key.mk (a02 (⟨#[47, 98, 47, 107, 101, 121]⟩ : Str)) 102), (Key.mk (a02 (⟨#[47, 98, 97, 100, 47, 107, 101, 121]⟩ : Str)) 103)]) (a02 e2) (a02 (⟨#[47, 107, 101, 121, 47, 97]⟩ : Str)) 5000).1.freshUntil), .int .i64 ((a1h ([(Key.mk (a02 (⟨#[47, 107, 101, 121, 47, 97]⟩ : Str)) 100), (Key.mk (a02 (⟨#[47, 97, 47, 107, 101, 121]⟩ : Str)) 101), (Key.mk (a02 (⟨#[47, 98, 47, 107, 101, 121]⟩ : Str)) 102), (Key.mk (a02 (⟨#[47, 98, 97, 100, 47, 107, 101, 121]⟩ : Str)) 103)]) (a02 e2) (a02 (⟨#[47, 107, 101, 121, 47, 97]⟩ : Str)) 5000).1.signature)] ([((a1h ([(Key.mk (a02 (⟨#[47, 107, 101, 121, 47, 97]⟩ : Str)) 100), (Key.mk (a02 (⟨#[47, 97, 47, 107, 101, 121]⟩ : Str)) 101), (Key.mk (a02 (⟨#[47, 98, 47, 107, 101, 121]⟩ : Str)) 102), (Key.mk (a02 (⟨#[47, 98, 97, 100, 47, 107, 101, 121]⟩ : Str)) 103)]) (a02 e2) (a02 (⟨#[47, 107, 101, 121, 47, 97]⟩ : Str)) 5000).1)] : List DataP)]) Z ?_
    refine WX.seal 66 52 53 Z Z Z Z Z ?_
    refine WX.opn (kk := 5) 503 35 55 Z Z Z ?_
    intro xs2 hx4
    refine WX.opn (kk := 5) 504 54 56 Z Z Z ?_
    intro xs3 hx5
    have r6 : (e2).size ≤ bd n := ok2
    refine WX.know (fun G hΓ => (hΓ.get 56 Z : OwL _ _ _).rd.one) ?_
    intro ho2
    refine WX.appR1 503 504 ((t2 ++ [((a1h ([(Key.mk (a02 (⟨#[47, 107, 101, 121, 47, 97]⟩ : Str)) 100), (Key.mk (a02 (⟨#[47, 97, 47, 107, 101, 121]⟩ : Str)) 101), (Key.mk (a02 (⟨#[47, 98, 47, 107, 101, 121]⟩ : Str)) 102), (Key.mk (a02 (⟨#[47, 98, 97, 100, 47, 107, 101, 121]⟩ : Str)) 103)]) (a02 e2) (a02 (⟨#[47, 107, 101, 121, 47, 97]⟩ : Str)) 5000).1)]) : List DataP).length ttOk Z Z Z Z Z Z Z Z Z Z Z Z Z ho2 τ11 τ3 τ3 (fun _ _ => Z) ?_
    intro p20 c14
    refine WX.turn [55, 56] 57 Z (fun h hs => ol_app hs) (gs := [MF.ol (xs2 ++ xs3) ((t2 ++ [((a1h ([(Key.mk (a02 (⟨#[47, 107, 101, 121, 47, 97]⟩ : Str)) 100), (Key.mk (a02 (⟨#[47, 97, 47, 107, 101, 121]⟩ : Str)) 101), (Key.mk (a02 (⟨#[47, 98, 47, 107, 101, 121]⟩ : Str)) 102), (Key.mk (a02 (⟨#[47, 98, 97, 100, 47, 107, 101, 121]⟩ : Str)) 103)]) (a02 e2) (a02 (⟨#[47, 107, 101, 121, 47, 97]⟩ : Str)) 5000).1)]) : List DataP)]) Z ?_
    refine R0 ?_
    refine WX.see Z Z Z (fun _ hΓ => looks_arith Z Z Z Z τ2) ?_
    refine R0 ?_
    refine WX.seal 503 57 58 Z Z Z Z Z ?_
    refine WX.turn [59] 35 Z (fun _ h => h) Z ?_
    exact WX.iter (i + 1, p20, c14, (t2 ++ [((a1h ([(Key.mk (a02 (⟨#[47, 107, 101, 121, 47, 97]⟩ : Str)) 100), (Key.mk (a02 (⟨#[47, 97, 47, 107, 101, 121]⟩ : Str)) 101), (Key.mk (a02 (⟨#[47, 98, 47, 107, 101, 121]⟩ : Str)) 102), (Key.mk (a02 (⟨#[47, 98, 97, 100, 47, 107, 101, 121]⟩ : Str)) 103)]) (a02 e2) (a02 (⟨#[47, 107, 101, 121, 47, 97]⟩ : Str)) 5000).1)]), u2, u3) ⟨τ1, (okl_mk τ3 (all_app v6.2 (all_cons (α := DataP) hq9 (fun a ha => by cases ha))) : GoT.ok n ((t2 ++ [((a1h ([(Key.mk (a02 (⟨#[47, 107, 101, 121, 47, 97]⟩ : Str)) 100), (Key.mk (a02 (⟨#[47, 97, 47, 107, 101, 121]⟩ : Str)) 101), (Key.mk (a02 (⟨#[47, 98, 47, 107, 101, 121]⟩ : Str)) 102), (Key.mk (a02 (⟨#[47, 98, 97, 100, 47, 107, 101, 121]⟩ : Str)) 103)]) (a02 e2) (a02 (⟨#[47, 107, 101, 121, 47, 97]⟩ : Str)) 5000).1)]) : List DataP)), hq10.1, hq10.2, τ5, (by rw [v10, show 2 - i = (2 - (i + 1)) + 1 by omega]; simp only [a3h, e2h, h3, hu1, h4, cT, cF])⟩ τ4 (.cons Z (.cons Z (.cons Z (.cons Z (.cons Z (.cons Z (.nil))))))) (.cons Z (.cons Z (.cons Z (.nil)))) (.cons Z (.nil)) [0, 15, 20, 33, 35] Z
   have h4d := (B.nf h4)
   refine R0 ?_
   refine WX.see Z Z Z (fun _ hΓ => looks_arith Z Z Z Z τ2) ?_
   refine R0 ?_
   exact WX.iter (i + 1, pt2, ct2, t2, u2, u3) ⟨τ1, (okl_of v6), hq10.1, hq10.2, τ5, (by rw [v10, show 2 - i = (2 - (i + 1)) + 1 by omega]; simp only [a3h, e2h, h3, hu1, h4, cT, cF])⟩ τ4 (.cons Z (.cons Z (.cons Z (.cons Z (.cons Z (.cons Z (.nil))))))) (.cons Z (.cons Z (.cons Z (.nil)))) (.cons Z (.nil)) [0, 15, 20, 33, 35] Z
  refine R0 ?_
  refine WX.see Z Z Z (fun _ hΓ => looks_arith Z Z Z Z τ2) ?_
  refine R0 ?_
  exact WX.iter (i + 1, pt2, ct2, t2, u999_i, u999_h) ⟨τ1, (okl_of v6), v7, v8, τ5, (by rw [v10, show 2 - i = (2 - (i + 1)) + 1 by omega]; simp only [a3h, e2h, h3, cT, cF])⟩ τ4 (.cons Z (.cons Z (.cons Z (.cons Z (.cons Z (.cons Z (.nil))))))) (.cons Z (.cons Z (.cons Z (.nil)))) (.cons Z (.nil)) [0, 15, 20, 33, 35] Z
 have h2d := B.df h2
 refine R0 ?_
 have hX2 : a3h c_b 2 0 (([] : List DataP) : List DataP) c_i c_h = (((t2) : List DataP), u999_i, u999_h) := by rw [v10, show 2 - i = 0 by omega]; simp only [a3h, cT, cF]
 have hP1 : a4s c_b c_i c_h = (TrustPolicy.mk ([(Key.mk (a02 (⟨#[47, 107, 101, 121, 47, 97]⟩ : Str)) 100), (Key.mk (a02 (⟨#[47, 97, 47, 107, 101, 121]⟩ : Str)) 101), (Key.mk (a02 (⟨#[47, 98, 47, 107, 101, 121]⟩ : Str)) 102), (Key.mk (a02 (⟨#[47, 98, 97, 100, 47, 107, 101, 121]⟩ : Str)) 103)]) t ([(a02 (⟨#[47, 107, 101, 121, 47, 97]⟩ : Str))]) t2, u999_i, u999_h) := by simp only [a4s, hX1, hX2, cT, cF]
 have r7 : (⟨#[47, 107, 101, 121, 47, 97]⟩ : Str).size = 6 := rfl
 have r8 : (⟨#[47, 97, 47, 107, 101, 121]⟩ : Str).size = 6 := rfl
 have r9 : (⟨#[47, 98, 47, 107, 101, 121]⟩ : Str).size = 6 := rfl
 have r10 : (⟨#[47, 98, 97, 100, 47, 107, 101, 121]⟩ : Str).size = 8 := rfl
 have hz1 := hP1.symm.trans hres
 obtain ⟨hz1, hz2⟩ := Prod.mk.inj hz1
 obtain ⟨hz2, hz3⟩ := Prod.mk.inj hz2
 subst hz1
 subst hz2
 subst hz3
 refine R1 ?_
 intro w1 G bs hI hΓ
 exact Post.ofL 999 [15, 33, 20, 35] ((p5, 4), (pt, ct), (p7, 1), (pt2, ct2)) hI hΓ Z Z Z (by rw [hI.pin _ rfl]; first | done | rfl) (⟨(And.intro (okl_mk τ3 (all_cons (α := Key) (And.intro hq1 (i6 100)) (all_cons (α := Key) (And.intro hq2 (i6 101)) (all_cons (α := Key) (And.intro hq3 (i6 102)) (all_cons (α := Key) (And.intro hq4 (i6 103)) (fun a ha => by cases ha))))) : GoT.ok n ([(Key.mk (a02 (⟨#[47, 107, 101, 121, 47, 97]⟩ : Str)) 100), (Key.mk (a02 (⟨#[47, 97, 47, 107, 101, 121]⟩ : Str)) 101), (Key.mk (a02 (⟨#[47, 98, 47, 107, 101, 121]⟩ : Str)) 102), (Key.mk (a02 (⟨#[47, 98, 97, 100, 47, 107, 101, 121]⟩ : Str)) 103)] : List Key)) (And.intro (okl_mk τ1 v2 : GoT.ok n (t : List Rule)) (And.intro (okl_mk τ3 (all_cons (α := Name) hq5 (fun a ha => by cases ha)) : GoT.ok n ([(a02 (⟨#[47, 107, 101, 121, 47, 97]⟩ : Str))] : List Name)) (okl_of v6)))), ⟨v7, v8⟩⟩)
theorem f94 (w : World) (n : Nat) (hn : n + 1 ≤ 9) (H : GH) (hH : Le H (hp w)) (bc_ : Nat) (c_b : (List UInt8)) (K0 M0) (N0 : RdSl (cut (hp w) H) K0 M0 c_b) (c_i : Int) (c_h : Int) (hown : Sep H [MF.bx bc_ 96 [.slice K0 ((c_b).length) M0, .int .i64 (c_i), .int .i64 (c_h)]]) (hokc_b : GoT.ok n c_b) (hokc_i : NN c_i) (hokc_h : GoT.ok n c_h) (o0_ : Interest) (o1_ : Int) (o2_ : Int) (hres : a4t c_b c_i c_h = (o0_, o1_, o2_)) :
 Does Tryz.prog 94 #[.pointer (some ⟨bc_, 0, none⟩)] w H (Post w H (fun x : GoT.X (Interest) => .agg ⟨GoT.sh (o0_ : Interest) x⟩) (fun x => MF.bx bc_ 96 [.slice K0 ((c_b).length) M0, .int .i64 (o1_), .int .i64 (o2_)] :: GoT.oa (o0_ : Interest) x) (GoT.ok n (o0_ : Interest) ∧ NN (o1_) ∧ I64 (o2_))) := by
 have hb := bS1 hn
 have hc_bz : (c_b).length ≤ bd n := (okl hokc_b).1
 refine WX.enterP (tt := tt) (Γ := [(0, MF.rs .stb K0 M0 c_b)]) 1 Tryz.func94 Z J Z (allS_cons Z N0 allS_nil) hH hown (fun f hf => by cases hf) Z ?_
 refine R0 ?_
 refine WX.bld ttOk Z Z Z Z Z Z Z ?_
 intro p1
 refine WX.turn [] 2 Z (fun h hs => one_sep (⟨(), _, emp, _, Z, emp_le _, Le.refl _, emp_dj _, trivial, ⟨(), _, emp, _, Z, emp_le _, Le.refl _, emp_dj _, trivial, Z⟩⟩ : OwL _ _ ([(⟨#[47, 97]⟩ : Str), (⟨#[47, 98]⟩ : Str)] : List Str))) (gs := [MF.ol [.string (⟨#[47, 97]⟩ : Str), .string (⟨#[47, 98]⟩ : Str)] ([(⟨#[47, 97]⟩ : Str), (⟨#[47, 98]⟩ : Str)] : List Str)]) Z ?_
 refine WX.seal 7 2 3 Z Z Z Z Z ?_
 have r1 : (⟨#[47, 97]⟩ : Str).size = 2 := rfl
 have r2 : (⟨#[47, 98]⟩ : Str).size = 2 := rfl
 obtain ⟨⟨u1, u2, u3⟩, hu1⟩ := xE (a0z c_b c_i c_h ([(⟨#[47, 97]⟩ : Str), (⟨#[47, 98]⟩ : Str)]))
 refine CP 999 5 Z Z Z Z Z Z O Z (fun w β H η σ γ => f63 w n τ1 H η (β 999) c_b K0 M0 (γ.q 0 Z) c_i c_h ([(⟨#[47, 97]⟩ : Str), (⟨#[47, 98]⟩ : Str)]) p1 2 (γ.q 3 Z) σ hokc_b hokc_i hokc_h τ8 (okl_mk τ3 (all_cons (α := Str) (Nat.le_trans τ9 (bd_pos n)) (all_cons (α := Str) (Nat.le_trans τ9 (bd_pos n)) (fun a ha => by cases ha))) : GoT.ok n ([(⟨#[47, 97]⟩ : Str), (⟨#[47, 98]⟩ : Str)] : List Str)) u1 u2 u3 hu1) ?_
 rintro ⟨⟩ hq1
 refine CF 6 Z Z Z Z Z O Z (fun w γ => f37 w n τ1 u1 hq1.1) ?_
 rintro ⟨p2, c1⟩ hq2
 refine R0 ?_
 refine WX.bld ttOk Z Z Z Z Z Z Z ?_
 intro p3
 refine WX.turn [] 8 Z (fun h hs => one_sep (⟨(), _, emp, _, Z, emp_le _, Le.refl _, emp_dj _, trivial, ⟨(), _, emp, _, Z, emp_le _, Le.refl _, emp_dj _, trivial, ⟨(), _, emp, _, Z, emp_le _, Le.refl _, emp_dj _, trivial, Z⟩⟩⟩ : OwL _ _ ([(⟨#[49]⟩ : Str), (⟨#[50]⟩ : Str), (⟨#[120, 45, 49]⟩ : Str)] : List Str))) (gs := [MF.ol [.string (⟨#[49]⟩ : Str), .string (⟨#[50]⟩ : Str), .string (⟨#[120, 45, 49]⟩ : Str)] ([(⟨#[49]⟩ : Str), (⟨#[50]⟩ : Str), (⟨#[120, 45, 49]⟩ : Str)] : List Str)]) Z ?_
 refine WX.seal 11 8 9 Z Z Z Z Z ?_
 have r3 : (⟨#[49]⟩ : Str).size = 1 := rfl
 have r4 : (⟨#[50]⟩ : Str).size = 1 := rfl
 have r5 : (⟨#[120, 45, 49]⟩ : Str).size = 3 := rfl
 obtain ⟨⟨u4, u5, u6⟩, hu2⟩ := xE (a0z c_b u2 u3 ([(⟨#[49]⟩ : Str), (⟨#[50]⟩ : Str), (⟨#[120, 45, 49]⟩ : Str)]))
 refine CP 999 11 Z Z Z Z Z Z O Z (fun w β H η σ γ => f63 w n τ1 H η (β 999) c_b K0 M0 (γ.q 0 Z) u2 u3 ([(⟨#[49]⟩ : Str), (⟨#[50]⟩ : Str), (⟨#[120, 45, 49]⟩ : Str)]) p3 3 (γ.q 9 Z) σ hokc_b hq1.2.1 hq1.2.2 τ8 (okl_mk τ3 (all_cons (α := Str) (Nat.le_trans τ9 (bd_pos n)) (all_cons (α := Str) (Nat.le_trans τ9 (bd_pos n)) (all_cons (α := Str) (Nat.le_trans τ9 (bd_pos n)) (fun a ha => by cases ha)))) : GoT.ok n ([(⟨#[49]⟩ : Str), (⟨#[50]⟩ : Str), (⟨#[120, 45, 49]⟩ : Str)] : List Str)) u4 u5 u6 hu2) ?_
 rintro ⟨⟩ hq3
 refine WX.der 12 (MF.rs .der p2 c1 ((a02 u1).parts)) Z (fun _ hΓ => (hΓ.get 7 Z : OwSl _ _ _ _).rd) ?_
 refine CF 13 Z Z Z Z Z O Z (fun w γ => f64 w n τ1 (a02 u1) p2 c1 (γ.q 12 Z) u4 hq2 hq3.1) ?_
 rintro ⟨p4, c2⟩ hq4
 have q1 := aP_len (a02 u1) u4
 try dsimp only at q1
 refine R0 ?_
 refine WX.drawY [9] mixed Z ?_
 intro bs G0 hΓ0
 refine DY.takes (fuel := 6) ttOk [(0, false), (1, true), (3, true), (5, true)] J Z ?_
 refine DY.toTX ?_
 intro S_ hS_
 refine TX.all1 2 J ?_
 obtain ⟨⟨u7, u8, u9⟩, hu3⟩ := xE (a0a c_b u5 u6 12)
 refine TS.callP (ds := fun _ => []) hS_ 2 15 ⟨_, Z⟩ Z (fun _ _ _ => All.nil) (fun _ f hf => by cases hf) Z Z Z Z Z Z O Z (fun w G bs H hI hH hs hΓ => f41 w n τ1 H hH (bs 999) c_b K0 M0 (hΓ.get 0 Z) u5 u6 12 hs hokc_b hq3.2.1 hq3.2.2 (i6 12) u7 u8 u9 hu3) O O ?_
 rintro ⟨⟩ hq5
 have q2 := l1Below_rng c_b u5 u6 12
 rw [hu3] at q2
 try dsimp only at q2
 refine TX.all1 4 J ?_
 obtain ⟨⟨u10, u11, u12⟩, hu4⟩ := xE (a0a c_b u8 u9 5)
 refine TS.callP (ds := fun _ => []) hS_ 4 16 ⟨_, Z⟩ Z (fun _ _ _ => All.nil) (fun _ f hf => by cases hf) Z Z Z Z Z Z O Z (fun w G bs H hI hH hs hΓ => f41 w n τ1 H hH (bs 999) c_b K0 M0 (hΓ.get 0 Z) u8 u9 5 hs hokc_b hq5.2.1 hq5.2.2 (i6 5) u10 u11 u12 hu4) O O ?_
 rintro ⟨⟩ hq6
 have q3 := l1Below_rng c_b u8 u9 5
 rw [hu4] at q3
 try dsimp only at q3
 refine TX.all1 6 J ?_
 obtain ⟨⟨u13, u14, u15⟩, hu5⟩ := xE (a0a c_b u11 u12 8)
 refine TS.callP (ds := fun _ => []) hS_ 6 17 ⟨_, Z⟩ Z (fun _ _ _ => All.nil) (fun _ f hf => by cases hf) Z Z Z Z Z Z O Z (fun w G bs H hI hH hs hΓ => f41 w n τ1 H hH (bs 999) c_b K0 M0 (hΓ.get 0 Z) u11 u12 8 hs hokc_b hq6.2.1 hq6.2.2 (i6 8) u13 u14 u15 hu5) O O ?_
 rintro ⟨⟩ hq7
 have q4 := l1Below_rng c_b u11 u12 8
 rw [hu5] at q4
 try dsimp only at q4
 have r6 : -9223372036854775808 ≤ u13 ∧ u13 ≤ 9223372036854775807 := hq7.1
 refine TX.seeP 7 J Z Z Z Z (looksP_arith Z Z Z Z τ2) ?_
 refine TX.takes (fuel := 1) ttOk [8] J Z ?_
 refine TX.tail [9] Z Z J ?_
 refine R0 ?_
 have hP1 : a4t c_b c_i c_h = (Interest.mk ((a0c (a02 u1) u4).1) u7 u10 (1 + u13), u14, u15) := by simp only [a4t, hu1, hu2, hu3, hu4, hu5, cT, cF]
 have hz1 := hP1.symm.trans hres
 obtain ⟨hz1, hz2⟩ := Prod.mk.inj hz1
 obtain ⟨hz2, hz3⟩ := Prod.mk.inj hz2
 subst hz1
 subst hz2
 subst hz3
 refine R1 ?_
 intro w1 G bs hI hΓ
 exact Post.ofL 999 [14] ((p4, c2), (), (), ()) hI hΓ Z Z Z (by rw [hI.pin _ rfl]; first | done | rfl) (⟨(And.intro hq4 (And.intro hq5.1 (And.intro hq6.1 (i6 (1 + u13))))), ⟨hq7.2.1, hq7.2.2⟩⟩)
theorem f34 (w : World) (n : Nat) (hn : n + 9 ≤ 9) (H : GH) (hH : Le H (hp w)) (bc_ : Nat) (c_b : (List UInt8)) (K0 M0) (N0 : RdSl (cut (hp w) H) K0 M0 c_b) (c_i : Int) (c_h : Int) (t : TrustPolicy) (K1 M1) (N1 : RdSl (cut (hp w) H) K1 M1 t.keys) (K2 M2) (N2 : RdSl (cut (hp w) H) K2 M2 t.rules) (K3 M3) (N3 : RdSl (cut (hp w) H) K3 M3 t.anchors) (K4 M4) (N4 : RdSl (cut (hp w) H) K4 M4 t.certificates) (hown : Sep H [MF.bx bc_ 96 [.slice K0 ((c_b).length) M0, .int .i64 (c_i), .int .i64 (c_h)]]) (hokc_b : GoT.ok n c_b) (hokc_i : NN c_i) (hokc_h : GoT.ok n c_h) (hokt : GoT.ok n t) (o0_ : DataP) (o1_ : Int) (o2_ : Int) (hres : a1i c_b c_i c_h t = (o0_, o1_, o2_)) :
 Does Tryz.prog 34 #[.pointer (some ⟨bc_, 0, none⟩), .agg #[.slice K1 ((t.keys).length) M1, .slice K2 ((t.rules).length) M2, .slice K3 ((t.anchors).length) M3, .slice K4 ((t.certificates).length) M4]] w H (Post w H (fun x : GoT.X (DataP) => .agg ⟨GoT.sh (o0_ : DataP) x⟩) (fun x => MF.bx bc_ 96 [.slice K0 ((c_b).length) M0, .int .i64 (o1_), .int .i64 (o2_)] :: GoT.oa (o0_ : DataP) x) (GoT.ok n (o0_ : DataP) ∧ NN (o1_) ∧ I64 (o2_))) := by
 have hb := bS9 hn
 have hc_bz : (c_b).length ≤ bd n := (okl hokc_b).1
 refine WX.enterP (tt := tt) (Γ := [(0, MF.rs .stb K0 M0 c_b), (1, MF.rs .stb K1 M1 t.keys), (2, MF.rs .stb K2 M2 t.rules), (3, MF.rs .stb K3 M3 t.anchors), (4, MF.rs .stb K4 M4 t.certificates)]) 5 Tryz.func34 Z J Z (allS_cons Z N0 (allS_cons Z N1 (allS_cons Z N2 (allS_cons Z N3 (allS_cons Z N4 allS_nil))))) hH hown (fun f hf => by cases hf) Z ?_
 refine R0 ?_
 refine WX.bld ttOk Z Z Z Z Z Z Z ?_
 intro p1
 refine WX.turn [] 6 Z (fun h hs => one_sep (⟨(), _, emp, _, Z, emp_le _, Le.refl _, emp_dj _, trivial, ⟨(), _, emp, _, Z, emp_le _, Le.refl _, emp_dj _, trivial, Z⟩⟩ : OwL _ _ ([(⟨#[97]⟩ : Str), (⟨#[98]⟩ : Str)] : List Str))) (gs := [MF.ol [.string (⟨#[97]⟩ : Str), .string (⟨#[98]⟩ : Str)] ([(⟨#[97]⟩ : Str), (⟨#[98]⟩ : Str)] : List Str)]) Z ?_
 refine WX.seal 12 6 7 Z Z Z Z Z ?_
 have r1 : (⟨#[97]⟩ : Str).size = 1 := rfl
 have r2 : (⟨#[98]⟩ : Str).size = 1 := rfl
 obtain ⟨⟨u1, u2, u3⟩, hu1⟩ := xE (a0z c_b c_i c_h ([(⟨#[97]⟩ : Str), (⟨#[98]⟩ : Str)]))
 refine CP 999 9 Z Z Z Z Z Z O Z (fun w β H η σ γ => f63 w n τ1 H η (β 999) c_b K0 M0 (γ.q 0 Z) c_i c_h ([(⟨#[97]⟩ : Str), (⟨#[98]⟩ : Str)]) p1 2 (γ.q 7 Z) σ hokc_b hokc_i hokc_h τ8 (okl_mk τ3 (all_cons (α := Str) (Nat.le_trans τ9 (bd_pos n)) (all_cons (α := Str) (Nat.le_trans τ9 (bd_pos n)) (fun a ha => by cases ha))) : GoT.ok n ([(⟨#[97]⟩ : Str), (⟨#[98]⟩ : Str)] : List Str)) u1 u2 u3 hu1) ?_
 rintro ⟨⟩ hq1
 refine R0 ?_
 have r3 : (⟨#[47]⟩ : Str).size = 1 := rfl
 have r4 : (u1).size ≤ bd n := hq1.1
 refine WX.see Z Z Z (fun _ hΓ => looks_cat Z Z Z (by have := bd_le (n + 9); simp; omega)) ?_
 refine CF 10 Z Z Z Z Z O Z (fun w γ => f37 w (n + 1) τ1 ((⟨#[47]⟩ : Str) ++ u1) (show (((⟨#[47]⟩ : Str) ++ u1)).size ≤ bd (n + 1) from τ3)) ?_
 rintro ⟨p2, c1⟩ hq2
 refine R0 ?_
 refine WX.bld ttOk Z Z Z Z Z Z Z ?_
 intro p3
 refine WX.turn [] 12 Z (fun h hs => one_sep (⟨(), _, emp, _, Z, emp_le _, Le.refl _, emp_dj _, trivial, ⟨(), _, emp, _, Z, emp_le _, Le.refl _, emp_dj _, trivial, ⟨(), _, emp, _, Z, emp_le _, Le.refl _, emp_dj _, trivial, Z⟩⟩⟩ : OwL _ _ ([(⟨#[49]⟩ : Str), (⟨#[50]⟩ : Str), (⟨#[120, 45, 49]⟩ : Str)] : List Str))) (gs := [MF.ol [.string (⟨#[49]⟩ : Str), .string (⟨#[50]⟩ : Str), .string (⟨#[120, 45, 49]⟩ : Str)] ([(⟨#[49]⟩ : Str), (⟨#[50]⟩ : Str), (⟨#[120, 45, 49]⟩ : Str)] : List Str)]) Z ?_
 refine WX.seal 19 12 13 Z Z Z Z Z ?_
 have r5 : (⟨#[49]⟩ : Str).size = 1 := rfl
 have r6 : (⟨#[50]⟩ : Str).size = 1 := rfl
 have r7 : (⟨#[120, 45, 49]⟩ : Str).size = 3 := rfl
 obtain ⟨⟨u4, u5, u6⟩, hu2⟩ := xE (a0z c_b u2 u3 ([(⟨#[49]⟩ : Str), (⟨#[50]⟩ : Str), (⟨#[120, 45, 49]⟩ : Str)]))
 refine CP 999 15 Z Z Z Z Z Z O Z (fun w β H η σ γ => f63 w n τ1 H η (β 999) c_b K0 M0 (γ.q 0 Z) u2 u3 ([(⟨#[49]⟩ : Str), (⟨#[50]⟩ : Str), (⟨#[120, 45, 49]⟩ : Str)]) p3 3 (γ.q 13 Z) σ hokc_b hq1.2.1 hq1.2.2 τ8 (okl_mk τ3 (all_cons (α := Str) (Nat.le_trans τ9 (bd_pos n)) (all_cons (α := Str) (Nat.le_trans τ9 (bd_pos n)) (all_cons (α := Str) (Nat.le_trans τ9 (bd_pos n)) (fun a ha => by cases ha)))) : GoT.ok n ([(⟨#[49]⟩ : Str), (⟨#[50]⟩ : Str), (⟨#[120, 45, 49]⟩ : Str)] : List Str)) u4 u5 u6 hu2) ?_
 rintro ⟨⟩ hq3
 refine WX.der 16 (MF.rs .der p2 c1 ((a02 ((⟨#[47]⟩ : Str) ++ u1)).parts)) Z (fun _ hΓ => (hΓ.get 11 Z : OwSl _ _ _ _).rd) ?_
 refine CF 17 Z Z Z Z Z O Z (fun w γ => f64 w (n + 1) τ1 (a02 ((⟨#[47]⟩ : Str) ++ u1)) p2 c1 (γ.q 16 Z) u4 hq2 (GoT.okm (α := Str) τ1 hq3.1)) ?_
 rintro ⟨p4, c2⟩ hq4
 have q1 := aP_len (a02 ((⟨#[47]⟩ : Str) ++ u1)) u4
 try dsimp only at q1
 refine R0 ?_
 refine WX.see Z Z Z (fun _ hΓ => looks_cat Z Z Z (by have := bd_le (n + 9); simp; omega)) ?_
 have r8 : (⟨#[47, 107, 101, 121]⟩ : Str).size = 4 := rfl
 refine WX.see Z Z Z (fun _ hΓ => looks_cat Z Z Z (by have := bd_le (n + 9); simp; omega)) ?_
 refine CF 19 Z Z Z Z Z O Z (fun w γ => f37 w (n + 2) τ1 (((⟨#[47]⟩ : Str) ++ u1) ++ (⟨#[47, 107, 101, 121]⟩ : Str)) (show ((((⟨#[47]⟩ : Str) ++ u1) ++ (⟨#[47, 107, 101, 121]⟩ : Str))).size ≤ bd (n + 2) from τ3)) ?_
 rintro ⟨p5, c3⟩ hq5
 refine R0 ?_
 obtain ⟨⟨u7, u8, u9⟩, hu3⟩ := xE (a1b c_b u5 u6 6)
 refine CP 999 21 Z Z Z Z Z Z O Z (fun w β H η σ γ => f35 w n τ1 H η (β 999) c_b K0 M0 (γ.q 0 Z) u5 u6 6 σ hokc_b hq3.2.1 hq3.2.2 (i6 6) u7 u8 u9 hu3) ?_
 rintro ⟨⟩ hq6
 refine R0 ?_
 refine WX.cases 29 Z ?_ ?_ <;> intro h1
 ·skip
  refine R0 ?_
  refine WX.bld ttOk Z Z Z Z Z Z Z ?_
  intro p6
  refine WX.turn [] 22 Z (fun h hs => one_sep (⟨(), _, emp, _, Z, emp_le _, Le.refl _, emp_dj _, trivial, ⟨(), _, emp, _, Z, emp_le _, Le.refl _, emp_dj _, trivial, ⟨(), _, emp, _, Z, emp_le _, Le.refl _, emp_dj _, trivial, Z⟩⟩⟩ : OwL _ _ ([(⟨#[47, 98, 97, 100, 47, 107, 101, 121]⟩ : Str), (⟨#[47, 107, 101, 121, 47, 97]⟩ : Str), (⟨#[47, 97, 47, 107, 101, 121]⟩ : Str)] : List Str))) (gs := [MF.ol [.string (⟨#[47, 98, 97, 100, 47, 107, 101, 121]⟩ : Str), .string (⟨#[47, 107, 101, 121, 47, 97]⟩ : Str), .string (⟨#[47, 97, 47, 107, 101, 121]⟩ : Str)] ([(⟨#[47, 98, 97, 100, 47, 107, 101, 121]⟩ : Str), (⟨#[47, 107, 101, 121, 47, 97]⟩ : Str), (⟨#[47, 97, 47, 107, 101, 121]⟩ : Str)] : List Str)]) Z ?_
  refine WX.seal 31 22 23 Z Z Z Z Z ?_
  have r9 : (⟨#[47, 98, 97, 100, 47, 107, 101, 121]⟩ : Str).size = 8 := rfl
  have r10 : (⟨#[47, 107, 101, 121, 47, 97]⟩ : Str).size = 6 := rfl
  have r11 : (⟨#[47, 97, 47, 107, 101, 121]⟩ : Str).size = 6 := rfl
  obtain ⟨⟨u10, u11, u12⟩, hu4⟩ := xE (a0z c_b u8 u9 ([(⟨#[47, 98, 97, 100, 47, 107, 101, 121]⟩ : Str), (⟨#[47, 107, 101, 121, 47, 97]⟩ : Str), (⟨#[47, 97, 47, 107, 101, 121]⟩ : Str)]))
  refine CP 999 25 Z Z Z Z Z Z O Z (fun w β H η σ γ => f63 w n τ1 H η (β 999) c_b K0 M0 (γ.q 0 Z) u8 u9 ([(⟨#[47, 98, 97, 100, 47, 107, 101, 121]⟩ : Str), (⟨#[47, 107, 101, 121, 47, 97]⟩ : Str), (⟨#[47, 97, 47, 107, 101, 121]⟩ : Str)]) p6 3 (γ.q 23 Z) σ hokc_b hq6.1 hq6.2 τ8 (okl_mk τ3 (all_cons (α := Str) (Nat.le_trans τ9 (bd_pos n)) (all_cons (α := Str) (Nat.le_trans τ9 (bd_pos n)) (all_cons (α := Str) (Nat.le_trans τ9 (bd_pos n)) (fun a ha => by cases ha)))) : GoT.ok n ([(⟨#[47, 98, 97, 100, 47, 107, 101, 121]⟩ : Str), (⟨#[47, 107, 101, 121, 47, 97]⟩ : Str), (⟨#[47, 97, 47, 107, 101, 121]⟩ : Str)] : List Str)) u10 u11 u12 hu4) ?_
  rintro ⟨⟩ hq7
  refine CF 26 Z Z Z Z Z O Z (fun w γ => f37 w n τ1 u10 hq7.1) ?_
  rintro ⟨p7, c4⟩ hq8
  refine R0 ?_
  refine WX.der 28 (MF.rs .der p4 c2 ((a0c (a02 ((⟨#[47]⟩ : Str) ++ u1)) u4).1.parts)) Z (fun _ hΓ => (hΓ.get 18 Z : OwSl _ _ _ _).rd) ?_
  refine WX.drawY [13] mixed Z ?_
  intro bs G0 hΓ0
  refine DY.takes (fuel := 9) ttOk [(0, true), (1, false), (2, false), (3, false), (4, true), (5, true)] J Z ?_
  refine DY.toTX ?_
  intro S_ hS_
  refine TX.toP ?_
  refine TXP.pend (PI.loc 12 9 ⟨28, [.slice none (0) 0, .slice none (0) 0, .slice none (0) 0, .int .i64 (0), .int .i64 (0)]⟩) (loc_ok ttOk Z Z Z Z Z) .nil Z J Z ?_
  obtain ⟨⟨u13, u14, u15⟩, hu5⟩ := xE (a0a c_b u11 u12 4)
  refine TPP hS_ 6 29 Z J J Z Z Z Z Z Z Z O Z (fun w β H η σ γ => f41 w n τ1 H η (β 999) c_b K0 M0 (γ.q 0 Z) u11 u12 4 σ hokc_b hq7.2.1 hq7.2.2 (i6 4) u13 u14 u15 hu5) ?_
  rintro ⟨⟩ hq9
  have q2 := l1Below_rng c_b u11 u12 4
  rw [hu5] at q2
  try dsimp only at q2
  obtain ⟨⟨u16, u17, u18⟩, hu6⟩ := xE (a3d c_b u14 u15 u13)
  refine TPQ hS_ 7 30 Z J J Z Z Z Z Z Z Z O Z (fun w β H η σ γ => f65 w n τ1 H η (β 999) c_b K0 M0 (γ.q 0 Z) u14 u15 u13 σ hokc_b hq9.2.1 hq9.2.2 τ8 hq9.1 u16 u17 u18 hu6) ?_
  rintro ⟨p8, c5⟩ hq10
  have q3 := len_l1Bytes c_b u14 u15 u13
  rw [hu6] at q3
  try dsimp only at q3
  refine TPF 8 32 J J Z Z Z Z Z Z Z O Z (fun w γ => f36 w (n + 1) τ1 t.keys K1 M1 (γ.q 1 Z) (a02 u10) p7 c4 (γ.q 26 Z) ((a0c (a02 ((⟨#[47]⟩ : Str) ++ u1)) u4).1) p4 c2 (γ.q 28 Z) u16 p8 c5 (γ.q 30 Z) 4000 (GoT.okm (α := List Key) τ1 (ok_TrustPolicy hokt).1) (GoT.okm (α := List Str) τ1 (ok_Name hq8)) hq4 (GoT.okm (α := List UInt8) τ1 hq10.1) (i6 4000)) ?_
  rintro ⟨⟨p9, c6⟩, ⟨p10, c7⟩, ⟨p11, c8⟩, ⟨⟩, ⟨⟩⟩ hq11
  refine TXP.takes (fuel := 2) ttOk [9, 10, 11] Z J Z ?_
  refine TXP.settleL 0 Z Z J Z ?_
  refine TXP.done ?_
  refine TX.all1 13 J ?_
  refine TS.op 13 Z J ?_
  refine R0 ?_
  refine WX.back0 ?_
  refine TX.takes (fuel := 0) ttOk [14] J Z ?_
  refine TX.tail [] Z Z J ?_
  refine R0 ?_
  obtain ⟨⟨u19, u20, u21⟩, hu7⟩ := xE (a1b c_b u17 u18 8)
  refine CP 999 38 Z Z Z Z Z Z O Z (fun w β H η σ γ => f35 w n τ1 H η (β 999) c_b K0 M0 (γ.q 0 Z) u17 u18 8 σ hokc_b hq10.2.1 hq10.2.2 (i6 8) u19 u20 u21 hu7) ?_
  rintro ⟨⟩ hq12
  refine R0 ?_
  refine WX.cases 47 Z ?_ ?_ <;> intro h2
  ·skip
   refine R0 ?_
   refine WX.bld ttOk Z Z Z Z Z Z Z ?_
   intro p12
   refine WX.opn (kk := 1) 501 36 39 Z Z Z ?_
   intro xs1 hx1
   refine WX.turn [] 40 Z (fun h hs => ol_one (α := UInt8) (a := (1 : UInt8)) (x := ()) hs) (gs := [MF.ol [.int .u8 (((1 : UInt8)).toNat : Nat)] ([(1 : UInt8)] : List UInt8)]) Z ?_
   have r12 : (t.keys).length ≤ bd n := (okl (ok_TrustPolicy hokt).1).1
   have r13 : (u4).size ≤ bd n := hq3.1
   have r14 : (u10).size ≤ bd n := hq7.1
   have r15 : (u16).length ≤ bd n := (okl hq10.1).1
   have r16 : ((a08 t.keys (a02 u10) ((a0c (a02 ((⟨#[47]⟩ : Str) ++ u1)) u4).1) u16 4000).1.content).length ≤ bd (n + 1) := (okl (ok_DataP hq11).2.1).1
   refine WX.know (fun G hΓ => (hΓ.get 40 Z : OwL _ _ _).rd.one) ?_
   intro ho1
   refine WX.appR1 501 50 (((a08 t.keys (a02 u10) ((a0c (a02 ((⟨#[47]⟩ : Str) ++ u1)) u4).1) u16 4000).1.content ++ [(1 : UInt8)]) : List UInt8).length ttOk Z Z Z Z Z Z Z Z Z Z Z Z Z ho1 τ11 τ3 τ3 (fun _ _ => Z) ?_
   intro p13 c9
   refine WX.turn [39, 40] 41 Z (fun h hs => ol_app hs) (gs := [MF.ol (xs1 ++ [.int .u8 (((1 : UInt8)).toNat : Nat)]) (((a08 t.keys (a02 u10) ((a0c (a02 ((⟨#[47]⟩ : Str) ++ u1)) u4).1) u16 4000).1.content ++ [(1 : UInt8)]) : List UInt8)]) Z ?_
   refine R0 ?_
   refine WX.seal 501 41 42 Z Z Z Z Z ?_
   have hP1 : a1i c_b c_i c_h t = (DataP.mk ((a08 t.keys (a02 u10) ((a0c (a02 ((⟨#[47]⟩ : Str) ++ u1)) u4).1) u16 4000).1.name) ((a08 t.keys (a02 u10) ((a0c (a02 ((⟨#[47]⟩ : Str) ++ u1)) u4).1) u16 4000).1.content ++ [(1 : UInt8)]) ((a08 t.keys (a02 u10) ((a0c (a02 ((⟨#[47]⟩ : Str) ++ u1)) u4).1) u16 4000).1.keyName) ((a08 t.keys (a02 u10) ((a0c (a02 ((⟨#[47]⟩ : Str) ++ u1)) u4).1) u16 4000).1.freshUntil) ((a08 t.keys (a02 u10) ((a0c (a02 ((⟨#[47]⟩ : Str) ++ u1)) u4).1) u16 4000).1.signature), u20, u21) := by simp only [a1i, hu1, hu2, hu3, h1, hu4, hu5, hu6, hu7, h2, cT, cF]
   have hz1 := hP1.symm.trans hres
   obtain ⟨hz1, hz2⟩ := Prod.mk.inj hz1
   obtain ⟨hz2, hz3⟩ := Prod.mk.inj hz2
   subst hz1
   subst hz2
   subst hz3
   refine R1 ?_
   intro w1 G bs hI hΓ
   exact Post.ofL 999 [35, 43, 37] ((p9, c6), (p13, c9), (p11, c8), (), ()) hI hΓ Z Z Z (by rw [hI.pin _ rfl]; first | done | rfl) (⟨(by have z_ := (show GoT.ok 0 (a1i c_b c_i c_h t).1 from l11Made_ok c_b c_i c_h t); rw [hP1] at z_; exact GoT.okm τ1 z_), ⟨hq12.1, hq12.2⟩⟩)
  refine R0 ?_
  have hP2 : a1i c_b c_i c_h t = ((a08 t.keys (a02 u10) ((a0c (a02 ((⟨#[47]⟩ : Str) ++ u1)) u4).1) u16 4000).1, u20, u21) := by simp only [a1i, hu1, hu2, hu3, h1, hu4, hu5, hu6, hu7, h2, cT, cF]
  have hz1 := hP2.symm.trans hres
  obtain ⟨hz1, hz2⟩ := Prod.mk.inj hz1
  obtain ⟨hz2, hz3⟩ := Prod.mk.inj hz2
  subst hz1
  subst hz2
  subst hz3
  refine R1 ?_
  intro w1 G bs hI hΓ
  exact Post.ofL 999 [35, 36, 37] ((p9, c6), (p10, c7), (p11, c8), (), ()) hI hΓ Z Z Z (by rw [hI.pin _ rfl]; first | done | rfl) (⟨(by have z_ := (show GoT.ok 0 (a1i c_b c_i c_h t).1 from l11Made_ok c_b c_i c_h t); rw [hP2] at z_; exact GoT.okm τ1 z_), ⟨hq12.1, hq12.2⟩⟩)
 refine R0 ?_
 refine WX.drawY [13] mixed Z ?_
 intro bs G0 hΓ0
 refine DY.takes (fuel := 9) ttOk [(0, true), (1, false), (2, false), (3, false), (4, true), (5, true)] J Z ?_
 refine DY.toTX ?_
 intro S_ hS_
 refine TX.toP ?_
 refine TXP.pend (PI.loc 12 9 ⟨28, [.slice none (0) 0, .slice none (0) 0, .slice none (0) 0, .int .i64 (0), .int .i64 (0)]⟩) (loc_ok ttOk Z Z Z Z Z) .nil Z J Z ?_
 obtain ⟨⟨u22, u23, u24⟩, hu8⟩ := xE (a0a c_b u8 u9 4)
 refine TPP hS_ 6 44 Z J J Z Z Z Z Z Z Z O Z (fun w β H η σ γ => f41 w n τ1 H η (β 999) c_b K0 M0 (γ.q 0 Z) u8 u9 4 σ hokc_b hq6.1 hq6.2 (i6 4) u22 u23 u24 hu8) ?_
 rintro ⟨⟩ hq13
 have q4 := l1Below_rng c_b u8 u9 4
 rw [hu8] at q4
 try dsimp only at q4
 obtain ⟨⟨u25, u26, u27⟩, hu9⟩ := xE (a3d c_b u23 u24 u22)
 refine TPQ hS_ 7 45 Z J J Z Z Z Z Z Z Z O Z (fun w β H η σ γ => f65 w n τ1 H η (β 999) c_b K0 M0 (γ.q 0 Z) u23 u24 u22 σ hokc_b hq13.2.1 hq13.2.2 τ8 hq13.1 u25 u26 u27 hu9) ?_
 rintro ⟨p14, c10⟩ hq14
 have q5 := len_l1Bytes c_b u23 u24 u22
 rw [hu9] at q5
 try dsimp only at q5
 refine TPF 8 47 J J Z Z Z Z Z Z Z O Z (fun w γ => f36 w (n + 2) τ1 t.keys K1 M1 (γ.q 1 Z) (a02 (((⟨#[47]⟩ : Str) ++ u1) ++ (⟨#[47, 107, 101, 121]⟩ : Str))) p5 c3 (γ.q 19 Z) ((a0c (a02 ((⟨#[47]⟩ : Str) ++ u1)) u4).1) p4 c2 (γ.q 17 Z) u25 p14 c10 (γ.q 45 Z) 4000 (GoT.okm (α := List Key) τ1 (ok_TrustPolicy hokt).1) hq5 (GoT.okm (α := List Str) τ1 (ok_Name hq4)) (GoT.okm (α := List UInt8) τ1 hq14.1) (i6 4000)) ?_
 rintro ⟨⟨p15, c11⟩, ⟨p16, c12⟩, ⟨p17, c13⟩, ⟨⟩, ⟨⟩⟩ hq15
 refine TXP.takes (fuel := 2) ttOk [9, 10, 11] Z J Z ?_
 refine TXP.settleL 0 Z Z J Z ?_
 refine TXP.done ?_
 refine TX.all1 13 J ?_
 refine TS.op 13 Z J ?_
 refine R0 ?_
 refine WX.back0 ?_
 refine TX.takes (fuel := 0) ttOk [14] J Z ?_
 refine TX.tail [] Z Z J ?_
 refine R0 ?_
 obtain ⟨⟨u28, u29, u30⟩, hu10⟩ := xE (a1b c_b u26 u27 8)
 refine CP 999 53 Z Z Z Z Z Z O Z (fun w β H η σ γ => f35 w n τ1 H η (β 999) c_b K0 M0 (γ.q 0 Z) u26 u27 8 σ hokc_b hq14.2.1 hq14.2.2 (i6 8) u28 u29 u30 hu10) ?_
 rintro ⟨⟩ hq16
 refine R0 ?_
 refine WX.cases 47 Z ?_ ?_ <;> intro h3
 ·skip
  refine R0 ?_
  refine WX.bld ttOk Z Z Z Z Z Z Z ?_
  intro p18
  refine WX.opn (kk := 1) 502 51 54 Z Z Z ?_
  intro xs2 hx2
  refine WX.turn [] 55 Z (fun h hs => ol_one (α := UInt8) (a := (1 : UInt8)) (x := ()) hs) (gs := [MF.ol [.int .u8 (((1 : UInt8)).toNat : Nat)] ([(1 : UInt8)] : List UInt8)]) Z ?_
  have r17 : (t.keys).length ≤ bd n := (okl (ok_TrustPolicy hokt).1).1
  have r18 : (u4).size ≤ bd n := hq3.1
  have r19 : (u25).length ≤ bd n := (okl hq14.1).1
  have r20 : ((a08 t.keys (a02 (((⟨#[47]⟩ : Str) ++ u1) ++ (⟨#[47, 107, 101, 121]⟩ : Str))) ((a0c (a02 ((⟨#[47]⟩ : Str) ++ u1)) u4).1) u25 4000).1.content).length ≤ bd (n + 2) := (okl (ok_DataP hq15).2.1).1
  refine WX.know (fun G hΓ => (hΓ.get 55 Z : OwL _ _ _).rd.one) ?_
  intro ho2
  refine WX.appR1 502 50 (((a08 t.keys (a02 (((⟨#[47]⟩ : Str) ++ u1) ++ (⟨#[47, 107, 101, 121]⟩ : Str))) ((a0c (a02 ((⟨#[47]⟩ : Str) ++ u1)) u4).1) u25 4000).1.content ++ [(1 : UInt8)]) : List UInt8).length ttOk Z Z Z Z Z Z Z Z Z Z Z Z Z ho2 τ11 τ3 τ3 (fun _ _ => Z) ?_
  intro p19 c14
  refine WX.turn [54, 55] 56 Z (fun h hs => ol_app hs) (gs := [MF.ol (xs2 ++ [.int .u8 (((1 : UInt8)).toNat : Nat)]) (((a08 t.keys (a02 (((⟨#[47]⟩ : Str) ++ u1) ++ (⟨#[47, 107, 101, 121]⟩ : Str))) ((a0c (a02 ((⟨#[47]⟩ : Str) ++ u1)) u4).1) u25 4000).1.content ++ [(1 : UInt8)]) : List UInt8)]) Z ?_
  refine R0 ?_
  refine WX.seal 502 56 57 Z Z Z Z Z ?_
  have hP3 : a1i c_b c_i c_h t = (DataP.mk ((a08 t.keys (a02 (((⟨#[47]⟩ : Str) ++ u1) ++ (⟨#[47, 107, 101, 121]⟩ : Str))) ((a0c (a02 ((⟨#[47]⟩ : Str) ++ u1)) u4).1) u25 4000).1.name) ((a08 t.keys (a02 (((⟨#[47]⟩ : Str) ++ u1) ++ (⟨#[47, 107, 101, 121]⟩ : Str))) ((a0c (a02 ((⟨#[47]⟩ : Str) ++ u1)) u4).1) u25 4000).1.content ++ [(1 : UInt8)]) ((a08 t.keys (a02 (((⟨#[47]⟩ : Str) ++ u1) ++ (⟨#[47, 107, 101, 121]⟩ : Str))) ((a0c (a02 ((⟨#[47]⟩ : Str) ++ u1)) u4).1) u25 4000).1.keyName) ((a08 t.keys (a02 (((⟨#[47]⟩ : Str) ++ u1) ++ (⟨#[47, 107, 101, 121]⟩ : Str))) ((a0c (a02 ((⟨#[47]⟩ : Str) ++ u1)) u4).1) u25 4000).1.freshUntil) ((a08 t.keys (a02 (((⟨#[47]⟩ : Str) ++ u1) ++ (⟨#[47, 107, 101, 121]⟩ : Str))) ((a0c (a02 ((⟨#[47]⟩ : Str) ++ u1)) u4).1) u25 4000).1.signature), u29, u30) := by simp only [a1i, hu1, hu2, hu3, h1, hu8, hu9, hu10, h3, cT, cF]
  have hz1 := hP3.symm.trans hres
  obtain ⟨hz1, hz2⟩ := Prod.mk.inj hz1
  obtain ⟨hz2, hz3⟩ := Prod.mk.inj hz2
  subst hz1
  subst hz2
  subst hz3
  refine R1 ?_
  intro w1 G bs hI hΓ
  exact Post.ofL 999 [50, 58, 52] ((p15, c11), (p19, c14), (p17, c13), (), ()) hI hΓ Z Z Z (by rw [hI.pin _ rfl]; first | done | rfl) (⟨(by have z_ := (show GoT.ok 0 (a1i c_b c_i c_h t).1 from l11Made_ok c_b c_i c_h t); rw [hP3] at z_; exact GoT.okm τ1 z_), ⟨hq16.1, hq16.2⟩⟩)
 refine R0 ?_
 have hP4 : a1i c_b c_i c_h t = ((a08 t.keys (a02 (((⟨#[47]⟩ : Str) ++ u1) ++ (⟨#[47, 107, 101, 121]⟩ : Str))) ((a0c (a02 ((⟨#[47]⟩ : Str) ++ u1)) u4).1) u25 4000).1, u29, u30) := by simp only [a1i, hu1, hu2, hu3, h1, hu8, hu9, hu10, h3, cT, cF]
 have hz1 := hP4.symm.trans hres
 obtain ⟨hz1, hz2⟩ := Prod.mk.inj hz1
 obtain ⟨hz2, hz3⟩ := Prod.mk.inj hz2
 subst hz1
 subst hz2
 subst hz3
 refine R1 ?_
 intro w1 G bs hI hΓ
 exact Post.ofL 999 [50, 51, 52] ((p15, c11), (p16, c12), (p17, c13), (), ()) hI hΓ Z Z Z (by rw [hI.pin _ rfl]; first | done | rfl) (⟨(by have z_ := (show GoT.ok 0 (a1i c_b c_i c_h t).1 from l11Made_ok c_b c_i c_h t); rw [hP4] at z_; exact GoT.okm τ1 z_), ⟨hq16.1, hq16.2⟩⟩)
theorem f73 (w : World) (n : Nat) (hn : n + 9 ≤ 9) (H : GH) (hH : Le H (hp w)) (bc_ : Nat) (c_b : (List UInt8)) (K0 M0) (N0 : RdSl (cut (hp w) H) K0 M0 c_b) (c_i : Int) (c_h : Int) (hown : Sep H [MF.bx bc_ 96 [.slice K0 ((c_b).length) M0, .int .i64 (c_i), .int .i64 (c_h)]]) (hokc_b : GoT.ok n c_b) (hokc_i : NN c_i) (hokc_h : GoT.ok n c_h) (o0_ : Consumer) (o1_ : TrustPolicy) (o2_ : Int) (o3_ : Int) (hres : a43 c_b c_i c_h = (o0_, o1_, o2_, o3_)) :
 Does Tryz.prog 73 #[.pointer (some ⟨bc_, 0, none⟩)] w H (Post w H (fun x : GoT.X (Consumer × TrustPolicy) => .tuple #[.agg ⟨GoT.sh (o0_ : Consumer) x.1⟩, .agg ⟨GoT.sh (o1_ : TrustPolicy) x.2⟩]) (fun x => MF.bx bc_ 96 [.slice K0 ((c_b).length) M0, .int .i64 (o2_), .int .i64 (o3_)] :: GoT.oa ((o0_, o1_) : Consumer × TrustPolicy) x) (GoT.ok n (o0_ : Consumer) ∧ GoT.ok n (o1_ : TrustPolicy) ∧ NN (o2_) ∧ I64 (o3_))) := by
 have hb := bS9 hn
 have hc_bz : (c_b).length ≤ bd n := (okl hokc_b).1
 refine WX.enterP (tt := tt) (Γ := [(0, MF.rs .stb K0 M0 c_b)]) 1 Tryz.func73 Z J Z (allS_cons Z N0 allS_nil) hH hown (fun f hf => by cases hf) Z ?_
 refine R0 ?_
 obtain ⟨⟨u1, u2, u3⟩, hu1⟩ := xE (a4s c_b c_i c_h)
 refine CQ 999 2 Z Z Z Z Z Z O Z (fun w β H η σ γ => f93 w n τ1 H η (β 999) c_b K0 M0 (γ.q 0 Z) c_i c_h σ hokc_b hokc_i hokc_h u1 u2 u3 hu1) ?_
 rintro ⟨⟨p1, c1⟩, ⟨p2, c2⟩, ⟨p3, c3⟩, ⟨p4, c4⟩⟩ hq1
 refine R0 ?_
 obtain ⟨⟨u4, u5, u6⟩, hu2⟩ := xE (a0a c_b u2 u3 6)
 refine CP 999 10 Z Z Z Z Z Z O Z (fun w β H η σ γ => f41 w n τ1 H η (β 999) c_b K0 M0 (γ.q 0 Z) u2 u3 6 σ hokc_b hq1.2.1 hq1.2.2 (i6 6) u4 u5 u6 hu2) ?_
 rintro ⟨⟩ hq2
 have q1 := l1Below_rng c_b u2 u3 6
 rw [hu2] at q1
 try dsimp only at q1
 refine R0 ?_
 obtain ⟨⟨u7, u8, u9⟩, hu3⟩ := xE (a0a c_b u5 u6 4)
 refine CP 999 11 Z Z Z Z Z Z O Z (fun w β H η σ γ => f41 w n τ1 H η (β 999) c_b K0 M0 (γ.q 0 Z) u5 u6 4 σ hokc_b hq2.2.1 hq2.2.2 (i6 4) u7 u8 u9 hu3) ?_
 rintro ⟨⟩ hq3
 have q2 := l1Below_rng c_b u5 u6 4
 rw [hu3] at q2
 try dsimp only at q2
 refine R0 ?_
 obtain ⟨⟨u10, u11, u12⟩, hu4⟩ := xE (a4t c_b u8 u9)
 refine CQ 999 12 Z Z Z Z Z Z O Z (fun w β H η σ γ => f94 w n τ1 H η (β 999) c_b K0 M0 (γ.q 0 Z) u8 u9 σ hokc_b hq3.2.1 hq3.2.2 u10 u11 u12 hu4) ?_
 rintro ⟨⟨p5, c5⟩, ⟨⟩, ⟨⟩, ⟨⟩⟩ hq4
 refine R0 ?_
 refine CF 14 Z Z Z Z Z O Z (fun w γ => f17 w n τ1 u4 u7 u10.name p5 c5 (γ.q 12 Z) hq2.1 hq3.1 ((ok_Interest hq4.1).1)) ?_
 rintro ⟨⟨⟩, ⟨⟩, ⟨p6, c6⟩, ⟨⟩, ⟨⟩, ⟨⟩, ⟨⟨p7, c7⟩, ⟨p8, c8⟩, ⟨p9, c9⟩, ⟨⟩, ⟨⟩⟩⟩ hq5
 refine R0 ?_
 obtain ⟨⟨u13, u14, u15⟩, hu5⟩ := xE (a0a c_b u11 u12 9)
 refine CP 999 22 Z Z Z Z Z Z O Z (fun w β H η σ γ => f41 w n τ1 H η (β 999) c_b K0 M0 (γ.q 0 Z) u11 u12 9 σ hokc_b hq4.2.1 hq4.2.2 (i6 9) u13 u14 u15 hu5) ?_
 rintro ⟨⟩ hq6
 have q3 := l1Below_rng c_b u11 u12 9
 rw [hu5] at q3
 try dsimp only at q3
 refine R0 ?_
 refine WX.loop (ι := Int × Int × Int × (Option Addr) × Nat × (List Str) × Int × Int × Bool × (Option Addr) × Nat × (List Str) × (Option Addr) × Nat × (List UInt8) × (Option Addr) × Nat × (List Str) × Int × Int × Int × Int) ⟨fun | (i, aNode, aIndex, paName, caName, aName, aAttempts, aWait, aSatisfied, paData, caData, aData, pa, ca, a, pa2, ca2, a2, a3, a4, u999_i, u999_h) => (-9223372036854775808 ≤ i ∧ i ≤ 9223372036854775807) ∧ (-9223372036854775808 ≤ aNode ∧ aNode ≤ 9223372036854775807) ∧ (-9223372036854775808 ≤ aIndex ∧ aIndex ≤ 9223372036854775807) ∧ (aName.length ≤ bd n ∧ ∀ z_ ∈ aName, GoT.ok n z_) ∧ (-9223372036854775808 ≤ aAttempts ∧ aAttempts ≤ 9223372036854775807) ∧ (-9223372036854775808 ≤ aWait ∧ aWait ≤ 9223372036854775807) ∧ (aData.length ≤ bd n ∧ ∀ z_ ∈ aData, GoT.ok n z_) ∧ (a.length ≤ bd n ∧ ∀ z_ ∈ a, GoT.ok n z_) ∧ (a2.length ≤ bd n ∧ ∀ z_ ∈ a2, GoT.ok n z_) ∧ (-9223372036854775808 ≤ a3 ∧ a3 ≤ 9223372036854775807) ∧ (-9223372036854775808 ≤ a4 ∧ a4 ≤ 9223372036854775807) ∧ (NN u999_i) ∧ (-9223372036854775808 ≤ u999_h ∧ u999_h ≤ 9223372036854775807) ∧ (a42 c_b u1 u13 ((a0e u4 u7 u10.name).node) ((a0e u4 u7 u10.name).index) ((a0e u4 u7 u10.name).name.parts : List Str) ((a0e u4 u7 u10.name).attempts) ((a0e u4 u7 u10.name).wait) ((a0e u4 u7 u10.name).satisfied) ((a0e u4 u7 u10.name).data.name.parts : List Str) ((a0e u4 u7 u10.name).data.content : List UInt8) ((a0e u4 u7 u10.name).data.keyName.parts : List Str) ((a0e u4 u7 u10.name).data.freshUntil) ((a0e u4 u7 u10.name).data.signature) u14 u15 = a42 c_b u1 i aNode aIndex aName aAttempts aWait aSatisfied aData a a2 a3 a4 u999_i u999_h), fun | (i, aNode, aIndex, paName, caName, aName, aAttempts, aWait, aSatisfied, paData, caData, aData, pa, ca, a, pa2, ca2, a2, a3, a4, u999_i, u999_h) => i.toNat, fun | (i, aNode, aIndex, paName, caName, aName, aAttempts, aWait, aSatisfied, paData, caData, aData, pa, ca, a, pa2, ca2, a2, a3, a4, u999_i, u999_h) => [(6, .v (.int .i64 (i))), (5, .p 5 0), (4, .p 4 0), (3, .p 3 0), (2, .p 2 0), (0, .p 999 0)], fun | (i, aNode, aIndex, paName, caName, aName, aAttempts, aWait, aSatisfied, paData, caData, aData, pa, ca, a, pa2, ca2, a2, a3, a4, u999_i, u999_h) => [(5, ⟨30, [.int .i64 (aNode), .int .i64 (aIndex), .slice paName ((aName).length) caName, .int .i64 (aAttempts), .int .i64 (aWait), .bool aSatisfied, .slice paData ((aData).length) caData, .slice pa ((a).length) ca, .slice pa2 ((a2).length) ca2, .int .i64 (a3), .int .i64 (a4)]⟩), (4, ⟨41, [.slice p1 ((u1.keys).length) c1, .slice p2 ((u1.rules).length) c2, .slice p3 ((u1.anchors).length) c3, .slice p4 ((u1.certificates).length) c4]⟩), (3, ⟨41, [.slice none (0) 0, .slice none (0) 0, .slice none (0) 0, .slice none (0) 0]⟩), (2, ⟨30, [.int .i64 (0), .int .i64 (0), .slice none (0) 0, .int .i64 (0), .int .i64 (0), .bool false, .slice none (0) 0, .slice none (0) 0, .slice none (0) 0, .int .i64 (0), .int .i64 (0)]⟩), (999, ⟨96, [.slice K0 ((c_b).length) M0, .int .i64 (u999_i), .int .i64 (u999_h)]⟩)], fun | (i, aNode, aIndex, paName, caName, aName, aAttempts, aWait, aSatisfied, paData, caData, aData, pa, ca, a, pa2, ca2, a2, a3, a4, u999_i, u999_h) => [], fun | (i, aNode, aIndex, paName, caName, aName, aAttempts, aWait, aSatisfied, paData, caData, aData, pa, ca, a, pa2, ca2, a2, a3, a4, u999_i, u999_h) => [(0, MF.rs .stb K0 M0 c_b), (6, MF.os p1 c1 u1.keys), (7, MF.os p2 c2 u1.rules), (8, MF.os p3 c3 u1.anchors), (9, MF.os p4 c4 u1.certificates), (18, MF.os paName caName aName), (19, MF.os paData caData aData), (20, MF.os pa ca a), (21, MF.os pa2 ca2 a2)]⟩ (u13, (a0e u4 u7 u10.name).node, (a0e u4 u7 u10.name).index, p6, c6, ((a0e u4 u7 u10.name).name.parts : List Str), (a0e u4 u7 u10.name).attempts, (a0e u4 u7 u10.name).wait, (a0e u4 u7 u10.name).satisfied, p7, c7, ((a0e u4 u7 u10.name).data.name.parts : List Str), p8, c8, ((a0e u4 u7 u10.name).data.content : List UInt8), p9, c9, ((a0e u4 u7 u10.name).data.keyName.parts : List Str), (a0e u4 u7 u10.name).data.freshUntil, (a0e u4 u7 u10.name).data.signature, u14, u15) ⟨hq6.1, (ok_Consumer hq5).1, (ok_Consumer hq5).2.1, (ok_Name (ok_Consumer hq5).2.2.1), (ok_Consumer hq5).2.2.2.1, (ok_Consumer hq5).2.2.2.2.1, (ok_Name (ok_DataP (ok_Consumer hq5).2.2.2.2.2.2).1), (ok_DataP (ok_Consumer hq5).2.2.2.2.2.2).2.1, (ok_Name (ok_DataP (ok_Consumer hq5).2.2.2.2.2.2).2.2.1), (ok_DataP (ok_Consumer hq5).2.2.2.2.2.2).2.2.2.1, (ok_DataP (ok_Consumer hq5).2.2.2.2.2.2).2.2.2.2, hq6.2.1, hq6.2.2, Z⟩
  (.cons Z (.cons Z (.cons Z (.cons Z (.cons Z (.cons Z (.nil))))))) (.cons Z (.cons Z (.cons Z (.cons Z (.cons Z (.nil)))))) .nil [0, 6, 7, 8, 9, 18, 19, 20, 21] Z ?_
 rintro ⟨i, aNode, aIndex, paName, caName, aName, aAttempts, aWait, aSatisfied, paData, caData, aData, pa, ca, a, pa2, ca2, a2, a3, a4, u999_i, u999_h⟩ ⟨v1, v2, v3, v4, v5, v6, v7, v8, v9, v10, v11, v12, v13, v14⟩
 have v4L := v4.1
 have v7L := v7.1
 have v8L := v8.1
 have v9L := v9.1
 refine R0 ?_
 refine WX.cases 20 Z ?_ ?_ <;> intro h1
 ·skip
  have h1d := B.dt h1
  refine R0 ?_
  refine WX.der 23 (MF.rs .der paName caName aName) Z (fun _ hΓ => (hΓ.get 18 Z : OwSl _ _ _ _).rd) ?_
  refine WX.der 24 (MF.rs .der paData caData aData) Z (fun _ hΓ => (hΓ.get 19 Z : OwSl _ _ _ _).rd) ?_
  refine WX.der 25 (MF.rs .der pa ca a) Z (fun _ hΓ => (hΓ.get 20 Z : OwSl _ _ _ _).rd) ?_
  refine WX.der 26 (MF.rs .der pa2 ca2 a2) Z (fun _ hΓ => (hΓ.get 21 Z : OwSl _ _ _ _).rd) ?_
  refine CF 27 Z Z Z Z Z O Z (fun w γ => f7 w n τ1 (Consumer.mk aNode aIndex (Name.mk aName) aAttempts aWait aSatisfied (DataP.mk (Name.mk aData) a (Name.mk a2) a3 a4)) paName caName (γ.q 23 Z) paData caData (γ.q 24 Z) pa ca (γ.q 25 Z) pa2 ca2 (γ.q 26 Z) (And.intro v2 (And.intro v3 (And.intro (okl_of v4) (And.intro v5 (And.intro v6 (And.intro trivial (And.intro (okl_of v7) (And.intro (okl_of v8) (And.intro (okl_of v9) (And.intro v10 v11))))))))))) ?_
  rintro ⟨⟨⟨⟩, ⟨⟩, ⟨p10, c10⟩, ⟨⟩, ⟨⟩, ⟨⟩, ⟨⟨p11, c11⟩, ⟨p12, c12⟩, ⟨p13, c13⟩, ⟨⟩, ⟨⟩⟩⟩, ⟨⟨p14, c14⟩, ⟨⟩, ⟨⟩, ⟨⟩⟩⟩ hq7
  refine R0 ?_
  obtain ⟨⟨u16, u17, u18⟩, hu6⟩ := xE (a1b c_b u999_i u999_h 8)
  refine CP 999 37 Z Z Z Z Z Z O Z (fun w β H η σ γ => f35 w n τ1 H η (β 999) c_b K0 M0 (γ.q 0 Z) u999_i u999_h 8 σ hokc_b v12 v13 (i6 8) u16 u17 u18 hu6) ?_
  rintro ⟨⟩ hq8
  refine R0 ?_
  refine WX.cases 30 Z ?_ ?_ <;> intro h2
  ·skip
   refine R0 ?_
   refine WX.der 38 (MF.rs .der p1 c1 u1.keys) Z (fun _ hΓ => (hΓ.get 6 Z : OwSl _ _ _ _).rd) ?_
   refine WX.der 39 (MF.rs .der p2 c2 u1.rules) Z (fun _ hΓ => (hΓ.get 7 Z : OwSl _ _ _ _).rd) ?_
   refine WX.der 40 (MF.rs .der p3 c3 u1.anchors) Z (fun _ hΓ => (hΓ.get 8 Z : OwSl _ _ _ _).rd) ?_
   refine WX.der 41 (MF.rs .der p4 c4 u1.certificates) Z (fun _ hΓ => (hΓ.get 9 Z : OwSl _ _ _ _).rd) ?_
   refine WX.drawY [6] mixed Z ?_
   intro bs G0 hΓ0
   refine DY.takes (fuel := 3) ttOk [(0, false), (1, false), (2, true), (3, false)] J Z ?_
   refine DY.toTX ?_
   intro S_ hS_
   refine TX.all1 4 J ?_
   obtain ⟨⟨u19, u20, u21⟩, hu7⟩ := xE (a1i c_b u17 u18 u1)
   refine TS.callP hS_ 4 42 ⟨_, Z⟩ Z (fun _ _ h => GoT.ow_rd h) (fun _ f hf => GoT.fak f hf) Z Z Z Z Z Z O Z (fun w G bs H hI hH hs hΓ => f34 w n τ1 H hH (bs 999) c_b K0 M0 (hΓ.get 0 Z) u17 u18 u1 p1 c1 (hΓ.get 38 Z) p2 c2 (hΓ.get 39 Z) p3 c3 (hΓ.get 40 Z) p4 c4 (hΓ.get 41 Z) hs hokc_b hq8.1 hq8.2 hq1.1 u19 u20 u21 hu7) O O ?_
   rintro ⟨⟨p15, c15⟩, ⟨p16, c16⟩, ⟨p17, c17⟩, ⟨⟩, ⟨⟩⟩ hq9
   refine TX.all1 5 J ?_
   refine TSF 5 48 Z Z Z Z Z Z O Z (fun w γ => f15 w n τ1 ((a09 (Consumer.mk aNode aIndex (Name.mk aName) aAttempts aWait aSatisfied (DataP.mk (Name.mk aData) a (Name.mk a2) a3 a4))).1) p10 c10 (γ.q 27 Z) p11 c11 (γ.q 28 Z) p12 c12 (γ.q 29 Z) p13 c13 (γ.q 30 Z) u1 p1 c1 (γ.q 38 Z) p2 c2 (γ.q 39 Z) p3 c3 (γ.q 40 Z) p4 c4 (γ.q 41 Z) u19 p15 c15 (γ.q 42 Z) p16 c16 (γ.q 43 Z) p17 c17 (γ.q 44 Z) 50 hq7.1 hq1.1 hq9.1 (i6 50)) ?_
   rintro ⟨⟨⟩, ⟨⟩, ⟨p18, c18⟩, ⟨⟩, ⟨⟩, ⟨⟩, ⟨⟨p19, c19⟩, ⟨p20, c20⟩, ⟨p21, c21⟩, ⟨⟩, ⟨⟩⟩⟩ hq10
   refine TX.tail [6] Z Z J ?_
   refine R0 ?_
   refine WX.see Z Z Z (fun _ hΓ => looks_arith Z Z Z Z τ2) ?_
   refine R0 ?_
   refine WX.turn [52] 18 Z (fun _ h => h) Z ?_
   refine WX.turn [53] 19 Z (fun _ h => h) Z ?_
   refine WX.turn [54] 20 Z (fun _ h => h) Z ?_
   refine WX.turn [55] 21 Z (fun _ h => h) Z ?_
   exact WX.iter (i - 1, (a0j ((a09 (Consumer.mk aNode aIndex (Name.mk aName) aAttempts aWait aSatisfied (DataP.mk (Name.mk aData) a (Name.mk a2) a3 a4))).1) u1 u19 50).node, (a0j ((a09 (Consumer.mk aNode aIndex (Name.mk aName) aAttempts aWait aSatisfied (DataP.mk (Name.mk aData) a (Name.mk a2) a3 a4))).1) u1 u19 50).index, p18, c18, (a0j ((a09 (Consumer.mk aNode aIndex (Name.mk aName) aAttempts aWait aSatisfied (DataP.mk (Name.mk aData) a (Name.mk a2) a3 a4))).1) u1 u19 50).name.parts, (a0j ((a09 (Consumer.mk aNode aIndex (Name.mk aName) aAttempts aWait aSatisfied (DataP.mk (Name.mk aData) a (Name.mk a2) a3 a4))).1) u1 u19 50).attempts, (a0j ((a09 (Consumer.mk aNode aIndex (Name.mk aName) aAttempts aWait aSatisfied (DataP.mk (Name.mk aData) a (Name.mk a2) a3 a4))).1) u1 u19 50).wait, (a0j ((a09 (Consumer.mk aNode aIndex (Name.mk aName) aAttempts aWait aSatisfied (DataP.mk (Name.mk aData) a (Name.mk a2) a3 a4))).1) u1 u19 50).satisfied, p19, c19, (a0j ((a09 (Consumer.mk aNode aIndex (Name.mk aName) aAttempts aWait aSatisfied (DataP.mk (Name.mk aData) a (Name.mk a2) a3 a4))).1) u1 u19 50).data.name.parts, p20, c20, (a0j ((a09 (Consumer.mk aNode aIndex (Name.mk aName) aAttempts aWait aSatisfied (DataP.mk (Name.mk aData) a (Name.mk a2) a3 a4))).1) u1 u19 50).data.content, p21, c21, (a0j ((a09 (Consumer.mk aNode aIndex (Name.mk aName) aAttempts aWait aSatisfied (DataP.mk (Name.mk aData) a (Name.mk a2) a3 a4))).1) u1 u19 50).data.keyName.parts, (a0j ((a09 (Consumer.mk aNode aIndex (Name.mk aName) aAttempts aWait aSatisfied (DataP.mk (Name.mk aData) a (Name.mk a2) a3 a4))).1) u1 u19 50).data.freshUntil, (a0j ((a09 (Consumer.mk aNode aIndex (Name.mk aName) aAttempts aWait aSatisfied (DataP.mk (Name.mk aData) a (Name.mk a2) a3 a4))).1) u1 u19 50).data.signature, u20, u21) ⟨τ6, (ok_Consumer hq10).1, (ok_Consumer hq10).2.1, (ok_Name (ok_Consumer hq10).2.2.1), (ok_Consumer hq10).2.2.2.1, (ok_Consumer hq10).2.2.2.2.1, (ok_Name (ok_DataP (ok_Consumer hq10).2.2.2.2.2.2).1), (ok_DataP (ok_Consumer hq10).2.2.2.2.2.2).2.1, (ok_Name (ok_DataP (ok_Consumer hq10).2.2.2.2.2.2).2.2.1), (ok_DataP (ok_Consumer hq10).2.2.2.2.2.2).2.2.2.1, (ok_DataP (ok_Consumer hq10).2.2.2.2.2.2).2.2.2.2, hq9.2.1, hq9.2.2, (by rw [v14]; rw [a42]; simp only [h1, h1d, hu6, h2, hu7, cT, cF, ↓reduceIte, Bool.false_eq_true])⟩ τ4 (.cons Z (.cons Z (.cons Z (.cons Z (.cons Z (.cons Z (.nil))))))) (.cons Z (.cons Z (.cons Z (.cons Z (.cons Z (.nil)))))) .nil [0, 6, 7, 8, 9, 18, 19, 20, 21] Z
  refine R0 ?_
  refine WX.see Z Z Z (fun _ hΓ => looks_arith Z Z Z Z τ2) ?_
  refine R0 ?_
  refine WX.turn [32] 18 Z (fun _ h => h) Z ?_
  refine WX.turn [33] 19 Z (fun _ h => h) Z ?_
  refine WX.turn [34] 20 Z (fun _ h => h) Z ?_
  refine WX.turn [35] 21 Z (fun _ h => h) Z ?_
  exact WX.iter (i - 1, (a09 (Consumer.mk aNode aIndex (Name.mk aName) aAttempts aWait aSatisfied (DataP.mk (Name.mk aData) a (Name.mk a2) a3 a4))).1.node, (a09 (Consumer.mk aNode aIndex (Name.mk aName) aAttempts aWait aSatisfied (DataP.mk (Name.mk aData) a (Name.mk a2) a3 a4))).1.index, p10, c10, (a09 (Consumer.mk aNode aIndex (Name.mk aName) aAttempts aWait aSatisfied (DataP.mk (Name.mk aData) a (Name.mk a2) a3 a4))).1.name.parts, (a09 (Consumer.mk aNode aIndex (Name.mk aName) aAttempts aWait aSatisfied (DataP.mk (Name.mk aData) a (Name.mk a2) a3 a4))).1.attempts, (a09 (Consumer.mk aNode aIndex (Name.mk aName) aAttempts aWait aSatisfied (DataP.mk (Name.mk aData) a (Name.mk a2) a3 a4))).1.wait, (a09 (Consumer.mk aNode aIndex (Name.mk aName) aAttempts aWait aSatisfied (DataP.mk (Name.mk aData) a (Name.mk a2) a3 a4))).1.satisfied, p11, c11, (a09 (Consumer.mk aNode aIndex (Name.mk aName) aAttempts aWait aSatisfied (DataP.mk (Name.mk aData) a (Name.mk a2) a3 a4))).1.data.name.parts, p12, c12, (a09 (Consumer.mk aNode aIndex (Name.mk aName) aAttempts aWait aSatisfied (DataP.mk (Name.mk aData) a (Name.mk a2) a3 a4))).1.data.content, p13, c13, (a09 (Consumer.mk aNode aIndex (Name.mk aName) aAttempts aWait aSatisfied (DataP.mk (Name.mk aData) a (Name.mk a2) a3 a4))).1.data.keyName.parts, (a09 (Consumer.mk aNode aIndex (Name.mk aName) aAttempts aWait aSatisfied (DataP.mk (Name.mk aData) a (Name.mk a2) a3 a4))).1.data.freshUntil, (a09 (Consumer.mk aNode aIndex (Name.mk aName) aAttempts aWait aSatisfied (DataP.mk (Name.mk aData) a (Name.mk a2) a3 a4))).1.data.signature, u17, u18) ⟨τ6, (ok_Consumer hq7.1).1, (ok_Consumer hq7.1).2.1, (ok_Name (ok_Consumer hq7.1).2.2.1), (ok_Consumer hq7.1).2.2.2.1, (ok_Consumer hq7.1).2.2.2.2.1, (ok_Name (ok_DataP (ok_Consumer hq7.1).2.2.2.2.2.2).1), (ok_DataP (ok_Consumer hq7.1).2.2.2.2.2.2).2.1, (ok_Name (ok_DataP (ok_Consumer hq7.1).2.2.2.2.2.2).2.2.1), (ok_DataP (ok_Consumer hq7.1).2.2.2.2.2.2).2.2.2.1, (ok_DataP (ok_Consumer hq7.1).2.2.2.2.2.2).2.2.2.2, hq8.1, hq8.2, (by rw [v14]; rw [a42]; simp only [h1, h1d, hu6, h2, cT, cF, ↓reduceIte, Bool.false_eq_true])⟩ τ4 (.cons Z (.cons Z (.cons Z (.cons Z (.cons Z (.cons Z (.nil))))))) (.cons Z (.cons Z (.cons Z (.cons Z (.cons Z (.nil)))))) .nil [0, 6, 7, 8, 9, 18, 19, 20, 21] Z
 have h1d := B.df h1
 refine R0 ?_
 have hX1 : a42 c_b u1 u13 ((a0e u4 u7 u10.name).node) ((a0e u4 u7 u10.name).index) ((a0e u4 u7 u10.name).name.parts : List Str) ((a0e u4 u7 u10.name).attempts) ((a0e u4 u7 u10.name).wait) ((a0e u4 u7 u10.name).satisfied) ((a0e u4 u7 u10.name).data.name.parts : List Str) ((a0e u4 u7 u10.name).data.content : List UInt8) ((a0e u4 u7 u10.name).data.keyName.parts : List Str) ((a0e u4 u7 u10.name).data.freshUntil) ((a0e u4 u7 u10.name).data.signature) u14 u15 = (i, aNode, aIndex, ((aName) : List Str), aAttempts, aWait, aSatisfied, ((aData) : List Str), ((a) : List UInt8), ((a2) : List Str), a3, a4, u999_i, u999_h) := by rw [v14]; rw [a42]; simp only [h1, h1d, cT, cF, ↓reduceIte, Bool.false_eq_true]
 refine WX.der 56 (MF.rs .der paName caName aName) Z (fun _ hΓ => (hΓ.get 18 Z : OwSl _ _ _ _).rd) ?_
 refine WX.der 57 (MF.rs .der paData caData aData) Z (fun _ hΓ => (hΓ.get 19 Z : OwSl _ _ _ _).rd) ?_
 refine WX.der 58 (MF.rs .der pa ca a) Z (fun _ hΓ => (hΓ.get 20 Z : OwSl _ _ _ _).rd) ?_
 refine WX.der 59 (MF.rs .der pa2 ca2 a2) Z (fun _ hΓ => (hΓ.get 21 Z : OwSl _ _ _ _).rd) ?_
 refine WX.der 60 (MF.rs .der p1 c1 u1.keys) Z (fun _ hΓ => (hΓ.get 6 Z : OwSl _ _ _ _).rd) ?_
 refine WX.der 61 (MF.rs .der p2 c2 u1.rules) Z (fun _ hΓ => (hΓ.get 7 Z : OwSl _ _ _ _).rd) ?_
 refine WX.der 62 (MF.rs .der p3 c3 u1.anchors) Z (fun _ hΓ => (hΓ.get 8 Z : OwSl _ _ _ _).rd) ?_
 refine WX.der 63 (MF.rs .der p4 c4 u1.certificates) Z (fun _ hΓ => (hΓ.get 9 Z : OwSl _ _ _ _).rd) ?_
 refine WX.draw [0, 1, 2, 3] mixed ?_
 intro bs G0 hΓ0
 refine DX.toTX ?_
 intro S_
 refine TX.all2 0 1 J ?_ ?_
 ·skip
  refine TS.op 0 Z J ?_
  refine R0 ?_
  refine WX.back0 ?_
  refine TX.all2 1 2 J ?_ ?_
  ·skip
   refine TS.op 1 Z J ?_
   refine R0 ?_
   refine WX.back0 ?_
   refine TX.tail [2, 3] Z Z J ?_
   refine R0 ?_
   have hP1 : a43 c_b c_i c_h = (Consumer.mk aNode aIndex (Name.mk aName) aAttempts aWait aSatisfied (DataP.mk (Name.mk aData) a (Name.mk a2) a3 a4), u1, u999_i, u999_h) := by simp only [a43, hu1, hu2, hu3, hu4, hu5, hX1, cT, cF]
   have hz1 := hP1.symm.trans hres
   obtain ⟨hz1, hz2⟩ := Prod.mk.inj hz1
   obtain ⟨hz2, hz3⟩ := Prod.mk.inj hz2
   obtain ⟨hz3, hz4⟩ := Prod.mk.inj hz3
   subst hz1
   subst hz2
   subst hz3
   subst hz4
   refine R1 ?_
   intro w1 G bs hI hΓ
   exact Post.ofL 999 [18, 19, 20, 21, 6, 7, 8, 9] (((), (), (paName, caName), (), (), (), ((paData, caData), (pa, ca), (pa2, ca2), (), ())), ((p1, c1), (p2, c2), (p3, c3), (p4, c4))) hI hΓ Z Z Z (by rw [hI.pin _ rfl]; first | done | rfl) (⟨(And.intro v2 (And.intro v3 (And.intro (okl_of v4) (And.intro v5 (And.intro v6 (And.intro trivial (And.intro (okl_of v7) (And.intro (okl_of v8) (And.intro (okl_of v9) (And.intro v10 v11)))))))))), ⟨hq1.1, ⟨v12, v13⟩⟩⟩)
  refine TS.op 2 Z J ?_
  refine R0 ?_
  refine WX.back0 ?_
  refine TX.tail [1, 3] Z Z J ?_
  refine R0 ?_
  have hP2 : a43 c_b c_i c_h = (Consumer.mk aNode aIndex (Name.mk aName) aAttempts aWait aSatisfied (DataP.mk (Name.mk aData) a (Name.mk a2) a3 a4), u1, u999_i, u999_h) := by simp only [a43, hu1, hu2, hu3, hu4, hu5, hX1, cT, cF]
  have hz1 := hP2.symm.trans hres
  obtain ⟨hz1, hz2⟩ := Prod.mk.inj hz1
  obtain ⟨hz2, hz3⟩ := Prod.mk.inj hz2
  obtain ⟨hz3, hz4⟩ := Prod.mk.inj hz3
  subst hz1
  subst hz2
  subst hz3
  subst hz4
  refine R1 ?_
  intro w1 G bs hI hΓ
  exact Post.ofL 999 [18, 19, 20, 21, 6, 7, 8, 9] (((), (), (paName, caName), (), (), (), ((paData, caData), (pa, ca), (pa2, ca2), (), ())), ((p1, c1), (p2, c2), (p3, c3), (p4, c4))) hI hΓ Z Z Z (by rw [hI.pin _ rfl]; first | done | rfl) (⟨(And.intro v2 (And.intro v3 (And.intro (okl_of v4) (And.intro v5 (And.intro v6 (And.intro trivial (And.intro (okl_of v7) (And.intro (okl_of v8) (And.intro (okl_of v9) (And.intro v10 v11)))))))))), ⟨hq1.1, ⟨v12, v13⟩⟩⟩)
 refine TS.op 1 Z J ?_
 refine R0 ?_
 refine WX.back0 ?_
 refine TX.tail [0, 2, 3] Z Z J ?_
 refine R0 ?_
 have hP3 : a43 c_b c_i c_h = (Consumer.mk aNode aIndex (Name.mk aName) aAttempts aWait aSatisfied (DataP.mk (Name.mk aData) a (Name.mk a2) a3 a4), u1, u999_i, u999_h) := by simp only [a43, hu1, hu2, hu3, hu4, hu5, hX1, cT, cF]
 have hz1 := hP3.symm.trans hres
 obtain ⟨hz1, hz2⟩ := Prod.mk.inj hz1
 obtain ⟨hz2, hz3⟩ := Prod.mk.inj hz2
 obtain ⟨hz3, hz4⟩ := Prod.mk.inj hz3
 subst hz1
 subst hz2
 subst hz3
 subst hz4
 refine R1 ?_
 intro w1 G bs hI hΓ
 exact Post.ofL 999 [18, 19, 20, 21, 6, 7, 8, 9] (((), (), (paName, caName), (), (), (), ((paData, caData), (pa, ca), (pa2, ca2), (), ())), ((p1, c1), (p2, c2), (p3, c3), (p4, c4))) hI hΓ Z Z Z (by rw [hI.pin _ rfl]; first | done | rfl) (⟨(And.intro v2 (And.intro v3 (And.intro (okl_of v4) (And.intro v5 (And.intro v6 (And.intro trivial (And.intro (okl_of v7) (And.intro (okl_of v8) (And.intro (okl_of v9) (And.intro v10 v11)))))))))), ⟨hq1.1, ⟨v12, v13⟩⟩⟩)
theorem f43 (w : World) (n : Nat) (hn : n + 9 ≤ 9) (H : GH) (hH : Le H (hp w)) (bc_ : Nat) (c_b : (List UInt8)) (K0 M0) (N0 : RdSl (cut (hp w) H) K0 M0 c_b) (c_i : Int) (c_h : Int) (hown : Sep H [MF.bx bc_ 96 [.slice K0 ((c_b).length) M0, .int .i64 (c_i), .int .i64 (c_h)]]) (hokc_b : GoT.ok n c_b) (hokc_i : NN c_i) (hokc_h : GoT.ok n c_h) (o0_ : Consumer) (o1_ : TrustPolicy) (o2_ : Int) (o3_ : Int) (hres : a0i c_b c_i c_h = (o0_, o1_, o2_, o3_)) :
 Does Tryz.prog 43 #[.pointer (some ⟨bc_, 0, none⟩)] w H (Post w H (fun x : GoT.X (Consumer × TrustPolicy) => .tuple #[.agg ⟨GoT.sh (o0_ : Consumer) x.1⟩, .agg ⟨GoT.sh (o1_ : TrustPolicy) x.2⟩]) (fun x => MF.bx bc_ 96 [.slice K0 ((c_b).length) M0, .int .i64 (o2_), .int .i64 (o3_)] :: GoT.oa ((o0_, o1_) : Consumer × TrustPolicy) x) (GoT.ok n (o0_ : Consumer) ∧ GoT.ok n (o1_ : TrustPolicy) ∧ NN (o2_) ∧ I64 (o3_))) := by
 have hb := bS9 hn
 have hc_bz : (c_b).length ≤ bd n := (okl hokc_b).1
 refine WX.enterP (tt := tt) (Γ := [(0, MF.rs .stb K0 M0 c_b)]) 1 Tryz.func43 Z J Z (allS_cons Z N0 allS_nil) hH hown (fun f hf => by cases hf) Z ?_
 refine R0 ?_
 obtain ⟨⟨u1, u2, u3, u4⟩, hu1⟩ := xE (a43 c_b c_i c_h)
 refine CQ 999 2 Z Z Z Z Z Z O Z (fun w β H η σ γ => f73 w n τ1 H η (β 999) c_b K0 M0 (γ.q 0 Z) c_i c_h σ hokc_b hokc_i hokc_h u1 u2 u3 u4 hu1) ?_
 rintro ⟨⟨⟨⟩, ⟨⟩, ⟨p1, c1⟩, ⟨⟩, ⟨⟩, ⟨⟩, ⟨⟨p2, c2⟩, ⟨p3, c3⟩, ⟨p4, c4⟩, ⟨⟩, ⟨⟩⟩⟩, ⟨⟨p5, c5⟩, ⟨p6, c6⟩, ⟨p7, c7⟩, ⟨p8, c8⟩⟩⟩ hq1
 refine R0 ?_
 obtain ⟨⟨u5, u6, u7⟩, hu2⟩ := xE (a0a c_b u3 u4 12)
 refine CP 999 18 Z Z Z Z Z Z O Z (fun w β H η σ γ => f41 w n τ1 H η (β 999) c_b K0 M0 (γ.q 0 Z) u3 u4 12 σ hokc_b hq1.2.2.1 hq1.2.2.2 (i6 12) u5 u6 u7 hu2) ?_
 rintro ⟨⟩ hq2
 have q1 := l1Below_rng c_b u3 u4 12
 rw [hu2] at q1
 try dsimp only at q1
 refine R0 ?_
 refine WX.cases 13 Z ?_ ?_ <;> intro h1
 ·skip
  have h1d := B.et h1
  refine R0 ?_
  refine WX.bld ttOk Z Z Z Z Z Z Z ?_
  intro p9
  refine WX.turn [] 19 Z (fun h hs => one_sep (⟨(), _, emp, _, Z, emp_le _, Le.refl _, emp_dj _, trivial, ⟨(), _, emp, _, Z, emp_le _, Le.refl _, emp_dj _, trivial, Z⟩⟩ : OwL _ _ ([(-1), 6] : List Int))) (gs := [MF.ol [.int .i64 ((-1)), .int .i64 (6)] ([(-1), 6] : List Int)]) Z ?_
  refine WX.seal 16 19 20 Z Z Z Z Z ?_
  obtain ⟨⟨u8, u9, u10⟩, hu3⟩ := xE (a3v c_b u6 u7 ([(-1), 6]))
  refine CP 999 22 Z Z Z Z Z Z O Z (fun w β H η σ γ => f74 w n τ1 H η (β 999) c_b K0 M0 (γ.q 0 Z) u6 u7 ([(-1), 6]) p9 2 (γ.q 20 Z) σ hokc_b hq2.2.1 hq2.2.2 τ8 (okl_mk τ3 (all_cons (α := Int) (i6 (-1)) (all_cons (α := Int) (i6 6) (fun a ha => by cases ha))) : GoT.ok n ([(-1), 6] : List Int)) u8 u9 u10 hu3) ?_
  rintro ⟨⟩ hq3
  refine R0 ?_
  refine WX.der 23 (MF.rs .der p5 c5 u2.keys) Z (fun _ hΓ => (hΓ.get 14 Z : OwSl _ _ _ _).rd) ?_
  refine WX.der 24 (MF.rs .der p6 c6 u2.rules) Z (fun _ hΓ => (hΓ.get 15 Z : OwSl _ _ _ _).rd) ?_
  refine WX.der 25 (MF.rs .der p7 c7 u2.anchors) Z (fun _ hΓ => (hΓ.get 16 Z : OwSl _ _ _ _).rd) ?_
  refine WX.der 26 (MF.rs .der p8 c8 u2.certificates) Z (fun _ hΓ => (hΓ.get 17 Z : OwSl _ _ _ _).rd) ?_
  refine WX.der 27 (MF.rs .der p1 c1 u1.name.parts) Z (fun _ hΓ => (hΓ.get 10 Z : OwSl _ _ _ _).rd) ?_
  refine WX.der 28 (MF.rs .der p2 c2 u1.data.name.parts) Z (fun _ hΓ => (hΓ.get 11 Z : OwSl _ _ _ _).rd) ?_
  refine WX.der 29 (MF.rs .der p3 c3 u1.data.content) Z (fun _ hΓ => (hΓ.get 12 Z : OwSl _ _ _ _).rd) ?_
  refine WX.der 30 (MF.rs .der p4 c4 u1.data.keyName.parts) Z (fun _ hΓ => (hΓ.get 13 Z : OwSl _ _ _ _).rd) ?_
  refine WX.draw [0, 1, 2, 3] mixed ?_
  intro bs G0 hΓ0
  refine DX.toTX ?_
  intro S_
  refine TX.all2 0 1 J ?_ ?_
  ·skip
   refine TS.op 0 Z J ?_
   refine R0 ?_
   refine WX.back0 ?_
   refine TX.all2 1 2 J ?_ ?_
   ·skip
    refine TS.op 1 Z J ?_
    refine R0 ?_
    refine WX.back0 ?_
    refine TX.tail [2, 3] Z Z J ?_
    refine R0 ?_
    have hP1 : a0i c_b c_i c_h = (Consumer.mk u8 u1.index u1.name u1.attempts u1.wait u1.satisfied u1.data, u2, u9, u10) := by simp only [a0i, hu1, hu2, h1, hu3, cT, cF]
    have hz1 := hP1.symm.trans hres
    obtain ⟨hz1, hz2⟩ := Prod.mk.inj hz1
    obtain ⟨hz2, hz3⟩ := Prod.mk.inj hz2
    obtain ⟨hz3, hz4⟩ := Prod.mk.inj hz3
    subst hz1
    subst hz2
    subst hz3
    subst hz4
    refine R1 ?_
    intro w1 G bs hI hΓ
    exact Post.ofL 999 [10, 11, 12, 13, 14, 15, 16, 17] (((), (), (p1, c1), (), (), (), ((p2, c2), (p3, c3), (p4, c4), (), ())), ((p5, c5), (p6, c6), (p7, c7), (p8, c8))) hI hΓ Z Z Z (by rw [hI.pin _ rfl]; first | done | rfl) (⟨(And.intro hq3.1 (And.intro (ok_Consumer hq1.1).2.1 (And.intro (ok_Consumer hq1.1).2.2.1 (And.intro (ok_Consumer hq1.1).2.2.2.1 (And.intro (ok_Consumer hq1.1).2.2.2.2.1 (And.intro trivial (ok_Consumer hq1.1).2.2.2.2.2.2)))))), ⟨hq1.2.1, ⟨hq3.2.1, hq3.2.2⟩⟩⟩)
   refine TS.op 2 Z J ?_
   refine R0 ?_
   refine WX.back0 ?_
   refine TX.tail [1, 3] Z Z J ?_
   refine R0 ?_
   have hP2 : a0i c_b c_i c_h = (Consumer.mk u8 u1.index u1.name u1.attempts u1.wait u1.satisfied u1.data, u2, u9, u10) := by simp only [a0i, hu1, hu2, h1, hu3, cT, cF]
   have hz1 := hP2.symm.trans hres
   obtain ⟨hz1, hz2⟩ := Prod.mk.inj hz1
   obtain ⟨hz2, hz3⟩ := Prod.mk.inj hz2
   obtain ⟨hz3, hz4⟩ := Prod.mk.inj hz3
   subst hz1
   subst hz2
   subst hz3
   subst hz4
   refine R1 ?_
   intro w1 G bs hI hΓ
   exact Post.ofL 999 [10, 11, 12, 13, 14, 15, 16, 17] (((), (), (p1, c1), (), (), (), ((p2, c2), (p3, c3), (p4, c4), (), ())), ((p5, c5), (p6, c6), (p7, c7), (p8, c8))) hI hΓ Z Z Z (by rw [hI.pin _ rfl]; first | done | rfl) (⟨(And.intro hq3.1 (And.intro (ok_Consumer hq1.1).2.1 (And.intro (ok_Consumer hq1.1).2.2.1 (And.intro (ok_Consumer hq1.1).2.2.2.1 (And.intro (ok_Consumer hq1.1).2.2.2.2.1 (And.intro trivial (ok_Consumer hq1.1).2.2.2.2.2.2)))))), ⟨hq1.2.1, ⟨hq3.2.1, hq3.2.2⟩⟩⟩)
  refine TS.op 1 Z J ?_
  refine R0 ?_
  refine WX.back0 ?_
  refine TX.tail [0, 2, 3] Z Z J ?_
  refine R0 ?_
  have hP3 : a0i c_b c_i c_h = (Consumer.mk u8 u1.index u1.name u1.attempts u1.wait u1.satisfied u1.data, u2, u9, u10) := by simp only [a0i, hu1, hu2, h1, hu3, cT, cF]
  have hz1 := hP3.symm.trans hres
  obtain ⟨hz1, hz2⟩ := Prod.mk.inj hz1
  obtain ⟨hz2, hz3⟩ := Prod.mk.inj hz2
  obtain ⟨hz3, hz4⟩ := Prod.mk.inj hz3
  subst hz1
  subst hz2
  subst hz3
  subst hz4
  refine R1 ?_
  intro w1 G bs hI hΓ
  exact Post.ofL 999 [10, 11, 12, 13, 14, 15, 16, 17] (((), (), (p1, c1), (), (), (), ((p2, c2), (p3, c3), (p4, c4), (), ())), ((p5, c5), (p6, c6), (p7, c7), (p8, c8))) hI hΓ Z Z Z (by rw [hI.pin _ rfl]; first | done | rfl) (⟨(And.intro hq3.1 (And.intro (ok_Consumer hq1.1).2.1 (And.intro (ok_Consumer hq1.1).2.2.1 (And.intro (ok_Consumer hq1.1).2.2.2.1 (And.intro (ok_Consumer hq1.1).2.2.2.2.1 (And.intro trivial (ok_Consumer hq1.1).2.2.2.2.2.2)))))), ⟨hq1.2.1, ⟨hq3.2.1, hq3.2.2⟩⟩⟩)
 have h1d := B.ef h1
 refine R0 ?_
 refine WX.cases 19 Z ?_ ?_ <;> intro h2
 ·skip
  have h2d := B.et h2
  refine R0 ?_
  refine WX.bld ttOk Z Z Z Z Z Z Z ?_
  intro p10
  refine WX.turn [] 31 Z (fun h hs => one_sep (⟨(), _, emp, _, Z, emp_le _, Le.refl _, emp_dj _, trivial, ⟨(), _, emp, _, Z, emp_le _, Le.refl _, emp_dj _, trivial, ⟨(), _, emp, _, Z, emp_le _, Le.refl _, emp_dj _, trivial, ⟨(), _, emp, _, Z, emp_le _, Le.refl _, emp_dj _, trivial, Z⟩⟩⟩⟩ : OwL _ _ ([(-1), 899, 900, 901] : List Int))) (gs := [MF.ol [.int .i64 ((-1)), .int .i64 (899), .int .i64 (900), .int .i64 (901)] ([(-1), 899, 900, 901] : List Int)]) Z ?_
  refine WX.seal 22 31 32 Z Z Z Z Z ?_
  obtain ⟨⟨u11, u12, u13⟩, hu4⟩ := xE (a3v c_b u6 u7 ([(-1), 899, 900, 901]))
  refine CP 999 34 Z Z Z Z Z Z O Z (fun w β H η σ γ => f74 w n τ1 H η (β 999) c_b K0 M0 (γ.q 0 Z) u6 u7 ([(-1), 899, 900, 901]) p10 4 (γ.q 32 Z) σ hokc_b hq2.2.1 hq2.2.2 τ8 (okl_mk τ3 (all_cons (α := Int) (i6 (-1)) (all_cons (α := Int) (i6 899) (all_cons (α := Int) (i6 900) (all_cons (α := Int) (i6 901) (fun a ha => by cases ha))))) : GoT.ok n ([(-1), 899, 900, 901] : List Int)) u11 u12 u13 hu4) ?_
  rintro ⟨⟩ hq4
  refine R0 ?_
  refine WX.der 35 (MF.rs .der p5 c5 u2.keys) Z (fun _ hΓ => (hΓ.get 14 Z : OwSl _ _ _ _).rd) ?_
  refine WX.der 36 (MF.rs .der p6 c6 u2.rules) Z (fun _ hΓ => (hΓ.get 15 Z : OwSl _ _ _ _).rd) ?_
  refine WX.der 37 (MF.rs .der p7 c7 u2.anchors) Z (fun _ hΓ => (hΓ.get 16 Z : OwSl _ _ _ _).rd) ?_
  refine WX.der 38 (MF.rs .der p8 c8 u2.certificates) Z (fun _ hΓ => (hΓ.get 17 Z : OwSl _ _ _ _).rd) ?_
  refine WX.der 39 (MF.rs .der p1 c1 u1.name.parts) Z (fun _ hΓ => (hΓ.get 10 Z : OwSl _ _ _ _).rd) ?_
  refine WX.der 40 (MF.rs .der p2 c2 u1.data.name.parts) Z (fun _ hΓ => (hΓ.get 11 Z : OwSl _ _ _ _).rd) ?_
  refine WX.der 41 (MF.rs .der p3 c3 u1.data.content) Z (fun _ hΓ => (hΓ.get 12 Z : OwSl _ _ _ _).rd) ?_
  refine WX.der 42 (MF.rs .der p4 c4 u1.data.keyName.parts) Z (fun _ hΓ => (hΓ.get 13 Z : OwSl _ _ _ _).rd) ?_
  refine WX.draw [0, 1, 2, 3] mixed ?_
  intro bs G0 hΓ0
  refine DX.toTX ?_
  intro S_
  refine TX.all2 0 1 J ?_ ?_
  ·skip
   refine TS.op 0 Z J ?_
   refine R0 ?_
   refine WX.back0 ?_
   refine TX.all2 1 2 J ?_ ?_
   ·skip
    refine TS.op 1 Z J ?_
    refine R0 ?_
    refine WX.back0 ?_
    refine TX.tail [2, 3] Z Z J ?_
    refine R0 ?_
    have hP4 : a0i c_b c_i c_h = (Consumer.mk u1.node u1.index u1.name u11 u1.wait u1.satisfied u1.data, u2, u12, u13) := by simp only [a0i, hu1, hu2, h1, h2, hu4, cT, cF]
    have hz1 := hP4.symm.trans hres
    obtain ⟨hz1, hz2⟩ := Prod.mk.inj hz1
    obtain ⟨hz2, hz3⟩ := Prod.mk.inj hz2
    obtain ⟨hz3, hz4⟩ := Prod.mk.inj hz3
    subst hz1
    subst hz2
    subst hz3
    subst hz4
    refine R1 ?_
    intro w1 G bs hI hΓ
    exact Post.ofL 999 [10, 11, 12, 13, 14, 15, 16, 17] (((), (), (p1, c1), (), (), (), ((p2, c2), (p3, c3), (p4, c4), (), ())), ((p5, c5), (p6, c6), (p7, c7), (p8, c8))) hI hΓ Z Z Z (by rw [hI.pin _ rfl]; first | done | rfl) (⟨(And.intro (ok_Consumer hq1.1).1 (And.intro (ok_Consumer hq1.1).2.1 (And.intro (ok_Consumer hq1.1).2.2.1 (And.intro hq4.1 (And.intro (ok_Consumer hq1.1).2.2.2.2.1 (And.intro trivial (ok_Consumer hq1.1).2.2.2.2.2.2)))))), ⟨hq1.2.1, ⟨hq4.2.1, hq4.2.2⟩⟩⟩)
   refine TS.op 2 Z J ?_
   refine R0 ?_
   refine WX.back0 ?_
   refine TX.tail [1, 3] Z Z J ?_
   refine R0 ?_
   have hP5 : a0i c_b c_i c_h = (Consumer.mk u1.node u1.index u1.name u11 u1.wait u1.satisfied u1.data, u2, u12, u13) := by simp only [a0i, hu1, hu2, h1, h2, hu4, cT, cF]
   have hz1 := hP5.symm.trans hres
   obtain ⟨hz1, hz2⟩ := Prod.mk.inj hz1
   obtain ⟨hz2, hz3⟩ := Prod.mk.inj hz2
   obtain ⟨hz3, hz4⟩ := Prod.mk.inj hz3
   subst hz1
   subst hz2
   subst hz3
   subst hz4
   refine R1 ?_
   intro w1 G bs hI hΓ
   exact Post.ofL 999 [10, 11, 12, 13, 14, 15, 16, 17] (((), (), (p1, c1), (), (), (), ((p2, c2), (p3, c3), (p4, c4), (), ())), ((p5, c5), (p6, c6), (p7, c7), (p8, c8))) hI hΓ Z Z Z (by rw [hI.pin _ rfl]; first | done | rfl) (⟨(And.intro (ok_Consumer hq1.1).1 (And.intro (ok_Consumer hq1.1).2.1 (And.intro (ok_Consumer hq1.1).2.2.1 (And.intro hq4.1 (And.intro (ok_Consumer hq1.1).2.2.2.2.1 (And.intro trivial (ok_Consumer hq1.1).2.2.2.2.2.2)))))), ⟨hq1.2.1, ⟨hq4.2.1, hq4.2.2⟩⟩⟩)
  refine TS.op 1 Z J ?_
  refine R0 ?_
  refine WX.back0 ?_
  refine TX.tail [0, 2, 3] Z Z J ?_
  refine R0 ?_
  have hP6 : a0i c_b c_i c_h = (Consumer.mk u1.node u1.index u1.name u11 u1.wait u1.satisfied u1.data, u2, u12, u13) := by simp only [a0i, hu1, hu2, h1, h2, hu4, cT, cF]
  have hz1 := hP6.symm.trans hres
  obtain ⟨hz1, hz2⟩ := Prod.mk.inj hz1
  obtain ⟨hz2, hz3⟩ := Prod.mk.inj hz2
  obtain ⟨hz3, hz4⟩ := Prod.mk.inj hz3
  subst hz1
  subst hz2
  subst hz3
  subst hz4
  refine R1 ?_
  intro w1 G bs hI hΓ
  exact Post.ofL 999 [10, 11, 12, 13, 14, 15, 16, 17] (((), (), (p1, c1), (), (), (), ((p2, c2), (p3, c3), (p4, c4), (), ())), ((p5, c5), (p6, c6), (p7, c7), (p8, c8))) hI hΓ Z Z Z (by rw [hI.pin _ rfl]; first | done | rfl) (⟨(And.intro (ok_Consumer hq1.1).1 (And.intro (ok_Consumer hq1.1).2.1 (And.intro (ok_Consumer hq1.1).2.2.1 (And.intro hq4.1 (And.intro (ok_Consumer hq1.1).2.2.2.2.1 (And.intro trivial (ok_Consumer hq1.1).2.2.2.2.2.2)))))), ⟨hq1.2.1, ⟨hq4.2.1, hq4.2.2⟩⟩⟩)
 have h2d := B.ef h2
 refine R0 ?_
 refine WX.cases 25 Z ?_ ?_ <;> intro h3
 ·skip
  have h3d := B.et h3
  refine R0 ?_
  refine WX.bld ttOk Z Z Z Z Z Z Z ?_
  intro p11
  refine WX.turn [] 43 Z (fun h hs => one_sep (⟨(), _, emp, _, Z, emp_le _, Le.refl _, emp_dj _, trivial, ⟨(), _, emp, _, Z, emp_le _, Le.refl _, emp_dj _, trivial, ⟨(), _, emp, _, Z, emp_le _, Le.refl _, emp_dj _, trivial, Z⟩⟩⟩ : OwL _ _ ([(-1), 5, 6] : List Int))) (gs := [MF.ol [.int .i64 ((-1)), .int .i64 (5), .int .i64 (6)] ([(-1), 5, 6] : List Int)]) Z ?_
  refine WX.seal 28 43 44 Z Z Z Z Z ?_
  obtain ⟨⟨u14, u15, u16⟩, hu5⟩ := xE (a3v c_b u6 u7 ([(-1), 5, 6]))
  refine CP 999 46 Z Z Z Z Z Z O Z (fun w β H η σ γ => f74 w n τ1 H η (β 999) c_b K0 M0 (γ.q 0 Z) u6 u7 ([(-1), 5, 6]) p11 3 (γ.q 44 Z) σ hokc_b hq2.2.1 hq2.2.2 τ8 (okl_mk τ3 (all_cons (α := Int) (i6 (-1)) (all_cons (α := Int) (i6 5) (all_cons (α := Int) (i6 6) (fun a ha => by cases ha)))) : GoT.ok n ([(-1), 5, 6] : List Int)) u14 u15 u16 hu5) ?_
  rintro ⟨⟩ hq5
  refine R0 ?_
  refine WX.der 47 (MF.rs .der p5 c5 u2.keys) Z (fun _ hΓ => (hΓ.get 14 Z : OwSl _ _ _ _).rd) ?_
  refine WX.der 48 (MF.rs .der p6 c6 u2.rules) Z (fun _ hΓ => (hΓ.get 15 Z : OwSl _ _ _ _).rd) ?_
  refine WX.der 49 (MF.rs .der p7 c7 u2.anchors) Z (fun _ hΓ => (hΓ.get 16 Z : OwSl _ _ _ _).rd) ?_
  refine WX.der 50 (MF.rs .der p8 c8 u2.certificates) Z (fun _ hΓ => (hΓ.get 17 Z : OwSl _ _ _ _).rd) ?_
  refine WX.der 51 (MF.rs .der p1 c1 u1.name.parts) Z (fun _ hΓ => (hΓ.get 10 Z : OwSl _ _ _ _).rd) ?_
  refine WX.der 52 (MF.rs .der p2 c2 u1.data.name.parts) Z (fun _ hΓ => (hΓ.get 11 Z : OwSl _ _ _ _).rd) ?_
  refine WX.der 53 (MF.rs .der p3 c3 u1.data.content) Z (fun _ hΓ => (hΓ.get 12 Z : OwSl _ _ _ _).rd) ?_
  refine WX.der 54 (MF.rs .der p4 c4 u1.data.keyName.parts) Z (fun _ hΓ => (hΓ.get 13 Z : OwSl _ _ _ _).rd) ?_
  refine WX.draw [0, 1, 2, 3] mixed ?_
  intro bs G0 hΓ0
  refine DX.toTX ?_
  intro S_
  refine TX.all2 0 1 J ?_ ?_
  ·skip
   refine TS.op 0 Z J ?_
   refine R0 ?_
   refine WX.back0 ?_
   refine TX.all2 1 2 J ?_ ?_
   ·skip
    refine TS.op 1 Z J ?_
    refine R0 ?_
    refine WX.back0 ?_
    refine TX.tail [2, 3] Z Z J ?_
    refine R0 ?_
    have hP7 : a0i c_b c_i c_h = (Consumer.mk u1.node u1.index u1.name u1.attempts u14 u1.satisfied u1.data, u2, u15, u16) := by simp only [a0i, hu1, hu2, h1, h2, h3, hu5, cT, cF]
    have hz1 := hP7.symm.trans hres
    obtain ⟨hz1, hz2⟩ := Prod.mk.inj hz1
    obtain ⟨hz2, hz3⟩ := Prod.mk.inj hz2
    obtain ⟨hz3, hz4⟩ := Prod.mk.inj hz3
    subst hz1
    subst hz2
    subst hz3
    subst hz4
    refine R1 ?_
    intro w1 G bs hI hΓ
    exact Post.ofL 999 [10, 11, 12, 13, 14, 15, 16, 17] (((), (), (p1, c1), (), (), (), ((p2, c2), (p3, c3), (p4, c4), (), ())), ((p5, c5), (p6, c6), (p7, c7), (p8, c8))) hI hΓ Z Z Z (by rw [hI.pin _ rfl]; first | done | rfl) (⟨(And.intro (ok_Consumer hq1.1).1 (And.intro (ok_Consumer hq1.1).2.1 (And.intro (ok_Consumer hq1.1).2.2.1 (And.intro (ok_Consumer hq1.1).2.2.2.1 (And.intro hq5.1 (And.intro trivial (ok_Consumer hq1.1).2.2.2.2.2.2)))))), ⟨hq1.2.1, ⟨hq5.2.1, hq5.2.2⟩⟩⟩)
   refine TS.op 2 Z J ?_
   refine R0 ?_
   refine WX.back0 ?_
   refine TX.tail [1, 3] Z Z J ?_
   refine R0 ?_
   have hP8 : a0i c_b c_i c_h = (Consumer.mk u1.node u1.index u1.name u1.attempts u14 u1.satisfied u1.data, u2, u15, u16) := by simp only [a0i, hu1, hu2, h1, h2, h3, hu5, cT, cF]
   have hz1 := hP8.symm.trans hres
   obtain ⟨hz1, hz2⟩ := Prod.mk.inj hz1
   obtain ⟨hz2, hz3⟩ := Prod.mk.inj hz2
   obtain ⟨hz3, hz4⟩ := Prod.mk.inj hz3
   subst hz1
   subst hz2
   subst hz3
   subst hz4
   refine R1 ?_
   intro w1 G bs hI hΓ
   exact Post.ofL 999 [10, 11, 12, 13, 14, 15, 16, 17] (((), (), (p1, c1), (), (), (), ((p2, c2), (p3, c3), (p4, c4), (), ())), ((p5, c5), (p6, c6), (p7, c7), (p8, c8))) hI hΓ Z Z Z (by rw [hI.pin _ rfl]; first | done | rfl) (⟨(And.intro (ok_Consumer hq1.1).1 (And.intro (ok_Consumer hq1.1).2.1 (And.intro (ok_Consumer hq1.1).2.2.1 (And.intro (ok_Consumer hq1.1).2.2.2.1 (And.intro hq5.1 (And.intro trivial (ok_Consumer hq1.1).2.2.2.2.2.2)))))), ⟨hq1.2.1, ⟨hq5.2.1, hq5.2.2⟩⟩⟩)
  refine TS.op 1 Z J ?_
  refine R0 ?_
  refine WX.back0 ?_
  refine TX.tail [0, 2, 3] Z Z J ?_
  refine R0 ?_
  have hP9 : a0i c_b c_i c_h = (Consumer.mk u1.node u1.index u1.name u1.attempts u14 u1.satisfied u1.data, u2, u15, u16) := by simp only [a0i, hu1, hu2, h1, h2, h3, hu5, cT, cF]
  have hz1 := hP9.symm.trans hres
  obtain ⟨hz1, hz2⟩ := Prod.mk.inj hz1
  obtain ⟨hz2, hz3⟩ := Prod.mk.inj hz2
  obtain ⟨hz3, hz4⟩ := Prod.mk.inj hz3
  subst hz1
  subst hz2
  subst hz3
  subst hz4
  refine R1 ?_
  intro w1 G bs hI hΓ
  exact Post.ofL 999 [10, 11, 12, 13, 14, 15, 16, 17] (((), (), (p1, c1), (), (), (), ((p2, c2), (p3, c3), (p4, c4), (), ())), ((p5, c5), (p6, c6), (p7, c7), (p8, c8))) hI hΓ Z Z Z (by rw [hI.pin _ rfl]; first | done | rfl) (⟨(And.intro (ok_Consumer hq1.1).1 (And.intro (ok_Consumer hq1.1).2.1 (And.intro (ok_Consumer hq1.1).2.2.1 (And.intro (ok_Consumer hq1.1).2.2.2.1 (And.intro hq5.1 (And.intro trivial (ok_Consumer hq1.1).2.2.2.2.2.2)))))), ⟨hq1.2.1, ⟨hq5.2.1, hq5.2.2⟩⟩⟩)
 have h3d := B.ef h3
 refine R0 ?_
 refine WX.cases 31 Z ?_ ?_ <;> intro h4
 ·skip
  have h4d := B.et h4
  refine R0 ?_
  refine WX.draw [0, 1, 2, 3] mixed ?_
  intro bs G0 hΓ0
  refine DX.toTX ?_
  intro S_
  refine TX.all2 0 1 J ?_ ?_
  ·skip
   refine TS.op 0 Z J ?_
   refine R0 ?_
   refine WX.back0 ?_
   refine TX.all2 1 2 J ?_ ?_
   ·skip
    refine TS.op 1 Z J ?_
    refine R0 ?_
    refine WX.back0 ?_
    refine TX.tail [2, 3] Z Z J ?_
    refine R0 ?_
    have hP10 : a0i c_b c_i c_h = (Consumer.mk u1.node u1.index u1.name u1.attempts u1.wait (!u1.satisfied) u1.data, u2, u6, u7) := by simp only [a0i, hu1, hu2, h1, h2, h3, h4, cT, cF]
    have hz1 := hP10.symm.trans hres
    obtain ⟨hz1, hz2⟩ := Prod.mk.inj hz1
    obtain ⟨hz2, hz3⟩ := Prod.mk.inj hz2
    obtain ⟨hz3, hz4⟩ := Prod.mk.inj hz3
    subst hz1
    subst hz2
    subst hz3
    subst hz4
    refine R1 ?_
    intro w1 G bs hI hΓ
    exact Post.ofL 999 [10, 11, 12, 13, 14, 15, 16, 17] (((), (), (p1, c1), (), (), (), ((p2, c2), (p3, c3), (p4, c4), (), ())), ((p5, c5), (p6, c6), (p7, c7), (p8, c8))) hI hΓ Z Z Z (by rw [hI.pin _ rfl]; first | done | rfl) (⟨hq1.1, ⟨hq1.2.1, ⟨hq2.2.1, hq2.2.2⟩⟩⟩)
   refine TS.op 2 Z J ?_
   refine R0 ?_
   refine WX.back0 ?_
   refine TX.tail [1, 3] Z Z J ?_
   refine R0 ?_
   have hP11 : a0i c_b c_i c_h = (Consumer.mk u1.node u1.index u1.name u1.attempts u1.wait (!u1.satisfied) u1.data, u2, u6, u7) := by simp only [a0i, hu1, hu2, h1, h2, h3, h4, cT, cF]
   have hz1 := hP11.symm.trans hres
   obtain ⟨hz1, hz2⟩ := Prod.mk.inj hz1
   obtain ⟨hz2, hz3⟩ := Prod.mk.inj hz2
   obtain ⟨hz3, hz4⟩ := Prod.mk.inj hz3
   subst hz1
   subst hz2
   subst hz3
   subst hz4
   refine R1 ?_
   intro w1 G bs hI hΓ
   exact Post.ofL 999 [10, 11, 12, 13, 14, 15, 16, 17] (((), (), (p1, c1), (), (), (), ((p2, c2), (p3, c3), (p4, c4), (), ())), ((p5, c5), (p6, c6), (p7, c7), (p8, c8))) hI hΓ Z Z Z (by rw [hI.pin _ rfl]; first | done | rfl) (⟨hq1.1, ⟨hq1.2.1, ⟨hq2.2.1, hq2.2.2⟩⟩⟩)
  refine TS.op 1 Z J ?_
  refine R0 ?_
  refine WX.back0 ?_
  refine TX.tail [0, 2, 3] Z Z J ?_
  refine R0 ?_
  have hP12 : a0i c_b c_i c_h = (Consumer.mk u1.node u1.index u1.name u1.attempts u1.wait (!u1.satisfied) u1.data, u2, u6, u7) := by simp only [a0i, hu1, hu2, h1, h2, h3, h4, cT, cF]
  have hz1 := hP12.symm.trans hres
  obtain ⟨hz1, hz2⟩ := Prod.mk.inj hz1
  obtain ⟨hz2, hz3⟩ := Prod.mk.inj hz2
  obtain ⟨hz3, hz4⟩ := Prod.mk.inj hz3
  subst hz1
  subst hz2
  subst hz3
  subst hz4
  refine R1 ?_
  intro w1 G bs hI hΓ
  exact Post.ofL 999 [10, 11, 12, 13, 14, 15, 16, 17] (((), (), (p1, c1), (), (), (), ((p2, c2), (p3, c3), (p4, c4), (), ())), ((p5, c5), (p6, c6), (p7, c7), (p8, c8))) hI hΓ Z Z Z (by rw [hI.pin _ rfl]; first | done | rfl) (⟨hq1.1, ⟨hq1.2.1, ⟨hq2.2.1, hq2.2.2⟩⟩⟩)
 have h4d := B.ef h4
 refine R0 ?_
 refine WX.cases 37 Z ?_ ?_ <;> intro h5
 ·skip
  have h5d := B.et h5
  refine R0 ?_
  obtain ⟨⟨u17, u18, u19⟩, hu6⟩ := xE (a0t c_b u6 u7)
  refine CQ 999 55 Z Z Z Z Z Z O Z (fun w β H η σ γ => f42 w n τ1 H η (β 999) c_b K0 M0 (γ.q 0 Z) u6 u7 σ hokc_b hq2.2.1 hq2.2.2 u17 u18 u19 hu6) ?_
  rintro ⟨p12, c9⟩ hq6
  have q2 := l4Any_len c_b u6 u7
  rw [hu6] at q2
  try dsimp only at q2
  refine R0 ?_
  refine WX.draw [0, 1, 2, 3] mixed ?_
  intro bs G0 hΓ0
  refine DX.toTX ?_
  intro S_
  refine TX.all2 0 1 J ?_ ?_
  ·skip
   refine TS.op 0 Z J ?_
   refine R0 ?_
   refine WX.back0 ?_
   refine TX.all2 1 2 J ?_ ?_
   ·skip
    refine TS.op 1 Z J ?_
    refine R0 ?_
    refine WX.back0 ?_
    refine TX.tail [2, 3] Z Z J ?_
    refine R0 ?_
    have hP13 : a0i c_b c_i c_h = (Consumer.mk u1.node u1.index u17 u1.attempts u1.wait u1.satisfied u1.data, u2, u18, u19) := by simp only [a0i, hu1, hu2, h1, h2, h3, h4, h5, hu6, cT, cF]
    have hz1 := hP13.symm.trans hres
    obtain ⟨hz1, hz2⟩ := Prod.mk.inj hz1
    obtain ⟨hz2, hz3⟩ := Prod.mk.inj hz2
    obtain ⟨hz3, hz4⟩ := Prod.mk.inj hz3
    subst hz1
    subst hz2
    subst hz3
    subst hz4
    refine R1 ?_
    intro w1 G bs hI hΓ
    exact Post.ofL 999 [56, 11, 12, 13, 14, 15, 16, 17] (((), (), (p12, c9), (), (), (), ((p2, c2), (p3, c3), (p4, c4), (), ())), ((p5, c5), (p6, c6), (p7, c7), (p8, c8))) hI hΓ Z Z Z (by rw [hI.pin _ rfl]; first | done | rfl) (⟨(And.intro (ok_Consumer hq1.1).1 (And.intro (ok_Consumer hq1.1).2.1 (And.intro hq6.1 (And.intro (ok_Consumer hq1.1).2.2.2.1 (And.intro (ok_Consumer hq1.1).2.2.2.2.1 (And.intro trivial (ok_Consumer hq1.1).2.2.2.2.2.2)))))), ⟨hq1.2.1, ⟨hq6.2.1, hq6.2.2⟩⟩⟩)
   refine TS.op 2 Z J ?_
   refine R0 ?_
   refine WX.back0 ?_
   refine TX.tail [1, 3] Z Z J ?_
   refine R0 ?_
   have hP14 : a0i c_b c_i c_h = (Consumer.mk u1.node u1.index u17 u1.attempts u1.wait u1.satisfied u1.data, u2, u18, u19) := by simp only [a0i, hu1, hu2, h1, h2, h3, h4, h5, hu6, cT, cF]
   have hz1 := hP14.symm.trans hres
   obtain ⟨hz1, hz2⟩ := Prod.mk.inj hz1
   obtain ⟨hz2, hz3⟩ := Prod.mk.inj hz2
   obtain ⟨hz3, hz4⟩ := Prod.mk.inj hz3
   subst hz1
   subst hz2
   subst hz3
   subst hz4
   refine R1 ?_
   intro w1 G bs hI hΓ
   exact Post.ofL 999 [56, 11, 12, 13, 14, 15, 16, 17] (((), (), (p12, c9), (), (), (), ((p2, c2), (p3, c3), (p4, c4), (), ())), ((p5, c5), (p6, c6), (p7, c7), (p8, c8))) hI hΓ Z Z Z (by rw [hI.pin _ rfl]; first | done | rfl) (⟨(And.intro (ok_Consumer hq1.1).1 (And.intro (ok_Consumer hq1.1).2.1 (And.intro hq6.1 (And.intro (ok_Consumer hq1.1).2.2.2.1 (And.intro (ok_Consumer hq1.1).2.2.2.2.1 (And.intro trivial (ok_Consumer hq1.1).2.2.2.2.2.2)))))), ⟨hq1.2.1, ⟨hq6.2.1, hq6.2.2⟩⟩⟩)
  refine TS.op 1 Z J ?_
  refine R0 ?_
  refine WX.back0 ?_
  refine TX.tail [0, 2, 3] Z Z J ?_
  refine R0 ?_
  have hP15 : a0i c_b c_i c_h = (Consumer.mk u1.node u1.index u17 u1.attempts u1.wait u1.satisfied u1.data, u2, u18, u19) := by simp only [a0i, hu1, hu2, h1, h2, h3, h4, h5, hu6, cT, cF]
  have hz1 := hP15.symm.trans hres
  obtain ⟨hz1, hz2⟩ := Prod.mk.inj hz1
  obtain ⟨hz2, hz3⟩ := Prod.mk.inj hz2
  obtain ⟨hz3, hz4⟩ := Prod.mk.inj hz3
  subst hz1
  subst hz2
  subst hz3
  subst hz4
  refine R1 ?_
  intro w1 G bs hI hΓ
  exact Post.ofL 999 [56, 11, 12, 13, 14, 15, 16, 17] (((), (), (p12, c9), (), (), (), ((p2, c2), (p3, c3), (p4, c4), (), ())), ((p5, c5), (p6, c6), (p7, c7), (p8, c8))) hI hΓ Z Z Z (by rw [hI.pin _ rfl]; first | done | rfl) (⟨(And.intro (ok_Consumer hq1.1).1 (And.intro (ok_Consumer hq1.1).2.1 (And.intro hq6.1 (And.intro (ok_Consumer hq1.1).2.2.2.1 (And.intro (ok_Consumer hq1.1).2.2.2.2.1 (And.intro trivial (ok_Consumer hq1.1).2.2.2.2.2.2)))))), ⟨hq1.2.1, ⟨hq6.2.1, hq6.2.2⟩⟩⟩)
 have h5d := B.ef h5
 refine R0 ?_
 refine WX.draw [0, 1, 2, 3] mixed ?_
 intro bs G0 hΓ0
 refine DX.toTX ?_
 intro S_
 refine TX.all2 0 1 J ?_ ?_
 ·skip
  refine TS.op 0 Z J ?_
  refine R0 ?_
  refine WX.back0 ?_
  refine TX.all2 1 2 J ?_ ?_
  ·skip
   refine TS.op 1 Z J ?_
   refine R0 ?_
   refine WX.back0 ?_
   refine TX.tail [2, 3] Z Z J ?_
   refine R0 ?_
   have hP16 : a0i c_b c_i c_h = (u1, u2, u6, u7) := by simp only [a0i, hu1, hu2, h1, h2, h3, h4, h5, cT, cF]
   have hz1 := hP16.symm.trans hres
   obtain ⟨hz1, hz2⟩ := Prod.mk.inj hz1
   obtain ⟨hz2, hz3⟩ := Prod.mk.inj hz2
   obtain ⟨hz3, hz4⟩ := Prod.mk.inj hz3
   subst hz1
   subst hz2
   subst hz3
   subst hz4
   refine R1 ?_
   intro w1 G bs hI hΓ
   exact Post.ofL 999 [10, 11, 12, 13, 14, 15, 16, 17] (((), (), (p1, c1), (), (), (), ((p2, c2), (p3, c3), (p4, c4), (), ())), ((p5, c5), (p6, c6), (p7, c7), (p8, c8))) hI hΓ Z Z Z (by rw [hI.pin _ rfl]; first | done | rfl) (⟨hq1.1, ⟨hq1.2.1, ⟨hq2.2.1, hq2.2.2⟩⟩⟩)
  refine TS.op 2 Z J ?_
  refine R0 ?_
  refine WX.back0 ?_
  refine TX.tail [1, 3] Z Z J ?_
  refine R0 ?_
  have hP17 : a0i c_b c_i c_h = (u1, u2, u6, u7) := by simp only [a0i, hu1, hu2, h1, h2, h3, h4, h5, cT, cF]
  have hz1 := hP17.symm.trans hres
  obtain ⟨hz1, hz2⟩ := Prod.mk.inj hz1
  obtain ⟨hz2, hz3⟩ := Prod.mk.inj hz2
  obtain ⟨hz3, hz4⟩ := Prod.mk.inj hz3
  subst hz1
  subst hz2
  subst hz3
  subst hz4
  refine R1 ?_
  intro w1 G bs hI hΓ
  exact Post.ofL 999 [10, 11, 12, 13, 14, 15, 16, 17] (((), (), (p1, c1), (), (), (), ((p2, c2), (p3, c3), (p4, c4), (), ())), ((p5, c5), (p6, c6), (p7, c7), (p8, c8))) hI hΓ Z Z Z (by rw [hI.pin _ rfl]; first | done | rfl) (⟨hq1.1, ⟨hq1.2.1, ⟨hq2.2.1, hq2.2.2⟩⟩⟩)
 refine TS.op 1 Z J ?_
 refine R0 ?_
 refine WX.back0 ?_
 refine TX.tail [0, 2, 3] Z Z J ?_
 refine R0 ?_
 have hP18 : a0i c_b c_i c_h = (u1, u2, u6, u7) := by simp only [a0i, hu1, hu2, h1, h2, h3, h4, h5, cT, cF]
 have hz1 := hP18.symm.trans hres
 obtain ⟨hz1, hz2⟩ := Prod.mk.inj hz1
 obtain ⟨hz2, hz3⟩ := Prod.mk.inj hz2
 obtain ⟨hz3, hz4⟩ := Prod.mk.inj hz3
 subst hz1
 subst hz2
 subst hz3
 subst hz4
 refine R1 ?_
 intro w1 G bs hI hΓ
 exact Post.ofL 999 [10, 11, 12, 13, 14, 15, 16, 17] (((), (), (p1, c1), (), (), (), ((p2, c2), (p3, c3), (p4, c4), (), ())), ((p5, c5), (p6, c6), (p7, c7), (p8, c8))) hI hΓ Z Z Z (by rw [hI.pin _ rfl]; first | done | rfl) (⟨hq1.1, ⟨hq1.2.1, ⟨hq2.2.1, hq2.2.2⟩⟩⟩)
theorem f29 (w : World) (n : Nat) (hn : n + 9 ≤ 9) (code : (List UInt8)) (K0 M0) (N0 : RdSl (hp w) K0 M0 code) (hokcode : GoT.ok n code) (o0_ : Consumer) (o1_ : TrustPolicy) (o2_ : Int) (o3_ : Int) (hres : a2k code = (o0_, o1_, o2_, o3_)) :
 Does Tryz.prog 29 #[.slice K0 ((code).length) M0] w emp (Post w emp (fun y_ : Nat × GoT.X (Consumer × TrustPolicy) => .tuple #[.pointer (some ⟨y_.1, 0, none⟩), .agg ⟨GoT.sh (o0_ : Consumer) y_.2.1⟩, .agg ⟨GoT.sh (o1_ : TrustPolicy) y_.2.2⟩]) (fun y_ => MF.bx y_.1 96 [.slice K0 ((code).length) M0, .int .i64 (o2_), .int .i64 (o3_)] :: GoT.oa ((o0_, o1_) : Consumer × TrustPolicy) y_.2) (GoT.ok n (o0_ : Consumer) ∧ GoT.ok n (o1_ : TrustPolicy) ∧ NN (o2_) ∧ I64 (o3_))) := by
 have hb := bS9 hn
 refine EN Tryz.func29 Z (aS1 N0) ?_
 refine R0 ?_
 obtain ⟨⟨u1, u2⟩, hu1⟩ := xE (a3b code)
 refine WX.callF (ds := fun _ => []) 1 (fun _ _ _ => All.nil) (fun _ f hf => by cases hf) Z Z Z Z Z O Z (fun w G bs hI hΓ => f40 w n τ1 code K0 M0 (hΓ.get 0 Z) hokcode u1 u2 hu1) O O ?_
 rintro bn1 hq1
 refine WX.adopt 9 1 Z Z Z ?_
 refine R0 ?_
 obtain ⟨⟨u3, u4, u5, u6⟩, hu2⟩ := xE (a0i code u1 u2)
 refine CQ 9 2 Z Z Z Z Z Z O Z (fun w β H η σ γ => f43 w n τ1 H η (β 9) code K0 M0 (γ.q 0 Z) u1 u2 σ hokcode hq1.1 hq1.2 u3 u4 u5 u6 hu2) ?_
 rintro ⟨⟨⟨⟩, ⟨⟩, ⟨p1, c1⟩, ⟨⟩, ⟨⟩, ⟨⟩, ⟨⟨p2, c2⟩, ⟨p3, c3⟩, ⟨p4, c4⟩, ⟨⟩, ⟨⟩⟩⟩, ⟨⟨p5, c5⟩, ⟨p6, c6⟩, ⟨p7, c7⟩, ⟨p8, c8⟩⟩⟩ hq2
 refine R0 ?_
 refine WX.draw [1, 2, 4, 5] mixed ?_
 intro bs G0 hΓ0
 refine DX.takes (fuel := 4) ttOk [(0, true), (3, true)] J Z ?_
 refine DX.toTX ?_
 intro S_
 refine TX.all2 1 2 J ?_ ?_
 ·skip
  refine TS.op 1 Z J ?_
  refine R0 ?_
  refine WX.back0 ?_
  refine TX.all2 2 4 J ?_ ?_
  ·skip
   refine TS.op 2 Z J ?_
   refine R0 ?_
   refine WX.back0 ?_
   refine TX.tail [4, 5] Z Z J ?_
   refine R0 ?_
   have hP1 : a2k code = (u3, u4, u5, u6) := by simp only [a2k, hu1, hu2, cT, cF]
   have hz1 := hP1.symm.trans hres
   obtain ⟨hz1, hz2⟩ := Prod.mk.inj hz1
   obtain ⟨hz2, hz3⟩ := Prod.mk.inj hz2
   obtain ⟨hz3, hz4⟩ := Prod.mk.inj hz3
   subst hz1
   subst hz2
   subst hz3
   subst hz4
   refine WX.retX ttOk Z ?_
   intro w1 G bs hI hΓ
   exact Post.ofL 9 [10, 11, 12, 13, 14, 15, 16, 17] (bs 9, (((), (), (p1, c1), (), (), (), ((p2, c2), (p3, c3), (p4, c4), (), ())), ((p5, c5), (p6, c6), (p7, c7), (p8, c8)))) hI hΓ Z Z Z Z (⟨hq2.1, ⟨hq2.2.1, ⟨hq2.2.2.1, hq2.2.2.2⟩⟩⟩)
  refine TS.op 4 Z J ?_
  refine R0 ?_
  refine WX.back0 ?_
  refine TX.tail [2, 5] Z Z J ?_
  refine R0 ?_
  have hP2 : a2k code = (u3, u4, u5, u6) := by simp only [a2k, hu1, hu2, cT, cF]
  have hz1 := hP2.symm.trans hres
  obtain ⟨hz1, hz2⟩ := Prod.mk.inj hz1
  obtain ⟨hz2, hz3⟩ := Prod.mk.inj hz2
  obtain ⟨hz3, hz4⟩ := Prod.mk.inj hz3
  subst hz1
  subst hz2
  subst hz3
  subst hz4
  refine WX.retX ttOk Z ?_
  intro w1 G bs hI hΓ
  exact Post.ofL 9 [10, 11, 12, 13, 14, 15, 16, 17] (bs 9, (((), (), (p1, c1), (), (), (), ((p2, c2), (p3, c3), (p4, c4), (), ())), ((p5, c5), (p6, c6), (p7, c7), (p8, c8)))) hI hΓ Z Z Z Z (⟨hq2.1, ⟨hq2.2.1, ⟨hq2.2.2.1, hq2.2.2.2⟩⟩⟩)
 refine TS.op 2 Z J ?_
 refine R0 ?_
 refine WX.back0 ?_
 refine TX.tail [1, 4, 5] Z Z J ?_
 refine R0 ?_
 have hP3 : a2k code = (u3, u4, u5, u6) := by simp only [a2k, hu1, hu2, cT, cF]
 have hz1 := hP3.symm.trans hres
 obtain ⟨hz1, hz2⟩ := Prod.mk.inj hz1
 obtain ⟨hz2, hz3⟩ := Prod.mk.inj hz2
 obtain ⟨hz3, hz4⟩ := Prod.mk.inj hz3
 subst hz1
 subst hz2
 subst hz3
 subst hz4
 refine WX.retX ttOk Z ?_
 intro w1 G bs hI hΓ
 exact Post.ofL 9 [10, 11, 12, 13, 14, 15, 16, 17] (bs 9, (((), (), (p1, c1), (), (), (), ((p2, c2), (p3, c3), (p4, c4), (), ())), ((p5, c5), (p6, c6), (p7, c7), (p8, c8)))) hI hΓ Z Z Z Z (⟨hq2.1, ⟨hq2.2.1, ⟨hq2.2.2.1, hq2.2.2.2⟩⟩⟩)
theorem f5 (w : World) (n : Nat) (hn : n + 9 ≤ 9) (code : (List UInt8)) (K0 M0) (N0 : RdSl (hp w) K0 M0 code) (hokcode : GoT.ok n code) :
 Does Tryz.prog 5 #[.slice K0 ((code).length) M0] w emp (Post w emp (fun x : GoT.X (Consumer) => .agg ⟨GoT.sh ((a04 code) : Consumer) x⟩) (fun x => GoT.oa ((a04 code) : Consumer) x) (GoT.ok n ((a04 code) : Consumer))) := by
 have hb := bS9 hn
 refine EN Tryz.func5 Z (aS1 N0) ?_
 refine R0 ?_
 obtain ⟨⟨u1, u2, u3, u4⟩, hu1⟩ := xE (a2k code)
 refine WX.callF (ds := fun y_ : Nat × GoT.X (Consumer × TrustPolicy) => GoT.fa .der ((u1, u2) : Consumer × TrustPolicy) y_.2) 1 (fun _ _ h => bx_rd h) (fun _ f hf => GoT.fak f hf) Z Z Z Z Z O Z (fun w G bs hI hΓ => f29 w n τ1 code K0 M0 (hΓ.get 0 Z) hokcode u1 u2 u3 u4 hu1) O O ?_
 rintro ⟨bn1, ⟨⟨⟨⟩, ⟨⟩, ⟨p1, c1⟩, ⟨⟩, ⟨⟩, ⟨⟩, ⟨⟨p2, c2⟩, ⟨p3, c3⟩, ⟨p4, c4⟩, ⟨⟩, ⟨⟩⟩⟩, ⟨⟨p5, c5⟩, ⟨p6, c6⟩, ⟨p7, c7⟩, ⟨p8, c8⟩⟩⟩⟩ hq1
 refine WX.runN 2 ttOk Z ?_
 refine WX.adopt 9 9 Z Z Z ?_
 refine R0 ?_
 have hP1 : a04 code = u1 := by simp only [a04, hu1, cT, cF]
 refine R1 ?_
 intro w1 G bs hI hΓ
 rw [hP1]
 exact Post.of [10, 11, 12, 13] ((), (), (p1, c1), (), (), (), ((p2, c2), (p3, c3), (p4, c4), (), ())) hI hΓ Z Z Z hq1.1
set_option maxRecDepth 100000 in
set_option maxHeartbeats 0 in
theorem f8 (w : World) (n : Nat) (hn : n + 9 ≤ 9) (code : (List UInt8)) (K0 M0) (N0 : RdSl (hp w) K0 M0 code) (hokcode : GoT.ok n code) :
 Does Tryz.prog 8 #[.slice K0 ((code).length) M0] w emp (Post w emp (fun x : GoT.X (Consumer × TrustPolicy × DataP) => .tuple #[.agg ⟨GoT.sh ((a03 code).1 : Consumer) x.1⟩, .agg ⟨GoT.sh ((a03 code).2.1 : TrustPolicy) x.2.1⟩, .agg ⟨GoT.sh ((a03 code).2.2.1 : DataP) x.2.2⟩, .int .i64 ((a03 code).2.2.2)]) (fun x => GoT.oa (((a03 code).1, (a03 code).2.1, (a03 code).2.2.1) : Consumer × TrustPolicy × DataP) x) (GoT.ok n ((a03 code).1 : Consumer) ∧ GoT.ok n ((a03 code).2.1 : TrustPolicy) ∧ GoT.ok n ((a03 code).2.2.1 : DataP) ∧ GoT.ok n ((a03 code).2.2.2 : Int))) := by
 have hb := bS9 hn
 refine EN Tryz.func8 Z (aS1 N0) ?_
 refine R0 ?_
 obtain ⟨⟨u1, u2, u3, u4⟩, hu1⟩ := xE (a2k code)
 refine WX.callF (ds := fun y_ : Nat × GoT.X (Consumer × TrustPolicy) => GoT.fa .der ((u1, u2) : Consumer × TrustPolicy) y_.2) 1 (fun _ _ h => bx_rd h) (fun _ f hf => GoT.fak f hf) Z Z Z Z Z O Z (fun w G bs hI hΓ => f29 w n τ1 code K0 M0 (hΓ.get 0 Z) hokcode u1 u2 u3 u4 hu1) O O ?_
 rintro ⟨bn1, ⟨⟨⟨⟩, ⟨⟩, ⟨p1, c1⟩, ⟨⟩, ⟨⟩, ⟨⟩, ⟨⟨p2, c2⟩, ⟨p3, c3⟩, ⟨p4, c4⟩, ⟨⟩, ⟨⟩⟩⟩, ⟨⟨p5, c5⟩, ⟨p6, c6⟩, ⟨p7, c7⟩, ⟨p8, c8⟩⟩⟩⟩ hq1
 refine WX.runN 2 ttOk Z ?_
 refine WX.adopt 13 9 Z Z Z ?_
 refine R0 ?_
 refine WX.der 18 (MF.rs .der p5 c5 u2.keys) Z (fun _ hΓ => (hΓ.get 14 Z : OwSl _ _ _ _).rd) ?_
 refine WX.der 19 (MF.rs .der p6 c6 u2.rules) Z (fun _ hΓ => (hΓ.get 15 Z : OwSl _ _ _ _).rd) ?_
 refine WX.der 20 (MF.rs .der p7 c7 u2.anchors) Z (fun _ hΓ => (hΓ.get 16 Z : OwSl _ _ _ _).rd) ?_
 refine WX.der 21 (MF.rs .der p8 c8 u2.certificates) Z (fun _ hΓ => (hΓ.get 17 Z : OwSl _ _ _ _).rd) ?_
 obtain ⟨⟨u5, u6, u7⟩, hu2⟩ := xE (a1i code u3 u4 u2)
 refine CQ 13 22 Z Z Z Z Z Z O Z (fun w β H η σ γ => f34 w n τ1 H η (β 13) code K0 M0 (γ.q 0 Z) u3 u4 u2 p5 c5 (γ.q 18 Z) p6 c6 (γ.q 19 Z) p7 c7 (γ.q 20 Z) p8 c8 (γ.q 21 Z) σ hokcode hq1.2.2.1 hq1.2.2.2 hq1.2.1 u5 u6 u7 hu2) ?_
 rintro ⟨⟨p9, c9⟩, ⟨p10, c10⟩, ⟨p11, c11⟩, ⟨⟩, ⟨⟩⟩ hq2
 refine R0 ?_
 obtain ⟨⟨u8, u9, u10⟩, hu3⟩ := xE (a1b code u6 u7 2)
 refine CP 13 28 Z Z Z Z Z Z O Z (fun w β H η σ γ => f35 w n τ1 H η (β 13) code K0 M0 (γ.q 0 Z) u6 u7 2 σ hokcode hq2.2.1 hq2.2.2 (i6 2) u8 u9 u10 hu3) ?_
 rintro ⟨⟩ hq3
 refine R0 ?_
 refine WX.cases 21 Z ?_ ?_ <;> intro h1
 ·skip
  refine R0 ?_
  refine WX.cases 27 Z ?_ ?_ <;> intro h2
  ·skip
   have h2d : (((u1.name.parts).length : Nat) : Int) = 2 := B.et h2
   refine R0 ?_
   refine WX.der 29 (MF.rs .der p1 c1 u1.name.parts) Z (fun _ hΓ => (hΓ.get 10 Z : OwSl _ _ _ _).rd) ?_
   refine WX.der 30 (MF.rs .der p2 c2 u1.data.name.parts) Z (fun _ hΓ => (hΓ.get 11 Z : OwSl _ _ _ _).rd) ?_
   refine WX.der 31 (MF.rs .der p3 c3 u1.data.content) Z (fun _ hΓ => (hΓ.get 12 Z : OwSl _ _ _ _).rd) ?_
   refine WX.der 32 (MF.rs .der p4 c4 u1.data.keyName.parts) Z (fun _ hΓ => (hΓ.get 13 Z : OwSl _ _ _ _).rd) ?_
   refine WX.draw [17] mixed ?_
   intro bs G0 hΓ0
   refine DX.takes (fuel := 13) ttOk [(0, true), (1, false), (2, true), (3, true), (4, false)] J Z ?_
   have e1i : 0 < (u1.name.parts).length := τ6
   obtain ⟨e1, e1h⟩ : ∃ e1, (u1.name.parts)[0]? = some e1 := ⟨_, List.getElem?_eq_getElem e1i⟩
   have ok1 : GoT.ok n e1 := (okl (ok_Name (ok_Consumer hq1.1).2.2.1)).2 _ (List.mem_of_getElem? e1h)
   refine DX.idx 5 29 0 ttOk hΓ0 J Z Z Z Z Z Z Z Z Z Z Z e1i ?_
   rintro ad1 rfl
   refine DX.ldE 6 29 33 e1 ttOk hΓ0 J Z Z Z Z Z Z Z Z e1h O O ?_
   rintro ⟨⟩
   have r1 : (⟨#[47]⟩ : Str).size = 1 := rfl
   have r2 : (e1).size ≤ bd n := ok1
   refine DX.see 7 J Z Z Z Z (looks_cat Z Z Z (by have := bd_le (n + 9); simp; omega)) ?_
   have r3 : (⟨#[47, 107, 101, 121]⟩ : Str).size = 4 := rfl
   refine DX.see 8 J Z Z Z Z (looks_cat Z Z Z (by have := bd_le (n + 9); simp; omega)) ?_
   refine DX.takes (fuel := 7) ttOk [(10, true), (11, false)] J Z ?_
   refine DX.toTX ?_
   intro S_
   refine TX.toP ?_
   refine TXP.pend (PI.lit 12 41 1 5 [.int .u8 (((1 : UInt8)).toNat : Nat)] []) (lit_ok ttOk Z Z Z Z Z Z Z) .nil Z J Z ?_
   refine TPF 9 33 J J Z Z Z Z Z Z Z O Z (fun w γ => f37 w (n + 2) τ1 (((⟨#[47]⟩ : Str) ++ e1) ++ (⟨#[47, 107, 101, 121]⟩ : Str)) (show ((((⟨#[47]⟩ : Str) ++ e1) ++ (⟨#[47, 107, 101, 121]⟩ : Str))).size ≤ bd (n + 2) from τ3)) ?_
   rintro ⟨p12, c12⟩ hq4
   refine TXP.settleS (α := UInt8) (l := [(1 : UInt8)]) 0 35 Z Z Z ⟨(), _, emp, _, Z, emp_le _, Le.refl _, emp_dj _, trivial, Z⟩ J Z ?_
   intro p13
   refine TXP.done ?_
   refine TX.all1 13 J ?_
   refine TSF 13 36 Z Z Z Z Z Z O Z (fun w γ => f36 w (n + 2) τ1 u2.keys p5 c5 (γ.q 18 Z) (a02 (((⟨#[47]⟩ : Str) ++ e1) ++ (⟨#[47, 107, 101, 121]⟩ : Str))) p12 c12 (γ.q 33 Z) u1.name (some ad1) c1 (γ.q 29 Z) ([(1 : UInt8)] : List UInt8) p13 1 (γ.q 35 Z) 4000 (GoT.okm (α := List Key) τ1 (ok_TrustPolicy hq1.2.1).1) hq4 (GoT.okm (α := List Str) τ1 (ok_Name (ok_Consumer hq1.1).2.2.1)) (okl_mk τ3 (fun _ _ => trivial) : GoT.ok (n + 2) (([(1 : UInt8)] : List UInt8) : List UInt8)) (i6 4000)) ?_
   rintro ⟨⟨p14, c13⟩, ⟨p15, c14⟩, ⟨p16, c15⟩, ⟨⟩, ⟨⟩⟩ hq5
   refine TX.takes (fuel := 1) ttOk [14, 15, 16] J Z ?_
   refine TX.tail [17] Z Z J ?_
   refine R0 ?_
   refine WX.draw [0, 1, 2, 3, 4, 5, 6] mixed ?_
   intro bs G0 hΓ0
   refine DX.toTX ?_
   intro S_
   refine TX.all3 0 1 2 J ?_ ?_ ?_
   ·skip
    refine TS.op 0 Z J ?_
    refine R0 ?_
    refine WX.back0 ?_
    refine TX.all3 1 2 3 J ?_ ?_ ?_
    ·skip
     refine TS.op 1 Z J ?_
     refine R0 ?_
     refine WX.back0 ?_
     refine TX.all2 2 3 J ?_ ?_
     ·skip
      refine TS.op 2 Z J ?_
      refine R0 ?_
      refine WX.back0 ?_
      refine TX.tail [3, 4, 5, 6] Z Z J ?_
      refine R0 ?_
      have hP1 : a03 code = (u1, u2, (a08 u2.keys (a02 (((⟨#[47]⟩ : Str) ++ e1) ++ (⟨#[47, 107, 101, 121]⟩ : Str))) u1.name ([(1 : UInt8)] : List UInt8) 4000).1, 50) := by simp only [a03, hu1, hu2, hu3, h1, h2, e1h, cT, cF]
      refine R1 ?_
      intro w1 G bs hI hΓ
      rw [hP1]
      exact Post.of [10, 11, 12, 13, 14, 15, 16, 17, 39, 40, 41] (((), (), ((some ad1), c1), (), (), (), ((p2, c2), (p3, c3), (p4, c4), (), ())), ((p5, c5), (p6, c6), (p7, c7), (p8, c8)), ((p14, c13), (p15, c14), (p16, c15), (), ())) hI hΓ Z Z Z (⟨hq1.1, ⟨hq1.2.1, ⟨(by have z_ := (show GoT.ok 0 (a03 code).2.2.1 from dad_ok code); rw [hP1] at z_; exact GoT.okm τ1 z_), (i6 50)⟩⟩⟩)
     refine TS.op 3 Z J ?_
     refine R0 ?_
     refine WX.back0 ?_
     refine TX.all2 2 4 J ?_ ?_
     ·skip
      refine TS.op 2 Z J ?_
      refine R0 ?_
      refine WX.back0 ?_
      refine TX.tail [4, 5, 6] Z Z J ?_
      refine R0 ?_
      have hP2 : a03 code = (u1, u2, (a08 u2.keys (a02 (((⟨#[47]⟩ : Str) ++ e1) ++ (⟨#[47, 107, 101, 121]⟩ : Str))) u1.name ([(1 : UInt8)] : List UInt8) 4000).1, 50) := by simp only [a03, hu1, hu2, hu3, h1, h2, e1h, cT, cF]
      refine R1 ?_
      intro w1 G bs hI hΓ
      rw [hP2]
      exact Post.of [10, 11, 12, 13, 14, 15, 16, 17, 39, 40, 41] (((), (), ((some ad1), c1), (), (), (), ((p2, c2), (p3, c3), (p4, c4), (), ())), ((p5, c5), (p6, c6), (p7, c7), (p8, c8)), ((p14, c13), (p15, c14), (p16, c15), (), ())) hI hΓ Z Z Z (⟨hq1.1, ⟨hq1.2.1, ⟨(by have z_ := (show GoT.ok 0 (a03 code).2.2.1 from dad_ok code); rw [hP2] at z_; exact GoT.okm τ1 z_), (i6 50)⟩⟩⟩)
     refine TS.op 4 Z J ?_
     refine R0 ?_
     refine WX.back0 ?_
     refine TX.tail [2, 5, 6] Z Z J ?_
     refine R0 ?_
     have hP3 : a03 code = (u1, u2, (a08 u2.keys (a02 (((⟨#[47]⟩ : Str) ++ e1) ++ (⟨#[47, 107, 101, 121]⟩ : Str))) u1.name ([(1 : UInt8)] : List UInt8) 4000).1, 50) := by simp only [a03, hu1, hu2, hu3, h1, h2, e1h, cT, cF]
     refine R1 ?_
     intro w1 G bs hI hΓ
     rw [hP3]
     exact Post.of [10, 11, 12, 13, 14, 15, 16, 17, 39, 40, 41] (((), (), ((some ad1), c1), (), (), (), ((p2, c2), (p3, c3), (p4, c4), (), ())), ((p5, c5), (p6, c6), (p7, c7), (p8, c8)), ((p14, c13), (p15, c14), (p16, c15), (), ())) hI hΓ Z Z Z (⟨hq1.1, ⟨hq1.2.1, ⟨(by have z_ := (show GoT.ok 0 (a03 code).2.2.1 from dad_ok code); rw [hP3] at z_; exact GoT.okm τ1 z_), (i6 50)⟩⟩⟩)
    ·skip
     refine TS.op 2 Z J ?_
     refine R0 ?_
     refine WX.back0 ?_
     refine TX.all2 1 3 J ?_ ?_
     ·skip
      refine TS.op 1 Z J ?_
      refine R0 ?_
      refine WX.back0 ?_
      refine TX.tail [3, 4, 5, 6] Z Z J ?_
      refine R0 ?_
      have hP4 : a03 code = (u1, u2, (a08 u2.keys (a02 (((⟨#[47]⟩ : Str) ++ e1) ++ (⟨#[47, 107, 101, 121]⟩ : Str))) u1.name ([(1 : UInt8)] : List UInt8) 4000).1, 50) := by simp only [a03, hu1, hu2, hu3, h1, h2, e1h, cT, cF]
      refine R1 ?_
      intro w1 G bs hI hΓ
      rw [hP4]
      exact Post.of [10, 11, 12, 13, 14, 15, 16, 17, 39, 40, 41] (((), (), ((some ad1), c1), (), (), (), ((p2, c2), (p3, c3), (p4, c4), (), ())), ((p5, c5), (p6, c6), (p7, c7), (p8, c8)), ((p14, c13), (p15, c14), (p16, c15), (), ())) hI hΓ Z Z Z (⟨hq1.1, ⟨hq1.2.1, ⟨(by have z_ := (show GoT.ok 0 (a03 code).2.2.1 from dad_ok code); rw [hP4] at z_; exact GoT.okm τ1 z_), (i6 50)⟩⟩⟩)
     refine TS.op 3 Z J ?_
     refine R0 ?_
     refine WX.back0 ?_
     refine TX.tail [1, 4, 5, 6] Z Z J ?_
     refine R0 ?_
     have hP5 : a03 code = (u1, u2, (a08 u2.keys (a02 (((⟨#[47]⟩ : Str) ++ e1) ++ (⟨#[47, 107, 101, 121]⟩ : Str))) u1.name ([(1 : UInt8)] : List UInt8) 4000).1, 50) := by simp only [a03, hu1, hu2, hu3, h1, h2, e1h, cT, cF]
     refine R1 ?_
     intro w1 G bs hI hΓ
     rw [hP5]
     exact Post.of [10, 11, 12, 13, 14, 15, 16, 17, 39, 40, 41] (((), (), ((some ad1), c1), (), (), (), ((p2, c2), (p3, c3), (p4, c4), (), ())), ((p5, c5), (p6, c6), (p7, c7), (p8, c8)), ((p14, c13), (p15, c14), (p16, c15), (), ())) hI hΓ Z Z Z (⟨hq1.1, ⟨hq1.2.1, ⟨(by have z_ := (show GoT.ok 0 (a03 code).2.2.1 from dad_ok code); rw [hP5] at z_; exact GoT.okm τ1 z_), (i6 50)⟩⟩⟩)
    refine TS.op 3 Z J ?_
    refine R0 ?_
    refine WX.back0 ?_
    refine TX.all2 1 2 J ?_ ?_
    ·skip
     refine TS.op 1 Z J ?_
     refine R0 ?_
     refine WX.back0 ?_
     refine TX.all2 2 4 J ?_ ?_
     ·skip
      refine TS.op 2 Z J ?_
      refine R0 ?_
      refine WX.back0 ?_
      refine TX.tail [4, 5, 6] Z Z J ?_
      refine R0 ?_
      have hP6 : a03 code = (u1, u2, (a08 u2.keys (a02 (((⟨#[47]⟩ : Str) ++ e1) ++ (⟨#[47, 107, 101, 121]⟩ : Str))) u1.name ([(1 : UInt8)] : List UInt8) 4000).1, 50) := by simp only [a03, hu1, hu2, hu3, h1, h2, e1h, cT, cF]
      refine R1 ?_
      intro w1 G bs hI hΓ
      rw [hP6]
      exact Post.of [10, 11, 12, 13, 14, 15, 16, 17, 39, 40, 41] (((), (), ((some ad1), c1), (), (), (), ((p2, c2), (p3, c3), (p4, c4), (), ())), ((p5, c5), (p6, c6), (p7, c7), (p8, c8)), ((p14, c13), (p15, c14), (p16, c15), (), ())) hI hΓ Z Z Z (⟨hq1.1, ⟨hq1.2.1, ⟨(by have z_ := (show GoT.ok 0 (a03 code).2.2.1 from dad_ok code); rw [hP6] at z_; exact GoT.okm τ1 z_), (i6 50)⟩⟩⟩)
     refine TS.op 4 Z J ?_
     refine R0 ?_
     refine WX.back0 ?_
     refine TX.tail [2, 5, 6] Z Z J ?_
     refine R0 ?_
     have hP7 : a03 code = (u1, u2, (a08 u2.keys (a02 (((⟨#[47]⟩ : Str) ++ e1) ++ (⟨#[47, 107, 101, 121]⟩ : Str))) u1.name ([(1 : UInt8)] : List UInt8) 4000).1, 50) := by simp only [a03, hu1, hu2, hu3, h1, h2, e1h, cT, cF]
     refine R1 ?_
     intro w1 G bs hI hΓ
     rw [hP7]
     exact Post.of [10, 11, 12, 13, 14, 15, 16, 17, 39, 40, 41] (((), (), ((some ad1), c1), (), (), (), ((p2, c2), (p3, c3), (p4, c4), (), ())), ((p5, c5), (p6, c6), (p7, c7), (p8, c8)), ((p14, c13), (p15, c14), (p16, c15), (), ())) hI hΓ Z Z Z (⟨hq1.1, ⟨hq1.2.1, ⟨(by have z_ := (show GoT.ok 0 (a03 code).2.2.1 from dad_ok code); rw [hP7] at z_; exact GoT.okm τ1 z_), (i6 50)⟩⟩⟩)
    refine TS.op 2 Z J ?_
    refine R0 ?_
    refine WX.back0 ?_
    refine TX.tail [1, 4, 5, 6] Z Z J ?_
    refine R0 ?_
    have hP8 : a03 code = (u1, u2, (a08 u2.keys (a02 (((⟨#[47]⟩ : Str) ++ e1) ++ (⟨#[47, 107, 101, 121]⟩ : Str))) u1.name ([(1 : UInt8)] : List UInt8) 4000).1, 50) := by simp only [a03, hu1, hu2, hu3, h1, h2, e1h, cT, cF]
    refine R1 ?_
    intro w1 G bs hI hΓ
    rw [hP8]
    exact Post.of [10, 11, 12, 13, 14, 15, 16, 17, 39, 40, 41] (((), (), ((some ad1), c1), (), (), (), ((p2, c2), (p3, c3), (p4, c4), (), ())), ((p5, c5), (p6, c6), (p7, c7), (p8, c8)), ((p14, c13), (p15, c14), (p16, c15), (), ())) hI hΓ Z Z Z (⟨hq1.1, ⟨hq1.2.1, ⟨(by have z_ := (show GoT.ok 0 (a03 code).2.2.1 from dad_ok code); rw [hP8] at z_; exact GoT.okm τ1 z_), (i6 50)⟩⟩⟩)
   ·skip
    refine TS.op 1 Z J ?_
    refine R0 ?_
    refine WX.back0 ?_
    refine TX.all2 0 2 J ?_ ?_
    ·skip
     refine TS.op 0 Z J ?_
     refine R0 ?_
     refine WX.back0 ?_
     refine TX.all2 2 3 J ?_ ?_
     ·skip
      refine TS.op 2 Z J ?_
      refine R0 ?_
      refine WX.back0 ?_
      refine TX.tail [3, 4, 5, 6] Z Z J ?_
      refine R0 ?_
      have hP9 : a03 code = (u1, u2, (a08 u2.keys (a02 (((⟨#[47]⟩ : Str) ++ e1) ++ (⟨#[47, 107, 101, 121]⟩ : Str))) u1.name ([(1 : UInt8)] : List UInt8) 4000).1, 50) := by simp only [a03, hu1, hu2, hu3, h1, h2, e1h, cT, cF]
      refine R1 ?_
      intro w1 G bs hI hΓ
      rw [hP9]
      exact Post.of [10, 11, 12, 13, 14, 15, 16, 17, 39, 40, 41] (((), (), ((some ad1), c1), (), (), (), ((p2, c2), (p3, c3), (p4, c4), (), ())), ((p5, c5), (p6, c6), (p7, c7), (p8, c8)), ((p14, c13), (p15, c14), (p16, c15), (), ())) hI hΓ Z Z Z (⟨hq1.1, ⟨hq1.2.1, ⟨(by have z_ := (show GoT.ok 0 (a03 code).2.2.1 from dad_ok code); rw [hP9] at z_; exact GoT.okm τ1 z_), (i6 50)⟩⟩⟩)
     refine TS.op 3 Z J ?_
     refine R0 ?_
     refine WX.back0 ?_
     refine TX.all2 2 4 J ?_ ?_
     ·skip
      refine TS.op 2 Z J ?_
      refine R0 ?_
      refine WX.back0 ?_
      refine TX.tail [4, 5, 6] Z Z J ?_
      refine R0 ?_
      have hP10 : a03 code = (u1, u2, (a08 u2.keys (a02 (((⟨#[47]⟩ : Str) ++ e1) ++ (⟨#[47, 107, 101, 121]⟩ : Str))) u1.name ([(1 : UInt8)] : List UInt8) 4000).1, 50) := by simp only [a03, hu1, hu2, hu3, h1, h2, e1h, cT, cF]
      refine R1 ?_
      intro w1 G bs hI hΓ
      rw [hP10]
      exact Post.of [10, 11, 12, 13, 14, 15, 16, 17, 39, 40, 41] (((), (), ((some ad1), c1), (), (), (), ((p2, c2), (p3, c3), (p4, c4), (), ())), ((p5, c5), (p6, c6), (p7, c7), (p8, c8)), ((p14, c13), (p15, c14), (p16, c15), (), ())) hI hΓ Z Z Z (⟨hq1.1, ⟨hq1.2.1, ⟨(by have z_ := (show GoT.ok 0 (a03 code).2.2.1 from dad_ok code); rw [hP10] at z_; exact GoT.okm τ1 z_), (i6 50)⟩⟩⟩)
     refine TS.op 4 Z J ?_
     refine R0 ?_
     refine WX.back0 ?_
     refine TX.tail [2, 5, 6] Z Z J ?_
     refine R0 ?_
     have hP11 : a03 code = (u1, u2, (a08 u2.keys (a02 (((⟨#[47]⟩ : Str) ++ e1) ++ (⟨#[47, 107, 101, 121]⟩ : Str))) u1.name ([(1 : UInt8)] : List UInt8) 4000).1, 50) := by simp only [a03, hu1, hu2, hu3, h1, h2, e1h, cT, cF]
     refine R1 ?_
     intro w1 G bs hI hΓ
     rw [hP11]
     exact Post.of [10, 11, 12, 13, 14, 15, 16, 17, 39, 40, 41] (((), (), ((some ad1), c1), (), (), (), ((p2, c2), (p3, c3), (p4, c4), (), ())), ((p5, c5), (p6, c6), (p7, c7), (p8, c8)), ((p14, c13), (p15, c14), (p16, c15), (), ())) hI hΓ Z Z Z (⟨hq1.1, ⟨hq1.2.1, ⟨(by have z_ := (show GoT.ok 0 (a03 code).2.2.1 from dad_ok code); rw [hP11] at z_; exact GoT.okm τ1 z_), (i6 50)⟩⟩⟩)
    refine TS.op 2 Z J ?_
    refine R0 ?_
    refine WX.back0 ?_
    refine TX.tail [0, 3, 4, 5, 6] Z Z J ?_
    refine R0 ?_
    have hP12 : a03 code = (u1, u2, (a08 u2.keys (a02 (((⟨#[47]⟩ : Str) ++ e1) ++ (⟨#[47, 107, 101, 121]⟩ : Str))) u1.name ([(1 : UInt8)] : List UInt8) 4000).1, 50) := by simp only [a03, hu1, hu2, hu3, h1, h2, e1h, cT, cF]
    refine R1 ?_
    intro w1 G bs hI hΓ
    rw [hP12]
    exact Post.of [10, 11, 12, 13, 14, 15, 16, 17, 39, 40, 41] (((), (), ((some ad1), c1), (), (), (), ((p2, c2), (p3, c3), (p4, c4), (), ())), ((p5, c5), (p6, c6), (p7, c7), (p8, c8)), ((p14, c13), (p15, c14), (p16, c15), (), ())) hI hΓ Z Z Z (⟨hq1.1, ⟨hq1.2.1, ⟨(by have z_ := (show GoT.ok 0 (a03 code).2.2.1 from dad_ok code); rw [hP12] at z_; exact GoT.okm τ1 z_), (i6 50)⟩⟩⟩)
   refine TS.op 2 Z J ?_
   refine R0 ?_
   refine WX.back0 ?_
   refine TX.all2 0 1 J ?_ ?_
   ·skip
    refine TS.op 0 Z J ?_
    refine R0 ?_
    refine WX.back0 ?_
    refine TX.all2 1 3 J ?_ ?_
    ·skip
     refine TS.op 1 Z J ?_
     refine R0 ?_
     refine WX.back0 ?_
     refine TX.tail [3, 4, 5, 6] Z Z J ?_
     refine R0 ?_
     have hP13 : a03 code = (u1, u2, (a08 u2.keys (a02 (((⟨#[47]⟩ : Str) ++ e1) ++ (⟨#[47, 107, 101, 121]⟩ : Str))) u1.name ([(1 : UInt8)] : List UInt8) 4000).1, 50) := by simp only [a03, hu1, hu2, hu3, h1, h2, e1h, cT, cF]
     refine R1 ?_
     intro w1 G bs hI hΓ
     rw [hP13]
     exact Post.of [10, 11, 12, 13, 14, 15, 16, 17, 39, 40, 41] (((), (), ((some ad1), c1), (), (), (), ((p2, c2), (p3, c3), (p4, c4), (), ())), ((p5, c5), (p6, c6), (p7, c7), (p8, c8)), ((p14, c13), (p15, c14), (p16, c15), (), ())) hI hΓ Z Z Z (⟨hq1.1, ⟨hq1.2.1, ⟨(by have z_ := (show GoT.ok 0 (a03 code).2.2.1 from dad_ok code); rw [hP13] at z_; exact GoT.okm τ1 z_), (i6 50)⟩⟩⟩)
    refine TS.op 3 Z J ?_
    refine R0 ?_
    refine WX.back0 ?_
    refine TX.tail [1, 4, 5, 6] Z Z J ?_
    refine R0 ?_
    have hP14 : a03 code = (u1, u2, (a08 u2.keys (a02 (((⟨#[47]⟩ : Str) ++ e1) ++ (⟨#[47, 107, 101, 121]⟩ : Str))) u1.name ([(1 : UInt8)] : List UInt8) 4000).1, 50) := by simp only [a03, hu1, hu2, hu3, h1, h2, e1h, cT, cF]
    refine R1 ?_
    intro w1 G bs hI hΓ
    rw [hP14]
    exact Post.of [10, 11, 12, 13, 14, 15, 16, 17, 39, 40, 41] (((), (), ((some ad1), c1), (), (), (), ((p2, c2), (p3, c3), (p4, c4), (), ())), ((p5, c5), (p6, c6), (p7, c7), (p8, c8)), ((p14, c13), (p15, c14), (p16, c15), (), ())) hI hΓ Z Z Z (⟨hq1.1, ⟨hq1.2.1, ⟨(by have z_ := (show GoT.ok 0 (a03 code).2.2.1 from dad_ok code); rw [hP14] at z_; exact GoT.okm τ1 z_), (i6 50)⟩⟩⟩)
   refine TS.op 1 Z J ?_
   refine R0 ?_
   refine WX.back0 ?_
   refine TX.tail [0, 3, 4, 5, 6] Z Z J ?_
   refine R0 ?_
   have hP15 : a03 code = (u1, u2, (a08 u2.keys (a02 (((⟨#[47]⟩ : Str) ++ e1) ++ (⟨#[47, 107, 101, 121]⟩ : Str))) u1.name ([(1 : UInt8)] : List UInt8) 4000).1, 50) := by simp only [a03, hu1, hu2, hu3, h1, h2, e1h, cT, cF]
   refine R1 ?_
   intro w1 G bs hI hΓ
   rw [hP15]
   exact Post.of [10, 11, 12, 13, 14, 15, 16, 17, 39, 40, 41] (((), (), ((some ad1), c1), (), (), (), ((p2, c2), (p3, c3), (p4, c4), (), ())), ((p5, c5), (p6, c6), (p7, c7), (p8, c8)), ((p14, c13), (p15, c14), (p16, c15), (), ())) hI hΓ Z Z Z (⟨hq1.1, ⟨hq1.2.1, ⟨(by have z_ := (show GoT.ok 0 (a03 code).2.2.1 from dad_ok code); rw [hP15] at z_; exact GoT.okm τ1 z_), (i6 50)⟩⟩⟩)
  have h2d : (((u1.name.parts).length : Nat) : Int) ≠ 2 := B.ef h2
  refine R0 ?_
  refine WX.der 42 (MF.rs .der p1 c1 u1.name.parts) Z (fun _ hΓ => (hΓ.get 10 Z : OwSl _ _ _ _).rd) ?_
  refine WX.der 43 (MF.rs .der p2 c2 u1.data.name.parts) Z (fun _ hΓ => (hΓ.get 11 Z : OwSl _ _ _ _).rd) ?_
  refine WX.der 44 (MF.rs .der p3 c3 u1.data.content) Z (fun _ hΓ => (hΓ.get 12 Z : OwSl _ _ _ _).rd) ?_
  refine WX.der 45 (MF.rs .der p4 c4 u1.data.keyName.parts) Z (fun _ hΓ => (hΓ.get 13 Z : OwSl _ _ _ _).rd) ?_
  refine WX.draw [0, 1, 2, 3, 4, 5, 6] mixed ?_
  intro bs G0 hΓ0
  refine DX.toTX ?_
  intro S_
  refine TX.all3 0 1 2 J ?_ ?_ ?_
  ·skip
   refine TS.op 0 Z J ?_
   refine R0 ?_
   refine WX.back0 ?_
   refine TX.all3 1 2 3 J ?_ ?_ ?_
   ·skip
    refine TS.op 1 Z J ?_
    refine R0 ?_
    refine WX.back0 ?_
    refine TX.all2 2 3 J ?_ ?_
    ·skip
     refine TS.op 2 Z J ?_
     refine R0 ?_
     refine WX.back0 ?_
     refine TX.tail [3, 4, 5, 6] Z Z J ?_
     refine R0 ?_
     have hP16 : a03 code = (u1, u2, u5, 50) := by simp only [a03, hu1, hu2, hu3, h1, h2, cT, cF]
     refine R1 ?_
     intro w1 G bs hI hΓ
     rw [hP16]
     exact Post.of [10, 11, 12, 13, 14, 15, 16, 17, 25, 26, 27] (((), (), (p1, c1), (), (), (), ((p2, c2), (p3, c3), (p4, c4), (), ())), ((p5, c5), (p6, c6), (p7, c7), (p8, c8)), ((p9, c9), (p10, c10), (p11, c11), (), ())) hI hΓ Z Z Z (⟨hq1.1, ⟨hq1.2.1, ⟨(by have z_ := (show GoT.ok 0 (a03 code).2.2.1 from dad_ok code); rw [hP16] at z_; exact GoT.okm τ1 z_), (i6 50)⟩⟩⟩)
    refine TS.op 3 Z J ?_
    refine R0 ?_
    refine WX.back0 ?_
    refine TX.all2 2 4 J ?_ ?_
    ·skip
     refine TS.op 2 Z J ?_
     refine R0 ?_
     refine WX.back0 ?_
     refine TX.tail [4, 5, 6] Z Z J ?_
     refine R0 ?_
     have hP17 : a03 code = (u1, u2, u5, 50) := by simp only [a03, hu1, hu2, hu3, h1, h2, cT, cF]
     refine R1 ?_
     intro w1 G bs hI hΓ
     rw [hP17]
     exact Post.of [10, 11, 12, 13, 14, 15, 16, 17, 25, 26, 27] (((), (), (p1, c1), (), (), (), ((p2, c2), (p3, c3), (p4, c4), (), ())), ((p5, c5), (p6, c6), (p7, c7), (p8, c8)), ((p9, c9), (p10, c10), (p11, c11), (), ())) hI hΓ Z Z Z (⟨hq1.1, ⟨hq1.2.1, ⟨(by have z_ := (show GoT.ok 0 (a03 code).2.2.1 from dad_ok code); rw [hP17] at z_; exact GoT.okm τ1 z_), (i6 50)⟩⟩⟩)
    refine TS.op 4 Z J ?_
    refine R0 ?_
    refine WX.back0 ?_
    refine TX.tail [2, 5, 6] Z Z J ?_
    refine R0 ?_
    have hP18 : a03 code = (u1, u2, u5, 50) := by simp only [a03, hu1, hu2, hu3, h1, h2, cT, cF]
    refine R1 ?_
    intro w1 G bs hI hΓ
    rw [hP18]
    exact Post.of [10, 11, 12, 13, 14, 15, 16, 17, 25, 26, 27] (((), (), (p1, c1), (), (), (), ((p2, c2), (p3, c3), (p4, c4), (), ())), ((p5, c5), (p6, c6), (p7, c7), (p8, c8)), ((p9, c9), (p10, c10), (p11, c11), (), ())) hI hΓ Z Z Z (⟨hq1.1, ⟨hq1.2.1, ⟨(by have z_ := (show GoT.ok 0 (a03 code).2.2.1 from dad_ok code); rw [hP18] at z_; exact GoT.okm τ1 z_), (i6 50)⟩⟩⟩)
   ·skip
    refine TS.op 2 Z J ?_
    refine R0 ?_
    refine WX.back0 ?_
    refine TX.all2 1 3 J ?_ ?_
    ·skip
     refine TS.op 1 Z J ?_
     refine R0 ?_
     refine WX.back0 ?_
     refine TX.tail [3, 4, 5, 6] Z Z J ?_
     refine R0 ?_
     have hP19 : a03 code = (u1, u2, u5, 50) := by simp only [a03, hu1, hu2, hu3, h1, h2, cT, cF]
     refine R1 ?_
     intro w1 G bs hI hΓ
     rw [hP19]
     exact Post.of [10, 11, 12, 13, 14, 15, 16, 17, 25, 26, 27] (((), (), (p1, c1), (), (), (), ((p2, c2), (p3, c3), (p4, c4), (), ())), ((p5, c5), (p6, c6), (p7, c7), (p8, c8)), ((p9, c9), (p10, c10), (p11, c11), (), ())) hI hΓ Z Z Z (⟨hq1.1, ⟨hq1.2.1, ⟨(by have z_ := (show GoT.ok 0 (a03 code).2.2.1 from dad_ok code); rw [hP19] at z_; exact GoT.okm τ1 z_), (i6 50)⟩⟩⟩)
    refine TS.op 3 Z J ?_
    refine R0 ?_
    refine WX.back0 ?_
    refine TX.tail [1, 4, 5, 6] Z Z J ?_
    refine R0 ?_
    have hP20 : a03 code = (u1, u2, u5, 50) := by simp only [a03, hu1, hu2, hu3, h1, h2, cT, cF]
    refine R1 ?_
    intro w1 G bs hI hΓ
    rw [hP20]
    exact Post.of [10, 11, 12, 13, 14, 15, 16, 17, 25, 26, 27] (((), (), (p1, c1), (), (), (), ((p2, c2), (p3, c3), (p4, c4), (), ())), ((p5, c5), (p6, c6), (p7, c7), (p8, c8)), ((p9, c9), (p10, c10), (p11, c11), (), ())) hI hΓ Z Z Z (⟨hq1.1, ⟨hq1.2.1, ⟨(by have z_ := (show GoT.ok 0 (a03 code).2.2.1 from dad_ok code); rw [hP20] at z_; exact GoT.okm τ1 z_), (i6 50)⟩⟩⟩)
   refine TS.op 3 Z J ?_
   refine R0 ?_
   refine WX.back0 ?_
   refine TX.all2 1 2 J ?_ ?_
   ·skip
    refine TS.op 1 Z J ?_
    refine R0 ?_
    refine WX.back0 ?_
    refine TX.all2 2 4 J ?_ ?_
    ·skip
     refine TS.op 2 Z J ?_
     refine R0 ?_
     refine WX.back0 ?_
     refine TX.tail [4, 5, 6] Z Z J ?_
     refine R0 ?_
     have hP21 : a03 code = (u1, u2, u5, 50) := by simp only [a03, hu1, hu2, hu3, h1, h2, cT, cF]
     refine R1 ?_
     intro w1 G bs hI hΓ
     rw [hP21]
     exact Post.of [10, 11, 12, 13, 14, 15, 16, 17, 25, 26, 27] (((), (), (p1, c1), (), (), (), ((p2, c2), (p3, c3), (p4, c4), (), ())), ((p5, c5), (p6, c6), (p7, c7), (p8, c8)), ((p9, c9), (p10, c10), (p11, c11), (), ())) hI hΓ Z Z Z (⟨hq1.1, ⟨hq1.2.1, ⟨(by have z_ := (show GoT.ok 0 (a03 code).2.2.1 from dad_ok code); rw [hP21] at z_; exact GoT.okm τ1 z_), (i6 50)⟩⟩⟩)
    refine TS.op 4 Z J ?_
    refine R0 ?_
    refine WX.back0 ?_
    refine TX.tail [2, 5, 6] Z Z J ?_
    refine R0 ?_
    have hP22 : a03 code = (u1, u2, u5, 50) := by simp only [a03, hu1, hu2, hu3, h1, h2, cT, cF]
    refine R1 ?_
    intro w1 G bs hI hΓ
    rw [hP22]
    exact Post.of [10, 11, 12, 13, 14, 15, 16, 17, 25, 26, 27] (((), (), (p1, c1), (), (), (), ((p2, c2), (p3, c3), (p4, c4), (), ())), ((p5, c5), (p6, c6), (p7, c7), (p8, c8)), ((p9, c9), (p10, c10), (p11, c11), (), ())) hI hΓ Z Z Z (⟨hq1.1, ⟨hq1.2.1, ⟨(by have z_ := (show GoT.ok 0 (a03 code).2.2.1 from dad_ok code); rw [hP22] at z_; exact GoT.okm τ1 z_), (i6 50)⟩⟩⟩)
   refine TS.op 2 Z J ?_
   refine R0 ?_
   refine WX.back0 ?_
   refine TX.tail [1, 4, 5, 6] Z Z J ?_
   refine R0 ?_
   have hP23 : a03 code = (u1, u2, u5, 50) := by simp only [a03, hu1, hu2, hu3, h1, h2, cT, cF]
   refine R1 ?_
   intro w1 G bs hI hΓ
   rw [hP23]
   exact Post.of [10, 11, 12, 13, 14, 15, 16, 17, 25, 26, 27] (((), (), (p1, c1), (), (), (), ((p2, c2), (p3, c3), (p4, c4), (), ())), ((p5, c5), (p6, c6), (p7, c7), (p8, c8)), ((p9, c9), (p10, c10), (p11, c11), (), ())) hI hΓ Z Z Z (⟨hq1.1, ⟨hq1.2.1, ⟨(by have z_ := (show GoT.ok 0 (a03 code).2.2.1 from dad_ok code); rw [hP23] at z_; exact GoT.okm τ1 z_), (i6 50)⟩⟩⟩)
  ·skip
   refine TS.op 1 Z J ?_
   refine R0 ?_
   refine WX.back0 ?_
   refine TX.all2 0 2 J ?_ ?_
   ·skip
    refine TS.op 0 Z J ?_
    refine R0 ?_
    refine WX.back0 ?_
    refine TX.all2 2 3 J ?_ ?_
    ·skip
     refine TS.op 2 Z J ?_
     refine R0 ?_
     refine WX.back0 ?_
     refine TX.tail [3, 4, 5, 6] Z Z J ?_
     refine R0 ?_
     have hP24 : a03 code = (u1, u2, u5, 50) := by simp only [a03, hu1, hu2, hu3, h1, h2, cT, cF]
     refine R1 ?_
     intro w1 G bs hI hΓ
     rw [hP24]
     exact Post.of [10, 11, 12, 13, 14, 15, 16, 17, 25, 26, 27] (((), (), (p1, c1), (), (), (), ((p2, c2), (p3, c3), (p4, c4), (), ())), ((p5, c5), (p6, c6), (p7, c7), (p8, c8)), ((p9, c9), (p10, c10), (p11, c11), (), ())) hI hΓ Z Z Z (⟨hq1.1, ⟨hq1.2.1, ⟨(by have z_ := (show GoT.ok 0 (a03 code).2.2.1 from dad_ok code); rw [hP24] at z_; exact GoT.okm τ1 z_), (i6 50)⟩⟩⟩)
    refine TS.op 3 Z J ?_
    refine R0 ?_
    refine WX.back0 ?_
    refine TX.all2 2 4 J ?_ ?_
    ·skip
     refine TS.op 2 Z J ?_
     refine R0 ?_
     refine WX.back0 ?_
     refine TX.tail [4, 5, 6] Z Z J ?_
     refine R0 ?_
     have hP25 : a03 code = (u1, u2, u5, 50) := by simp only [a03, hu1, hu2, hu3, h1, h2, cT, cF]
     refine R1 ?_
     intro w1 G bs hI hΓ
     rw [hP25]
     exact Post.of [10, 11, 12, 13, 14, 15, 16, 17, 25, 26, 27] (((), (), (p1, c1), (), (), (), ((p2, c2), (p3, c3), (p4, c4), (), ())), ((p5, c5), (p6, c6), (p7, c7), (p8, c8)), ((p9, c9), (p10, c10), (p11, c11), (), ())) hI hΓ Z Z Z (⟨hq1.1, ⟨hq1.2.1, ⟨(by have z_ := (show GoT.ok 0 (a03 code).2.2.1 from dad_ok code); rw [hP25] at z_; exact GoT.okm τ1 z_), (i6 50)⟩⟩⟩)
    refine TS.op 4 Z J ?_
    refine R0 ?_
    refine WX.back0 ?_
    refine TX.tail [2, 5, 6] Z Z J ?_
    refine R0 ?_
    have hP26 : a03 code = (u1, u2, u5, 50) := by simp only [a03, hu1, hu2, hu3, h1, h2, cT, cF]
    refine R1 ?_
    intro w1 G bs hI hΓ
    rw [hP26]
    exact Post.of [10, 11, 12, 13, 14, 15, 16, 17, 25, 26, 27] (((), (), (p1, c1), (), (), (), ((p2, c2), (p3, c3), (p4, c4), (), ())), ((p5, c5), (p6, c6), (p7, c7), (p8, c8)), ((p9, c9), (p10, c10), (p11, c11), (), ())) hI hΓ Z Z Z (⟨hq1.1, ⟨hq1.2.1, ⟨(by have z_ := (show GoT.ok 0 (a03 code).2.2.1 from dad_ok code); rw [hP26] at z_; exact GoT.okm τ1 z_), (i6 50)⟩⟩⟩)
   refine TS.op 2 Z J ?_
   refine R0 ?_
   refine WX.back0 ?_
   refine TX.tail [0, 3, 4, 5, 6] Z Z J ?_
   refine R0 ?_
   have hP27 : a03 code = (u1, u2, u5, 50) := by simp only [a03, hu1, hu2, hu3, h1, h2, cT, cF]
   refine R1 ?_
   intro w1 G bs hI hΓ
   rw [hP27]
   exact Post.of [10, 11, 12, 13, 14, 15, 16, 17, 25, 26, 27] (((), (), (p1, c1), (), (), (), ((p2, c2), (p3, c3), (p4, c4), (), ())), ((p5, c5), (p6, c6), (p7, c7), (p8, c8)), ((p9, c9), (p10, c10), (p11, c11), (), ())) hI hΓ Z Z Z (⟨hq1.1, ⟨hq1.2.1, ⟨(by have z_ := (show GoT.ok 0 (a03 code).2.2.1 from dad_ok code); rw [hP27] at z_; exact GoT.okm τ1 z_), (i6 50)⟩⟩⟩)
  refine TS.op 2 Z J ?_
  refine R0 ?_
  refine WX.back0 ?_
  refine TX.all2 0 1 J ?_ ?_
  ·skip
   refine TS.op 0 Z J ?_
   refine R0 ?_
   refine WX.back0 ?_
   refine TX.all2 1 3 J ?_ ?_
   ·skip
    refine TS.op 1 Z J ?_
    refine R0 ?_
    refine WX.back0 ?_
    refine TX.tail [3, 4, 5, 6] Z Z J ?_
    refine R0 ?_
    have hP28 : a03 code = (u1, u2, u5, 50) := by simp only [a03, hu1, hu2, hu3, h1, h2, cT, cF]
    refine R1 ?_
    intro w1 G bs hI hΓ
    rw [hP28]
    exact Post.of [10, 11, 12, 13, 14, 15, 16, 17, 25, 26, 27] (((), (), (p1, c1), (), (), (), ((p2, c2), (p3, c3), (p4, c4), (), ())), ((p5, c5), (p6, c6), (p7, c7), (p8, c8)), ((p9, c9), (p10, c10), (p11, c11), (), ())) hI hΓ Z Z Z (⟨hq1.1, ⟨hq1.2.1, ⟨(by have z_ := (show GoT.ok 0 (a03 code).2.2.1 from dad_ok code); rw [hP28] at z_; exact GoT.okm τ1 z_), (i6 50)⟩⟩⟩)
   refine TS.op 3 Z J ?_
   refine R0 ?_
   refine WX.back0 ?_
   refine TX.tail [1, 4, 5, 6] Z Z J ?_
   refine R0 ?_
   have hP29 : a03 code = (u1, u2, u5, 50) := by simp only [a03, hu1, hu2, hu3, h1, h2, cT, cF]
   refine R1 ?_
   intro w1 G bs hI hΓ
   rw [hP29]
   exact Post.of [10, 11, 12, 13, 14, 15, 16, 17, 25, 26, 27] (((), (), (p1, c1), (), (), (), ((p2, c2), (p3, c3), (p4, c4), (), ())), ((p5, c5), (p6, c6), (p7, c7), (p8, c8)), ((p9, c9), (p10, c10), (p11, c11), (), ())) hI hΓ Z Z Z (⟨hq1.1, ⟨hq1.2.1, ⟨(by have z_ := (show GoT.ok 0 (a03 code).2.2.1 from dad_ok code); rw [hP29] at z_; exact GoT.okm τ1 z_), (i6 50)⟩⟩⟩)
  refine TS.op 1 Z J ?_
  refine R0 ?_
  refine WX.back0 ?_
  refine TX.tail [0, 3, 4, 5, 6] Z Z J ?_
  refine R0 ?_
  have hP30 : a03 code = (u1, u2, u5, 50) := by simp only [a03, hu1, hu2, hu3, h1, h2, cT, cF]
  refine R1 ?_
  intro w1 G bs hI hΓ
  rw [hP30]
  exact Post.of [10, 11, 12, 13, 14, 15, 16, 17, 25, 26, 27] (((), (), (p1, c1), (), (), (), ((p2, c2), (p3, c3), (p4, c4), (), ())), ((p5, c5), (p6, c6), (p7, c7), (p8, c8)), ((p9, c9), (p10, c10), (p11, c11), (), ())) hI hΓ Z Z Z (⟨hq1.1, ⟨hq1.2.1, ⟨(by have z_ := (show GoT.ok 0 (a03 code).2.2.1 from dad_ok code); rw [hP30] at z_; exact GoT.okm τ1 z_), (i6 50)⟩⟩⟩)
 refine R0 ?_
 refine WX.der 46 (MF.rs .der p1 c1 u1.name.parts) Z (fun _ hΓ => (hΓ.get 10 Z : OwSl _ _ _ _).rd) ?_
 refine WX.der 47 (MF.rs .der p2 c2 u1.data.name.parts) Z (fun _ hΓ => (hΓ.get 11 Z : OwSl _ _ _ _).rd) ?_
 refine WX.der 48 (MF.rs .der p3 c3 u1.data.content) Z (fun _ hΓ => (hΓ.get 12 Z : OwSl _ _ _ _).rd) ?_
 refine WX.der 49 (MF.rs .der p4 c4 u1.data.keyName.parts) Z (fun _ hΓ => (hΓ.get 13 Z : OwSl _ _ _ _).rd) ?_
 refine WX.draw [0, 1, 2, 3, 4, 5, 6] mixed ?_
 intro bs G0 hΓ0
 refine DX.toTX ?_
 intro S_
 refine TX.all3 0 1 2 J ?_ ?_ ?_
 ·skip
  refine TS.op 0 Z J ?_
  refine R0 ?_
  refine WX.back0 ?_
  refine TX.all3 1 2 3 J ?_ ?_ ?_
  ·skip
   refine TS.op 1 Z J ?_
   refine R0 ?_
   refine WX.back0 ?_
   refine TX.all2 2 3 J ?_ ?_
   ·skip
    refine TS.op 2 Z J ?_
    refine R0 ?_
    refine WX.back0 ?_
    refine TX.tail [3, 4, 5, 6] Z Z J ?_
    refine R0 ?_
    have hP31 : a03 code = (u1, u2, u5, 50) := by simp only [a03, hu1, hu2, hu3, h1, cT, cF]
    refine R1 ?_
    intro w1 G bs hI hΓ
    rw [hP31]
    exact Post.of [10, 11, 12, 13, 14, 15, 16, 17, 25, 26, 27] (((), (), (p1, c1), (), (), (), ((p2, c2), (p3, c3), (p4, c4), (), ())), ((p5, c5), (p6, c6), (p7, c7), (p8, c8)), ((p9, c9), (p10, c10), (p11, c11), (), ())) hI hΓ Z Z Z (⟨hq1.1, ⟨hq1.2.1, ⟨(by have z_ := (show GoT.ok 0 (a03 code).2.2.1 from dad_ok code); rw [hP31] at z_; exact GoT.okm τ1 z_), (i6 50)⟩⟩⟩)
   refine TS.op 3 Z J ?_
   refine R0 ?_
   refine WX.back0 ?_
   refine TX.all2 2 4 J ?_ ?_
   ·skip
    refine TS.op 2 Z J ?_
    refine R0 ?_
    refine WX.back0 ?_
    refine TX.tail [4, 5, 6] Z Z J ?_
    refine R0 ?_
    have hP32 : a03 code = (u1, u2, u5, 50) := by simp only [a03, hu1, hu2, hu3, h1, cT, cF]
    refine R1 ?_
    intro w1 G bs hI hΓ
    rw [hP32]
    exact Post.of [10, 11, 12, 13, 14, 15, 16, 17, 25, 26, 27] (((), (), (p1, c1), (), (), (), ((p2, c2), (p3, c3), (p4, c4), (), ())), ((p5, c5), (p6, c6), (p7, c7), (p8, c8)), ((p9, c9), (p10, c10), (p11, c11), (), ())) hI hΓ Z Z Z (⟨hq1.1, ⟨hq1.2.1, ⟨(by have z_ := (show GoT.ok 0 (a03 code).2.2.1 from dad_ok code); rw [hP32] at z_; exact GoT.okm τ1 z_), (i6 50)⟩⟩⟩)
   refine TS.op 4 Z J ?_
   refine R0 ?_
   refine WX.back0 ?_
   refine TX.tail [2, 5, 6] Z Z J ?_
   refine R0 ?_
   have hP33 : a03 code = (u1, u2, u5, 50) := by simp only [a03, hu1, hu2, hu3, h1, cT, cF]
   refine R1 ?_
   intro w1 G bs hI hΓ
   rw [hP33]
   exact Post.of [10, 11, 12, 13, 14, 15, 16, 17, 25, 26, 27] (((), (), (p1, c1), (), (), (), ((p2, c2), (p3, c3), (p4, c4), (), ())), ((p5, c5), (p6, c6), (p7, c7), (p8, c8)), ((p9, c9), (p10, c10), (p11, c11), (), ())) hI hΓ Z Z Z (⟨hq1.1, ⟨hq1.2.1, ⟨(by have z_ := (show GoT.ok 0 (a03 code).2.2.1 from dad_ok code); rw [hP33] at z_; exact GoT.okm τ1 z_), (i6 50)⟩⟩⟩)
  ·skip
   refine TS.op 2 Z J ?_
   refine R0 ?_
   refine WX.back0 ?_
   refine TX.all2 1 3 J ?_ ?_
   ·skip
    refine TS.op 1 Z J ?_
    refine R0 ?_
    refine WX.back0 ?_
    refine TX.tail [3, 4, 5, 6] Z Z J ?_
    refine R0 ?_
    have hP34 : a03 code = (u1, u2, u5, 50) := by simp only [a03, hu1, hu2, hu3, h1, cT, cF]
    refine R1 ?_
    intro w1 G bs hI hΓ
    rw [hP34]
    exact Post.of [10, 11, 12, 13, 14, 15, 16, 17, 25, 26, 27] (((), (), (p1, c1), (), (), (), ((p2, c2), (p3, c3), (p4, c4), (), ())), ((p5, c5), (p6, c6), (p7, c7), (p8, c8)), ((p9, c9), (p10, c10), (p11, c11), (), ())) hI hΓ Z Z Z (⟨hq1.1, ⟨hq1.2.1, ⟨(by have z_ := (show GoT.ok 0 (a03 code).2.2.1 from dad_ok code); rw [hP34] at z_; exact GoT.okm τ1 z_), (i6 50)⟩⟩⟩)
   refine TS.op 3 Z J ?_
   refine R0 ?_
   refine WX.back0 ?_
   refine TX.tail [1, 4, 5, 6] Z Z J ?_
   refine R0 ?_
   have hP35 : a03 code = (u1, u2, u5, 50) := by simp only [a03, hu1, hu2, hu3, h1, cT, cF]
   refine R1 ?_
   intro w1 G bs hI hΓ
   rw [hP35]
   exact Post.of [10, 11, 12, 13, 14, 15, 16, 17, 25, 26, 27] (((), (), (p1, c1), (), (), (), ((p2, c2), (p3, c3), (p4, c4), (), ())), ((p5, c5), (p6, c6), (p7, c7), (p8, c8)), ((p9, c9), (p10, c10), (p11, c11), (), ())) hI hΓ Z Z Z (⟨hq1.1, ⟨hq1.2.1, ⟨(by have z_ := (show GoT.ok 0 (a03 code).2.2.1 from dad_ok code); rw [hP35] at z_; exact GoT.okm τ1 z_), (i6 50)⟩⟩⟩)
  refine TS.op 3 Z J ?_
  refine R0 ?_
  refine WX.back0 ?_
  refine TX.all2 1 2 J ?_ ?_
  ·skip
   refine TS.op 1 Z J ?_
   refine R0 ?_
   refine WX.back0 ?_
   refine TX.all2 2 4 J ?_ ?_
   ·skip
    refine TS.op 2 Z J ?_
    refine R0 ?_
    refine WX.back0 ?_
    refine TX.tail [4, 5, 6] Z Z J ?_
    refine R0 ?_
    have hP36 : a03 code = (u1, u2, u5, 50) := by simp only [a03, hu1, hu2, hu3, h1, cT, cF]
    refine R1 ?_
    intro w1 G bs hI hΓ
    rw [hP36]
    exact Post.of [10, 11, 12, 13, 14, 15, 16, 17, 25, 26, 27] (((), (), (p1, c1), (), (), (), ((p2, c2), (p3, c3), (p4, c4), (), ())), ((p5, c5), (p6, c6), (p7, c7), (p8, c8)), ((p9, c9), (p10, c10), (p11, c11), (), ())) hI hΓ Z Z Z (⟨hq1.1, ⟨hq1.2.1, ⟨(by have z_ := (show GoT.ok 0 (a03 code).2.2.1 from dad_ok code); rw [hP36] at z_; exact GoT.okm τ1 z_), (i6 50)⟩⟩⟩)
   refine TS.op 4 Z J ?_
   refine R0 ?_
   refine WX.back0 ?_
   refine TX.tail [2, 5, 6] Z Z J ?_
   refine R0 ?_
   have hP37 : a03 code = (u1, u2, u5, 50) := by simp only [a03, hu1, hu2, hu3, h1, cT, cF]
   refine R1 ?_
   intro w1 G bs hI hΓ
   rw [hP37]
   exact Post.of [10, 11, 12, 13, 14, 15, 16, 17, 25, 26, 27] (((), (), (p1, c1), (), (), (), ((p2, c2), (p3, c3), (p4, c4), (), ())), ((p5, c5), (p6, c6), (p7, c7), (p8, c8)), ((p9, c9), (p10, c10), (p11, c11), (), ())) hI hΓ Z Z Z (⟨hq1.1, ⟨hq1.2.1, ⟨(by have z_ := (show GoT.ok 0 (a03 code).2.2.1 from dad_ok code); rw [hP37] at z_; exact GoT.okm τ1 z_), (i6 50)⟩⟩⟩)
  refine TS.op 2 Z J ?_
  refine R0 ?_
  refine WX.back0 ?_
  refine TX.tail [1, 4, 5, 6] Z Z J ?_
  refine R0 ?_
  have hP38 : a03 code = (u1, u2, u5, 50) := by simp only [a03, hu1, hu2, hu3, h1, cT, cF]
  refine R1 ?_
  intro w1 G bs hI hΓ
  rw [hP38]
  exact Post.of [10, 11, 12, 13, 14, 15, 16, 17, 25, 26, 27] (((), (), (p1, c1), (), (), (), ((p2, c2), (p3, c3), (p4, c4), (), ())), ((p5, c5), (p6, c6), (p7, c7), (p8, c8)), ((p9, c9), (p10, c10), (p11, c11), (), ())) hI hΓ Z Z Z (⟨hq1.1, ⟨hq1.2.1, ⟨(by have z_ := (show GoT.ok 0 (a03 code).2.2.1 from dad_ok code); rw [hP38] at z_; exact GoT.okm τ1 z_), (i6 50)⟩⟩⟩)
 ·skip
  refine TS.op 1 Z J ?_
  refine R0 ?_
  refine WX.back0 ?_
  refine TX.all2 0 2 J ?_ ?_
  ·skip
   refine TS.op 0 Z J ?_
   refine R0 ?_
   refine WX.back0 ?_
   refine TX.all2 2 3 J ?_ ?_
   ·skip
    refine TS.op 2 Z J ?_
    refine R0 ?_
    refine WX.back0 ?_
    refine TX.tail [3, 4, 5, 6] Z Z J ?_
    refine R0 ?_
    have hP39 : a03 code = (u1, u2, u5, 50) := by simp only [a03, hu1, hu2, hu3, h1, cT, cF]
    refine R1 ?_
    intro w1 G bs hI hΓ
    rw [hP39]
    exact Post.of [10, 11, 12, 13, 14, 15, 16, 17, 25, 26, 27] (((), (), (p1, c1), (), (), (), ((p2, c2), (p3, c3), (p4, c4), (), ())), ((p5, c5), (p6, c6), (p7, c7), (p8, c8)), ((p9, c9), (p10, c10), (p11, c11), (), ())) hI hΓ Z Z Z (⟨hq1.1, ⟨hq1.2.1, ⟨(by have z_ := (show GoT.ok 0 (a03 code).2.2.1 from dad_ok code); rw [hP39] at z_; exact GoT.okm τ1 z_), (i6 50)⟩⟩⟩)
   refine TS.op 3 Z J ?_
   refine R0 ?_
   refine WX.back0 ?_
   refine TX.all2 2 4 J ?_ ?_
   ·skip
    refine TS.op 2 Z J ?_
    refine R0 ?_
    refine WX.back0 ?_
    refine TX.tail [4, 5, 6] Z Z J ?_
    refine R0 ?_
    have hP40 : a03 code = (u1, u2, u5, 50) := by simp only [a03, hu1, hu2, hu3, h1, cT, cF]
    refine R1 ?_
    intro w1 G bs hI hΓ
    rw [hP40]
    exact Post.of [10, 11, 12, 13, 14, 15, 16, 17, 25, 26, 27] (((), (), (p1, c1), (), (), (), ((p2, c2), (p3, c3), (p4, c4), (), ())), ((p5, c5), (p6, c6), (p7, c7), (p8, c8)), ((p9, c9), (p10, c10), (p11, c11), (), ())) hI hΓ Z Z Z (⟨hq1.1, ⟨hq1.2.1, ⟨(by have z_ := (show GoT.ok 0 (a03 code).2.2.1 from dad_ok code); rw [hP40] at z_; exact GoT.okm τ1 z_), (i6 50)⟩⟩⟩)
   refine TS.op 4 Z J ?_
   refine R0 ?_
   refine WX.back0 ?_
   refine TX.tail [2, 5, 6] Z Z J ?_
   refine R0 ?_
   have hP41 : a03 code = (u1, u2, u5, 50) := by simp only [a03, hu1, hu2, hu3, h1, cT, cF]
   refine R1 ?_
   intro w1 G bs hI hΓ
   rw [hP41]
   exact Post.of [10, 11, 12, 13, 14, 15, 16, 17, 25, 26, 27] (((), (), (p1, c1), (), (), (), ((p2, c2), (p3, c3), (p4, c4), (), ())), ((p5, c5), (p6, c6), (p7, c7), (p8, c8)), ((p9, c9), (p10, c10), (p11, c11), (), ())) hI hΓ Z Z Z (⟨hq1.1, ⟨hq1.2.1, ⟨(by have z_ := (show GoT.ok 0 (a03 code).2.2.1 from dad_ok code); rw [hP41] at z_; exact GoT.okm τ1 z_), (i6 50)⟩⟩⟩)
  refine TS.op 2 Z J ?_
  refine R0 ?_
  refine WX.back0 ?_
  refine TX.tail [0, 3, 4, 5, 6] Z Z J ?_
  refine R0 ?_
  have hP42 : a03 code = (u1, u2, u5, 50) := by simp only [a03, hu1, hu2, hu3, h1, cT, cF]
  refine R1 ?_
  intro w1 G bs hI hΓ
  rw [hP42]
  exact Post.of [10, 11, 12, 13, 14, 15, 16, 17, 25, 26, 27] (((), (), (p1, c1), (), (), (), ((p2, c2), (p3, c3), (p4, c4), (), ())), ((p5, c5), (p6, c6), (p7, c7), (p8, c8)), ((p9, c9), (p10, c10), (p11, c11), (), ())) hI hΓ Z Z Z (⟨hq1.1, ⟨hq1.2.1, ⟨(by have z_ := (show GoT.ok 0 (a03 code).2.2.1 from dad_ok code); rw [hP42] at z_; exact GoT.okm τ1 z_), (i6 50)⟩⟩⟩)
 refine TS.op 2 Z J ?_
 refine R0 ?_
 refine WX.back0 ?_
 refine TX.all2 0 1 J ?_ ?_
 ·skip
  refine TS.op 0 Z J ?_
  refine R0 ?_
  refine WX.back0 ?_
  refine TX.all2 1 3 J ?_ ?_
  ·skip
   refine TS.op 1 Z J ?_
   refine R0 ?_
   refine WX.back0 ?_
   refine TX.tail [3, 4, 5, 6] Z Z J ?_
   refine R0 ?_
   have hP43 : a03 code = (u1, u2, u5, 50) := by simp only [a03, hu1, hu2, hu3, h1, cT, cF]
   refine R1 ?_
   intro w1 G bs hI hΓ
   rw [hP43]
   exact Post.of [10, 11, 12, 13, 14, 15, 16, 17, 25, 26, 27] (((), (), (p1, c1), (), (), (), ((p2, c2), (p3, c3), (p4, c4), (), ())), ((p5, c5), (p6, c6), (p7, c7), (p8, c8)), ((p9, c9), (p10, c10), (p11, c11), (), ())) hI hΓ Z Z Z (⟨hq1.1, ⟨hq1.2.1, ⟨(by have z_ := (show GoT.ok 0 (a03 code).2.2.1 from dad_ok code); rw [hP43] at z_; exact GoT.okm τ1 z_), (i6 50)⟩⟩⟩)
  refine TS.op 3 Z J ?_
  refine R0 ?_
  refine WX.back0 ?_
  refine TX.tail [1, 4, 5, 6] Z Z J ?_
  refine R0 ?_
  have hP44 : a03 code = (u1, u2, u5, 50) := by simp only [a03, hu1, hu2, hu3, h1, cT, cF]
  refine R1 ?_
  intro w1 G bs hI hΓ
  rw [hP44]
  exact Post.of [10, 11, 12, 13, 14, 15, 16, 17, 25, 26, 27] (((), (), (p1, c1), (), (), (), ((p2, c2), (p3, c3), (p4, c4), (), ())), ((p5, c5), (p6, c6), (p7, c7), (p8, c8)), ((p9, c9), (p10, c10), (p11, c11), (), ())) hI hΓ Z Z Z (⟨hq1.1, ⟨hq1.2.1, ⟨(by have z_ := (show GoT.ok 0 (a03 code).2.2.1 from dad_ok code); rw [hP44] at z_; exact GoT.okm τ1 z_), (i6 50)⟩⟩⟩)
 refine TS.op 1 Z J ?_
 refine R0 ?_
 refine WX.back0 ?_
 refine TX.tail [0, 3, 4, 5, 6] Z Z J ?_
 refine R0 ?_
 have hP45 : a03 code = (u1, u2, u5, 50) := by simp only [a03, hu1, hu2, hu3, h1, cT, cF]
 refine R1 ?_
 intro w1 G bs hI hΓ
 rw [hP45]
 exact Post.of [10, 11, 12, 13, 14, 15, 16, 17, 25, 26, 27] (((), (), (p1, c1), (), (), (), ((p2, c2), (p3, c3), (p4, c4), (), ())), ((p5, c5), (p6, c6), (p7, c7), (p8, c8)), ((p9, c9), (p10, c10), (p11, c11), (), ())) hI hΓ Z Z Z (⟨hq1.1, ⟨hq1.2.1, ⟨(by have z_ := (show GoT.ok 0 (a03 code).2.2.1 from dad_ok code); rw [hP45] at z_; exact GoT.okm τ1 z_), (i6 50)⟩⟩⟩)
theorem f10 (w : World) (n : Nat) (hn : n + 1 ≤ 9) (code : (List UInt8)) (K0 M0) (N0 : RdSl (hp w) K0 M0 code) (hokcode : GoT.ok n code) :
 Does Tryz.prog 10 #[.slice K0 ((code).length) M0] w emp (Post w emp (fun x : GoT.X (Name) => .tuple #[.int .i64 ((a0l code).1), .int .i64 ((a0l code).2.1), .agg ⟨GoT.sh ((a0l code).2.2 : Name) x⟩]) (fun x => GoT.oa ((a0l code).2.2 : Name) x) (GoT.ok n ((a0l code).1 : Int) ∧ GoT.ok n ((a0l code).2.1 : Int) ∧ GoT.ok n ((a0l code).2.2 : Name))) := by
 have hb := bS1 hn
 refine EN Tryz.func10 Z (aS1 N0) ?_
 refine R0 ?_
 obtain ⟨⟨u1, u2⟩, hu1⟩ := xE (a3b code)
 refine WX.callF (ds := fun _ => []) 1 (fun _ _ _ => All.nil) (fun _ f hf => by cases hf) Z Z Z Z Z O Z (fun w G bs hI hΓ => f40 w n τ1 code K0 M0 (hΓ.get 0 Z) hokcode u1 u2 hu1) O O ?_
 rintro bn1 hq1
 refine WX.adopt 8 1 Z Z Z ?_
 refine R0 ?_
 obtain ⟨⟨u3, u4, u5⟩, hu2⟩ := xE (a0a code u1 u2 9)
 refine CP 8 2 Z Z Z Z Z Z O Z (fun w β H η σ γ => f41 w n τ1 H η (β 8) code K0 M0 (γ.q 0 Z) u1 u2 9 σ hokcode hq1.1 hq1.2 (i6 9) u3 u4 u5 hu2) ?_
 rintro ⟨⟩ hq2
 have q1 := l1Below_rng code u1 u2 9
 rw [hu2] at q1
 try dsimp only at q1
 refine R0 ?_
 obtain ⟨⟨u6, u7, u8⟩, hu3⟩ := xE (a0a code u4 u5 7)
 refine CP 8 3 Z Z Z Z Z Z O Z (fun w β H η σ γ => f41 w n τ1 H η (β 8) code K0 M0 (γ.q 0 Z) u4 u5 7 σ hokcode hq2.2.1 hq2.2.2 (i6 7) u6 u7 u8 hu3) ?_
 rintro ⟨⟩ hq3
 have q2 := l1Below_rng code u4 u5 7
 rw [hu3] at q2
 try dsimp only at q2
 refine R0 ?_
 obtain ⟨⟨u9, u10, u11⟩, hu4⟩ := xE (a0t code u7 u8)
 refine CQ 8 4 Z Z Z Z Z Z O Z (fun w β H η σ γ => f42 w n τ1 H η (β 8) code K0 M0 (γ.q 0 Z) u7 u8 σ hokcode hq3.2.1 hq3.2.2 u9 u10 u11 hu4) ?_
 rintro ⟨p1, c1⟩ hq4
 have q3 := l4Any_len code u7 u8
 rw [hu4] at q3
 try dsimp only at q3
 refine R0 ?_
 have hP1 : a0l code = (u6, u3, u9) := by simp only [a0l, hu1, hu2, hu3, hu4, cT, cF]
 refine R1 ?_
 intro w1 G bs hI hΓ
 rw [hP1]
 exact Post.of [5] (p1, c1) hI hΓ Z Z Z (⟨hq3.1, ⟨hq2.1, hq4.1⟩⟩)
theorem f12 (w : World) (n : Nat) (hn : n + 9 ≤ 9) (code : (List UInt8)) (K0 M0) (N0 : RdSl (hp w) K0 M0 code) (hokcode : GoT.ok n code) :
 Does Tryz.prog 12 #[.slice K0 ((code).length) M0] w emp (Post w emp (fun x : GoT.X (Consumer × Consumer) => .tuple #[.agg ⟨GoT.sh ((a0y code).1 : Consumer) x.1⟩, .agg ⟨GoT.sh ((a0y code).2 : Consumer) x.2⟩]) (fun x => GoT.oa (((a0y code).1, (a0y code).2) : Consumer × Consumer) x) (GoT.ok n ((a0y code).1 : Consumer) ∧ GoT.ok n ((a0y code).2 : Consumer))) := by
 have hb := bS9 hn
 refine EN Tryz.func12 Z (aS1 N0) ?_
 refine R0 ?_
 obtain ⟨⟨u1, u2, u3, u4⟩, hu1⟩ := xE (a2k code)
 refine WX.callF (ds := fun y_ : Nat × GoT.X (Consumer × TrustPolicy) => GoT.fa .der ((u1, u2) : Consumer × TrustPolicy) y_.2) 1 (fun _ _ h => bx_rd h) (fun _ f hf => GoT.fak f hf) Z Z Z Z Z O Z (fun w G bs hI hΓ => f29 w n τ1 code K0 M0 (hΓ.get 0 Z) hokcode u1 u2 u3 u4 hu1) O O ?_
 rintro ⟨bn1, ⟨⟨⟨⟩, ⟨⟩, ⟨p1, c1⟩, ⟨⟩, ⟨⟩, ⟨⟩, ⟨⟨p2, c2⟩, ⟨p3, c3⟩, ⟨p4, c4⟩, ⟨⟩, ⟨⟩⟩⟩, ⟨⟨p5, c5⟩, ⟨p6, c6⟩, ⟨p7, c7⟩, ⟨p8, c8⟩⟩⟩⟩ hq1
 refine WX.runN 2 ttOk Z ?_
 refine WX.adopt 12 9 Z Z Z ?_
 refine R0 ?_
 obtain ⟨⟨u5, u6, u7⟩, hu2⟩ := xE (a1b code u3 u4 2)
 refine CP 12 18 Z Z Z Z Z Z O Z (fun w β H η σ γ => f35 w n τ1 H η (β 12) code K0 M0 (γ.q 0 Z) u3 u4 2 σ hokcode hq1.2.2.1 hq1.2.2.2 (i6 2) u5 u6 u7 hu2) ?_
 rintro ⟨⟩ hq2
 refine R0 ?_
 refine WX.cases 16 Z ?_ ?_ <;> intro h1
 ·skip
  refine R0 ?_
  refine WX.der 19 (MF.rs .der p5 c5 u2.keys) Z (fun _ hΓ => (hΓ.get 14 Z : OwSl _ _ _ _).rd) ?_
  refine WX.der 20 (MF.rs .der p6 c6 u2.rules) Z (fun _ hΓ => (hΓ.get 15 Z : OwSl _ _ _ _).rd) ?_
  refine WX.der 21 (MF.rs .der p7 c7 u2.anchors) Z (fun _ hΓ => (hΓ.get 16 Z : OwSl _ _ _ _).rd) ?_
  refine WX.der 22 (MF.rs .der p8 c8 u2.certificates) Z (fun _ hΓ => (hΓ.get 17 Z : OwSl _ _ _ _).rd) ?_
  refine WX.der 23 (MF.rs .der p1 c1 u1.name.parts) Z (fun _ hΓ => (hΓ.get 10 Z : OwSl _ _ _ _).rd) ?_
  refine WX.der 24 (MF.rs .der p2 c2 u1.data.name.parts) Z (fun _ hΓ => (hΓ.get 11 Z : OwSl _ _ _ _).rd) ?_
  refine WX.der 25 (MF.rs .der p3 c3 u1.data.content) Z (fun _ hΓ => (hΓ.get 12 Z : OwSl _ _ _ _).rd) ?_
  refine WX.der 26 (MF.rs .der p4 c4 u1.data.keyName.parts) Z (fun _ hΓ => (hΓ.get 13 Z : OwSl _ _ _ _).rd) ?_
  refine WX.draw [3, 4] mixed ?_
  intro bs G0 hΓ0
  refine DX.takes (fuel := 3) ttOk [(0, false), (1, false)] J Z ?_
  refine DX.toTX ?_
  intro S_
  refine TX.all1 2 J ?_
  refine TSF 2 27 Z Z Z Z Z Z O Z (fun w γ => f32 w n τ1 u1 p1 c1 (γ.q 23 Z) p2 c2 (γ.q 24 Z) p3 c3 (γ.q 25 Z) p4 c4 (γ.q 26 Z) hq1.1) ?_
  rintro ⟨⟨⟩, ⟨⟩, ⟨p9, c9⟩, ⟨⟩, ⟨⟩, ⟨⟩, ⟨⟨p10, c10⟩, ⟨p11, c11⟩, ⟨p12, c12⟩, ⟨⟩, ⟨⟩⟩⟩ hq3
  refine TX.tail [3, 4] Z Z J ?_
  refine R0 ?_
  have hP1 : a0y code = (u1, a0g u1) := by simp only [a0y, hu1, hu2, h1, cT, cF]
  refine R1 ?_
  intro w1 G bs hI hΓ
  rw [hP1]
  exact Post.of [10, 11, 12, 13, 31, 32, 33, 34] (((), (), (p1, c1), (), (), (), ((p2, c2), (p3, c3), (p4, c4), (), ())), ((), (), (p9, c9), (), (), (), ((p10, c10), (p11, c11), (p12, c12), (), ()))) hI hΓ Z Z Z (⟨hq1.1, hq3⟩)
 refine R0 ?_
 obtain ⟨⟨u8, u9, u10, u11⟩, hu3⟩ := xE (a0i code u6 u7)
 refine CQ 12 35 Z Z Z Z Z Z O Z (fun w β H η σ γ => f43 w n τ1 H η (β 12) code K0 M0 (γ.q 0 Z) u6 u7 σ hokcode hq2.1 hq2.2 u8 u9 u10 u11 hu3) ?_
 rintro ⟨⟨⟨⟩, ⟨⟩, ⟨p13, c13⟩, ⟨⟩, ⟨⟩, ⟨⟩, ⟨⟨p14, c14⟩, ⟨p15, c15⟩, ⟨p16, c16⟩, ⟨⟩, ⟨⟩⟩⟩, ⟨⟨p17, c17⟩, ⟨p18, c18⟩, ⟨p19, c19⟩, ⟨p20, c20⟩⟩⟩ hq4
 refine R0 ?_
 refine WX.der 51 (MF.rs .der p5 c5 u2.keys) Z (fun _ hΓ => (hΓ.get 14 Z : OwSl _ _ _ _).rd) ?_
 refine WX.der 52 (MF.rs .der p6 c6 u2.rules) Z (fun _ hΓ => (hΓ.get 15 Z : OwSl _ _ _ _).rd) ?_
 refine WX.der 53 (MF.rs .der p7 c7 u2.anchors) Z (fun _ hΓ => (hΓ.get 16 Z : OwSl _ _ _ _).rd) ?_
 refine WX.der 54 (MF.rs .der p8 c8 u2.certificates) Z (fun _ hΓ => (hΓ.get 17 Z : OwSl _ _ _ _).rd) ?_
 refine WX.der 55 (MF.rs .der p1 c1 u1.name.parts) Z (fun _ hΓ => (hΓ.get 10 Z : OwSl _ _ _ _).rd) ?_
 refine WX.der 56 (MF.rs .der p2 c2 u1.data.name.parts) Z (fun _ hΓ => (hΓ.get 11 Z : OwSl _ _ _ _).rd) ?_
 refine WX.der 57 (MF.rs .der p3 c3 u1.data.content) Z (fun _ hΓ => (hΓ.get 12 Z : OwSl _ _ _ _).rd) ?_
 refine WX.der 58 (MF.rs .der p4 c4 u1.data.keyName.parts) Z (fun _ hΓ => (hΓ.get 13 Z : OwSl _ _ _ _).rd) ?_
 refine WX.draw [0, 1, 2, 3] mixed ?_
 intro bs G0 hΓ0
 refine DX.toTX ?_
 intro S_
 refine TX.all2 0 1 J ?_ ?_
 ·skip
  refine TS.op 0 Z J ?_
  refine R0 ?_
  refine WX.back0 ?_
  refine TX.all2 1 2 J ?_ ?_
  ·skip
   refine TS.op 1 Z J ?_
   refine R0 ?_
   refine WX.back0 ?_
   refine TX.tail [2, 3] Z Z J ?_
   refine R0 ?_
   have hP2 : a0y code = (u1, u8) := by simp only [a0y, hu1, hu2, h1, hu3, cT, cF]
   refine R1 ?_
   intro w1 G bs hI hΓ
   rw [hP2]
   exact Post.of [10, 11, 12, 13, 43, 44, 45, 46] (((), (), (p1, c1), (), (), (), ((p2, c2), (p3, c3), (p4, c4), (), ())), ((), (), (p13, c13), (), (), (), ((p14, c14), (p15, c15), (p16, c16), (), ()))) hI hΓ Z Z Z (⟨hq1.1, hq4.1⟩)
  refine TS.op 2 Z J ?_
  refine R0 ?_
  refine WX.back0 ?_
  refine TX.tail [1, 3] Z Z J ?_
  refine R0 ?_
  have hP3 : a0y code = (u1, u8) := by simp only [a0y, hu1, hu2, h1, hu3, cT, cF]
  refine R1 ?_
  intro w1 G bs hI hΓ
  rw [hP3]
  exact Post.of [10, 11, 12, 13, 43, 44, 45, 46] (((), (), (p1, c1), (), (), (), ((p2, c2), (p3, c3), (p4, c4), (), ())), ((), (), (p13, c13), (), (), (), ((p14, c14), (p15, c15), (p16, c16), (), ()))) hI hΓ Z Z Z (⟨hq1.1, hq4.1⟩)
 refine TS.op 1 Z J ?_
 refine R0 ?_
 refine WX.back0 ?_
 refine TX.tail [0, 2, 3] Z Z J ?_
 refine R0 ?_
 have hP4 : a0y code = (u1, u8) := by simp only [a0y, hu1, hu2, h1, hu3, cT, cF]
 refine R1 ?_
 intro w1 G bs hI hΓ
 rw [hP4]
 exact Post.of [10, 11, 12, 13, 43, 44, 45, 46] (((), (), (p1, c1), (), (), (), ((p2, c2), (p3, c3), (p4, c4), (), ())), ((), (), (p13, c13), (), (), (), ((p14, c14), (p15, c15), (p16, c16), (), ()))) hI hΓ Z Z Z (⟨hq1.1, hq4.1⟩)
theorem f13 (w : World) (n : Nat) (hn : n + 0 ≤ 9) (a : Consumer) (K0 M0) (N0 : RdSl (hp w) K0 M0 a.name.parts) (K1 M1) (N1 : RdSl (hp w) K1 M1 a.data.name.parts) (K2 M2) (N2 : RdSl (hp w) K2 M2 a.data.content) (K3 M3) (N3 : RdSl (hp w) K3 M3 a.data.keyName.parts) (b : Consumer) (K4 M4) (N4 : RdSl (hp w) K4 M4 b.name.parts) (K5 M5) (N5 : RdSl (hp w) K5 M5 b.data.name.parts) (K6 M6) (N6 : RdSl (hp w) K6 M6 b.data.content) (K7 M7) (N7 : RdSl (hp w) K7 M7 b.data.keyName.parts) (hoka : GoT.ok n a) (hokb : GoT.ok n b) :
 Does Tryz.prog 13 #[.agg #[.int .i64 (a.node), .int .i64 (a.index), .slice K0 ((a.name.parts).length) M0, .int .i64 (a.attempts), .int .i64 (a.wait), .bool a.satisfied, .slice K1 ((a.data.name.parts).length) M1, .slice K2 ((a.data.content).length) M2, .slice K3 ((a.data.keyName.parts).length) M3, .int .i64 (a.data.freshUntil), .int .i64 (a.data.signature)], .agg #[.int .i64 (b.node), .int .i64 (b.index), .slice K4 ((b.name.parts).length) M4, .int .i64 (b.attempts), .int .i64 (b.wait), .bool b.satisfied, .slice K5 ((b.data.name.parts).length) M5, .slice K6 ((b.data.content).length) M6, .slice K7 ((b.data.keyName.parts).length) M7, .int .i64 (b.data.freshUntil), .int .i64 (b.data.signature)]] w emp (pB (a0k a b)) := by
 have hb := bS0 hn
 refine EN Tryz.func13 Z (aC 0 N0 (aC 1 N1 (aC 2 N2 (aC 3 N3 (aC 4 N4 (aC 5 N5 (aC 6 N6 (aC 7 N7 allS_nil)))))))) ?_
 refine R0 ?_
 refine WX.cases 10 Z ?_ ?_ <;> intro h1
 ·skip
  have h1d := B.et h1
  refine R0 ?_
  refine WX.cases 17 Z ?_ ?_ <;> intro h2
  ·skip
   have h2d := B.et h2
   refine R0 ?_
   refine CV Z Z Z Z Z O Z (fun w γ => f27 w n τ1 a.name K0 M0 (γ.q 0 Z) b.name K4 M4 (γ.q 4 Z) ((ok_Consumer hoka).2.2.1) ((ok_Consumer hokb).2.2.1)) ?_
   intro hq1
   refine R0 ?_
   refine WX.cases 24 Z ?_ ?_ <;> intro h3
   ·skip
    refine R0 ?_
    refine WX.cases 31 Z ?_ ?_ <;> intro h4
    ·skip
     have h4d := B.et h4
     refine R0 ?_
     refine WX.cases 38 Z ?_ ?_ <;> intro h5
     ·skip
      have h5d := B.et h5
      refine R0 ?_
      refine WX.see Z Z Z (fun _ hΓ => looks_beq ttOk Z Z Z Z Z Z) ?_
      refine R0 ?_
      refine WX.cases 45 Z ?_ ?_ <;> intro h6
      ·skip
       refine R0 ?_
       refine CV Z Z Z Z Z O Z (fun w γ => f26 w n τ1 a.data K1 M1 (γ.q 1 Z) K2 M2 (γ.q 2 Z) K3 M3 (γ.q 3 Z) b.data K5 M5 (γ.q 5 Z) K6 M6 (γ.q 6 Z) K7 M7 (γ.q 7 Z) ((ok_Consumer hoka).2.2.2.2.2.2) ((ok_Consumer hokb).2.2.2.2.2.2)) ?_
       intro hq2
       refine R0 ?_
       exact R4 Z (by simp only [a0k, h1, h2, h3, h4, h5, h6, cT, cF])
      refine R0 ?_
      exact R4 Z (by simp only [a0k, h1, h2, h3, h4, h5, h6, cT, cF])
     have h5d := B.ef h5
     refine R0 ?_
     exact R4 Z (by simp only [a0k, h1, h2, h3, h4, h5, cT, cF])
    have h4d := B.ef h4
    refine R0 ?_
    exact R4 Z (by simp only [a0k, h1, h2, h3, h4, cT, cF])
   refine R0 ?_
   exact R4 Z (by simp only [a0k, h1, h2, h3, cT, cF])
  have h2d := B.ef h2
  refine R0 ?_
  exact R4 Z (by simp only [a0k, h1, h2, cT, cF])
 have h1d := B.ef h1
 refine R0 ?_
 exact R4 Z (by simp only [a0k, h1, cT, cF])
theorem f14 (w : World) (n : Nat) (hn : n + 0 ≤ 9) (a : Interest) (K0 M0) (N0 : RdSl (hp w) K0 M0 a.name.parts) (b : Interest) (K1 M1) (N1 : RdSl (hp w) K1 M1 b.name.parts) (hoka : GoT.ok n a) (hokb : GoT.ok n b) :
 Does Tryz.prog 14 #[.agg #[.slice K0 ((a.name.parts).length) M0, .int .i64 (a.nonce), .int .i64 (a.hopLimit), .int .i64 (a.lifetime)], .agg #[.slice K1 ((b.name.parts).length) M1, .int .i64 (b.nonce), .int .i64 (b.hopLimit), .int .i64 (b.lifetime)]] w emp (pB (a3r a b)) := by
 have hb := bS0 hn
 refine EN Tryz.func14 Z (aS2 N0 N1) ?_
 refine R0 ?_
 refine CV Z Z Z Z Z O Z (fun w γ => f27 w n τ1 a.name K0 M0 (γ.q 0 Z) b.name K1 M1 (γ.q 1 Z) ((ok_Interest hoka).1) ((ok_Interest hokb).1)) ?_
 intro hq1
 refine R0 ?_
 refine WX.cases 10 Z ?_ ?_ <;> intro h1
 ·skip
  refine R0 ?_
  refine WX.cases 17 Z ?_ ?_ <;> intro h2
  ·skip
   have h2d := B.et h2
   refine R0 ?_
   refine WX.cases 24 Z ?_ ?_ <;> intro h3
   ·skip
    have h3d := B.et h3
    refine R0 ?_
    exact R4 Z (by simp only [a3r, h1, h2, h3, cT, cF])
   have h3d := B.ef h3
   refine R0 ?_
   exact R4 Z (by simp only [a3r, h1, h2, h3, cT, cF])
  have h2d := B.ef h2
  refine R0 ?_
  exact R4 Z (by simp only [a3r, h1, h2, cT, cF])
 refine R0 ?_
 exact R4 Z (by simp only [a3r, h1, cT, cF])
end Go.Proofs.YthdgpfbldbabmaaGreatDoor

namespace Go.Proofs
open Go.Shelf
def Tryz.lays156_ren : Go.Shelf.Ren := ⟨fun | 156 => 101 | 165 => 122 | 166 => 123 | 169 => 124 | 240 => 145 | 241 => 146 | 276 => 162 | 277 => 163 | n => n, fun | 31 => 24 | 9 => 9 | 3 => 3 | 4 => 4 | 0 => 0 | 20 => 20 | 72 => 137 | 76 => 141 | 70 => 135 | 37 => 22 | 75 => 140 | 127 => 160 | 164 => 173 | 5 => 5 | 80 => 143 | n => n, fun | n => n⟩
theorem Tryz.lays156 : Go.Proofs.Lays.n156 Tryz.prog Tryz.lays156_ren := {
 mixed := by kernel_rfl
 f156 := Tryz.func101.trans (congrArg some (by kernel_rfl))
 f165 := Tryz.func122.trans (congrArg some (by kernel_rfl))
 f166 := Tryz.func123.trans (congrArg some (by kernel_rfl))
 f169 := Tryz.func124.trans (congrArg some (by kernel_rfl))
 f240 := Tryz.func145.trans (congrArg some (by kernel_rfl))
 f241 := Tryz.func146.trans (congrArg some (by kernel_rfl))
 f276 := Tryz.func162.trans (congrArg some (by kernel_rfl))
 f277 := Tryz.func163.trans (congrArg some (by kernel_rfl))
 t0 := Tryz.underlying0
 a0 := Tryz.isAgg0
 z0 := Tryz.sizeOf0
 v0 := Tryz.zeroValue0
 t3 := Tryz.underlying3
 a3 := Tryz.isAgg3
 z3 := Tryz.sizeOf3
 v3 := Tryz.zeroValue3
 t4 := Tryz.underlying4
 a4 := Tryz.isAgg4
 z4 := Tryz.sizeOf4
 v4 := Tryz.zeroValue4
 t9 := Tryz.underlying9
 a9 := Tryz.isAgg9
 z9 := Tryz.sizeOf9
 v9 := Tryz.zeroValue9
 t20 := Tryz.underlying20
 a20 := Tryz.isAgg20
 z20 := Tryz.sizeOf20
 v20 := Tryz.zeroValue20
 t31 := Tryz.underlying24
 a31 := Tryz.isAgg24
 z31 := Tryz.sizeOf24
 v31 := Tryz.zeroValue24
 t37 := Tryz.underlying22
 a37 := Tryz.isAgg22
 z37 := Tryz.sizeOf22
 v37 := Tryz.zeroValue22
 t70 := Tryz.underlying135
 a70 := Tryz.isAgg135
 z70 := Tryz.sizeOf135
 v70 := Tryz.zeroValue135
 t72 := Tryz.underlying137
 a72 := Tryz.isAgg137
 z72 := Tryz.sizeOf137
 v72 := Tryz.zeroValue137
 t75 := Tryz.underlying140
 a75 := Tryz.isAgg140
 z75 := Tryz.sizeOf140
 v75 := Tryz.zeroValue140
 t76 := Tryz.underlying141
 a76 := Tryz.isAgg141
 z76 := Tryz.sizeOf141
 v76 := Tryz.zeroValue141
 t127 := Tryz.underlying160
 a127 := Tryz.isAgg160
 z127 := Tryz.sizeOf160
 v127 := Tryz.zeroValue160
 t164 := Tryz.underlying173
 a164 := Tryz.isAgg173
 z164 := Tryz.sizeOf173
 v164 := Tryz.zeroValue173 }
theorem Tryz.Builder_Extra_156 : Builder.Extra Tryz.prog Tryz.lays156_ren := {
 sizeBuilder := by kernel_rfl
 liesBuilder := by kernel_rfl
 t5 := Tryz.underlying5
 a5 := Tryz.isAgg5
 z5 := Tryz.sizeOf5
 v5 := Tryz.zeroValue5
 infoByte := by kernel_rfl
 cellsByte := by kernel_rfl
 sizeByte := by kernel_rfl
 neB5 := by decide }
open Go.RowKit in
theorem Tryz.strings_Join (bk o c : Nat) (xs : List ByteArray) (sep : ByteArray) (w : World) (hcells : ∀ (j : Nat) x, xs[j]? = some x → w.cell? ⟨bk, o + j, none⟩ = some (.string x)) (hbk : bk < w.heap.size) (hN : xs.length ≤ 140737488355328) (hcap : xs.length ≤ c) (hlen : (Lib.join (xs.map (·.data.toList)) sep.data.toList).length ≤ 140737488355328) :
  Calls Tryz.prog 101 #[.slice (some ⟨bk, o, none⟩) xs.length c, .string sep] w fun e w' => e = .returned (.string ⟨(Lib.join (xs.map (·.data.toList)) sep.data.toList).toArray⟩) ∧ Below w.heap.size w w' := Any.strings_Join Tryz.lays156 Tryz.Builder_Extra_156 bk o c xs sep w hcells hbk hN hcap hlen
def Tryz.laysM171_ren : Go.Shelf.Ren := ⟨fun | 171 => 78 | 243 => 100 | 246 => 121 | 283 => 141 | 284 => 142 | 285 => 143 | 286 => 144 | 129 => 158 | 317 => 157 | 318 => 159 | 319 => 160 | 320 => 161 | 337 => 173 | 338 => 174 | n => n, fun | 3 => 3 | 9 => 9 | 2 => 2 | 4 => 4 | 171 => 154 | 0 => 0 | 53 => 155 | 37 => 22 | 5 => 5 | 173 => 158 | 212 => 169 | 51 => 170 | 20 => 20 | 213 => 171 | 46 => 113 | 232 => 187 | 233 => 188 | n => n, fun | 17 => 0 | 18 => 2 | 19 => 3 | n => n⟩
theorem Tryz.laysM171 : Go.Proofs.LaysM.n171 Tryz.prog Tryz.laysM171_ren := {
 mixed := by kernel_rfl
 f129 := Tryz.func158.trans (congrArg some (by kernel_rfl))
 f171 := Tryz.func78.trans (congrArg some (by kernel_rfl))
 f243 := Tryz.func100.trans (congrArg some (by kernel_rfl))
 f246 := Tryz.func121.trans (congrArg some (by kernel_rfl))
 f283 := Tryz.func141.trans (congrArg some (by kernel_rfl))
 f284 := Tryz.func142.trans (congrArg some (by kernel_rfl))
 f285 := Tryz.func143.trans (congrArg some (by kernel_rfl))
 f286 := Tryz.func144.trans (congrArg some (by kernel_rfl))
 f317 := Tryz.func157.trans (congrArg some (by kernel_rfl))
 f318 := Tryz.func159.trans (congrArg some (by kernel_rfl))
 f319 := Tryz.func160.trans (congrArg some (by kernel_rfl))
 f320 := Tryz.func161.trans (congrArg some (by kernel_rfl))
 f337 := Tryz.func173.trans (congrArg some (by kernel_rfl))
 f338 := Tryz.func174.trans (congrArg some (by kernel_rfl))
 t0 := Tryz.underlying0
 a0 := Tryz.isAgg0
 z0 := Tryz.sizeOf0
 v0 := Tryz.zeroValue0
 t2 := Tryz.underlying2
 a2 := Tryz.isAgg2
 z2 := Tryz.sizeOf2
 v2 := Tryz.zeroValue2
 t3 := Tryz.underlying3
 a3 := Tryz.isAgg3
 z3 := Tryz.sizeOf3
 v3 := Tryz.zeroValue3
 t4 := Tryz.underlying4
 a4 := Tryz.isAgg4
 z4 := Tryz.sizeOf4
 v4 := Tryz.zeroValue4
 t5 := Tryz.underlying5
 a5 := Tryz.isAgg5
 z5 := Tryz.sizeOf5
 v5 := Tryz.zeroValue5
 t9 := Tryz.underlying9
 a9 := Tryz.isAgg9
 z9 := Tryz.sizeOf9
 v9 := Tryz.zeroValue9
 t20 := Tryz.underlying20
 a20 := Tryz.isAgg20
 z20 := Tryz.sizeOf20
 v20 := Tryz.zeroValue20
 t37 := Tryz.underlying22
 a37 := Tryz.isAgg22
 z37 := Tryz.sizeOf22
 v37 := Tryz.zeroValue22
 t46 := Tryz.underlying113
 a46 := Tryz.isAgg113
 z46 := Tryz.sizeOf113
 v46 := Tryz.zeroValue113
 t51 := Tryz.underlying170
 a51 := Tryz.isAgg170
 z51 := Tryz.sizeOf170
 v51 := Tryz.zeroValue170
 t53 := Tryz.underlying155
 a53 := Tryz.isAgg155
 z53 := Tryz.sizeOf155
 v53 := Tryz.zeroValue155
 t171 := Tryz.underlying154
 a171 := Tryz.isAgg154
 z171 := Tryz.sizeOf154
 v171 := Tryz.zeroValue154
 t173 := Tryz.underlying158
 a173 := Tryz.isAgg158
 z173 := Tryz.sizeOf158
 v173 := Tryz.zeroValue158
 t212 := Tryz.underlying169
 a212 := Tryz.isAgg169
 z212 := Tryz.sizeOf169
 v212 := Tryz.zeroValue169
 t213 := Tryz.underlying171
 a213 := Tryz.isAgg171
 z213 := Tryz.sizeOf171
 t232 := Tryz.underlying187
 a232 := Tryz.isAgg187
 z232 := Tryz.sizeOf187
 v232 := Tryz.zeroValue187
 t233 := Tryz.underlying188
 a233 := Tryz.isAgg188
 z233 := Tryz.sizeOf188
 v233 := Tryz.zeroValue188
 g17 := by kernel_rfl
 g18 := by kernel_rfl
 g19 := by kernel_rfl
 i0 := by kernel_rfl
 i2 := by kernel_rfl
 i3 := by kernel_rfl
 i4 := by kernel_rfl
 i5 := by kernel_rfl
 i9 := by kernel_rfl
 i20 := by kernel_rfl
 i37 := by kernel_rfl
 i46 := by kernel_rfl
 i51 := by kernel_rfl
 i53 := by kernel_rfl
 i171 := by kernel_rfl
 i173 := by kernel_rfl
 i212 := by kernel_rfl
 i232 := by kernel_rfl
 i233 := by kernel_rfl
 m17 := by kernel_rfl
 m18 := by kernel_rfl
 m19 := by kernel_rfl }
open Go.RowKit Go.Sort Go.Lib in
theorem Tryz.strconv_Itoa (n : Int) (h0 : -9223372036854775808 ≤ n) (h1 : n ≤ 9223372036854775807) (w : World) (htab : Lib.TabIs Tryz.prog w "internal/strconv.uint64pow10" .u64 Lib.pow10Tab) :
  Calls Tryz.prog 78 #[.int .i64 n] w fun e w' => e = .returned (.string ⟨(Lib.itoa n).toArray⟩) ∧ ∃ k os, w' = grow (w.drewN k) os := Any.strconv_Itoa Tryz.laysM171 n h0 h1 w htab
end Go.Proofs

namespace Go.Stp
set_option linter.unusedVariables false
set_option linter.unusedSimpArgs false
open Go.Proofs Go.RowKit
open GoT (X ok sh fa oa)
def itoaS (n : Int) : Str := ⟨(Lib.itoa n).toArray⟩
theorem itoaS_size {n : Int} (h : I64 n) : (itoaS n).size ≤ 21 := by
 have := Lib.itoa_length_le n h.1 h.2
 show (Lib.itoa n).toArray.size ≤ 21
 simpa using this
def Tb (w : World) : Prop := Lib.TabIs Tryz.prog w "internal/strconv.uint64pow10" .u64 Lib.pow10Tab
theorem Tb.below {w w' : World} (h : Tb w) (hb : Below w.heap.size w w') : Tb w' := by
 unfold Tb Lib.TabIs World.var? at h ⊢
 cases hg : Program.globalNamed Tryz.prog "internal/strconv.uint64pow10" with
 | none => rw [hg] at h; cases h
 | some g =>
  rw [hg] at h
  simp only [Option.bind_some] at h ⊢
  have hlt : g < w.heap.size := by
   rcases Nat.lt_or_ge g w.heap.size with h' | h'
   ·exact h'
   ·rw [Array.getElem?_eq_none h'] at h; cases h
  rw [hb.block g hlt]
  exact h
theorem Tb.kp {C : Cx} {w : World} {G : GH} {bs : Nat → Nat} {L : Locs} {R : Rows} (hI : HInv C w G bs L R) (h : Tb C.w0) (hH : C.H = emp := by rfl) : Tb w := by
 have hk := hI.keep
 rw [hH] at hk
 exact h.below hk.below
theorem kp_of_below {w w' : World} (h : Below w.heap.size w w') : Kp emp w w' := ⟨h.os, h.tape, h.output, h.size, fun i hi _ => h.block i hi⟩
theorem does_itoa {w : World} {x : Int} (h : I64 x) (ht : Tb w) (hE : EnterOk Tryz.prog 78) : Does Tryz.prog 78 #[.int .i64 x] w emp (fun (rv : Value) (_ : World) => rv = .string (itoaS x) ∧ (itoaS x).size ≤ 21) :=
 ⟨hE, (Tryz.strconv_Itoa x h.1 h.2 w ht).mono fun e w' ⟨he, k, os, hw⟩ => ⟨_, he, kp_of_below (hw ▸ Lib.below_grow _ w (Nat.le_refl _) k os), rfl, itoaS_size h⟩⟩
theorem looks_neg {C : Cx} {env : Env} {L : Locs} {R : Rows} {G : GH} {o : Oper} {x : Operand} {T : Nat} {m : Int} (ho : o.op = .unOp .neg T x)
  (hx : ev env x = some (.v (.int .i64 m))) (hr : I64 (-m)) : Looks C env L R G o (.v (.int .i64 (-m))) := by
 intro a w G' bs _ hA hI
 unfold execOp
 simp only [ho, ev_conc hA hx, conc]
 have := wrap_i64 hr
 simp [Op.unary, Op.intArith, this]
def joinS (l : List Str) (s : Str) : Str := ⟨(Lib.join (l.map (fun z : Str => z.data.toList)) s.data.toList).toArray⟩
theorem lens_le : ∀ l : List Str, (∀ a ∈ l, a.size ≤ 1048576) → Lib.lens (l.map (fun z : Str => z.data.toList)) ≤ l.length * 1048576
 | [], _ => Nat.le_refl _
 | x :: l, h => by
  have ih := lens_le l (fun a ha => h a (List.mem_cons_of_mem _ ha))
  have h1 : x.data.toList.length ≤ 1048576 := h x List.mem_cons_self
  simp only [Lib.lens, List.map_cons, List.sum_cons, List.length_cons] at ih ⊢
  omega
theorem joinS_size {n : Nat} {e : List Str} {s : Str} (hn : bd n = 1048576) (h : GoT.ok n e) (hs : s.size ≤ 1) : (joinS e s).size ≤ 1099512676352 := by
 have h0 : (joinS e s).size = (Lib.join (e.map (fun z : Str => z.data.toList)) s.data.toList).length := by
  show (List.toArray _).size = _
  simp
 rw [h0]
 have h1 : e.length ≤ bd n := h.1
 have h2 := lens_le e (fun a ha => by have : a.size ≤ bd n := h.2 a ha; omega)
 cases e with
 | nil => exact Nat.zero_le _
 | cons x r =>
  rw [List.map_cons, Lib.join_length, List.length_map]
  rw [List.map_cons] at h2
  have h3 : s.data.toList.length ≤ 1 := hs
  have h4 : s.data.toList.length * r.length ≤ 1 * r.length := Nat.mul_le_mul_right _ h3
  rw [List.length_cons] at h1 h2
  omega
theorem wrap_abs (y : Int) : (IntKind.i64.wrap y).natAbs ≤ y.natAbs := by
 by_cases h : I64 y
 ·rw [wrap_i64 h]; exact Nat.le_refl _
 ·have := i64_wrap y
  unfold I64 at h this
  omega
theorem wrap_quoN {x : Int} (h : x ≠ 0) : (IntKind.i64.wrap (x.tdiv 10)).natAbs < x.natAbs := by
 refine Nat.lt_of_le_of_lt (wrap_abs _) ?_
 rw [Int.natAbs_tdiv]
 show x.natAbs / 10 < x.natAbs
 omega
def fiInv (x : Int) (s : Nat) : Prop := x.natAbs * 10 ^ s ≤ 9223372036854775808 ∧ (s = 0 ∨ 10 ^ (s - 1) ≤ 9223372036854775808)
theorem fiInv_0 {x : Int} (h : I64 x) : fiInv x 0 := ⟨by unfold I64 at h; simp; omega, .inl rfl⟩
theorem fiInv_step {x : Int} {s t : Str} (ht : t.size = 1) (h : x ≠ 0) (hi : fiInv x s.size) : fiInv (IntKind.i64.wrap (x.tdiv 10)) (t ++ s).size := by
 obtain ⟨h1, _⟩ := hi
 rw [ByteArray.size_append, ht]
 have h2 : (IntKind.i64.wrap (x.tdiv 10)).natAbs * 10 ≤ x.natAbs := by
  have := wrap_abs (x.tdiv 10)
  rw [Int.natAbs_tdiv] at this
  have h3 : (IntKind.i64.wrap (x.tdiv 10)).natAbs ≤ x.natAbs / 10 := this
  omega
 refine ⟨?_, .inr ?_⟩
 ·rw [Nat.add_comm, Nat.pow_succ, Nat.mul_comm (10 ^ s.size), ← Nat.mul_assoc]
  exact Nat.le_trans (Nat.mul_le_mul_right _ h2) h1
 ·rw [Nat.add_sub_cancel_left]
  have h4 : 1 * 10 ^ s.size ≤ x.natAbs * 10 ^ s.size := Nat.mul_le_mul_right _ (by omega)
  omega
theorem fiInv_size {x : Int} {s : Nat} (hi : fiInv x s) : s ≤ 20 := by
 rcases hi.2 with h3 | h3
 ·omega
 ·by_cases hs : s ≤ 20
  ·exact hs
  ·have h4 : 10 ^ 20 ≤ 10 ^ (s - 1) := Nat.pow_le_pow_right (by omega) (by omega)
   have h5 : (10 : Nat) ^ 20 = 100000000000000000000 := by decide
   omega
end Go.Stp

namespace Go.Stp
set_option linter.unusedVariables false
set_option linter.unusedSimpArgs false
open Go.Proofs Go.RowKit
open GoT (X ok sh fa oa)
theorem does_join {w : World} {p : Option Addr} {c : Nat} {e : List Str} {s : Str} (hr : RdSl (hp w) p c e) (he : GoT.ok 0 e) (hne : e ≠ []) (hs : s.size ≤ 1) (hE : EnterOk Tryz.prog 101) :
  Does Tryz.prog 101 #[.slice p e.length c, .string s] w emp (fun (rv : Value) (_ : World) => rv = .string (joinS e s) ∧ (joinS e s).size ≤ 1099512676352) := by
 have hz := joinS_size rfl he hs
 have hl : (Lib.join (e.map (fun z : Str => z.data.toList)) s.data.toList).length ≤ 1099512676352 := by
  have h0 : (joinS e s).size = (Lib.join (e.map (fun z : Str => z.data.toList)) s.data.toList).length := by
   show (List.toArray _).size = _
   simp
  omega
 have hn : e.length ≤ 1048576 := he.1
 obtain ⟨x, hx⟩ : ∃ x, e[0]? = some x := by
  cases e with
  | nil => exact absurd rfl hne
  | cons x r => exact ⟨x, rfl⟩
 obtain ⟨_, ⟨bk, o, sp⟩, rfl, _, hc⟩ := RdSl.get hr hx
 have h0 := hc 0 (.string x) rfl
 have hsp : sp = none ∧ bk < w.heap.size := by
  unfold gcell hp at h0
  cases hb : w.heap[bk]? with
  | none => simp [Addr.add, hb] at h0
  | some ob =>
   refine ⟨?_, (Array.getElem?_eq_some_iff.1 hb).1⟩
   cases sp with
   | none => rfl
   | some q => cases ob <;> simp [Addr.add, hb] at h0
 obtain ⟨rfl, hb⟩ := hsp
 refine ⟨hE, (Tryz.strings_Join bk o c e s w (fun j y hj => ?_) hb (Nat.le_trans hn (by decide)) hr.1 (Nat.le_trans hl (by decide))).mono fun ev w' ⟨h1, h2⟩ => ⟨_, h1, kp_of_below h2, rfl, hz⟩⟩
 obtain ⟨_, ad, had, _, hc'⟩ := RdSl.get hr hj
 obtain rfl := Option.some.inj had
 have h1 := hc' 0 (.string y) rfl
 rw [gcell_hp] at h1
 have h2 : (GoT.k Str) = 1 := rfl
 by_cases hj0 : j = 0
 ·subst hj0
  simpa [Addr.add, h2] using h1
 ·simpa [Addr.add, h2, hj0] using h1
end Go.Stp

namespace Go.Stp
set_option linter.unusedVariables false
set_option linter.unusedSimpArgs false
def a1x (n_ : Int) : Str :=
 (itoaS n_)
def a2l (s : Str) (x_ : Int) : Str × Int :=
 if (x_ != 0) = true then
  if Int.tmod x_ 10 < 0 then
   a2l ((bstr ([(toU8 (IntKind.i64.wrap (48 + (-(Int.tmod x_ 10)))))])) ++ s) (IntKind.i64.wrap (Int.tdiv x_ 10))
  else
   a2l ((bstr ([(toU8 (IntKind.i64.wrap (48 + (Int.tmod x_ 10))))])) ++ s) (IntKind.i64.wrap (Int.tdiv x_ 10))
 else
  (s, x_)
termination_by x_.natAbs
decreasing_by all_goals exact wrap_quoN (by simpa using ‹(x_ != 0) = true›)
def a1d (n_ : Int) : Str :=
 bif (n_ == 0) then
  (⟨#[48]⟩ : Str)
 else
  match a2l (⟨#[]⟩ : Str) n_ with
   | (s, x_) =>
    bif decide (n_ < 0) then
     ((⟨#[45]⟩ : Str) ++ s)
    else
     s
def a3s (parts : (List Str)) : Str :=
 bif ((((parts).length : Nat) : Int) == 0) then
  (⟨#[47]⟩ : Str)
 else
  ((⟨#[47]⟩ : Str) ++ (joinS parts (⟨#[47]⟩ : Str)))
def a27 (n_ : Name) : Str :=
 (a3s n_.parts)
def a3i : List Str → Str → Str
 | [], s => s
 | e1 :: rest_, s =>
  a3i rest_ ((s ++ (⟨#[47]⟩ : Str)) ++ e1)
def a1y (n_ : Name) : Str :=
 match a3i n_.parts (⟨#[]⟩ : Str) with
  | s =>
   bif ((((n_.parts).length : Nat) : Int) == 0) then
    (⟨#[47]⟩ : Str)
   else
    s
theorem fnm_L : ∀ (l : List Str) (s : Str), (∀ a ∈ l, a.size ≤ 1048576) → (a3i l s).size ≤ s.size + l.length * 1048577
 | [], s, _ => Nat.le_refl _
 | x :: l, s, h => by
  have ih := fnm_L l ((s ++ (⟨#[47]⟩ : Str)) ++ x) (fun a ha => h a (List.mem_cons_of_mem _ ha))
  have h1 := h x List.mem_cons_self
  simp only [a3i, List.length_cons]
  rw [ByteArray.size_append, ByteArray.size_append] at ih
  have h2 : (⟨#[47]⟩ : Str).size = 1 := rfl
  omega
theorem fnm_spec {n : Nat} {m : Name} (hn : bd n = 1048576) (h : GoT.ok n m) : (a1y m).size ≤ 1099512676353 := by
 have h0 := ok_Name h
 have h1 : m.parts.length ≤ bd n := h0.1
 have h2 := fnm_L m.parts (⟨#[]⟩ : Str) (fun a ha => by have : a.size ≤ bd n := h0.2 a ha; omega)
 have h3 : (⟨#[]⟩ : Str).size = 0 := rfl
 have h4 : (⟨#[47]⟩ : Str).size = 1 := rfl
 unfold a1y
 dsimp only
 cases ((((m.parts).length : Nat) : Int) == 0)
 ·simp only [cond_false]; omega
 ·simp only [cond_true]; omega
theorem fnm_impl {n : Nat} {m : Name} (hn : bd n = 1048576) (h : GoT.ok n m) : (a27 m).size ≤ 1099512676353 := by
 have h0 := ok_Name h
 have h2 := joinS_size (s := (⟨#[47]⟩ : Str)) hn h0 (by decide)
 have h4 : (⟨#[47]⟩ : Str).size = 1 := rfl
 unfold a27 a3s
 cases ((((m.parts).length : Nat) : Int) == 0)
 ·simp only [cond_false]; rw [ByteArray.size_append]; omega
 ·simp only [cond_true]; omega
def a3j (a : Consumer) : Str :=
 bif a.satisfied then
  (((((a1x a.node) ++ (⟨#[32]⟩ : Str)) ++ (a27 a.name)) ++ (⟨#[32]⟩ : Str)) ++ (⟨#[111, 107]⟩ : Str))
 else
  (((((a1x a.node) ++ (⟨#[32]⟩ : Str)) ++ (a27 a.name)) ++ (⟨#[32]⟩ : Str)) ++ (a1x a.attempts))
def a3k (a : Consumer) : Str :=
 bif a.satisfied then
  ((((a1d a.node) ++ (⟨#[32]⟩ : Str)) ++ (a1y a.name)) ++ (⟨#[32, 111, 107]⟩ : Str))
 else
  (((((a1d a.node) ++ (⟨#[32]⟩ : Str)) ++ (a1y a.name)) ++ (⟨#[32]⟩ : Str)) ++ (a1d a.attempts))
end Go.Stp

