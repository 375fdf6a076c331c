/-
  What the proof of one law needs: rules of the program logic, functions as Lean functions, contracts. No condition but what each says. Written by a program (pack.py) out of my own texts.
-/
import Derived.Test.YtfffongneoegbaaGreatKPublish2
namespace Go.Proofs.YtfffongneoegbaaGreat
open Go.Stp
set_option linter.unusedVariables false
set_option linter.unusedSimpArgs false
theorem f167 (w : World) (n : Nat) (hn : n + 0 ≤ 9) (n_ : Int) (a : Int) (b : Int) (hokn_ : GoT.ok n n_) (hoka : GoT.ok n a) (hokb : GoT.ok n b) :
    Does Tryz.prog 167 #[.int .i64 (n_), .int .i64 (a), .int .i64 (b)] w emp (fun (rv : Value) (_ : World) => rv = .bool (impl_InRange n_ a b) ∧ True) := by
  refine WX.enter (tt := tt) (Γ := []) Tryz.func167 rfl (by kernel_rfl) rfl allS_nil ?_
  refine WX.run ttOk rfl ?_
  refine WX.cases 10 rfl (fun h1 => ?_) (fun h1 => ?_)
  · skip
    have h1d := B.dt h1
    refine WX.run ttOk rfl ?_
    have hP1 : impl_InRange n_ a b = (decide (n_ ≤ b)) := by simp only [impl_InRange, h1, cond_true, cond_false]
    refine WX.ret ttOk rfl ?_
    intro w1 G bs hI hΓ
    rw [hP1]
    exact ⟨rfl, trivial⟩
  · skip
    have h1d := B.df h1
    refine WX.run ttOk rfl ?_
    have hP2 : impl_InRange n_ a b = false := by simp only [impl_InRange, h1, cond_true, cond_false]
    refine WX.ret ttOk rfl ?_
    intro w1 G bs hI hΓ
    rw [hP2]
    exact ⟨rfl, trivial⟩
theorem f160 (w : World) (n : Nat) (hn : n + 0 ≤ 9) (x_ : Int) (least : Int) (most : Int) (hokx_ : GoT.ok n x_) (hokleast : GoT.ok n least) (hokmost : GoT.ok n most) :
    Does Tryz.prog 160 #[.int .i64 (x_), .int .i64 (least), .int .i64 (most)] w emp (fun (rv : Value) (_ : World) => rv = .bool (spec_l1In x_ least most) ∧ True) := by
  refine WX.enter (tt := tt) (Γ := []) Tryz.func160 rfl (by kernel_rfl) rfl allS_nil ?_
  refine WX.run ttOk rfl ?_
  refine WX.cases 10 rfl (fun h1 => ?_) (fun h1 => ?_)
  · skip
    have h1d := B.dt h1
    refine WX.run ttOk rfl ?_
    have hP1 : spec_l1In x_ least most = (decide (x_ ≤ most)) := by simp only [spec_l1In, h1, cond_true, cond_false]
    refine WX.ret ttOk rfl ?_
    intro w1 G bs hI hΓ
    rw [hP1]
    exact ⟨rfl, trivial⟩
  · skip
    have h1d := B.df h1
    refine WX.run ttOk rfl ?_
    have hP2 : spec_l1In x_ least most = false := by simp only [spec_l1In, h1, cond_true, cond_false]
    refine WX.ret ttOk rfl ?_
    intro w1 G bs hI hΓ
    rw [hP2]
    exact ⟨rfl, trivial⟩
theorem inR_impl {n a b : Int} (h : impl_InRange n a b = true) : a ≤ n ∧ n ≤ b := by
  unfold impl_InRange at h
  cases hd : decide (a ≤ n)
  · exact absurd (show false = true by rw [show decide (a ≤ n) = false from hd] at h; exact h) Bool.false_ne_true
  · rw [show decide (a ≤ n) = true from hd] at h
    exact ⟨of_decide_eq_true hd, of_decide_eq_true (show decide (n ≤ b) = true from h)⟩
theorem inR_spec {n a b : Int} (h : spec_l1In n a b = true) : a ≤ n ∧ n ≤ b := by
  unfold spec_l1In at h
  cases hd : decide (a ≤ n)
  · exact absurd (show false = true by rw [show decide (a ≤ n) = false from hd] at h; exact h) Bool.false_ne_true
  · rw [show decide (a ≤ n) = true from hd] at h
    exact ⟨of_decide_eq_true hd, of_decide_eq_true (show decide (n ≤ b) = true from h)⟩
end Go.Proofs.YtfffongneoegbaaGreat

namespace Go.Stp
set_option linter.unusedVariables false
set_option linter.unusedSimpArgs false
def impl_copyName (n_ : Name) : Name :=
  n_
def spec_l4Copy (n_ : Name) : Name :=
  n_
end Go.Stp

namespace Go.Proofs.YtfffongneoegbaaGreat
open Go.Stp
set_option linter.unusedVariables false
set_option linter.unusedSimpArgs false
theorem f186 (w : World) (n : Nat) (hn : n + 0 ≤ 9) (s : (List Str)) (ps : Option Addr) (cs : Nat) (hps : RdSl (hp w) ps cs s) (hoks : GoT.ok n s) :
    Does Tryz.prog 186 #[.slice ps ((s).length) cs] w emp (Post w emp (fun x : GoT.X ((List Str)) => (GoT.sh (s : (List Str)) x).headD undef) (fun x => GoT.oa (s : (List Str)) x) (GoT.ok n (s : (List Str)))) := by
  have hbP := bd_pos n
  have hbB := bd_big (n := n) (by omega)
  refine WX.enter (tt := tt) (Γ := [(0, MF.rs .stb ps cs s)]) Tryz.func186 rfl (by kernel_rfl) rfl (allS_cons rfl hps allS_nil) ?_
  refine WX.run ttOk rfl ?_
  refine WX.see rfl rfl rfl (fun _ hΓ => looks_nil ttOk rfl rfl rfl rfl) ?_
  refine WX.cases 4 rfl (fun hp1 => ?_) (fun hp1 => ?_)
  · skip
    obtain rfl : ps = none := by simpa using hp1
    refine WX.know (fun G hΓ => rdSl_none (hΓ.get 0 rfl)) ?_
    intro ln1
    refine WX.run ttOk rfl ?_
    subst ln1
    refine WX.free 1 (MF.os none 0 ([] : List Str)) (owSl_nil _ _) ?_
    refine WX.ret ttOk rfl ?_
    intro w1 G bs hI hΓ
    exact Post.of [1] (none, 0) hI hΓ rfl rfl rfl (by assumption)
  · skip
    refine WX.run ttOk rfl ?_
    refine WX.bld ttOk rfl rfl rfl rfl rfl rfl rfl ?_
    intro p1
    refine WX.run ttOk rfl ?_
    refine WX.free 2 (MF.ol [] ([] : List Str)) rfl ?_
    have r1 : (s).length ≤ bd n := (okl hoks).1
    refine WX.appG1 5 0 3 (s : List Str).length ttOk rfl rfl rfl rfl rfl rfl rfl rfl rfl rfl rfl rfl rfl (by simp) (by omega) (by omega) (fun _ _ _ => rfl) ?_
    intro ys1 p2 c1
    refine WX.know (fun G hΓ => (hΓ.get 3 rfl : RdL _ _ _).flat) ?_
    intro hf1
    refine WX.turn [2] 4 rfl (fun h hs => ol_flat hs hf1) (gs := [MF.ol ([] ++ ys1) (s : List Str)]) rfl ?_
    refine WX.run ttOk rfl ?_
    refine WX.seal 5 4 5 rfl rfl rfl rfl rfl ?_
    refine WX.ret ttOk rfl ?_
    intro w1 G bs hI hΓ
    exact Post.of [6] (p2, c1) hI hΓ rfl rfl rfl (by assumption)
theorem f71 (w : World) (n : Nat) (hn : n + 0 ≤ 9) (s : (List UInt8)) (ps : Option Addr) (cs : Nat) (hps : RdSl (hp w) ps cs s) (hoks : GoT.ok n s) :
    Does Tryz.prog 71 #[.slice ps ((s).length) cs] w emp (Post w emp (fun x : GoT.X ((List UInt8)) => (GoT.sh (s : (List UInt8)) x).headD undef) (fun x => GoT.oa (s : (List UInt8)) x) (GoT.ok n (s : (List UInt8)))) := by
  have hbP := bd_pos n
  have hbB := bd_big (n := n) (by omega)
  refine WX.enter (tt := tt) (Γ := [(0, MF.rs .stb ps cs s)]) Tryz.func71 rfl (by kernel_rfl) rfl (allS_cons rfl hps allS_nil) ?_
  refine WX.run ttOk rfl ?_
  refine WX.see rfl rfl rfl (fun _ hΓ => looks_nil ttOk rfl rfl rfl rfl) ?_
  refine WX.cases 4 rfl (fun hp1 => ?_) (fun hp1 => ?_)
  · skip
    obtain rfl : ps = none := by simpa using hp1
    refine WX.know (fun G hΓ => rdSl_none (hΓ.get 0 rfl)) ?_
    intro ln1
    refine WX.run ttOk rfl ?_
    subst ln1
    refine WX.free 1 (MF.os none 0 ([] : List UInt8)) (owSl_nil _ _) ?_
    refine WX.ret ttOk rfl ?_
    intro w1 G bs hI hΓ
    exact Post.of [1] (none, 0) hI hΓ rfl rfl rfl (by assumption)
  · skip
    refine WX.run ttOk rfl ?_
    refine WX.bld ttOk rfl rfl rfl rfl rfl rfl rfl ?_
    intro p1
    refine WX.run ttOk rfl ?_
    refine WX.free 2 (MF.ol [] ([] : List UInt8)) rfl ?_
    have r1 : (s).length ≤ bd n := (okl hoks).1
    refine WX.appG1 5 0 3 (s : List UInt8).length ttOk rfl rfl rfl rfl rfl rfl rfl rfl rfl rfl rfl rfl rfl (by simp) (by omega) (by omega) (fun _ _ _ => rfl) ?_
    intro ys1 p2 c1
    refine WX.know (fun G hΓ => (hΓ.get 3 rfl : RdL _ _ _).flat) ?_
    intro hf1
    refine WX.turn [2] 4 rfl (fun h hs => ol_flat hs hf1) (gs := [MF.ol ([] ++ ys1) (s : List UInt8)]) rfl ?_
    refine WX.run ttOk rfl ?_
    refine WX.seal 5 4 5 rfl rfl rfl rfl rfl ?_
    refine WX.ret ttOk rfl ?_
    intro w1 G bs hI hΓ
    exact Post.of [6] (p2, c1) hI hΓ rfl rfl rfl (by assumption)
theorem f70 (w : World) (n : Nat) (hn : n + 0 ≤ 9) (n_ : Name) (pn_ : Option Addr) (cn_ : Nat) (hpn_ : RdSl (hp w) pn_ cn_ n_.parts) (hokn_ : GoT.ok n n_) :
    Does Tryz.prog 70 #[.agg #[.slice pn_ ((n_.parts).length) cn_]] w emp (Post w emp (fun x : GoT.X (Name) => .agg ⟨GoT.sh ((impl_copyName n_) : Name) x⟩) (fun x => GoT.oa ((impl_copyName n_) : Name) x) (GoT.ok n ((impl_copyName n_) : Name))) := by
  have hbP := bd_pos n
  have hbB := bd_big (n := n) (by omega)
  refine WX.enter (tt := tt) (Γ := [(0, MF.rs .stb pn_ cn_ n_.parts)]) Tryz.func70 rfl (by kernel_rfl) rfl (allS_cons rfl hpn_ allS_nil) ?_
  refine WX.run ttOk rfl ?_
  refine WX.callF 1 (fun _ _ h => GoT.ow_rd h) (fun _ f hf => GoT.fak f hf) rfl rfl rfl rfl rfl (fun _ => rfl) rfl (fun w G bs hI hΓ => f186 w n (by omega) n_.parts pn_ cn_ (hΓ.get 0 rfl) (ok_Name hokn_)) (fun _ => rfl) (fun _ => rfl) ?_
  rintro ⟨p1, c1⟩ hq1
  refine WX.run ttOk rfl ?_
  have hP1 : impl_copyName n_ = n_ := by simp only [impl_copyName, cond_true, cond_false]
  refine WX.ret ttOk rfl ?_
  intro w1 G bs hI hΓ
  rw [hP1]
  exact Post.of [2] (p1, c1) hI hΓ rfl rfl rfl hq1
theorem f63 (w : World) (n : Nat) (hn : n + 0 ≤ 9) (n_ : Name) (pn_ : Option Addr) (cn_ : Nat) (hpn_ : RdSl (hp w) pn_ cn_ n_.parts) (hokn_ : GoT.ok n n_) :
    Does Tryz.prog 63 #[.agg #[.slice pn_ ((n_.parts).length) cn_]] w emp (Post w emp (fun x : GoT.X (Name) => .agg ⟨GoT.sh ((spec_l4Copy n_) : Name) x⟩) (fun x => GoT.oa ((spec_l4Copy n_) : Name) x) (GoT.ok n ((spec_l4Copy n_) : Name))) := by
  have hbP := bd_pos n
  have hbB := bd_big (n := n) (by omega)
  refine WX.enter (tt := tt) (Γ := [(0, MF.rs .stb pn_ cn_ n_.parts)]) Tryz.func63 rfl (by kernel_rfl) rfl (allS_cons rfl hpn_ allS_nil) ?_
  refine WX.run ttOk rfl ?_
  refine WX.bld ttOk rfl rfl rfl rfl rfl rfl rfl ?_
  intro p1
  refine WX.run ttOk rfl ?_
  refine WX.free 1 (MF.ol [] ([] : List Str)) rfl ?_
  have r1 : (n_.parts).length ≤ bd n := (okl (ok_Name hokn_)).1
  refine WX.appG1 3 0 2 (n_.parts : List Str).length ttOk rfl rfl rfl rfl rfl rfl rfl rfl rfl rfl rfl rfl rfl (by simp) (by omega) (by omega) (fun _ _ _ => rfl) ?_
  intro ys1 p2 c1
  refine WX.know (fun G hΓ => (hΓ.get 2 rfl : RdL _ _ _).flat) ?_
  intro hf1
  refine WX.turn [1] 3 rfl (fun h hs => ol_flat hs hf1) (gs := [MF.ol ([] ++ ys1) (n_.parts : List Str)]) rfl ?_
  refine WX.run ttOk rfl ?_
  refine WX.seal 3 3 4 rfl rfl rfl rfl rfl ?_
  have hP1 : spec_l4Copy n_ = n_ := by simp only [spec_l4Copy, cond_true, cond_false]
  refine WX.ret ttOk rfl ?_
  intro w1 G bs hI hΓ
  rw [hP1]
  exact Post.of [5] (p2, c1) hI hΓ rfl rfl rfl (okl_mk (by omega) (okl (ok_Name hokn_)).2 : GoT.ok n (n_.parts : List Str))
end Go.Proofs.YtfffongneoegbaaGreat

namespace Go.Stp
set_option linter.unusedVariables false
set_option linter.unusedSimpArgs false
def laws_szStringS_L1 : List Str → Int → Ctl (Int) (Int)
  | [], left2 => (Ctl.nxt left2)
  | e1 :: rest_, left2 =>
    bif decide (IntKind.i64.wrap (left2 - (((e1).size : Nat) : Int)) < 0) then
      (Ctl.ret (-1))
    else
      laws_szStringS_L1 rest_ (IntKind.i64.wrap (left2 - (((e1).size : Nat) : Int)))
def laws_szStringS (a : (List Str)) (left : Int) : Int :=
  bif decide (IntKind.i64.wrap (left - (((a).length : Nat) : Int)) < 0) then
    (-1)
  else
    match laws_szStringS_L1 a (IntKind.i64.wrap (left - (((a).length : Nat) : Int))) with
      | .ret r_ => r_
      | .nxt left2 =>
        left2
def laws_szName (a : Name) (left : Int) : Int :=
  bif decide ((laws_szStringS a.parts left) < 0) then
    (-1)
  else
    (laws_szStringS a.parts left)
def laws_szTableEntry (a : TableEntry) (left : Int) : Int :=
  bif decide ((laws_szName a.name left) < 0) then
    (-1)
  else
    (laws_szName a.name left)
def laws_szTableEntryS_L1 : List TableEntry → Int → Ctl (Int) (Int)
  | [], left2 => (Ctl.nxt left2)
  | e1 :: rest_, left2 =>
    bif decide ((laws_szTableEntry e1 left2) < 0) then
      (Ctl.ret (-1))
    else
      laws_szTableEntryS_L1 rest_ (laws_szTableEntry e1 left2)
def laws_szTableEntryS (a : (List TableEntry)) (left : Int) : Int :=
  bif decide (IntKind.i64.wrap (left - (((a).length : Nat) : Int)) < 0) then
    (-1)
  else
    match laws_szTableEntryS_L1 a (IntKind.i64.wrap (left - (((a).length : Nat) : Int))) with
      | .ret r_ => r_
      | .nxt left2 =>
        left2
def laws_szStateVector (a : StateVector) (left : Int) : Int :=
  bif decide ((laws_szTableEntryS a.entries left) < 0) then
    (-1)
  else
    (laws_szTableEntryS a.entries left)
def laws_szByteS (a : (List UInt8)) (left : Int) : Int :=
  bif decide (IntKind.i64.wrap (left - (((a).length : Nat) : Int)) < 0) then
    (-1)
  else
    (IntKind.i64.wrap (left - (((a).length : Nat) : Int)))
def laws_szPublication (a : Publication) (left : Int) : Int :=
  bif decide ((laws_szName a.publisher left) < 0) then
    (-1)
  else
    bif decide ((laws_szByteS a.content (laws_szName a.publisher left)) < 0) then
      (-1)
    else
      (laws_szByteS a.content (laws_szName a.publisher left))
def laws_szPublicationS_L1 : List Publication → Int → Ctl (Int) (Int)
  | [], left2 => (Ctl.nxt left2)
  | e1 :: rest_, left2 =>
    bif decide ((laws_szPublication e1 left2) < 0) then
      (Ctl.ret (-1))
    else
      laws_szPublicationS_L1 rest_ (laws_szPublication e1 left2)
def laws_szPublicationS (a : (List Publication)) (left : Int) : Int :=
  bif decide (IntKind.i64.wrap (left - (((a).length : Nat) : Int)) < 0) then
    (-1)
  else
    match laws_szPublicationS_L1 a (IntKind.i64.wrap (left - (((a).length : Nat) : Int))) with
      | .ret r_ => r_
      | .nxt left2 =>
        left2
def laws_szMember (a : Member) (left : Int) : Int :=
  bif decide ((laws_szName a.name left) < 0) then
    (-1)
  else
    bif decide ((laws_szStateVector a.vector (laws_szName a.name left)) < 0) then
      (-1)
    else
      bif decide ((laws_szPublicationS a.publications (laws_szStateVector a.vector (laws_szName a.name left))) < 0) then
        (-1)
      else
        (laws_szPublicationS a.publications (laws_szStateVector a.vector (laws_szName a.name left)))
end Go.Stp

namespace Go.Proofs.YtfffongneoegbaaGreat
open Go.Stp
set_option linter.unusedVariables false
set_option linter.unusedSimpArgs false
theorem f173 (w : World) (n : Nat) (a : (List Str)) (pa : Option Addr) (ca : Nat) (hpa : RdSl (hp w) pa ca a) (left : Int) (hoka : GoT.ok n a) (hokleft : GoT.ok n left) :
    Does Tryz.prog 173 #[.slice pa ((a).length) ca, .int .i64 (left)] w emp (fun (rv : Value) (_ : World) => rv = .int .i64 ((laws_szStringS a left)) ∧ GoT.ok n ((laws_szStringS a left) : Int)) := by
  refine WX.enter (tt := tt) (Γ := [(0, MF.rs .stb pa ca a)]) Tryz.func173 rfl (by kernel_rfl) rfl (allS_cons rfl hpa allS_nil) ?_
  refine WX.run ttOk rfl ?_
  refine WX.see rfl rfl rfl (fun _ hΓ => looks_wrap rfl rfl rfl rfl) ?_
  refine WX.run ttOk rfl ?_
  refine WX.cases 11 rfl (fun h1 => ?_) (fun h1 => ?_)
  · skip
    have h1d := B.dt h1
    refine WX.run ttOk rfl ?_
    have hP1 : laws_szStringS a left = (-1) := by simp only [laws_szStringS, h1, cond_true, cond_false]
    refine WX.ret ttOk rfl ?_
    intro w1 G bs hI hΓ
    rw [hP1]
    exact ⟨rfl, (show I64 (-1) from (by unfold I64; omega))⟩
  · skip
    have h1d := B.df h1
    refine WX.run ttOk rfl ?_
    have r1 : (a).length ≤ bd n := (okl hoka).1
    have r2 : (a).length ≤ 9223372036854775807 := hpa.2.1
    refine WX.loop (ι := Int × Nat) ⟨fun | (left2, i) => (i ≤ (a).length) ∧ (-9223372036854775808 ≤ left2 ∧ left2 ≤ 9223372036854775807) ∧ (laws_szStringS_L1 a (IntKind.i64.wrap (left - (((a).length : Nat) : Int))) = laws_szStringS_L1 ((a).drop i) left2), fun | (left2, i) => (a).length - i, fun | (left2, i) => [(1, .v (.int .i64 (left2))), (5, .v (.int .i64 (((i : Nat) : Int)))), (0, .v (.slice pa ((a).length) ca))], fun | (left2, i) => [], fun | (left2, i) => [], fun | (left2, i) => [(0, MF.rs .stb pa ca a)]⟩ (IntKind.i64.wrap (left - (((a).length : Nat) : Int)), 0) ⟨(Nat.zero_le _), (i64_wrap _), rfl⟩
      (.cons rfl (.cons rfl (.cons rfl (.nil)))) .nil .nil [0] rfl ?_
    rintro ⟨left2, i⟩ hpre
    have hpre_ : (i ≤ (a).length) ∧ (-9223372036854775808 ≤ left2 ∧ left2 ≤ 9223372036854775807) ∧ (laws_szStringS_L1 a (IntKind.i64.wrap (left - (((a).length : Nat) : Int))) = laws_szStringS_L1 ((a).drop i) left2) := hpre
    clear hpre
    obtain ⟨v1, v2, v3⟩ := hpre_
    refine WX.run ttOk rfl ?_
    refine WX.cases 15 rfl (fun h2 => ?_) (fun h2 => ?_)
    · skip
      have h2d := B.dt h2
      have e1i : i < (a).length := (by omega)
      obtain ⟨e1, e1h⟩ : ∃ e1, (a)[i]? = some e1 := ⟨_, List.getElem?_eq_getElem e1i⟩
      have ok1 : GoT.ok n e1 := (okl hoka).2 _ (List.mem_of_getElem? e1h)
      refine WX.run ttOk rfl ?_
      refine WX.idx 0 i ttOk rfl rfl rfl rfl rfl rfl rfl rfl rfl rfl e1i ?_
      rintro ad1 rfl
      refine WX.ldE 0 1 e1 ttOk rfl rfl rfl rfl rfl rfl rfl rfl e1h (fun _ => rfl) (fun _ => rfl) ?_
      rintro ⟨⟩
      refine WX.run ttOk rfl ?_
      refine WX.see rfl rfl rfl (fun _ hΓ => looks_wrap rfl rfl rfl rfl) ?_
      refine WX.run ttOk rfl ?_
      refine WX.cases 26 rfl (fun h3 => ?_) (fun h3 => ?_)
      · skip
        have h3d := B.dt h3
        refine WX.run ttOk rfl ?_
        have hP2 : laws_szStringS_L1 a (IntKind.i64.wrap (left - (((a).length : Nat) : Int))) = (Ctl.ret (-1)) := by rw [v3, drop_get e1h]; simp only [laws_szStringS_L1, h3, cond_true, cond_false]
        have hP3 : laws_szStringS a left = (-1) := by simp only [laws_szStringS, h1, hP2, cond_true, cond_false]
        refine WX.ret ttOk rfl ?_
        intro w1 G bs hI hΓ
        rw [hP3]
        exact ⟨rfl, (show I64 (-1) from (by unfold I64; omega))⟩
      · skip
        have h3d := B.df h3
        refine WX.run ttOk rfl ?_
        refine WX.see rfl rfl rfl (fun _ hΓ => looks_arith rfl rfl rfl rfl (by unfold I64; first | omega | (dsimp only; omega))) ?_
        refine WX.run ttOk rfl ?_
        exact WX.iter (IntKind.i64.wrap (left2 - (((e1).size : Nat) : Int)), i + 1) ⟨(by omega), (i64_wrap _), (by rw [v3, drop_get e1h]; simp only [laws_szStringS_L1, h3, cond_true, cond_false])⟩ (by dsimp only; omega) (.cons rfl (.cons rfl (.cons rfl (.nil)))) .nil .nil [0] rfl
    · skip
      have h2d := B.df h2
      refine WX.run ttOk rfl ?_
      have hX1 : laws_szStringS_L1 a (IntKind.i64.wrap (left - (((a).length : Nat) : Int))) = (Ctl.nxt left2) := by rw [v3, List.drop_eq_nil_of_le (show (a).length ≤ i by omega)]; simp only [laws_szStringS_L1, cond_true, cond_false]
      have hP4 : laws_szStringS a left = left2 := by simp only [laws_szStringS, h1, hX1, cond_true, cond_false]
      refine WX.ret ttOk rfl ?_
      intro w1 G bs hI hΓ
      rw [hP4]
      exact ⟨rfl, v2⟩
theorem f56 (w : World) (n : Nat) (a : Name) (pa : Option Addr) (ca : Nat) (hpa : RdSl (hp w) pa ca a.parts) (left : Int) (hoka : GoT.ok n a) (hokleft : GoT.ok n left) :
    Does Tryz.prog 56 #[.agg #[.slice pa ((a.parts).length) ca], .int .i64 (left)] w emp (fun (rv : Value) (_ : World) => rv = .int .i64 ((laws_szName a left)) ∧ GoT.ok n ((laws_szName a left) : Int)) := by
  refine WX.enter (tt := tt) (Γ := [(0, MF.rs .stb pa ca a.parts)]) Tryz.func56 rfl (by kernel_rfl) rfl (allS_cons rfl hpa allS_nil) ?_
  refine WX.run ttOk rfl ?_
  refine WX.callV rfl rfl rfl rfl rfl (fun _ => rfl) rfl (fun w G bs hI hΓ => f173 w n a.parts pa ca (hΓ.get 0 rfl) left (ok_Name hoka) hokleft) ?_
  intro hq1
  refine WX.run ttOk rfl ?_
  refine WX.cases 10 rfl (fun h1 => ?_) (fun h1 => ?_)
  · skip
    have h1d := B.dt h1
    refine WX.run ttOk rfl ?_
    have hP1 : laws_szName a left = (-1) := by simp only [laws_szName, h1, cond_true, cond_false]
    refine WX.ret ttOk rfl ?_
    intro w1 G bs hI hΓ
    rw [hP1]
    exact ⟨rfl, (show I64 (-1) from (by unfold I64; omega))⟩
  · skip
    have h1d := B.df h1
    refine WX.run ttOk rfl ?_
    have hP2 : laws_szName a left = (laws_szStringS a.parts left) := by simp only [laws_szName, h1, cond_true, cond_false]
    refine WX.ret ttOk rfl ?_
    intro w1 G bs hI hΓ
    rw [hP2]
    exact ⟨rfl, hq1⟩
theorem f216 (w : World) (n : Nat) (a : TableEntry) (paName : Option Addr) (caName : Nat) (hpaName : RdSl (hp w) paName caName a.name.parts) (left : Int) (hoka : GoT.ok n a) (hokleft : GoT.ok n left) :
    Does Tryz.prog 216 #[.agg #[.slice paName ((a.name.parts).length) caName, .int .i64 (a.value)], .int .i64 (left)] w emp (fun (rv : Value) (_ : World) => rv = .int .i64 ((laws_szTableEntry a left)) ∧ GoT.ok n ((laws_szTableEntry a left) : Int)) := by
  refine WX.enter (tt := tt) (Γ := [(0, MF.rs .stb paName caName a.name.parts)]) Tryz.func216 rfl (by kernel_rfl) rfl (allS_cons rfl hpaName allS_nil) ?_
  refine WX.run ttOk rfl ?_
  refine WX.callV rfl rfl rfl rfl rfl (fun _ => rfl) rfl (fun w G bs hI hΓ => f56 w n a.name paName caName (hΓ.get 0 rfl) left ((ok_TableEntry hoka).1) hokleft) ?_
  intro hq1
  refine WX.run ttOk rfl ?_
  refine WX.cases 10 rfl (fun h1 => ?_) (fun h1 => ?_)
  · skip
    have h1d := B.dt h1
    refine WX.run ttOk rfl ?_
    have hP1 : laws_szTableEntry a left = (-1) := by simp only [laws_szTableEntry, h1, cond_true, cond_false]
    refine WX.ret ttOk rfl ?_
    intro w1 G bs hI hΓ
    rw [hP1]
    exact ⟨rfl, (show I64 (-1) from (by unfold I64; omega))⟩
  · skip
    have h1d := B.df h1
    refine WX.run ttOk rfl ?_
    have hP2 : laws_szTableEntry a left = (laws_szName a.name left) := by simp only [laws_szTableEntry, h1, cond_true, cond_false]
    refine WX.ret ttOk rfl ?_
    intro w1 G bs hI hΓ
    rw [hP2]
    exact ⟨rfl, hq1⟩
theorem f113 (w : World) (n : Nat) (a : (List TableEntry)) (pa : Option Addr) (ca : Nat) (hpa : RdSl (hp w) pa ca a) (left : Int) (hoka : GoT.ok n a) (hokleft : GoT.ok n left) :
    Does Tryz.prog 113 #[.slice pa ((a).length) ca, .int .i64 (left)] w emp (fun (rv : Value) (_ : World) => rv = .int .i64 ((laws_szTableEntryS a left)) ∧ GoT.ok n ((laws_szTableEntryS a left) : Int)) := by
  refine WX.enter (tt := tt) (Γ := [(0, MF.rs .stb pa ca a)]) Tryz.func113 rfl (by kernel_rfl) rfl (allS_cons rfl hpa allS_nil) ?_
  refine WX.run ttOk rfl ?_
  refine WX.see rfl rfl rfl (fun _ hΓ => looks_wrap rfl rfl rfl rfl) ?_
  refine WX.run ttOk rfl ?_
  refine WX.cases 11 rfl (fun h1 => ?_) (fun h1 => ?_)
  · skip
    have h1d := B.dt h1
    refine WX.run ttOk rfl ?_
    have hP1 : laws_szTableEntryS a left = (-1) := by simp only [laws_szTableEntryS, h1, cond_true, cond_false]
    refine WX.ret ttOk rfl ?_
    intro w1 G bs hI hΓ
    rw [hP1]
    exact ⟨rfl, (show I64 (-1) from (by unfold I64; omega))⟩
  · skip
    have h1d := B.df h1
    refine WX.run ttOk rfl ?_
    have r1 : (a).length ≤ bd n := (okl hoka).1
    have r2 : (a).length ≤ 9223372036854775807 := hpa.2.1
    refine WX.loop (ι := Int × Nat) ⟨fun | (left2, i) => (i ≤ (a).length) ∧ (-9223372036854775808 ≤ left2 ∧ left2 ≤ 9223372036854775807) ∧ (laws_szTableEntryS_L1 a (IntKind.i64.wrap (left - (((a).length : Nat) : Int))) = laws_szTableEntryS_L1 ((a).drop i) left2), fun | (left2, i) => (a).length - i, fun | (left2, i) => [(1, .v (.int .i64 (left2))), (5, .v (.int .i64 (((i : Nat) : Int)))), (0, .v (.slice pa ((a).length) ca))], fun | (left2, i) => [], fun | (left2, i) => [], fun | (left2, i) => [(0, MF.rs .stb pa ca a)]⟩ (IntKind.i64.wrap (left - (((a).length : Nat) : Int)), 0) ⟨(Nat.zero_le _), (i64_wrap _), rfl⟩
      (.cons rfl (.cons rfl (.cons rfl (.nil)))) .nil .nil [0] rfl ?_
    rintro ⟨left2, i⟩ hpre
    have hpre_ : (i ≤ (a).length) ∧ (-9223372036854775808 ≤ left2 ∧ left2 ≤ 9223372036854775807) ∧ (laws_szTableEntryS_L1 a (IntKind.i64.wrap (left - (((a).length : Nat) : Int))) = laws_szTableEntryS_L1 ((a).drop i) left2) := hpre
    clear hpre
    obtain ⟨v1, v2, v3⟩ := hpre_
    refine WX.run ttOk rfl ?_
    refine WX.cases 15 rfl (fun h2 => ?_) (fun h2 => ?_)
    · skip
      have h2d := B.dt h2
      have e1i : i < (a).length := (by omega)
      obtain ⟨e1, e1h⟩ : ∃ e1, (a)[i]? = some e1 := ⟨_, List.getElem?_eq_getElem e1i⟩
      have ok1 : GoT.ok n e1 := (okl hoka).2 _ (List.mem_of_getElem? e1h)
      refine WX.run ttOk rfl ?_
      refine WX.idx 0 i ttOk rfl rfl rfl rfl rfl rfl rfl rfl rfl rfl e1i ?_
      rintro ad1 rfl
      refine WX.ldE 0 1 e1 ttOk rfl rfl rfl rfl rfl rfl rfl rfl e1h (fun _ => rfl) (fun _ => rfl) ?_
      rintro ⟨⟨p1, c1⟩, ⟨⟩⟩
      refine WX.run ttOk rfl ?_
      refine WX.callV rfl rfl rfl rfl rfl (fun _ => rfl) rfl (fun w G bs hI hΓ => f216 w n e1 p1 c1 (hΓ.get 1 rfl) left2 ok1 v2) ?_
      intro hq1
      refine WX.run ttOk rfl ?_
      refine WX.cases 25 rfl (fun h3 => ?_) (fun h3 => ?_)
      · skip
        have h3d := B.dt h3
        refine WX.run ttOk rfl ?_
        have hP2 : laws_szTableEntryS_L1 a (IntKind.i64.wrap (left - (((a).length : Nat) : Int))) = (Ctl.ret (-1)) := by rw [v3, drop_get e1h]; simp only [laws_szTableEntryS_L1, h3, cond_true, cond_false]
        have hP3 : laws_szTableEntryS a left = (-1) := by simp only [laws_szTableEntryS, h1, hP2, cond_true, cond_false]
        refine WX.ret ttOk rfl ?_
        intro w1 G bs hI hΓ
        rw [hP3]
        exact ⟨rfl, (show I64 (-1) from (by unfold I64; omega))⟩
      · skip
        have h3d := B.df h3
        refine WX.run ttOk rfl ?_
        refine WX.see rfl rfl rfl (fun _ hΓ => looks_arith rfl rfl rfl rfl (by unfold I64; first | omega | (dsimp only; omega))) ?_
        refine WX.run ttOk rfl ?_
        exact WX.iter ((laws_szTableEntry e1 left2), i + 1) ⟨(by omega), hq1, (by rw [v3, drop_get e1h]; simp only [laws_szTableEntryS_L1, h3, cond_true, cond_false])⟩ (by dsimp only; omega) (.cons rfl (.cons rfl (.cons rfl (.nil)))) .nil .nil [0] rfl
    · skip
      have h2d := B.df h2
      refine WX.run ttOk rfl ?_
      have hX1 : laws_szTableEntryS_L1 a (IntKind.i64.wrap (left - (((a).length : Nat) : Int))) = (Ctl.nxt left2) := by rw [v3, List.drop_eq_nil_of_le (show (a).length ≤ i by omega)]; simp only [laws_szTableEntryS_L1, cond_true, cond_false]
      have hP4 : laws_szTableEntryS a left = left2 := by simp only [laws_szTableEntryS, h1, hX1, cond_true, cond_false]
      refine WX.ret ttOk rfl ?_
      intro w1 G bs hI hΓ
      rw [hP4]
      exact ⟨rfl, v2⟩
theorem f57 (w : World) (n : Nat) (a : StateVector) (pa : Option Addr) (ca : Nat) (hpa : RdSl (hp w) pa ca a.entries) (left : Int) (hoka : GoT.ok n a) (hokleft : GoT.ok n left) :
    Does Tryz.prog 57 #[.agg #[.slice pa ((a.entries).length) ca], .int .i64 (left)] w emp (fun (rv : Value) (_ : World) => rv = .int .i64 ((laws_szStateVector a left)) ∧ GoT.ok n ((laws_szStateVector a left) : Int)) := by
  refine WX.enter (tt := tt) (Γ := [(0, MF.rs .stb pa ca a.entries)]) Tryz.func57 rfl (by kernel_rfl) rfl (allS_cons rfl hpa allS_nil) ?_
  refine WX.run ttOk rfl ?_
  refine WX.callV rfl rfl rfl rfl rfl (fun _ => rfl) rfl (fun w G bs hI hΓ => f113 w n a.entries pa ca (hΓ.get 0 rfl) left (ok_StateVector hoka) hokleft) ?_
  intro hq1
  refine WX.run ttOk rfl ?_
  refine WX.cases 10 rfl (fun h1 => ?_) (fun h1 => ?_)
  · skip
    have h1d := B.dt h1
    refine WX.run ttOk rfl ?_
    have hP1 : laws_szStateVector a left = (-1) := by simp only [laws_szStateVector, h1, cond_true, cond_false]
    refine WX.ret ttOk rfl ?_
    intro w1 G bs hI hΓ
    rw [hP1]
    exact ⟨rfl, (show I64 (-1) from (by unfold I64; omega))⟩
  · skip
    have h1d := B.df h1
    refine WX.run ttOk rfl ?_
    have hP2 : laws_szStateVector a left = (laws_szTableEntryS a.entries left) := by simp only [laws_szStateVector, h1, cond_true, cond_false]
    refine WX.ret ttOk rfl ?_
    intro w1 G bs hI hΓ
    rw [hP2]
    exact ⟨rfl, hq1⟩
theorem f59 (w : World) (n : Nat) (a : (List UInt8)) (pa : Option Addr) (ca : Nat) (hpa : RdSl (hp w) pa ca a) (left : Int) (hoka : GoT.ok n a) (hokleft : GoT.ok n left) :
    Does Tryz.prog 59 #[.slice pa ((a).length) ca, .int .i64 (left)] w emp (fun (rv : Value) (_ : World) => rv = .int .i64 ((laws_szByteS a left)) ∧ GoT.ok n ((laws_szByteS a left) : Int)) := by
  refine WX.enter (tt := tt) (Γ := [(0, MF.rs .stb pa ca a)]) Tryz.func59 rfl (by kernel_rfl) rfl (allS_cons rfl hpa allS_nil) ?_
  refine WX.run ttOk rfl ?_
  refine WX.see rfl rfl rfl (fun _ hΓ => looks_wrap rfl rfl rfl rfl) ?_
  refine WX.run ttOk rfl ?_
  refine WX.cases 10 rfl (fun h1 => ?_) (fun h1 => ?_)
  · skip
    have h1d := B.dt h1
    refine WX.run ttOk rfl ?_
    have hP1 : laws_szByteS a left = (-1) := by simp only [laws_szByteS, h1, cond_true, cond_false]
    refine WX.ret ttOk rfl ?_
    intro w1 G bs hI hΓ
    rw [hP1]
    exact ⟨rfl, (show I64 (-1) from (by unfold I64; omega))⟩
  · skip
    have h1d := B.df h1
    refine WX.run ttOk rfl ?_
    have hP2 : laws_szByteS a left = (IntKind.i64.wrap (left - (((a).length : Nat) : Int))) := by simp only [laws_szByteS, h1, cond_true, cond_false]
    refine WX.ret ttOk rfl ?_
    intro w1 G bs hI hΓ
    rw [hP2]
    exact ⟨rfl, (i64_wrap _)⟩
theorem f11 (w : World) (n : Nat) (a : Publication) (paPublisher : Option Addr) (caPublisher : Nat) (hpaPublisher : RdSl (hp w) paPublisher caPublisher a.publisher.parts) (paContent : Option Addr) (caContent : Nat) (hpaContent : RdSl (hp w) paContent caContent a.content) (left : Int) (hoka : GoT.ok n a) (hokleft : GoT.ok n left) :
    Does Tryz.prog 11 #[.agg #[.slice paPublisher ((a.publisher.parts).length) caPublisher, .int .i64 (a.seq), .slice paContent ((a.content).length) caContent], .int .i64 (left)] w emp (fun (rv : Value) (_ : World) => rv = .int .i64 ((laws_szPublication a left)) ∧ GoT.ok n ((laws_szPublication a left) : Int)) := by
  refine WX.enter (tt := tt) (Γ := [(0, MF.rs .stb paPublisher caPublisher a.publisher.parts), (1, MF.rs .stb paContent caContent a.content)]) Tryz.func11 rfl (by kernel_rfl) rfl (allS_cons rfl hpaPublisher (allS_cons rfl hpaContent allS_nil)) ?_
  refine WX.run ttOk rfl ?_
  refine WX.callV rfl rfl rfl rfl rfl (fun _ => rfl) rfl (fun w G bs hI hΓ => f56 w n a.publisher paPublisher caPublisher (hΓ.get 0 rfl) left ((ok_Publication hoka).1) hokleft) ?_
  intro hq1
  refine WX.run ttOk rfl ?_
  refine WX.cases 10 rfl (fun h1 => ?_) (fun h1 => ?_)
  · skip
    have h1d := B.dt h1
    refine WX.run ttOk rfl ?_
    have hP1 : laws_szPublication a left = (-1) := by simp only [laws_szPublication, h1, cond_true, cond_false]
    refine WX.ret ttOk rfl ?_
    intro w1 G bs hI hΓ
    rw [hP1]
    exact ⟨rfl, (show I64 (-1) from (by unfold I64; omega))⟩
  · skip
    have h1d := B.df h1
    refine WX.run ttOk rfl ?_
    refine WX.callV rfl rfl rfl rfl rfl (fun _ => rfl) rfl (fun w G bs hI hΓ => f59 w n a.content paContent caContent (hΓ.get 1 rfl) (laws_szName a.publisher left) ((ok_Publication hoka).2.2) hq1) ?_
    intro hq2
    refine WX.run ttOk rfl ?_
    refine WX.cases 16 rfl (fun h2 => ?_) (fun h2 => ?_)
    · skip
      have h2d := B.dt h2
      refine WX.run ttOk rfl ?_
      have hP2 : laws_szPublication a left = (-1) := by simp only [laws_szPublication, h1, h2, cond_true, cond_false]
      refine WX.ret ttOk rfl ?_
      intro w1 G bs hI hΓ
      rw [hP2]
      exact ⟨rfl, (show I64 (-1) from (by unfold I64; omega))⟩
    · skip
      have h2d := B.df h2
      refine WX.run ttOk rfl ?_
      have hP3 : laws_szPublication a left = (laws_szByteS a.content (laws_szName a.publisher left)) := by simp only [laws_szPublication, h1, h2, cond_true, cond_false]
      refine WX.ret ttOk rfl ?_
      intro w1 G bs hI hΓ
      rw [hP3]
      exact ⟨rfl, hq2⟩
theorem f58 (w : World) (n : Nat) (a : (List Publication)) (pa : Option Addr) (ca : Nat) (hpa : RdSl (hp w) pa ca a) (left : Int) (hoka : GoT.ok n a) (hokleft : GoT.ok n left) :
    Does Tryz.prog 58 #[.slice pa ((a).length) ca, .int .i64 (left)] w emp (fun (rv : Value) (_ : World) => rv = .int .i64 ((laws_szPublicationS a left)) ∧ GoT.ok n ((laws_szPublicationS a left) : Int)) := by
  refine WX.enter (tt := tt) (Γ := [(0, MF.rs .stb pa ca a)]) Tryz.func58 rfl (by kernel_rfl) rfl (allS_cons rfl hpa allS_nil) ?_
  refine WX.run ttOk rfl ?_
  refine WX.see rfl rfl rfl (fun _ hΓ => looks_wrap rfl rfl rfl rfl) ?_
  refine WX.run ttOk rfl ?_
  refine WX.cases 11 rfl (fun h1 => ?_) (fun h1 => ?_)
  · skip
    have h1d := B.dt h1
    refine WX.run ttOk rfl ?_
    have hP1 : laws_szPublicationS a left = (-1) := by simp only [laws_szPublicationS, h1, cond_true, cond_false]
    refine WX.ret ttOk rfl ?_
    intro w1 G bs hI hΓ
    rw [hP1]
    exact ⟨rfl, (show I64 (-1) from (by unfold I64; omega))⟩
  · skip
    have h1d := B.df h1
    refine WX.run ttOk rfl ?_
    have r1 : (a).length ≤ bd n := (okl hoka).1
    have r2 : (a).length ≤ 9223372036854775807 := hpa.2.1
    refine WX.loop (ι := Int × Nat) ⟨fun | (left2, i) => (i ≤ (a).length) ∧ (-9223372036854775808 ≤ left2 ∧ left2 ≤ 9223372036854775807) ∧ (laws_szPublicationS_L1 a (IntKind.i64.wrap (left - (((a).length : Nat) : Int))) = laws_szPublicationS_L1 ((a).drop i) left2), fun | (left2, i) => (a).length - i, fun | (left2, i) => [(1, .v (.int .i64 (left2))), (5, .v (.int .i64 (((i : Nat) : Int)))), (0, .v (.slice pa ((a).length) ca))], fun | (left2, i) => [], fun | (left2, i) => [], fun | (left2, i) => [(0, MF.rs .stb pa ca a)]⟩ (IntKind.i64.wrap (left - (((a).length : Nat) : Int)), 0) ⟨(Nat.zero_le _), (i64_wrap _), rfl⟩
      (.cons rfl (.cons rfl (.cons rfl (.nil)))) .nil .nil [0] rfl ?_
    rintro ⟨left2, i⟩ hpre
    have hpre_ : (i ≤ (a).length) ∧ (-9223372036854775808 ≤ left2 ∧ left2 ≤ 9223372036854775807) ∧ (laws_szPublicationS_L1 a (IntKind.i64.wrap (left - (((a).length : Nat) : Int))) = laws_szPublicationS_L1 ((a).drop i) left2) := hpre
    clear hpre
    obtain ⟨v1, v2, v3⟩ := hpre_
    refine WX.run ttOk rfl ?_
    refine WX.cases 15 rfl (fun h2 => ?_) (fun h2 => ?_)
    · skip
      have h2d := B.dt h2
      have e1i : i < (a).length := (by omega)
      obtain ⟨e1, e1h⟩ : ∃ e1, (a)[i]? = some e1 := ⟨_, List.getElem?_eq_getElem e1i⟩
      have ok1 : GoT.ok n e1 := (okl hoka).2 _ (List.mem_of_getElem? e1h)
      refine WX.run ttOk rfl ?_
      refine WX.idx 0 i ttOk rfl rfl rfl rfl rfl rfl rfl rfl rfl rfl e1i ?_
      rintro ad1 rfl
      refine WX.ldE 0 1 e1 ttOk rfl rfl rfl rfl rfl rfl rfl rfl e1h (fun _ => rfl) (fun _ => rfl) ?_
      rintro ⟨⟨p1, c1⟩, ⟨⟩, ⟨p2, c2⟩⟩
      refine WX.run ttOk rfl ?_
      refine WX.callV rfl rfl rfl rfl rfl (fun _ => rfl) rfl (fun w G bs hI hΓ => f11 w n e1 p1 c1 (hΓ.get 1 rfl) p2 c2 (hΓ.get 2 rfl) left2 ok1 v2) ?_
      intro hq1
      refine WX.run ttOk rfl ?_
      refine WX.cases 25 rfl (fun h3 => ?_) (fun h3 => ?_)
      · skip
        have h3d := B.dt h3
        refine WX.run ttOk rfl ?_
        have hP2 : laws_szPublicationS_L1 a (IntKind.i64.wrap (left - (((a).length : Nat) : Int))) = (Ctl.ret (-1)) := by rw [v3, drop_get e1h]; simp only [laws_szPublicationS_L1, h3, cond_true, cond_false]
        have hP3 : laws_szPublicationS a left = (-1) := by simp only [laws_szPublicationS, h1, hP2, cond_true, cond_false]
        refine WX.ret ttOk rfl ?_
        intro w1 G bs hI hΓ
        rw [hP3]
        exact ⟨rfl, (show I64 (-1) from (by unfold I64; omega))⟩
      · skip
        have h3d := B.df h3
        refine WX.run ttOk rfl ?_
        refine WX.see rfl rfl rfl (fun _ hΓ => looks_arith rfl rfl rfl rfl (by unfold I64; first | omega | (dsimp only; omega))) ?_
        refine WX.run ttOk rfl ?_
        exact WX.iter ((laws_szPublication e1 left2), i + 1) ⟨(by omega), hq1, (by rw [v3, drop_get e1h]; simp only [laws_szPublicationS_L1, h3, cond_true, cond_false])⟩ (by dsimp only; omega) (.cons rfl (.cons rfl (.cons rfl (.nil)))) .nil .nil [0] rfl
    · skip
      have h2d := B.df h2
      refine WX.run ttOk rfl ?_
      have hX1 : laws_szPublicationS_L1 a (IntKind.i64.wrap (left - (((a).length : Nat) : Int))) = (Ctl.nxt left2) := by rw [v3, List.drop_eq_nil_of_le (show (a).length ≤ i by omega)]; simp only [laws_szPublicationS_L1, cond_true, cond_false]
      have hP4 : laws_szPublicationS a left = left2 := by simp only [laws_szPublicationS, h1, hX1, cond_true, cond_false]
      refine WX.ret ttOk rfl ?_
      intro w1 G bs hI hΓ
      rw [hP4]
      exact ⟨rfl, v2⟩
theorem f10 (w : World) (n : Nat) (a : Member) (paName : Option Addr) (caName : Nat) (hpaName : RdSl (hp w) paName caName a.name.parts) (paVector : Option Addr) (caVector : Nat) (hpaVector : RdSl (hp w) paVector caVector a.vector.entries) (paPublications : Option Addr) (caPublications : Nat) (hpaPublications : RdSl (hp w) paPublications caPublications a.publications) (left : Int) (hoka : GoT.ok n a) (hokleft : GoT.ok n left) :
    Does Tryz.prog 10 #[.agg #[.slice paName ((a.name.parts).length) caName, .slice paVector ((a.vector.entries).length) caVector, .slice paPublications ((a.publications).length) caPublications], .int .i64 (left)] w emp (fun (rv : Value) (_ : World) => rv = .int .i64 ((laws_szMember a left)) ∧ GoT.ok n ((laws_szMember a left) : Int)) := by
  refine WX.enter (tt := tt) (Γ := [(0, MF.rs .stb paName caName a.name.parts), (1, MF.rs .stb paVector caVector a.vector.entries), (2, MF.rs .stb paPublications caPublications a.publications)]) Tryz.func10 rfl (by kernel_rfl) rfl (allS_cons rfl hpaName (allS_cons rfl hpaVector (allS_cons rfl hpaPublications allS_nil))) ?_
  refine WX.run ttOk rfl ?_
  refine WX.callV rfl rfl rfl rfl rfl (fun _ => rfl) rfl (fun w G bs hI hΓ => f56 w n a.name paName caName (hΓ.get 0 rfl) left ((ok_Member hoka).1) hokleft) ?_
  intro hq1
  refine WX.run ttOk rfl ?_
  refine WX.cases 10 rfl (fun h1 => ?_) (fun h1 => ?_)
  · skip
    have h1d := B.dt h1
    refine WX.run ttOk rfl ?_
    have hP1 : laws_szMember a left = (-1) := by simp only [laws_szMember, h1, cond_true, cond_false]
    refine WX.ret ttOk rfl ?_
    intro w1 G bs hI hΓ
    rw [hP1]
    exact ⟨rfl, (show I64 (-1) from (by unfold I64; omega))⟩
  · skip
    have h1d := B.df h1
    refine WX.run ttOk rfl ?_
    refine WX.callV rfl rfl rfl rfl rfl (fun _ => rfl) rfl (fun w G bs hI hΓ => f57 w n a.vector paVector caVector (hΓ.get 1 rfl) (laws_szName a.name left) ((ok_Member hoka).2.1) hq1) ?_
    intro hq2
    refine WX.run ttOk rfl ?_
    refine WX.cases 16 rfl (fun h2 => ?_) (fun h2 => ?_)
    · skip
      have h2d := B.dt h2
      refine WX.run ttOk rfl ?_
      have hP2 : laws_szMember a left = (-1) := by simp only [laws_szMember, h1, h2, cond_true, cond_false]
      refine WX.ret ttOk rfl ?_
      intro w1 G bs hI hΓ
      rw [hP2]
      exact ⟨rfl, (show I64 (-1) from (by unfold I64; omega))⟩
    · skip
      have h2d := B.df h2
      refine WX.run ttOk rfl ?_
      refine WX.callV rfl rfl rfl rfl rfl (fun _ => rfl) rfl (fun w G bs hI hΓ => f58 w n a.publications paPublications caPublications (hΓ.get 2 rfl) (laws_szStateVector a.vector (laws_szName a.name left)) ((ok_Member hoka).2.2) hq2) ?_
      intro hq3
      refine WX.run ttOk rfl ?_
      refine WX.cases 22 rfl (fun h3 => ?_) (fun h3 => ?_)
      · skip
        have h3d := B.dt h3
        refine WX.run ttOk rfl ?_
        have hP3 : laws_szMember a left = (-1) := by simp only [laws_szMember, h1, h2, h3, cond_true, cond_false]
        refine WX.ret ttOk rfl ?_
        intro w1 G bs hI hΓ
        rw [hP3]
        exact ⟨rfl, (show I64 (-1) from (by unfold I64; omega))⟩
      · skip
        have h3d := B.df h3
        refine WX.run ttOk rfl ?_
        have hP4 : laws_szMember a left = (laws_szPublicationS a.publications (laws_szStateVector a.vector (laws_szName a.name left))) := by simp only [laws_szMember, h1, h2, h3, cond_true, cond_false]
        refine WX.ret ttOk rfl ?_
        intro w1 G bs hI hΓ
        rw [hP4]
        exact ⟨rfl, hq3⟩
end Go.Proofs.YtfffongneoegbaaGreat

namespace Go.Stp
set_option linter.unusedVariables false
set_option linter.unusedSimpArgs false
def laws_eqStringS_L1 (b : (List Str)) : List Str → Nat → Option (Bool)
  | [], i => none
  | e1 :: rest_, i =>
    match (b)[i]? with
      | none => default
      | some e2 =>
        bif (!((e1).toList == (e2).toList)) then
          (some false)
        else
          laws_eqStringS_L1 b rest_ (i + 1)
def laws_eqStringS (a : (List Str)) (b : (List Str)) : Bool :=
  bif ((((a).length : Nat) : Int) != (((b).length : Nat) : Int)) then
    false
  else
    match laws_eqStringS_L1 b a 0 with
      | some r_ => r_
      | none =>
        true
def laws_eqName (a : Name) (b : Name) : Bool :=
  bif (!(laws_eqStringS a.parts b.parts)) then
    false
  else
    true
def laws_eqTableEntry (a : TableEntry) (b : TableEntry) : Bool :=
  bif (!(laws_eqName a.name b.name)) then
    false
  else
    bif (a.value != b.value) then
      false
    else
      true
def laws_eqTableEntryS_L1 (b : (List TableEntry)) : List TableEntry → Nat → Option (Bool)
  | [], i => none
  | e1 :: rest_, i =>
    match (b)[i]? with
      | none => default
      | some e2 =>
        bif (!(laws_eqTableEntry e1 e2)) then
          (some false)
        else
          laws_eqTableEntryS_L1 b rest_ (i + 1)
def laws_eqTableEntryS (a : (List TableEntry)) (b : (List TableEntry)) : Bool :=
  bif ((((a).length : Nat) : Int) != (((b).length : Nat) : Int)) then
    false
  else
    match laws_eqTableEntryS_L1 b a 0 with
      | some r_ => r_
      | none =>
        true
def laws_eqStateVector (a : StateVector) (b : StateVector) : Bool :=
  bif (!(laws_eqTableEntryS a.entries b.entries)) then
    false
  else
    true
def laws_eqByteS_L1 (b : (List UInt8)) : List UInt8 → Nat → Option (Bool)
  | [], i => none
  | e1 :: rest_, i =>
    match (b)[i]? with
      | none => default
      | some e2 =>
        bif (((e1).toNat : Int) != ((e2).toNat : Int)) then
          (some false)
        else
          laws_eqByteS_L1 b rest_ (i + 1)
def laws_eqByteS (a : (List UInt8)) (b : (List UInt8)) : Bool :=
  bif ((((a).length : Nat) : Int) != (((b).length : Nat) : Int)) then
    false
  else
    match laws_eqByteS_L1 b a 0 with
      | some r_ => r_
      | none =>
        true
def laws_eqPublication (a : Publication) (b : Publication) : Bool :=
  bif (!(laws_eqName a.publisher b.publisher)) then
    false
  else
    bif (a.seq != b.seq) then
      false
    else
      bif (!(laws_eqByteS a.content b.content)) then
        false
      else
        true
def laws_eqPublicationS_L1 (b : (List Publication)) : List Publication → Nat → Option (Bool)
  | [], i => none
  | e1 :: rest_, i =>
    match (b)[i]? with
      | none => default
      | some e2 =>
        bif (!(laws_eqPublication e1 e2)) then
          (some false)
        else
          laws_eqPublicationS_L1 b rest_ (i + 1)
def laws_eqPublicationS (a : (List Publication)) (b : (List Publication)) : Bool :=
  bif ((((a).length : Nat) : Int) != (((b).length : Nat) : Int)) then
    false
  else
    match laws_eqPublicationS_L1 b a 0 with
      | some r_ => r_
      | none =>
        true
def laws_eqMember (a : Member) (b : Member) : Bool :=
  bif (!(laws_eqName a.name b.name)) then
    false
  else
    bif (!(laws_eqStateVector a.vector b.vector)) then
      false
    else
      bif (!(laws_eqPublicationS a.publications b.publications)) then
        false
      else
        true
end Go.Stp

namespace Go.Proofs.YtfffongneoegbaaGreat
open Go.Stp
set_option linter.unusedVariables false
set_option linter.unusedSimpArgs false
theorem f197 (w : World) (n : Nat) (hn : n + 0 ≤ 9) (a : (List Str)) (pa : Option Addr) (ca : Nat) (hpa : RdSl (hp w) pa ca a) (b : (List Str)) (pb : Option Addr) (cb : Nat) (hpb : RdSl (hp w) pb cb b) (hoka : GoT.ok n a) (hokb : GoT.ok n b) :
    Does Tryz.prog 197 #[.slice pa ((a).length) ca, .slice pb ((b).length) cb] w emp (fun (rv : Value) (_ : World) => rv = .bool (laws_eqStringS a b) ∧ True) := by
  have hbP := bd_pos n
  have hbB := bd_big (n := n) (by omega)
  refine WX.enter (tt := tt) (Γ := [(0, MF.rs .stb pa ca a), (1, MF.rs .stb pb cb b)]) Tryz.func197 rfl (by kernel_rfl) rfl (allS_cons rfl hpa (allS_cons rfl hpb allS_nil)) ?_
  refine WX.run ttOk rfl ?_
  refine WX.cases 10 rfl (fun h1 => ?_) (fun h1 => ?_)
  · skip
    have h1d := B.nt' h1
    refine WX.run ttOk rfl ?_
    have hP1 : laws_eqStringS a b = false := by simp only [laws_eqStringS, h1, cond_true, cond_false]
    refine WX.ret ttOk rfl ?_
    intro w1 G bs hI hΓ
    rw [hP1]
    exact ⟨rfl, trivial⟩
  · skip
    have h1d := B.nf' h1
    refine WX.run ttOk rfl ?_
    have r1 : (a).length ≤ bd n := (okl hoka).1
    refine WX.loop (ι := Nat) ⟨fun i => (i ≤ (a).length) ∧ (laws_eqStringS_L1 b a 0 = laws_eqStringS_L1 b ((a).drop i) i), fun i => (a).length - i, fun i => [(5, .v (.int .i64 (((i : Nat) : Int)))), (0, .v (.slice pa ((a).length) ca)), (1, .v (.slice pb ((b).length) cb))], fun i => [], fun i => [], fun i => [(0, MF.rs .stb pa ca a), (1, MF.rs .stb pb cb b)]⟩ 0 ⟨(Nat.zero_le _), rfl⟩
      (.cons rfl (.cons rfl (.cons rfl (.nil)))) .nil .nil [0, 1] rfl ?_
    rintro i hpre
    have hpre_ : (i ≤ (a).length) ∧ (laws_eqStringS_L1 b a 0 = laws_eqStringS_L1 b ((a).drop i) i) := hpre
    clear hpre
    obtain ⟨v1, v2⟩ := hpre_
    refine WX.run ttOk rfl ?_
    refine WX.cases 14 rfl (fun h2 => ?_) (fun h2 => ?_)
    · skip
      have h2d := B.dt h2
      have e1i : i < (a).length := (by omega)
      obtain ⟨e1, e1h⟩ : ∃ e1, (a)[i]? = some e1 := ⟨_, List.getElem?_eq_getElem e1i⟩
      have ok1 : GoT.ok n e1 := (okl hoka).2 _ (List.mem_of_getElem? e1h)
      refine WX.run ttOk rfl ?_
      refine WX.draw [] mixed ?_
      intro bs G0 hΓ0
      refine DX.takes (fuel := 7) ttOk [(0, true), (1, true)] (by kernel_rfl) rfl ?_
      refine DX.idx 2 0 i ttOk hΓ0 (by kernel_rfl) rfl rfl rfl rfl rfl rfl rfl rfl rfl rfl rfl e1i ?_
      rintro ad1 rfl
      refine DX.ldE 3 0 2 e1 ttOk hΓ0 (by kernel_rfl) rfl rfl rfl rfl rfl rfl rfl rfl e1h (fun _ => rfl) (fun _ => rfl) ?_
      rintro ⟨⟩
      refine DX.takes (fuel := 3) ttOk [(4, true), (5, true)] (by kernel_rfl) rfl ?_
      have e2i : i < (b).length := (by first | assumption | omega)
      obtain ⟨e2, e2h⟩ : ∃ e2, (b)[i]? = some e2 := ⟨_, List.getElem?_eq_getElem e2i⟩
      have ok2 : GoT.ok n e2 := (okl hokb).2 _ (List.mem_of_getElem? e2h)
      refine DX.idx 6 1 i ttOk hΓ0 (by kernel_rfl) rfl rfl rfl rfl rfl rfl rfl rfl rfl rfl rfl e2i ?_
      rintro ad2 rfl
      refine DX.ldE 7 1 2 e2 ttOk hΓ0 (by kernel_rfl) rfl rfl rfl rfl rfl rfl rfl rfl e2h (fun _ => rfl) (fun _ => rfl) ?_
      rintro ⟨⟩
      refine DX.takes (fuel := 0) ttOk [(8, true)] (by kernel_rfl) rfl ?_
      refine DX.tail2 [] rfl rfl (by kernel_rfl) ?_
      refine WX.run ttOk rfl ?_
      refine WX.cases 25 rfl (fun h3 => ?_) (fun h3 => ?_)
      · skip
        have h3d := B.ef (B.nt h3)
        refine WX.run ttOk rfl ?_
        have hP2 : laws_eqStringS_L1 b a 0 = (some false) := by rw [v2, drop_get e1h]; simp only [laws_eqStringS_L1, e2h, h3, cond_true, cond_false]
        have hP3 : laws_eqStringS a b = false := by simp only [laws_eqStringS, h1, hP2, cond_true, cond_false]
        refine WX.ret ttOk rfl ?_
        intro w1 G bs hI hΓ
        rw [hP3]
        exact ⟨rfl, trivial⟩
      · skip
        have h3d := B.et (B.nf h3)
        refine WX.run ttOk rfl ?_
        refine WX.see rfl rfl rfl (fun _ hΓ => looks_arith rfl rfl rfl rfl (by unfold I64; first | omega | (dsimp only; omega))) ?_
        refine WX.run ttOk rfl ?_
        exact WX.iter (i + 1) ⟨(by omega), (by rw [v2, drop_get e1h]; simp only [laws_eqStringS_L1, e2h, h3, cond_true, cond_false])⟩ (by dsimp only; omega) (.cons rfl (.cons rfl (.cons rfl (.nil)))) .nil .nil [0, 1] rfl
    · skip
      have h2d := B.df h2
      refine WX.run ttOk rfl ?_
      have hX1 : laws_eqStringS_L1 b a 0 = none := by rw [v2, List.drop_eq_nil_of_le (show (a).length ≤ i by omega)]; simp only [laws_eqStringS_L1, cond_true, cond_false]
      have hP4 : laws_eqStringS a b = true := by simp only [laws_eqStringS, h1, hX1, cond_true, cond_false]
      refine WX.ret ttOk rfl ?_
      intro w1 G bs hI hΓ
      rw [hP4]
      exact ⟨rfl, trivial⟩
theorem f74 (w : World) (n : Nat) (hn : n + 0 ≤ 9) (a : Name) (pa : Option Addr) (ca : Nat) (hpa : RdSl (hp w) pa ca a.parts) (b : Name) (pb : Option Addr) (cb : Nat) (hpb : RdSl (hp w) pb cb b.parts) (hoka : GoT.ok n a) (hokb : GoT.ok n b) :
    Does Tryz.prog 74 #[.agg #[.slice pa ((a.parts).length) ca], .agg #[.slice pb ((b.parts).length) cb]] w emp (fun (rv : Value) (_ : World) => rv = .bool (laws_eqName a b) ∧ True) := by
  have hbP := bd_pos n
  have hbB := bd_big (n := n) (by omega)
  refine WX.enter (tt := tt) (Γ := [(0, MF.rs .stb pa ca a.parts), (1, MF.rs .stb pb cb b.parts)]) Tryz.func74 rfl (by kernel_rfl) rfl (allS_cons rfl hpa (allS_cons rfl hpb allS_nil)) ?_
  refine WX.run ttOk rfl ?_
  refine WX.callV rfl rfl rfl rfl rfl (fun _ => rfl) rfl (fun w G bs hI hΓ => f197 w n (by omega) a.parts pa ca (hΓ.get 0 rfl) b.parts pb cb (hΓ.get 1 rfl) (ok_Name hoka) (ok_Name hokb)) ?_
  intro hq1
  refine WX.run ttOk rfl ?_
  refine WX.cases 10 rfl (fun h1 => ?_) (fun h1 => ?_)
  · skip
    have h1d := (B.nt h1)
    refine WX.run ttOk rfl ?_
    have hP1 : laws_eqName a b = false := by simp only [laws_eqName, h1, cond_true, cond_false]
    refine WX.ret ttOk rfl ?_
    intro w1 G bs hI hΓ
    rw [hP1]
    exact ⟨rfl, trivial⟩
  · skip
    have h1d := (B.nf h1)
    refine WX.run ttOk rfl ?_
    have hP2 : laws_eqName a b = true := by simp only [laws_eqName, h1, cond_true, cond_false]
    refine WX.ret ttOk rfl ?_
    intro w1 G bs hI hΓ
    rw [hP2]
    exact ⟨rfl, trivial⟩
theorem f248 (w : World) (n : Nat) (hn : n + 0 ≤ 9) (a : TableEntry) (paName : Option Addr) (caName : Nat) (hpaName : RdSl (hp w) paName caName a.name.parts) (b : TableEntry) (pbName : Option Addr) (cbName : Nat) (hpbName : RdSl (hp w) pbName cbName b.name.parts) (hoka : GoT.ok n a) (hokb : GoT.ok n b) :
    Does Tryz.prog 248 #[.agg #[.slice paName ((a.name.parts).length) caName, .int .i64 (a.value)], .agg #[.slice pbName ((b.name.parts).length) cbName, .int .i64 (b.value)]] w emp (fun (rv : Value) (_ : World) => rv = .bool (laws_eqTableEntry a b) ∧ True) := by
  have hbP := bd_pos n
  have hbB := bd_big (n := n) (by omega)
  refine WX.enter (tt := tt) (Γ := [(0, MF.rs .stb paName caName a.name.parts), (1, MF.rs .stb pbName cbName b.name.parts)]) Tryz.func248 rfl (by kernel_rfl) rfl (allS_cons rfl hpaName (allS_cons rfl hpbName allS_nil)) ?_
  refine WX.run ttOk rfl ?_
  refine WX.callV rfl rfl rfl rfl rfl (fun _ => rfl) rfl (fun w G bs hI hΓ => f74 w n (by omega) a.name paName caName (hΓ.get 0 rfl) b.name pbName cbName (hΓ.get 1 rfl) ((ok_TableEntry hoka).1) ((ok_TableEntry hokb).1)) ?_
  intro hq1
  refine WX.run ttOk rfl ?_
  refine WX.cases 10 rfl (fun h1 => ?_) (fun h1 => ?_)
  · skip
    have h1d := (B.nt h1)
    refine WX.run ttOk rfl ?_
    have hP1 : laws_eqTableEntry a b = false := by simp only [laws_eqTableEntry, h1, cond_true, cond_false]
    refine WX.ret ttOk rfl ?_
    intro w1 G bs hI hΓ
    rw [hP1]
    exact ⟨rfl, trivial⟩
  · skip
    have h1d := (B.nf h1)
    refine WX.run ttOk rfl ?_
    refine WX.cases 15 rfl (fun h2 => ?_) (fun h2 => ?_)
    · skip
      have h2d := B.nt' h2
      refine WX.run ttOk rfl ?_
      have hP2 : laws_eqTableEntry a b = false := by simp only [laws_eqTableEntry, h1, h2, cond_true, cond_false]
      refine WX.ret ttOk rfl ?_
      intro w1 G bs hI hΓ
      rw [hP2]
      exact ⟨rfl, trivial⟩
    · skip
      have h2d := B.nf' h2
      refine WX.run ttOk rfl ?_
      have hP3 : laws_eqTableEntry a b = true := by simp only [laws_eqTableEntry, h1, h2, cond_true, cond_false]
      refine WX.ret ttOk rfl ?_
      intro w1 G bs hI hΓ
      rw [hP3]
      exact ⟨rfl, trivial⟩
theorem f141 (w : World) (n : Nat) (hn : n + 0 ≤ 9) (a : (List TableEntry)) (pa : Option Addr) (ca : Nat) (hpa : RdSl (hp w) pa ca a) (b : (List TableEntry)) (pb : Option Addr) (cb : Nat) (hpb : RdSl (hp w) pb cb b) (hoka : GoT.ok n a) (hokb : GoT.ok n b) :
    Does Tryz.prog 141 #[.slice pa ((a).length) ca, .slice pb ((b).length) cb] w emp (fun (rv : Value) (_ : World) => rv = .bool (laws_eqTableEntryS a b) ∧ True) := by
  have hbP := bd_pos n
  have hbB := bd_big (n := n) (by omega)
  refine WX.enter (tt := tt) (Γ := [(0, MF.rs .stb pa ca a), (1, MF.rs .stb pb cb b)]) Tryz.func141 rfl (by kernel_rfl) rfl (allS_cons rfl hpa (allS_cons rfl hpb allS_nil)) ?_
  refine WX.run ttOk rfl ?_
  refine WX.cases 10 rfl (fun h1 => ?_) (fun h1 => ?_)
  · skip
    have h1d := B.nt' h1
    refine WX.run ttOk rfl ?_
    have hP1 : laws_eqTableEntryS a b = false := by simp only [laws_eqTableEntryS, h1, cond_true, cond_false]
    refine WX.ret ttOk rfl ?_
    intro w1 G bs hI hΓ
    rw [hP1]
    exact ⟨rfl, trivial⟩
  · skip
    have h1d := B.nf' h1
    refine WX.run ttOk rfl ?_
    have r1 : (a).length ≤ bd n := (okl hoka).1
    refine WX.loop (ι := Nat) ⟨fun i => (i ≤ (a).length) ∧ (laws_eqTableEntryS_L1 b a 0 = laws_eqTableEntryS_L1 b ((a).drop i) i), fun i => (a).length - i, fun i => [(5, .v (.int .i64 (((i : Nat) : Int)))), (0, .v (.slice pa ((a).length) ca)), (1, .v (.slice pb ((b).length) cb))], fun i => [], fun i => [], fun i => [(0, MF.rs .stb pa ca a), (1, MF.rs .stb pb cb b)]⟩ 0 ⟨(Nat.zero_le _), rfl⟩
      (.cons rfl (.cons rfl (.cons rfl (.nil)))) .nil .nil [0, 1] rfl ?_
    rintro i hpre
    have hpre_ : (i ≤ (a).length) ∧ (laws_eqTableEntryS_L1 b a 0 = laws_eqTableEntryS_L1 b ((a).drop i) i) := hpre
    clear hpre
    obtain ⟨v1, v2⟩ := hpre_
    refine WX.run ttOk rfl ?_
    refine WX.cases 14 rfl (fun h2 => ?_) (fun h2 => ?_)
    · skip
      have h2d := B.dt h2
      have e1i : i < (a).length := (by omega)
      obtain ⟨e1, e1h⟩ : ∃ e1, (a)[i]? = some e1 := ⟨_, List.getElem?_eq_getElem e1i⟩
      have ok1 : GoT.ok n e1 := (okl hoka).2 _ (List.mem_of_getElem? e1h)
      refine WX.run ttOk rfl ?_
      refine WX.draw [] mixed ?_
      intro bs G0 hΓ0
      refine DX.takes (fuel := 8) ttOk [(0, true), (1, true)] (by kernel_rfl) rfl ?_
      refine DX.idx 2 0 i ttOk hΓ0 (by kernel_rfl) rfl rfl rfl rfl rfl rfl rfl rfl rfl rfl rfl e1i ?_
      rintro ad1 rfl
      refine DX.ldE 3 0 2 e1 ttOk hΓ0 (by kernel_rfl) rfl rfl rfl rfl rfl rfl rfl rfl e1h (fun _ => rfl) (fun _ => rfl) ?_
      rintro ⟨⟨p1, c1⟩, ⟨⟩⟩
      refine DX.takes (fuel := 4) ttOk [(4, true), (5, true)] (by kernel_rfl) rfl ?_
      have e2i : i < (b).length := (by first | assumption | omega)
      obtain ⟨e2, e2h⟩ : ∃ e2, (b)[i]? = some e2 := ⟨_, List.getElem?_eq_getElem e2i⟩
      have ok2 : GoT.ok n e2 := (okl hokb).2 _ (List.mem_of_getElem? e2h)
      refine DX.idx 6 1 i ttOk hΓ0 (by kernel_rfl) rfl rfl rfl rfl rfl rfl rfl rfl rfl rfl rfl e2i ?_
      rintro ad2 rfl
      refine DX.ldE 7 1 3 e2 ttOk hΓ0 (by kernel_rfl) rfl rfl rfl rfl rfl rfl rfl rfl e2h (fun _ => rfl) (fun _ => rfl) ?_
      rintro ⟨⟨p2, c2⟩, ⟨⟩⟩
      refine DX.callV 8 rfl (by kernel_rfl) rfl rfl rfl rfl rfl rfl (fun _ => rfl) rfl (fun w G bs hI hΓ => f248 w n (by omega) e1 p1 c1 (hΓ.get 2 rfl) e2 p2 c2 (hΓ.get 3 rfl) ok1 ok2) ?_
      intro hq1
      refine DX.takes (fuel := 0) ttOk [(9, true)] (by kernel_rfl) rfl ?_
      refine DX.tail2 [] rfl rfl (by kernel_rfl) ?_
      refine WX.run ttOk rfl ?_
      refine WX.cases 26 rfl (fun h3 => ?_) (fun h3 => ?_)
      · skip
        have h3d := (B.nt h3)
        refine WX.run ttOk rfl ?_
        have hP2 : laws_eqTableEntryS_L1 b a 0 = (some false) := by rw [v2, drop_get e1h]; simp only [laws_eqTableEntryS_L1, e2h, h3, cond_true, cond_false]
        have hP3 : laws_eqTableEntryS a b = false := by simp only [laws_eqTableEntryS, h1, hP2, cond_true, cond_false]
        refine WX.ret ttOk rfl ?_
        intro w1 G bs hI hΓ
        rw [hP3]
        exact ⟨rfl, trivial⟩
      · skip
        have h3d := (B.nf h3)
        refine WX.run ttOk rfl ?_
        refine WX.see rfl rfl rfl (fun _ hΓ => looks_arith rfl rfl rfl rfl (by unfold I64; first | omega | (dsimp only; omega))) ?_
        refine WX.run ttOk rfl ?_
        exact WX.iter (i + 1) ⟨(by omega), (by rw [v2, drop_get e1h]; simp only [laws_eqTableEntryS_L1, e2h, h3, cond_true, cond_false])⟩ (by dsimp only; omega) (.cons rfl (.cons rfl (.cons rfl (.nil)))) .nil .nil [0, 1] rfl
    · skip
      have h2d := B.df h2
      refine WX.run ttOk rfl ?_
      have hX1 : laws_eqTableEntryS_L1 b a 0 = none := by rw [v2, List.drop_eq_nil_of_le (show (a).length ≤ i by omega)]; simp only [laws_eqTableEntryS_L1, cond_true, cond_false]
      have hP4 : laws_eqTableEntryS a b = true := by simp only [laws_eqTableEntryS, h1, hX1, cond_true, cond_false]
      refine WX.ret ttOk rfl ?_
      intro w1 G bs hI hΓ
      rw [hP4]
      exact ⟨rfl, trivial⟩
theorem f75 (w : World) (n : Nat) (hn : n + 0 ≤ 9) (a : StateVector) (pa : Option Addr) (ca : Nat) (hpa : RdSl (hp w) pa ca a.entries) (b : StateVector) (pb : Option Addr) (cb : Nat) (hpb : RdSl (hp w) pb cb b.entries) (hoka : GoT.ok n a) (hokb : GoT.ok n b) :
    Does Tryz.prog 75 #[.agg #[.slice pa ((a.entries).length) ca], .agg #[.slice pb ((b.entries).length) cb]] w emp (fun (rv : Value) (_ : World) => rv = .bool (laws_eqStateVector a b) ∧ True) := by
  have hbP := bd_pos n
  have hbB := bd_big (n := n) (by omega)
  refine WX.enter (tt := tt) (Γ := [(0, MF.rs .stb pa ca a.entries), (1, MF.rs .stb pb cb b.entries)]) Tryz.func75 rfl (by kernel_rfl) rfl (allS_cons rfl hpa (allS_cons rfl hpb allS_nil)) ?_
  refine WX.run ttOk rfl ?_
  refine WX.callV rfl rfl rfl rfl rfl (fun _ => rfl) rfl (fun w G bs hI hΓ => f141 w n (by omega) a.entries pa ca (hΓ.get 0 rfl) b.entries pb cb (hΓ.get 1 rfl) (ok_StateVector hoka) (ok_StateVector hokb)) ?_
  intro hq1
  refine WX.run ttOk rfl ?_
  refine WX.cases 10 rfl (fun h1 => ?_) (fun h1 => ?_)
  · skip
    have h1d := (B.nt h1)
    refine WX.run ttOk rfl ?_
    have hP1 : laws_eqStateVector a b = false := by simp only [laws_eqStateVector, h1, cond_true, cond_false]
    refine WX.ret ttOk rfl ?_
    intro w1 G bs hI hΓ
    rw [hP1]
    exact ⟨rfl, trivial⟩
  · skip
    have h1d := (B.nf h1)
    refine WX.run ttOk rfl ?_
    have hP2 : laws_eqStateVector a b = true := by simp only [laws_eqStateVector, h1, cond_true, cond_false]
    refine WX.ret ttOk rfl ?_
    intro w1 G bs hI hΓ
    rw [hP2]
    exact ⟨rfl, trivial⟩
theorem f24 (w : World) (n : Nat) (hn : n + 0 ≤ 9) (a : (List UInt8)) (pa : Option Addr) (ca : Nat) (hpa : RdSl (hp w) pa ca a) (b : (List UInt8)) (pb : Option Addr) (cb : Nat) (hpb : RdSl (hp w) pb cb b) (hoka : GoT.ok n a) (hokb : GoT.ok n b) :
    Does Tryz.prog 24 #[.slice pa ((a).length) ca, .slice pb ((b).length) cb] w emp (fun (rv : Value) (_ : World) => rv = .bool (laws_eqByteS a b) ∧ True) := by
  have hbP := bd_pos n
  have hbB := bd_big (n := n) (by omega)
  refine WX.enter (tt := tt) (Γ := [(0, MF.rs .stb pa ca a), (1, MF.rs .stb pb cb b)]) Tryz.func24 rfl (by kernel_rfl) rfl (allS_cons rfl hpa (allS_cons rfl hpb allS_nil)) ?_
  refine WX.run ttOk rfl ?_
  refine WX.cases 10 rfl (fun h1 => ?_) (fun h1 => ?_)
  · skip
    have h1d := B.nt' h1
    refine WX.run ttOk rfl ?_
    have hP1 : laws_eqByteS a b = false := by simp only [laws_eqByteS, h1, cond_true, cond_false]
    refine WX.ret ttOk rfl ?_
    intro w1 G bs hI hΓ
    rw [hP1]
    exact ⟨rfl, trivial⟩
  · skip
    have h1d := B.nf' h1
    refine WX.run ttOk rfl ?_
    have r1 : (a).length ≤ bd n := (okl hoka).1
    refine WX.loop (ι := Nat) ⟨fun i => (i ≤ (a).length) ∧ (laws_eqByteS_L1 b a 0 = laws_eqByteS_L1 b ((a).drop i) i), fun i => (a).length - i, fun i => [(5, .v (.int .i64 (((i : Nat) : Int)))), (0, .v (.slice pa ((a).length) ca)), (1, .v (.slice pb ((b).length) cb))], fun i => [], fun i => [], fun i => [(0, MF.rs .stb pa ca a), (1, MF.rs .stb pb cb b)]⟩ 0 ⟨(Nat.zero_le _), rfl⟩
      (.cons rfl (.cons rfl (.cons rfl (.nil)))) .nil .nil [0, 1] rfl ?_
    rintro i hpre
    have hpre_ : (i ≤ (a).length) ∧ (laws_eqByteS_L1 b a 0 = laws_eqByteS_L1 b ((a).drop i) i) := hpre
    clear hpre
    obtain ⟨v1, v2⟩ := hpre_
    refine WX.run ttOk rfl ?_
    refine WX.cases 14 rfl (fun h2 => ?_) (fun h2 => ?_)
    · skip
      have h2d := B.dt h2
      have e1i : i < (a).length := (by omega)
      obtain ⟨e1, e1h⟩ : ∃ e1, (a)[i]? = some e1 := ⟨_, List.getElem?_eq_getElem e1i⟩
      refine WX.run ttOk rfl ?_
      refine WX.draw [] mixed ?_
      intro bs G0 hΓ0
      refine DX.takes (fuel := 7) ttOk [(0, true), (1, true)] (by kernel_rfl) rfl ?_
      refine DX.idx 2 0 i ttOk hΓ0 (by kernel_rfl) rfl rfl rfl rfl rfl rfl rfl rfl rfl rfl rfl e1i ?_
      rintro ad1 rfl
      refine DX.ldE 3 0 2 e1 ttOk hΓ0 (by kernel_rfl) rfl rfl rfl rfl rfl rfl rfl rfl e1h (fun _ => rfl) (fun _ => rfl) ?_
      rintro ⟨⟩
      refine DX.takes (fuel := 3) ttOk [(4, true), (5, true)] (by kernel_rfl) rfl ?_
      have e2i : i < (b).length := (by first | assumption | omega)
      obtain ⟨e2, e2h⟩ : ∃ e2, (b)[i]? = some e2 := ⟨_, List.getElem?_eq_getElem e2i⟩
      refine DX.idx 6 1 i ttOk hΓ0 (by kernel_rfl) rfl rfl rfl rfl rfl rfl rfl rfl rfl rfl rfl e2i ?_
      rintro ad2 rfl
      refine DX.ldE 7 1 2 e2 ttOk hΓ0 (by kernel_rfl) rfl rfl rfl rfl rfl rfl rfl rfl e2h (fun _ => rfl) (fun _ => rfl) ?_
      rintro ⟨⟩
      refine DX.takes (fuel := 0) ttOk [(8, true)] (by kernel_rfl) rfl ?_
      refine DX.tail2 [] rfl rfl (by kernel_rfl) ?_
      refine WX.run ttOk rfl ?_
      refine WX.cases 25 rfl (fun h3 => ?_) (fun h3 => ?_)
      · skip
        have h3d := B.nt' h3
        refine WX.run ttOk rfl ?_
        have hP2 : laws_eqByteS_L1 b a 0 = (some false) := by rw [v2, drop_get e1h]; simp only [laws_eqByteS_L1, e2h, h3, cond_true, cond_false]
        have hP3 : laws_eqByteS a b = false := by simp only [laws_eqByteS, h1, hP2, cond_true, cond_false]
        refine WX.ret ttOk rfl ?_
        intro w1 G bs hI hΓ
        rw [hP3]
        exact ⟨rfl, trivial⟩
      · skip
        have h3d := B.nf' h3
        refine WX.run ttOk rfl ?_
        refine WX.see rfl rfl rfl (fun _ hΓ => looks_arith rfl rfl rfl rfl (by unfold I64; first | omega | (dsimp only; omega))) ?_
        refine WX.run ttOk rfl ?_
        exact WX.iter (i + 1) ⟨(by omega), (by rw [v2, drop_get e1h]; simp only [laws_eqByteS_L1, e2h, h3, cond_true, cond_false])⟩ (by dsimp only; omega) (.cons rfl (.cons rfl (.cons rfl (.nil)))) .nil .nil [0, 1] rfl
    · skip
      have h2d := B.df h2
      refine WX.run ttOk rfl ?_
      have hX1 : laws_eqByteS_L1 b a 0 = none := by rw [v2, List.drop_eq_nil_of_le (show (a).length ≤ i by omega)]; simp only [laws_eqByteS_L1, cond_true, cond_false]
      have hP4 : laws_eqByteS a b = true := by simp only [laws_eqByteS, h1, hX1, cond_true, cond_false]
      refine WX.ret ttOk rfl ?_
      intro w1 G bs hI hΓ
      rw [hP4]
      exact ⟨rfl, trivial⟩
theorem f17 (w : World) (n : Nat) (hn : n + 0 ≤ 9) (a : Publication) (paPublisher : Option Addr) (caPublisher : Nat) (hpaPublisher : RdSl (hp w) paPublisher caPublisher a.publisher.parts) (paContent : Option Addr) (caContent : Nat) (hpaContent : RdSl (hp w) paContent caContent a.content) (b : Publication) (pbPublisher : Option Addr) (cbPublisher : Nat) (hpbPublisher : RdSl (hp w) pbPublisher cbPublisher b.publisher.parts) (pbContent : Option Addr) (cbContent : Nat) (hpbContent : RdSl (hp w) pbContent cbContent b.content) (hoka : GoT.ok n a) (hokb : GoT.ok n b) :
    Does Tryz.prog 17 #[.agg #[.slice paPublisher ((a.publisher.parts).length) caPublisher, .int .i64 (a.seq), .slice paContent ((a.content).length) caContent], .agg #[.slice pbPublisher ((b.publisher.parts).length) cbPublisher, .int .i64 (b.seq), .slice pbContent ((b.content).length) cbContent]] w emp (fun (rv : Value) (_ : World) => rv = .bool (laws_eqPublication a b) ∧ True) := by
  have hbP := bd_pos n
  have hbB := bd_big (n := n) (by omega)
  refine WX.enter (tt := tt) (Γ := [(0, MF.rs .stb paPublisher caPublisher a.publisher.parts), (1, MF.rs .stb paContent caContent a.content), (2, MF.rs .stb pbPublisher cbPublisher b.publisher.parts), (3, MF.rs .stb pbContent cbContent b.content)]) Tryz.func17 rfl (by kernel_rfl) rfl (allS_cons rfl hpaPublisher (allS_cons rfl hpaContent (allS_cons rfl hpbPublisher (allS_cons rfl hpbContent allS_nil)))) ?_
  refine WX.run ttOk rfl ?_
  refine WX.callV rfl rfl rfl rfl rfl (fun _ => rfl) rfl (fun w G bs hI hΓ => f74 w n (by omega) a.publisher paPublisher caPublisher (hΓ.get 0 rfl) b.publisher pbPublisher cbPublisher (hΓ.get 2 rfl) ((ok_Publication hoka).1) ((ok_Publication hokb).1)) ?_
  intro hq1
  refine WX.run ttOk rfl ?_
  refine WX.cases 10 rfl (fun h1 => ?_) (fun h1 => ?_)
  · skip
    have h1d := (B.nt h1)
    refine WX.run ttOk rfl ?_
    have hP1 : laws_eqPublication a b = false := by simp only [laws_eqPublication, h1, cond_true, cond_false]
    refine WX.ret ttOk rfl ?_
    intro w1 G bs hI hΓ
    rw [hP1]
    exact ⟨rfl, trivial⟩
  · skip
    have h1d := (B.nf h1)
    refine WX.run ttOk rfl ?_
    refine WX.cases 15 rfl (fun h2 => ?_) (fun h2 => ?_)
    · skip
      have h2d := B.nt' h2
      refine WX.run ttOk rfl ?_
      have hP2 : laws_eqPublication a b = false := by simp only [laws_eqPublication, h1, h2, cond_true, cond_false]
      refine WX.ret ttOk rfl ?_
      intro w1 G bs hI hΓ
      rw [hP2]
      exact ⟨rfl, trivial⟩
    · skip
      have h2d := B.nf' h2
      refine WX.run ttOk rfl ?_
      refine WX.callV rfl rfl rfl rfl rfl (fun _ => rfl) rfl (fun w G bs hI hΓ => f24 w n (by omega) a.content paContent caContent (hΓ.get 1 rfl) b.content pbContent cbContent (hΓ.get 3 rfl) ((ok_Publication hoka).2.2) ((ok_Publication hokb).2.2)) ?_
      intro hq2
      refine WX.run ttOk rfl ?_
      refine WX.cases 21 rfl (fun h3 => ?_) (fun h3 => ?_)
      · skip
        have h3d := (B.nt h3)
        refine WX.run ttOk rfl ?_
        have hP3 : laws_eqPublication a b = false := by simp only [laws_eqPublication, h1, h2, h3, cond_true, cond_false]
        refine WX.ret ttOk rfl ?_
        intro w1 G bs hI hΓ
        rw [hP3]
        exact ⟨rfl, trivial⟩
      · skip
        have h3d := (B.nf h3)
        refine WX.run ttOk rfl ?_
        have hP4 : laws_eqPublication a b = true := by simp only [laws_eqPublication, h1, h2, h3, cond_true, cond_false]
        refine WX.ret ttOk rfl ?_
        intro w1 G bs hI hΓ
        rw [hP4]
        exact ⟨rfl, trivial⟩
theorem f76 (w : World) (n : Nat) (hn : n + 0 ≤ 9) (a : (List Publication)) (pa : Option Addr) (ca : Nat) (hpa : RdSl (hp w) pa ca a) (b : (List Publication)) (pb : Option Addr) (cb : Nat) (hpb : RdSl (hp w) pb cb b) (hoka : GoT.ok n a) (hokb : GoT.ok n b) :
    Does Tryz.prog 76 #[.slice pa ((a).length) ca, .slice pb ((b).length) cb] w emp (fun (rv : Value) (_ : World) => rv = .bool (laws_eqPublicationS a b) ∧ True) := by
  have hbP := bd_pos n
  have hbB := bd_big (n := n) (by omega)
  refine WX.enter (tt := tt) (Γ := [(0, MF.rs .stb pa ca a), (1, MF.rs .stb pb cb b)]) Tryz.func76 rfl (by kernel_rfl) rfl (allS_cons rfl hpa (allS_cons rfl hpb allS_nil)) ?_
  refine WX.run ttOk rfl ?_
  refine WX.cases 10 rfl (fun h1 => ?_) (fun h1 => ?_)
  · skip
    have h1d := B.nt' h1
    refine WX.run ttOk rfl ?_
    have hP1 : laws_eqPublicationS a b = false := by simp only [laws_eqPublicationS, h1, cond_true, cond_false]
    refine WX.ret ttOk rfl ?_
    intro w1 G bs hI hΓ
    rw [hP1]
    exact ⟨rfl, trivial⟩
  · skip
    have h1d := B.nf' h1
    refine WX.run ttOk rfl ?_
    have r1 : (a).length ≤ bd n := (okl hoka).1
    refine WX.loop (ι := Nat) ⟨fun i => (i ≤ (a).length) ∧ (laws_eqPublicationS_L1 b a 0 = laws_eqPublicationS_L1 b ((a).drop i) i), fun i => (a).length - i, fun i => [(5, .v (.int .i64 (((i : Nat) : Int)))), (0, .v (.slice pa ((a).length) ca)), (1, .v (.slice pb ((b).length) cb))], fun i => [], fun i => [], fun i => [(0, MF.rs .stb pa ca a), (1, MF.rs .stb pb cb b)]⟩ 0 ⟨(Nat.zero_le _), rfl⟩
      (.cons rfl (.cons rfl (.cons rfl (.nil)))) .nil .nil [0, 1] rfl ?_
    rintro i hpre
    have hpre_ : (i ≤ (a).length) ∧ (laws_eqPublicationS_L1 b a 0 = laws_eqPublicationS_L1 b ((a).drop i) i) := hpre
    clear hpre
    obtain ⟨v1, v2⟩ := hpre_
    refine WX.run ttOk rfl ?_
    refine WX.cases 14 rfl (fun h2 => ?_) (fun h2 => ?_)
    · skip
      have h2d := B.dt h2
      have e1i : i < (a).length := (by omega)
      obtain ⟨e1, e1h⟩ : ∃ e1, (a)[i]? = some e1 := ⟨_, List.getElem?_eq_getElem e1i⟩
      have ok1 : GoT.ok n e1 := (okl hoka).2 _ (List.mem_of_getElem? e1h)
      refine WX.run ttOk rfl ?_
      refine WX.draw [] mixed ?_
      intro bs G0 hΓ0
      refine DX.takes (fuel := 8) ttOk [(0, true), (1, true)] (by kernel_rfl) rfl ?_
      refine DX.idx 2 0 i ttOk hΓ0 (by kernel_rfl) rfl rfl rfl rfl rfl rfl rfl rfl rfl rfl rfl e1i ?_
      rintro ad1 rfl
      refine DX.ldE 3 0 2 e1 ttOk hΓ0 (by kernel_rfl) rfl rfl rfl rfl rfl rfl rfl rfl e1h (fun _ => rfl) (fun _ => rfl) ?_
      rintro ⟨⟨p1, c1⟩, ⟨⟩, ⟨p2, c2⟩⟩
      refine DX.takes (fuel := 4) ttOk [(4, true), (5, true)] (by kernel_rfl) rfl ?_
      have e2i : i < (b).length := (by first | assumption | omega)
      obtain ⟨e2, e2h⟩ : ∃ e2, (b)[i]? = some e2 := ⟨_, List.getElem?_eq_getElem e2i⟩
      have ok2 : GoT.ok n e2 := (okl hokb).2 _ (List.mem_of_getElem? e2h)
      refine DX.idx 6 1 i ttOk hΓ0 (by kernel_rfl) rfl rfl rfl rfl rfl rfl rfl rfl rfl rfl rfl e2i ?_
      rintro ad2 rfl
      refine DX.ldE 7 1 4 e2 ttOk hΓ0 (by kernel_rfl) rfl rfl rfl rfl rfl rfl rfl rfl e2h (fun _ => rfl) (fun _ => rfl) ?_
      rintro ⟨⟨p3, c3⟩, ⟨⟩, ⟨p4, c4⟩⟩
      refine DX.callV 8 rfl (by kernel_rfl) rfl rfl rfl rfl rfl rfl (fun _ => rfl) rfl (fun w G bs hI hΓ => f17 w n (by omega) e1 p1 c1 (hΓ.get 2 rfl) p2 c2 (hΓ.get 3 rfl) e2 p3 c3 (hΓ.get 4 rfl) p4 c4 (hΓ.get 5 rfl) ok1 ok2) ?_
      intro hq1
      refine DX.takes (fuel := 0) ttOk [(9, true)] (by kernel_rfl) rfl ?_
      refine DX.tail2 [] rfl rfl (by kernel_rfl) ?_
      refine WX.run ttOk rfl ?_
      refine WX.cases 26 rfl (fun h3 => ?_) (fun h3 => ?_)
      · skip
        have h3d := (B.nt h3)
        refine WX.run ttOk rfl ?_
        have hP2 : laws_eqPublicationS_L1 b a 0 = (some false) := by rw [v2, drop_get e1h]; simp only [laws_eqPublicationS_L1, e2h, h3, cond_true, cond_false]
        have hP3 : laws_eqPublicationS a b = false := by simp only [laws_eqPublicationS, h1, hP2, cond_true, cond_false]
        refine WX.ret ttOk rfl ?_
        intro w1 G bs hI hΓ
        rw [hP3]
        exact ⟨rfl, trivial⟩
      · skip
        have h3d := (B.nf h3)
        refine WX.run ttOk rfl ?_
        refine WX.see rfl rfl rfl (fun _ hΓ => looks_arith rfl rfl rfl rfl (by unfold I64; first | omega | (dsimp only; omega))) ?_
        refine WX.run ttOk rfl ?_
        exact WX.iter (i + 1) ⟨(by omega), (by rw [v2, drop_get e1h]; simp only [laws_eqPublicationS_L1, e2h, h3, cond_true, cond_false])⟩ (by dsimp only; omega) (.cons rfl (.cons rfl (.cons rfl (.nil)))) .nil .nil [0, 1] rfl
    · skip
      have h2d := B.df h2
      refine WX.run ttOk rfl ?_
      have hX1 : laws_eqPublicationS_L1 b a 0 = none := by rw [v2, List.drop_eq_nil_of_le (show (a).length ≤ i by omega)]; simp only [laws_eqPublicationS_L1, cond_true, cond_false]
      have hP4 : laws_eqPublicationS a b = true := by simp only [laws_eqPublicationS, h1, hX1, cond_true, cond_false]
      refine WX.ret ttOk rfl ?_
      intro w1 G bs hI hΓ
      rw [hP4]
      exact ⟨rfl, trivial⟩
theorem f16 (w : World) (n : Nat) (hn : n + 0 ≤ 9) (a : Member) (paName : Option Addr) (caName : Nat) (hpaName : RdSl (hp w) paName caName a.name.parts) (paVector : Option Addr) (caVector : Nat) (hpaVector : RdSl (hp w) paVector caVector a.vector.entries) (paPublications : Option Addr) (caPublications : Nat) (hpaPublications : RdSl (hp w) paPublications caPublications a.publications) (b : Member) (pbName : Option Addr) (cbName : Nat) (hpbName : RdSl (hp w) pbName cbName b.name.parts) (pbVector : Option Addr) (cbVector : Nat) (hpbVector : RdSl (hp w) pbVector cbVector b.vector.entries) (pbPublications : Option Addr) (cbPublications : Nat) (hpbPublications : RdSl (hp w) pbPublications cbPublications b.publications) (hoka : GoT.ok n a) (hokb : GoT.ok n b) :
    Does Tryz.prog 16 #[.agg #[.slice paName ((a.name.parts).length) caName, .slice paVector ((a.vector.entries).length) caVector, .slice paPublications ((a.publications).length) caPublications], .agg #[.slice pbName ((b.name.parts).length) cbName, .slice pbVector ((b.vector.entries).length) cbVector, .slice pbPublications ((b.publications).length) cbPublications]] w emp (fun (rv : Value) (_ : World) => rv = .bool (laws_eqMember a b) ∧ True) := by
  have hbP := bd_pos n
  have hbB := bd_big (n := n) (by omega)
  refine WX.enter (tt := tt) (Γ := [(0, MF.rs .stb paName caName a.name.parts), (1, MF.rs .stb paVector caVector a.vector.entries), (2, MF.rs .stb paPublications caPublications a.publications), (3, MF.rs .stb pbName cbName b.name.parts), (4, MF.rs .stb pbVector cbVector b.vector.entries), (5, MF.rs .stb pbPublications cbPublications b.publications)]) Tryz.func16 rfl (by kernel_rfl) rfl (allS_cons rfl hpaName (allS_cons rfl hpaVector (allS_cons rfl hpaPublications (allS_cons rfl hpbName (allS_cons rfl hpbVector (allS_cons rfl hpbPublications allS_nil)))))) ?_
  refine WX.run ttOk rfl ?_
  refine WX.callV rfl rfl rfl rfl rfl (fun _ => rfl) rfl (fun w G bs hI hΓ => f74 w n (by omega) a.name paName caName (hΓ.get 0 rfl) b.name pbName cbName (hΓ.get 3 rfl) ((ok_Member hoka).1) ((ok_Member hokb).1)) ?_
  intro hq1
  refine WX.run ttOk rfl ?_
  refine WX.cases 10 rfl (fun h1 => ?_) (fun h1 => ?_)
  · skip
    have h1d := (B.nt h1)
    refine WX.run ttOk rfl ?_
    have hP1 : laws_eqMember a b = false := by simp only [laws_eqMember, h1, cond_true, cond_false]
    refine WX.ret ttOk rfl ?_
    intro w1 G bs hI hΓ
    rw [hP1]
    exact ⟨rfl, trivial⟩
  · skip
    have h1d := (B.nf h1)
    refine WX.run ttOk rfl ?_
    refine WX.callV rfl rfl rfl rfl rfl (fun _ => rfl) rfl (fun w G bs hI hΓ => f75 w n (by omega) a.vector paVector caVector (hΓ.get 1 rfl) b.vector pbVector cbVector (hΓ.get 4 rfl) ((ok_Member hoka).2.1) ((ok_Member hokb).2.1)) ?_
    intro hq2
    refine WX.run ttOk rfl ?_
    refine WX.cases 16 rfl (fun h2 => ?_) (fun h2 => ?_)
    · skip
      have h2d := (B.nt h2)
      refine WX.run ttOk rfl ?_
      have hP2 : laws_eqMember a b = false := by simp only [laws_eqMember, h1, h2, cond_true, cond_false]
      refine WX.ret ttOk rfl ?_
      intro w1 G bs hI hΓ
      rw [hP2]
      exact ⟨rfl, trivial⟩
    · skip
      have h2d := (B.nf h2)
      refine WX.run ttOk rfl ?_
      refine WX.callV rfl rfl rfl rfl rfl (fun _ => rfl) rfl (fun w G bs hI hΓ => f76 w n (by omega) a.publications paPublications caPublications (hΓ.get 2 rfl) b.publications pbPublications cbPublications (hΓ.get 5 rfl) ((ok_Member hoka).2.2) ((ok_Member hokb).2.2)) ?_
      intro hq3
      refine WX.run ttOk rfl ?_
      refine WX.cases 22 rfl (fun h3 => ?_) (fun h3 => ?_)
      · skip
        have h3d := (B.nt h3)
        refine WX.run ttOk rfl ?_
        have hP3 : laws_eqMember a b = false := by simp only [laws_eqMember, h1, h2, h3, cond_true, cond_false]
        refine WX.ret ttOk rfl ?_
        intro w1 G bs hI hΓ
        rw [hP3]
        exact ⟨rfl, trivial⟩
      · skip
        have h3d := (B.nf h3)
        refine WX.run ttOk rfl ?_
        have hP4 : laws_eqMember a b = true := by simp only [laws_eqMember, h1, h2, h3, cond_true, cond_false]
        refine WX.ret ttOk rfl ?_
        intro w1 G bs hI hΓ
        rw [hP4]
        exact ⟨rfl, trivial⟩
end Go.Proofs.YtfffongneoegbaaGreat

namespace Go.Stp
set_option linter.unusedVariables false
set_option linter.unusedSimpArgs false
def laws_toStringS_L1 : List Str → Nat → (List Str) → (List Str)
  | [], i, out => ((out) : List Str)
  | e1 :: rest_, i, out =>
    match (out)[i]? with
      | none => default
      | some e2 =>
        laws_toStringS_L1 rest_ (i + 1) (((out.set i e1)) : List Str)
def laws_toStringS (a : (List Str)) : (List Str) :=
  match laws_toStringS_L1 a 0 ((List.replicate ((a).length) (⟨#[]⟩ : Str)) : List Str) with
    | out =>
      out
def laws_toName (a : Name) : Name :=
  (Name.mk (laws_toStringS a.parts))
def laws_toTableEntry (a : TableEntry) : TableEntry :=
  (TableEntry.mk (laws_toName a.name) a.value)
def laws_toTableEntryS_L1 : List TableEntry → Nat → (List TableEntry) → (List TableEntry)
  | [], i, out => ((out) : List TableEntry)
  | e1 :: rest_, i, out =>
    match (out)[i]? with
      | none => default
      | some e2 =>
        laws_toTableEntryS_L1 rest_ (i + 1) (((out.set i (laws_toTableEntry e1))) : List TableEntry)
def laws_toTableEntryS (a : (List TableEntry)) : (List TableEntry) :=
  match laws_toTableEntryS_L1 a 0 ((List.replicate ((a).length) (TableEntry.mk (Name.mk ([])) 0)) : List TableEntry) with
    | out =>
      out
def laws_toStateVector (a : StateVector) : StateVector :=
  (StateVector.mk (laws_toTableEntryS a.entries))
def laws_toByteS_L1 : List UInt8 → Nat → (List UInt8) → (List UInt8)
  | [], i, out => ((out) : List UInt8)
  | e1 :: rest_, i, out =>
    match (out)[i]? with
      | none => default
      | some e2 =>
        laws_toByteS_L1 rest_ (i + 1) (((out.set i e1)) : List UInt8)
def laws_toByteS (a : (List UInt8)) : (List UInt8) :=
  match laws_toByteS_L1 a 0 ((List.replicate ((a).length) (0 : UInt8)) : List UInt8) with
    | out =>
      out
def laws_toPublication (a : Publication) : Publication :=
  (Publication.mk (laws_toName a.publisher) a.seq (laws_toByteS a.content))
def laws_toPublicationS_L1 : List Publication → Nat → (List Publication) → (List Publication)
  | [], i, out => ((out) : List Publication)
  | e1 :: rest_, i, out =>
    match (out)[i]? with
      | none => default
      | some e2 =>
        laws_toPublicationS_L1 rest_ (i + 1) (((out.set i (laws_toPublication e1))) : List Publication)
def laws_toPublicationS (a : (List Publication)) : (List Publication) :=
  match laws_toPublicationS_L1 a 0 ((List.replicate ((a).length) (Publication.mk (Name.mk ([])) 0 ([]))) : List Publication) with
    | out =>
      out
def laws_toMember (a : Member) : Member :=
  (Member.mk (laws_toName a.name) (laws_toStateVector a.vector) (laws_toPublicationS a.publications))
end Go.Stp

namespace Go.Proofs.YtfffongneoegbaaGreat
open Go.Stp
set_option linter.unusedVariables false
set_option linter.unusedSimpArgs false
theorem f183 (w : World) (n : Nat) (hn : n + 0 ≤ 9) (a : (List Str)) (pa : Option Addr) (ca : Nat) (hpa : RdSl (hp w) pa ca a) (hoka : GoT.ok n a) :
    Does Tryz.prog 183 #[.slice pa ((a).length) ca] w emp (Post w emp (fun x : GoT.X ((List Str)) => (GoT.sh ((laws_toStringS a) : (List Str)) x).headD undef) (fun x => GoT.oa ((laws_toStringS a) : (List Str)) x) (GoT.ok n ((laws_toStringS a) : (List Str)))) := by
  have hbP := bd_pos n
  have hbB := bd_big (n := n) (by omega)
  refine WX.enter (tt := tt) (Γ := [(0, MF.rs .stb pa ca a)]) Tryz.func183 rfl (by kernel_rfl) rfl (allS_cons rfl hpa allS_nil) ?_
  refine WX.run ttOk rfl ?_
  have r1 : (a).length ≤ bd n := (okl hoka).1
  refine WX.mkS ((a).length) ttOk rfl rfl rfl rfl rfl rfl rfl (by omega) (by omega) rfl ?_
  intro p1
  refine WX.free 1 (MF.ol (zrep ((a).length) [.string (⟨#[]⟩ : Str)]) ((List.replicate ((a).length) (⟨#[]⟩ : Str)) : List Str)) (ol_zrep (α := Str) (z0 := (⟨#[]⟩ : Str)) (x0 := ()) rfl trivial _) ?_
  refine WX.run ttOk rfl ?_
  refine WX.loop (ι := (List Value) × (List Str) × Nat) ⟨fun | (xsout, out, i) => (i ≤ (a).length) ∧ (out.length = (a).length) ∧ (∀ z_ ∈ out, GoT.ok n z_) ∧ (laws_toStringS_L1 a 0 ((List.replicate ((a).length) (⟨#[]⟩ : Str)) : List Str) = laws_toStringS_L1 ((a).drop i) i out), fun | (xsout, out, i) => (a).length - i, fun | (xsout, out, i) => [(3, .v (.slice p1 ((a).length) ((a).length))), (4, .v (.int .i64 (((i : Nat) : Int)))), (0, .v (.slice pa ((a).length) ca))], fun | (xsout, out, i) => [], fun | (xsout, out, i) => [(7, ⟨1, p1, (a).length, ((a).length), xsout⟩)], fun | (xsout, out, i) => [(0, MF.rs .stb pa ca a), (1, MF.ol xsout (out : List Str))]⟩ ((zrep ((a).length) [.string (⟨#[]⟩ : Str)]), ((List.replicate ((a).length) (⟨#[]⟩ : Str)) : List Str), 0) ⟨(Nat.zero_le _), (by simp), (all_rep (Nat.le_trans (by decide) (bd_pos _))), rfl⟩
    (.cons rfl (.cons rfl (.cons rfl (.nil)))) .nil (.cons rfl (.nil)) [0, 1] rfl ?_
  rintro ⟨xsout, out, i⟩ hpre
  have hpre_ : (i ≤ (a).length) ∧ (out.length = (a).length) ∧ (∀ z_ ∈ out, GoT.ok n z_) ∧ (laws_toStringS_L1 a 0 ((List.replicate ((a).length) (⟨#[]⟩ : Str)) : List Str) = laws_toStringS_L1 ((a).drop i) i out) := hpre
  clear hpre
  obtain ⟨v1, v2, v3, v4⟩ := hpre_
  refine WX.run ttOk rfl ?_
  refine WX.cases 11 rfl (fun h1 => ?_) (fun h1 => ?_)
  · skip
    have h1d := B.dt h1
    have e1i : i < (a).length := (by omega)
    obtain ⟨e1, e1h⟩ : ∃ e1, (a)[i]? = some e1 := ⟨_, List.getElem?_eq_getElem e1i⟩
    have ok1 : GoT.ok n e1 := (okl hoka).2 _ (List.mem_of_getElem? e1h)
    refine WX.run ttOk rfl ?_
    refine WX.idx 0 i ttOk rfl rfl rfl rfl rfl rfl rfl rfl rfl rfl e1i ?_
    rintro ad1 rfl
    refine WX.ldE 0 2 e1 ttOk rfl rfl rfl rfl rfl rfl rfl rfl e1h (fun _ => rfl) (fun _ => rfl) ?_
    rintro ⟨⟩
    have hr1 : i < (a).length := (by first | assumption | omega)
    refine WX.idxR 7 i ttOk rfl rfl rfl rfl rfl rfl rfl rfl rfl hr1 ?_
    rintro ad2 rfl
    have e2i : i < (out).length := (by first | assumption | omega)
    obtain ⟨e2, e2h⟩ : ∃ e2, (out)[i]? = some e2 := ⟨_, List.getElem?_eq_getElem e2i⟩
    have ok2 : GoT.ok n e2 := v3 _ (List.mem_of_getElem? e2h)
    refine WX.opnE (α := Str) (e := e2) 7 1 2 i rfl rfl rfl e2h (fun _ => rfl) (fun _ _ _ => rfl) (fun _ _ _ => rfl) ?_
    rintro A1 B1 ⟨⟩ hA1 hB1
    refine WX.stA 7 ttOk rfl rfl rfl rfl rfl rfl rfl rfl rfl rfl rfl rfl rfl rfl hA1 hr1 rfl rfl rfl rfl (by simp) rfl ?_
    refine WX.run ttOk rfl ?_
    refine WX.see rfl rfl rfl (fun _ hΓ => looks_arith rfl rfl rfl rfl (by unfold I64; first | omega | (dsimp only; omega))) ?_
    refine WX.run ttOk rfl ?_
    refine WX.turn [2, 3] 4 rfl (fun h hs => cl_elem (α := Str) (e := e1) (x := ()) e2i hs) (gs := [MF.ol (A1 ++ [.string e1] ++ B1) (out.set i e1)]) rfl ?_
    refine WX.turn [4] 1 rfl (fun _ h => h) rfl ?_
    exact WX.iter ((A1 ++ [.string e1] ++ B1), ((out.set i e1) : List Str), i + 1) ⟨(by omega), (by first | assumption | omega | (simp only [List.length_append, List.length_cons, List.length_nil, List.length_set, List.length_map, List.length_take, List.length_drop]; omega) | (simp; omega)), (all_set v3 (show GoT.ok n (e1 : Str) from ok1)), (by rw [v4, drop_get e1h]; simp only [laws_toStringS_L1, e2h, cond_true, cond_false])⟩ (by dsimp only; omega) (.cons rfl (.cons rfl (.cons rfl (.nil)))) .nil (.cons rfl (.nil)) [0, 1] rfl
  · skip
    have h1d := B.df h1
    refine WX.run ttOk rfl ?_
    have hX1 : laws_toStringS_L1 a 0 ((List.replicate ((a).length) (⟨#[]⟩ : Str)) : List Str) = ((out) : List Str) := by rw [v4, List.drop_eq_nil_of_le (show (a).length ≤ i by omega)]; simp only [laws_toStringS_L1, cond_true, cond_false]
    refine WX.seal 7 1 5 rfl rfl (show (a).length = (out).length from by omega) rfl rfl ?_
    refine WX.slot 2 (y := .v (.slice p1 (out).length ((a).length))) rfl (fun _ => by show (Value.slice p1 ((a).length) ((a).length) : Value) = Value.slice p1 (out).length ((a).length); rw [(show (a).length = (out).length from by omega)]) ?_
    refine WX.slot 21 (y := .v (.slice p1 (out).length ((a).length))) rfl (fun _ => by show (Value.slice p1 ((a).length) ((a).length) : Value) = Value.slice p1 (out).length ((a).length); rw [(show (a).length = (out).length from by omega)]) ?_
    refine WX.slot 3 (y := .v (.slice p1 (out).length ((a).length))) rfl (fun _ => by show (Value.slice p1 ((a).length) ((a).length) : Value) = Value.slice p1 (out).length ((a).length); rw [(show (a).length = (out).length from by omega)]) ?_
    have hP1 : laws_toStringS a = out := by simp only [laws_toStringS, hX1, cond_true, cond_false]
    refine WX.ret ttOk rfl ?_
    intro w1 G bs hI hΓ
    rw [hP1]
    exact Post.of [6] (p1, ((a).length)) hI hΓ rfl rfl rfl (okl_mk (by omega) v3 : GoT.ok n (out : List Str))
theorem f65 (w : World) (n : Nat) (hn : n + 0 ≤ 9) (a : Name) (pa : Option Addr) (ca : Nat) (hpa : RdSl (hp w) pa ca a.parts) (hoka : GoT.ok n a) :
    Does Tryz.prog 65 #[.agg #[.slice pa ((a.parts).length) ca]] w emp (Post w emp (fun x : GoT.X (Name) => .agg ⟨GoT.sh ((laws_toName a) : Name) x⟩) (fun x => GoT.oa ((laws_toName a) : Name) x) (GoT.ok n ((laws_toName a) : Name))) := by
  have hbP := bd_pos n
  have hbB := bd_big (n := n) (by omega)
  refine WX.enter (tt := tt) (Γ := [(0, MF.rs .stb pa ca a.parts)]) Tryz.func65 rfl (by kernel_rfl) rfl (allS_cons rfl hpa allS_nil) ?_
  refine WX.run ttOk rfl ?_
  refine WX.callF 1 (fun _ _ h => GoT.ow_rd h) (fun _ f hf => GoT.fak f hf) rfl rfl rfl rfl rfl (fun _ => rfl) rfl (fun w G bs hI hΓ => f183 w n (by omega) a.parts pa ca (hΓ.get 0 rfl) (ok_Name hoka)) (fun _ => rfl) (fun _ => rfl) ?_
  rintro ⟨p1, c1⟩ hq1
  refine WX.run ttOk rfl ?_
  have hP1 : laws_toName a = (Name.mk (laws_toStringS a.parts)) := by simp only [laws_toName, cond_true, cond_false]
  refine WX.ret ttOk rfl ?_
  intro w1 G bs hI hΓ
  rw [hP1]
  exact Post.of [2] (p1, c1) hI hΓ rfl rfl rfl hq1
theorem f229 (w : World) (n : Nat) (hn : n + 0 ≤ 9) (a : TableEntry) (paName : Option Addr) (caName : Nat) (hpaName : RdSl (hp w) paName caName a.name.parts) (hoka : GoT.ok n a) :
    Does Tryz.prog 229 #[.agg #[.slice paName ((a.name.parts).length) caName, .int .i64 (a.value)]] w emp (Post w emp (fun x : GoT.X (TableEntry) => .agg ⟨GoT.sh ((laws_toTableEntry a) : TableEntry) x⟩) (fun x => GoT.oa ((laws_toTableEntry a) : TableEntry) x) (GoT.ok n ((laws_toTableEntry a) : TableEntry))) := by
  have hbP := bd_pos n
  have hbB := bd_big (n := n) (by omega)
  refine WX.enter (tt := tt) (Γ := [(0, MF.rs .stb paName caName a.name.parts)]) Tryz.func229 rfl (by kernel_rfl) rfl (allS_cons rfl hpaName allS_nil) ?_
  refine WX.run ttOk rfl ?_
  refine WX.callF 1 (fun _ _ h => GoT.ow_rd h) (fun _ f hf => GoT.fak f hf) rfl rfl rfl rfl rfl (fun _ => rfl) rfl (fun w G bs hI hΓ => f65 w n (by omega) a.name paName caName (hΓ.get 0 rfl) ((ok_TableEntry hoka).1)) (fun _ => rfl) (fun _ => rfl) ?_
  rintro ⟨p1, c1⟩ hq1
  refine WX.run ttOk rfl ?_
  have hP1 : laws_toTableEntry a = (TableEntry.mk (laws_toName a.name) a.value) := by simp only [laws_toTableEntry, cond_true, cond_false]
  refine WX.ret ttOk rfl ?_
  intro w1 G bs hI hΓ
  rw [hP1]
  exact Post.of [2] ((p1, c1), ()) hI hΓ rfl rfl rfl (And.intro hq1 (ok_TableEntry hoka).2)
theorem f126 (w : World) (n : Nat) (hn : n + 0 ≤ 9) (a : (List TableEntry)) (pa : Option Addr) (ca : Nat) (hpa : RdSl (hp w) pa ca a) (hoka : GoT.ok n a) :
    Does Tryz.prog 126 #[.slice pa ((a).length) ca] w emp (Post w emp (fun x : GoT.X ((List TableEntry)) => (GoT.sh ((laws_toTableEntryS a) : (List TableEntry)) x).headD undef) (fun x => GoT.oa ((laws_toTableEntryS a) : (List TableEntry)) x) (GoT.ok n ((laws_toTableEntryS a) : (List TableEntry)))) := by
  have hbP := bd_pos n
  have hbB := bd_big (n := n) (by omega)
  refine WX.enter (tt := tt) (Γ := [(0, MF.rs .stb pa ca a)]) Tryz.func126 rfl (by kernel_rfl) rfl (allS_cons rfl hpa allS_nil) ?_
  refine WX.run ttOk rfl ?_
  have r1 : (a).length ≤ bd n := (okl hoka).1
  refine WX.mkS ((a).length) ttOk rfl rfl rfl rfl rfl rfl rfl (by omega) (by omega) rfl ?_
  intro p1
  refine WX.free 1 (MF.ol (zrep ((a).length) [.slice none (0) 0, .int .i64 (0)]) ((List.replicate ((a).length) (TableEntry.mk (Name.mk ([])) 0)) : List TableEntry)) (ol_zrep (α := TableEntry) (z0 := (TableEntry.mk (Name.mk ([])) 0)) (x0 := ((none, 0), ())) rfl (sep_emp_cons (owSl_nil _ _) trivial) _) ?_
  refine WX.run ttOk rfl ?_
  refine WX.loop (ι := (List Value) × (List TableEntry) × Nat) ⟨fun | (xsout, out, i) => (i ≤ (a).length) ∧ (out.length = (a).length) ∧ (∀ z_ ∈ out, GoT.ok n z_) ∧ (laws_toTableEntryS_L1 a 0 ((List.replicate ((a).length) (TableEntry.mk (Name.mk ([])) 0)) : List TableEntry) = laws_toTableEntryS_L1 ((a).drop i) i out), fun | (xsout, out, i) => (a).length - i, fun | (xsout, out, i) => [(3, .v (.slice p1 ((a).length) ((a).length))), (4, .v (.int .i64 (((i : Nat) : Int)))), (0, .v (.slice pa ((a).length) ca))], fun | (xsout, out, i) => [], fun | (xsout, out, i) => [(7, ⟨2, p1, (a).length, ((a).length), xsout⟩)], fun | (xsout, out, i) => [(0, MF.rs .stb pa ca a), (1, MF.ol xsout (out : List TableEntry))]⟩ ((zrep ((a).length) [.slice none (0) 0, .int .i64 (0)]), ((List.replicate ((a).length) (TableEntry.mk (Name.mk ([])) 0)) : List TableEntry), 0) ⟨(Nat.zero_le _), (by simp), (all_rep (And.intro (ok_nil (α := Str)) (show I64 0 from (by unfold I64; omega)))), rfl⟩
    (.cons rfl (.cons rfl (.cons rfl (.nil)))) .nil (.cons rfl (.nil)) [0, 1] rfl ?_
  rintro ⟨xsout, out, i⟩ hpre
  have hpre_ : (i ≤ (a).length) ∧ (out.length = (a).length) ∧ (∀ z_ ∈ out, GoT.ok n z_) ∧ (laws_toTableEntryS_L1 a 0 ((List.replicate ((a).length) (TableEntry.mk (Name.mk ([])) 0)) : List TableEntry) = laws_toTableEntryS_L1 ((a).drop i) i out) := hpre
  clear hpre
  obtain ⟨v1, v2, v3, v4⟩ := hpre_
  refine WX.run ttOk rfl ?_
  refine WX.cases 11 rfl (fun h1 => ?_) (fun h1 => ?_)
  · skip
    have h1d := B.dt h1
    have e1i : i < (a).length := (by omega)
    obtain ⟨e1, e1h⟩ : ∃ e1, (a)[i]? = some e1 := ⟨_, List.getElem?_eq_getElem e1i⟩
    have ok1 : GoT.ok n e1 := (okl hoka).2 _ (List.mem_of_getElem? e1h)
    refine WX.run ttOk rfl ?_
    refine WX.idx 0 i ttOk rfl rfl rfl rfl rfl rfl rfl rfl rfl rfl e1i ?_
    rintro ad1 rfl
    refine WX.ldE 0 2 e1 ttOk rfl rfl rfl rfl rfl rfl rfl rfl e1h (fun _ => rfl) (fun _ => rfl) ?_
    rintro ⟨⟨p2, c1⟩, ⟨⟩⟩
    refine WX.callF 3 (fun _ _ h => GoT.ow_rd h) (fun _ f hf => GoT.fak f hf) rfl rfl rfl rfl rfl (fun _ => rfl) rfl (fun w G bs hI hΓ => f229 w n (by omega) e1 p2 c1 (hΓ.get 2 rfl) ok1) (fun _ => rfl) (fun _ => rfl) ?_
    rintro ⟨⟨p3, c2⟩, ⟨⟩⟩ hq1
    have hr1 : i < (a).length := (by first | assumption | omega)
    refine WX.idxR 7 i ttOk rfl rfl rfl rfl rfl rfl rfl rfl rfl hr1 ?_
    rintro ad2 rfl
    have e2i : i < (out).length := (by first | assumption | omega)
    obtain ⟨e2, e2h⟩ : ∃ e2, (out)[i]? = some e2 := ⟨_, List.getElem?_eq_getElem e2i⟩
    have ok2 : GoT.ok n e2 := v3 _ (List.mem_of_getElem? e2h)
    refine WX.opnE (α := TableEntry) (e := e2) 7 1 5 i rfl rfl rfl e2h (fun _ => rfl) (fun _ _ _ => rfl) (fun _ _ _ => rfl) ?_
    rintro A1 B1 ⟨⟨p4, c3⟩, ⟨⟩⟩ hA1 hB1
    refine WX.stA 7 ttOk rfl rfl rfl rfl rfl rfl rfl rfl rfl rfl rfl rfl rfl rfl hA1 hr1 rfl rfl rfl rfl (by simp) rfl ?_
    refine WX.run ttOk rfl ?_
    refine WX.see rfl rfl rfl (fun _ hΓ => looks_arith rfl rfl rfl rfl (by unfold I64; first | omega | (dsimp only; omega))) ?_
    refine WX.run ttOk rfl ?_
    refine WX.turn [4, 7, 8] 9 rfl (fun h hs => cl_elem (α := TableEntry) (e := (laws_toTableEntry e1)) (x := ((p3, c2), ())) e2i hs) (gs := [MF.ol (A1 ++ [.slice p3 (((laws_toTableEntry e1).name.parts).length) c2, .int .i64 ((laws_toTableEntry e1).value)] ++ B1) (out.set i (laws_toTableEntry e1))]) rfl ?_
    refine WX.turn [9] 1 rfl (fun _ h => h) rfl ?_
    exact WX.iter ((A1 ++ [.slice p3 (((laws_toTableEntry e1).name.parts).length) c2, .int .i64 ((laws_toTableEntry e1).value)] ++ B1), ((out.set i (laws_toTableEntry e1)) : List TableEntry), i + 1) ⟨(by omega), (by first | assumption | omega | (simp only [List.length_append, List.length_cons, List.length_nil, List.length_set, List.length_map, List.length_take, List.length_drop]; omega) | (simp; omega)), (all_set v3 (show GoT.ok n ((laws_toTableEntry e1) : TableEntry) from hq1)), (by rw [v4, drop_get e1h]; simp only [laws_toTableEntryS_L1, e2h, cond_true, cond_false])⟩ (by dsimp only; omega) (.cons rfl (.cons rfl (.cons rfl (.nil)))) .nil (.cons rfl (.nil)) [0, 1] rfl
  · skip
    have h1d := B.df h1
    refine WX.run ttOk rfl ?_
    have hX1 : laws_toTableEntryS_L1 a 0 ((List.replicate ((a).length) (TableEntry.mk (Name.mk ([])) 0)) : List TableEntry) = ((out) : List TableEntry) := by rw [v4, List.drop_eq_nil_of_le (show (a).length ≤ i by omega)]; simp only [laws_toTableEntryS_L1, cond_true, cond_false]
    refine WX.seal 7 1 10 rfl rfl (show (a).length = (out).length from by omega) rfl rfl ?_
    refine WX.slot 2 (y := .v (.slice p1 (out).length ((a).length))) rfl (fun _ => by show (Value.slice p1 ((a).length) ((a).length) : Value) = Value.slice p1 (out).length ((a).length); rw [(show (a).length = (out).length from by omega)]) ?_
    refine WX.slot 22 (y := .v (.slice p1 (out).length ((a).length))) rfl (fun _ => by show (Value.slice p1 ((a).length) ((a).length) : Value) = Value.slice p1 (out).length ((a).length); rw [(show (a).length = (out).length from by omega)]) ?_
    refine WX.slot 3 (y := .v (.slice p1 (out).length ((a).length))) rfl (fun _ => by show (Value.slice p1 ((a).length) ((a).length) : Value) = Value.slice p1 (out).length ((a).length); rw [(show (a).length = (out).length from by omega)]) ?_
    have hP1 : laws_toTableEntryS a = out := by simp only [laws_toTableEntryS, hX1, cond_true, cond_false]
    refine WX.ret ttOk rfl ?_
    intro w1 G bs hI hΓ
    rw [hP1]
    exact Post.of [11] (p1, ((a).length)) hI hΓ rfl rfl rfl (okl_mk (by omega) v3 : GoT.ok n (out : List TableEntry))
theorem f66 (w : World) (n : Nat) (hn : n + 0 ≤ 9) (a : StateVector) (pa : Option Addr) (ca : Nat) (hpa : RdSl (hp w) pa ca a.entries) (hoka : GoT.ok n a) :
    Does Tryz.prog 66 #[.agg #[.slice pa ((a.entries).length) ca]] w emp (Post w emp (fun x : GoT.X (StateVector) => .agg ⟨GoT.sh ((laws_toStateVector a) : StateVector) x⟩) (fun x => GoT.oa ((laws_toStateVector a) : StateVector) x) (GoT.ok n ((laws_toStateVector a) : StateVector))) := by
  have hbP := bd_pos n
  have hbB := bd_big (n := n) (by omega)
  refine WX.enter (tt := tt) (Γ := [(0, MF.rs .stb pa ca a.entries)]) Tryz.func66 rfl (by kernel_rfl) rfl (allS_cons rfl hpa allS_nil) ?_
  refine WX.run ttOk rfl ?_
  refine WX.callF 1 (fun _ _ h => GoT.ow_rd h) (fun _ f hf => GoT.fak f hf) rfl rfl rfl rfl rfl (fun _ => rfl) rfl (fun w G bs hI hΓ => f126 w n (by omega) a.entries pa ca (hΓ.get 0 rfl) (ok_StateVector hoka)) (fun _ => rfl) (fun _ => rfl) ?_
  rintro ⟨p1, c1⟩ hq1
  refine WX.run ttOk rfl ?_
  have hP1 : laws_toStateVector a = (StateVector.mk (laws_toTableEntryS a.entries)) := by simp only [laws_toStateVector, cond_true, cond_false]
  refine WX.ret ttOk rfl ?_
  intro w1 G bs hI hΓ
  rw [hP1]
  exact Post.of [2] (p1, c1) hI hΓ rfl rfl rfl hq1
theorem f22 (w : World) (n : Nat) (hn : n + 0 ≤ 9) (a : (List UInt8)) (pa : Option Addr) (ca : Nat) (hpa : RdSl (hp w) pa ca a) (hoka : GoT.ok n a) :
    Does Tryz.prog 22 #[.slice pa ((a).length) ca] w emp (Post w emp (fun x : GoT.X ((List UInt8)) => (GoT.sh ((laws_toByteS a) : (List UInt8)) x).headD undef) (fun x => GoT.oa ((laws_toByteS a) : (List UInt8)) x) (GoT.ok n ((laws_toByteS a) : (List UInt8)))) := by
  have hbP := bd_pos n
  have hbB := bd_big (n := n) (by omega)
  refine WX.enter (tt := tt) (Γ := [(0, MF.rs .stb pa ca a)]) Tryz.func22 rfl (by kernel_rfl) rfl (allS_cons rfl hpa allS_nil) ?_
  refine WX.run ttOk rfl ?_
  have r1 : (a).length ≤ bd n := (okl hoka).1
  refine WX.mkS ((a).length) ttOk rfl rfl rfl rfl rfl rfl rfl (by omega) (by omega) rfl ?_
  intro p1
  refine WX.free 1 (MF.ol (zrep ((a).length) [.int .u8 (((0 : UInt8)).toNat : Nat)]) ((List.replicate ((a).length) (0 : UInt8)) : List UInt8)) (ol_zrep (α := UInt8) (z0 := (0 : UInt8)) (x0 := ()) rfl trivial _) ?_
  refine WX.run ttOk rfl ?_
  refine WX.loop (ι := (List Value) × (List UInt8) × Nat) ⟨fun | (xsout, out, i) => (i ≤ (a).length) ∧ (out.length = (a).length) ∧ (∀ z_ ∈ out, GoT.ok n z_) ∧ (laws_toByteS_L1 a 0 ((List.replicate ((a).length) (0 : UInt8)) : List UInt8) = laws_toByteS_L1 ((a).drop i) i out), fun | (xsout, out, i) => (a).length - i, fun | (xsout, out, i) => [(3, .v (.slice p1 ((a).length) ((a).length))), (4, .v (.int .i64 (((i : Nat) : Int)))), (0, .v (.slice pa ((a).length) ca))], fun | (xsout, out, i) => [], fun | (xsout, out, i) => [(7, ⟨1, p1, (a).length, ((a).length), xsout⟩)], fun | (xsout, out, i) => [(0, MF.rs .stb pa ca a), (1, MF.ol xsout (out : List UInt8))]⟩ ((zrep ((a).length) [.int .u8 (((0 : UInt8)).toNat : Nat)]), ((List.replicate ((a).length) (0 : UInt8)) : List UInt8), 0) ⟨(Nat.zero_le _), (by simp), (all_rep trivial), rfl⟩
    (.cons rfl (.cons rfl (.cons rfl (.nil)))) .nil (.cons rfl (.nil)) [0, 1] rfl ?_
  rintro ⟨xsout, out, i⟩ hpre
  have hpre_ : (i ≤ (a).length) ∧ (out.length = (a).length) ∧ (∀ z_ ∈ out, GoT.ok n z_) ∧ (laws_toByteS_L1 a 0 ((List.replicate ((a).length) (0 : UInt8)) : List UInt8) = laws_toByteS_L1 ((a).drop i) i out) := hpre
  clear hpre
  obtain ⟨v1, v2, v3, v4⟩ := hpre_
  refine WX.run ttOk rfl ?_
  refine WX.cases 11 rfl (fun h1 => ?_) (fun h1 => ?_)
  · skip
    have h1d := B.dt h1
    have e1i : i < (a).length := (by omega)
    obtain ⟨e1, e1h⟩ : ∃ e1, (a)[i]? = some e1 := ⟨_, List.getElem?_eq_getElem e1i⟩
    refine WX.run ttOk rfl ?_
    refine WX.idx 0 i ttOk rfl rfl rfl rfl rfl rfl rfl rfl rfl rfl e1i ?_
    rintro ad1 rfl
    refine WX.ldE 0 2 e1 ttOk rfl rfl rfl rfl rfl rfl rfl rfl e1h (fun _ => rfl) (fun _ => rfl) ?_
    rintro ⟨⟩
    have hr1 : i < (a).length := (by first | assumption | omega)
    refine WX.idxR 7 i ttOk rfl rfl rfl rfl rfl rfl rfl rfl rfl hr1 ?_
    rintro ad2 rfl
    have e2i : i < (out).length := (by first | assumption | omega)
    obtain ⟨e2, e2h⟩ : ∃ e2, (out)[i]? = some e2 := ⟨_, List.getElem?_eq_getElem e2i⟩
    refine WX.opnE (α := UInt8) (e := e2) 7 1 2 i rfl rfl rfl e2h (fun _ => rfl) (fun _ _ _ => rfl) (fun _ _ _ => rfl) ?_
    rintro A1 B1 ⟨⟩ hA1 hB1
    refine WX.stA 7 ttOk rfl rfl rfl rfl rfl rfl rfl rfl rfl rfl rfl rfl rfl rfl hA1 hr1 rfl rfl rfl rfl (by simp) rfl ?_
    refine WX.run ttOk rfl ?_
    refine WX.see rfl rfl rfl (fun _ hΓ => looks_arith rfl rfl rfl rfl (by unfold I64; first | omega | (dsimp only; omega))) ?_
    refine WX.run ttOk rfl ?_
    refine WX.turn [2, 3] 4 rfl (fun h hs => cl_elem (α := UInt8) (e := e1) (x := ()) e2i hs) (gs := [MF.ol (A1 ++ [.int .u8 ((e1).toNat : Nat)] ++ B1) (out.set i e1)]) rfl ?_
    refine WX.turn [4] 1 rfl (fun _ h => h) rfl ?_
    exact WX.iter ((A1 ++ [.int .u8 ((e1).toNat : Nat)] ++ B1), ((out.set i e1) : List UInt8), i + 1) ⟨(by omega), (by first | assumption | omega | (simp only [List.length_append, List.length_cons, List.length_nil, List.length_set, List.length_map, List.length_take, List.length_drop]; omega) | (simp; omega)), (all_set v3 (show GoT.ok n (e1 : UInt8) from trivial)), (by rw [v4, drop_get e1h]; simp only [laws_toByteS_L1, e2h, cond_true, cond_false])⟩ (by dsimp only; omega) (.cons rfl (.cons rfl (.cons rfl (.nil)))) .nil (.cons rfl (.nil)) [0, 1] rfl
  · skip
    have h1d := B.df h1
    refine WX.run ttOk rfl ?_
    have hX1 : laws_toByteS_L1 a 0 ((List.replicate ((a).length) (0 : UInt8)) : List UInt8) = ((out) : List UInt8) := by rw [v4, List.drop_eq_nil_of_le (show (a).length ≤ i by omega)]; simp only [laws_toByteS_L1, cond_true, cond_false]
    refine WX.seal 7 1 5 rfl rfl (show (a).length = (out).length from by omega) rfl rfl ?_
    refine WX.slot 2 (y := .v (.slice p1 (out).length ((a).length))) rfl (fun _ => by show (Value.slice p1 ((a).length) ((a).length) : Value) = Value.slice p1 (out).length ((a).length); rw [(show (a).length = (out).length from by omega)]) ?_
    refine WX.slot 21 (y := .v (.slice p1 (out).length ((a).length))) rfl (fun _ => by show (Value.slice p1 ((a).length) ((a).length) : Value) = Value.slice p1 (out).length ((a).length); rw [(show (a).length = (out).length from by omega)]) ?_
    refine WX.slot 3 (y := .v (.slice p1 (out).length ((a).length))) rfl (fun _ => by show (Value.slice p1 ((a).length) ((a).length) : Value) = Value.slice p1 (out).length ((a).length); rw [(show (a).length = (out).length from by omega)]) ?_
    have hP1 : laws_toByteS a = out := by simp only [laws_toByteS, hX1, cond_true, cond_false]
    refine WX.ret ttOk rfl ?_
    intro w1 G bs hI hΓ
    rw [hP1]
    exact Post.of [6] (p1, ((a).length)) hI hΓ rfl rfl rfl (okl_mk (by omega) v3 : GoT.ok n (out : List UInt8))
theorem f14 (w : World) (n : Nat) (hn : n + 0 ≤ 9) (a : Publication) (paPublisher : Option Addr) (caPublisher : Nat) (hpaPublisher : RdSl (hp w) paPublisher caPublisher a.publisher.parts) (paContent : Option Addr) (caContent : Nat) (hpaContent : RdSl (hp w) paContent caContent a.content) (hoka : GoT.ok n a) :
    Does Tryz.prog 14 #[.agg #[.slice paPublisher ((a.publisher.parts).length) caPublisher, .int .i64 (a.seq), .slice paContent ((a.content).length) caContent]] w emp (Post w emp (fun x : GoT.X (Publication) => .agg ⟨GoT.sh ((laws_toPublication a) : Publication) x⟩) (fun x => GoT.oa ((laws_toPublication a) : Publication) x) (GoT.ok n ((laws_toPublication a) : Publication))) := by
  have hbP := bd_pos n
  have hbB := bd_big (n := n) (by omega)
  refine WX.enter (tt := tt) (Γ := [(0, MF.rs .stb paPublisher caPublisher a.publisher.parts), (1, MF.rs .stb paContent caContent a.content)]) Tryz.func14 rfl (by kernel_rfl) rfl (allS_cons rfl hpaPublisher (allS_cons rfl hpaContent allS_nil)) ?_
  refine WX.run ttOk rfl ?_
  refine WX.callF 2 (fun _ _ h => GoT.ow_rd h) (fun _ f hf => GoT.fak f hf) rfl rfl rfl rfl rfl (fun _ => rfl) rfl (fun w G bs hI hΓ => f65 w n (by omega) a.publisher paPublisher caPublisher (hΓ.get 0 rfl) ((ok_Publication hoka).1)) (fun _ => rfl) (fun _ => rfl) ?_
  rintro ⟨p1, c1⟩ hq1
  refine WX.run ttOk rfl ?_
  refine WX.callF 4 (fun _ _ h => GoT.ow_rd h) (fun _ f hf => GoT.fak f hf) rfl rfl rfl rfl rfl (fun _ => rfl) rfl (fun w G bs hI hΓ => f22 w n (by omega) a.content paContent caContent (hΓ.get 1 rfl) ((ok_Publication hoka).2.2)) (fun _ => rfl) (fun _ => rfl) ?_
  rintro ⟨p2, c2⟩ hq2
  refine WX.run ttOk rfl ?_
  have hP1 : laws_toPublication a = (Publication.mk (laws_toName a.publisher) a.seq (laws_toByteS a.content)) := by simp only [laws_toPublication, cond_true, cond_false]
  refine WX.ret ttOk rfl ?_
  intro w1 G bs hI hΓ
  rw [hP1]
  exact Post.of [3, 5] ((p1, c1), (), (p2, c2)) hI hΓ rfl rfl rfl (And.intro hq1 (And.intro (ok_Publication hoka).2.1 hq2))
theorem f67 (w : World) (n : Nat) (hn : n + 0 ≤ 9) (a : (List Publication)) (pa : Option Addr) (ca : Nat) (hpa : RdSl (hp w) pa ca a) (hoka : GoT.ok n a) :
    Does Tryz.prog 67 #[.slice pa ((a).length) ca] w emp (Post w emp (fun x : GoT.X ((List Publication)) => (GoT.sh ((laws_toPublicationS a) : (List Publication)) x).headD undef) (fun x => GoT.oa ((laws_toPublicationS a) : (List Publication)) x) (GoT.ok n ((laws_toPublicationS a) : (List Publication)))) := by
  have hbP := bd_pos n
  have hbB := bd_big (n := n) (by omega)
  refine WX.enter (tt := tt) (Γ := [(0, MF.rs .stb pa ca a)]) Tryz.func67 rfl (by kernel_rfl) rfl (allS_cons rfl hpa allS_nil) ?_
  refine WX.run ttOk rfl ?_
  have r1 : (a).length ≤ bd n := (okl hoka).1
  refine WX.mkS ((a).length) ttOk rfl rfl rfl rfl rfl rfl rfl (by omega) (by omega) rfl ?_
  intro p1
  refine WX.free 1 (MF.ol (zrep ((a).length) [.slice none (0) 0, .int .i64 (0), .slice none (0) 0]) ((List.replicate ((a).length) (Publication.mk (Name.mk ([])) 0 ([]))) : List Publication)) (ol_zrep (α := Publication) (z0 := (Publication.mk (Name.mk ([])) 0 ([]))) (x0 := ((none, 0), (), (none, 0))) rfl (sep_emp_cons (owSl_nil _ _) (sep_emp_cons (owSl_nil _ _) trivial)) _) ?_
  refine WX.run ttOk rfl ?_
  refine WX.loop (ι := (List Value) × (List Publication) × Nat) ⟨fun | (xsout, out, i) => (i ≤ (a).length) ∧ (out.length = (a).length) ∧ (∀ z_ ∈ out, GoT.ok n z_) ∧ (laws_toPublicationS_L1 a 0 ((List.replicate ((a).length) (Publication.mk (Name.mk ([])) 0 ([]))) : List Publication) = laws_toPublicationS_L1 ((a).drop i) i out), fun | (xsout, out, i) => (a).length - i, fun | (xsout, out, i) => [(3, .v (.slice p1 ((a).length) ((a).length))), (4, .v (.int .i64 (((i : Nat) : Int)))), (0, .v (.slice pa ((a).length) ca))], fun | (xsout, out, i) => [], fun | (xsout, out, i) => [(7, ⟨3, p1, (a).length, ((a).length), xsout⟩)], fun | (xsout, out, i) => [(0, MF.rs .stb pa ca a), (1, MF.ol xsout (out : List Publication))]⟩ ((zrep ((a).length) [.slice none (0) 0, .int .i64 (0), .slice none (0) 0]), ((List.replicate ((a).length) (Publication.mk (Name.mk ([])) 0 ([]))) : List Publication), 0) ⟨(Nat.zero_le _), (by simp), (all_rep (And.intro (ok_nil (α := Str)) (And.intro (show I64 0 from (by unfold I64; omega)) (ok_nil (α := UInt8))))), rfl⟩
    (.cons rfl (.cons rfl (.cons rfl (.nil)))) .nil (.cons rfl (.nil)) [0, 1] rfl ?_
  rintro ⟨xsout, out, i⟩ hpre
  have hpre_ : (i ≤ (a).length) ∧ (out.length = (a).length) ∧ (∀ z_ ∈ out, GoT.ok n z_) ∧ (laws_toPublicationS_L1 a 0 ((List.replicate ((a).length) (Publication.mk (Name.mk ([])) 0 ([]))) : List Publication) = laws_toPublicationS_L1 ((a).drop i) i out) := hpre
  clear hpre
  obtain ⟨v1, v2, v3, v4⟩ := hpre_
  refine WX.run ttOk rfl ?_
  refine WX.cases 11 rfl (fun h1 => ?_) (fun h1 => ?_)
  · skip
    have h1d := B.dt h1
    have e1i : i < (a).length := (by omega)
    obtain ⟨e1, e1h⟩ : ∃ e1, (a)[i]? = some e1 := ⟨_, List.getElem?_eq_getElem e1i⟩
    have ok1 : GoT.ok n e1 := (okl hoka).2 _ (List.mem_of_getElem? e1h)
    refine WX.run ttOk rfl ?_
    refine WX.idx 0 i ttOk rfl rfl rfl rfl rfl rfl rfl rfl rfl rfl e1i ?_
    rintro ad1 rfl
    refine WX.ldE 0 2 e1 ttOk rfl rfl rfl rfl rfl rfl rfl rfl e1h (fun _ => rfl) (fun _ => rfl) ?_
    rintro ⟨⟨p2, c1⟩, ⟨⟩, ⟨p3, c2⟩⟩
    refine WX.callF 4 (fun _ _ h => GoT.ow_rd h) (fun _ f hf => GoT.fak f hf) rfl rfl rfl rfl rfl (fun _ => rfl) rfl (fun w G bs hI hΓ => f14 w n (by omega) e1 p2 c1 (hΓ.get 2 rfl) p3 c2 (hΓ.get 3 rfl) ok1) (fun _ => rfl) (fun _ => rfl) ?_
    rintro ⟨⟨p4, c3⟩, ⟨⟩, ⟨p5, c4⟩⟩ hq1
    have hr1 : i < (a).length := (by first | assumption | omega)
    refine WX.idxR 7 i ttOk rfl rfl rfl rfl rfl rfl rfl rfl rfl hr1 ?_
    rintro ad2 rfl
    have e2i : i < (out).length := (by first | assumption | omega)
    obtain ⟨e2, e2h⟩ : ∃ e2, (out)[i]? = some e2 := ⟨_, List.getElem?_eq_getElem e2i⟩
    have ok2 : GoT.ok n e2 := v3 _ (List.mem_of_getElem? e2h)
    refine WX.opnE (α := Publication) (e := e2) 7 1 8 i rfl rfl rfl e2h (fun _ => rfl) (fun _ _ _ => rfl) (fun _ _ _ => rfl) ?_
    rintro A1 B1 ⟨⟨p6, c5⟩, ⟨⟩, ⟨p7, c6⟩⟩ hA1 hB1
    refine WX.stA 7 ttOk rfl rfl rfl rfl rfl rfl rfl rfl rfl rfl rfl rfl rfl rfl hA1 hr1 rfl rfl rfl rfl (by simp) rfl ?_
    refine WX.run ttOk rfl ?_
    refine WX.see rfl rfl rfl (fun _ hΓ => looks_arith rfl rfl rfl rfl (by unfold I64; first | omega | (dsimp only; omega))) ?_
    refine WX.run ttOk rfl ?_
    refine WX.turn [6, 7, 12, 13] 14 rfl (fun h hs => cl_elem (α := Publication) (e := (laws_toPublication e1)) (x := ((p4, c3), (), (p5, c4))) e2i hs) (gs := [MF.ol (A1 ++ [.slice p4 (((laws_toPublication e1).publisher.parts).length) c3, .int .i64 ((laws_toPublication e1).seq), .slice p5 (((laws_toPublication e1).content).length) c4] ++ B1) (out.set i (laws_toPublication e1))]) rfl ?_
    refine WX.turn [14] 1 rfl (fun _ h => h) rfl ?_
    exact WX.iter ((A1 ++ [.slice p4 (((laws_toPublication e1).publisher.parts).length) c3, .int .i64 ((laws_toPublication e1).seq), .slice p5 (((laws_toPublication e1).content).length) c4] ++ B1), ((out.set i (laws_toPublication e1)) : List Publication), i + 1) ⟨(by omega), (by first | assumption | omega | (simp only [List.length_append, List.length_cons, List.length_nil, List.length_set, List.length_map, List.length_take, List.length_drop]; omega) | (simp; omega)), (all_set v3 (show GoT.ok n ((laws_toPublication e1) : Publication) from hq1)), (by rw [v4, drop_get e1h]; simp only [laws_toPublicationS_L1, e2h, cond_true, cond_false])⟩ (by dsimp only; omega) (.cons rfl (.cons rfl (.cons rfl (.nil)))) .nil (.cons rfl (.nil)) [0, 1] rfl
  · skip
    have h1d := B.df h1
    refine WX.run ttOk rfl ?_
    have hX1 : laws_toPublicationS_L1 a 0 ((List.replicate ((a).length) (Publication.mk (Name.mk ([])) 0 ([]))) : List Publication) = ((out) : List Publication) := by rw [v4, List.drop_eq_nil_of_le (show (a).length ≤ i by omega)]; simp only [laws_toPublicationS_L1, cond_true, cond_false]
    refine WX.seal 7 1 15 rfl rfl (show (a).length = (out).length from by omega) rfl rfl ?_
    refine WX.slot 2 (y := .v (.slice p1 (out).length ((a).length))) rfl (fun _ => by show (Value.slice p1 ((a).length) ((a).length) : Value) = Value.slice p1 (out).length ((a).length); rw [(show (a).length = (out).length from by omega)]) ?_
    refine WX.slot 22 (y := .v (.slice p1 (out).length ((a).length))) rfl (fun _ => by show (Value.slice p1 ((a).length) ((a).length) : Value) = Value.slice p1 (out).length ((a).length); rw [(show (a).length = (out).length from by omega)]) ?_
    refine WX.slot 3 (y := .v (.slice p1 (out).length ((a).length))) rfl (fun _ => by show (Value.slice p1 ((a).length) ((a).length) : Value) = Value.slice p1 (out).length ((a).length); rw [(show (a).length = (out).length from by omega)]) ?_
    have hP1 : laws_toPublicationS a = out := by simp only [laws_toPublicationS, hX1, cond_true, cond_false]
    refine WX.ret ttOk rfl ?_
    intro w1 G bs hI hΓ
    rw [hP1]
    exact Post.of [16] (p1, ((a).length)) hI hΓ rfl rfl rfl (okl_mk (by omega) v3 : GoT.ok n (out : List Publication))
theorem f13 (w : World) (n : Nat) (hn : n + 0 ≤ 9) (a : Member) (paName : Option Addr) (caName : Nat) (hpaName : RdSl (hp w) paName caName a.name.parts) (paVector : Option Addr) (caVector : Nat) (hpaVector : RdSl (hp w) paVector caVector a.vector.entries) (paPublications : Option Addr) (caPublications : Nat) (hpaPublications : RdSl (hp w) paPublications caPublications a.publications) (hoka : GoT.ok n a) :
    Does Tryz.prog 13 #[.agg #[.slice paName ((a.name.parts).length) caName, .slice paVector ((a.vector.entries).length) caVector, .slice paPublications ((a.publications).length) caPublications]] w emp (Post w emp (fun x : GoT.X (Member) => .agg ⟨GoT.sh ((laws_toMember a) : Member) x⟩) (fun x => GoT.oa ((laws_toMember a) : Member) x) (GoT.ok n ((laws_toMember a) : Member))) := by
  have hbP := bd_pos n
  have hbB := bd_big (n := n) (by omega)
  refine WX.enter (tt := tt) (Γ := [(0, MF.rs .stb paName caName a.name.parts), (1, MF.rs .stb paVector caVector a.vector.entries), (2, MF.rs .stb paPublications caPublications a.publications)]) Tryz.func13 rfl (by kernel_rfl) rfl (allS_cons rfl hpaName (allS_cons rfl hpaVector (allS_cons rfl hpaPublications allS_nil))) ?_
  refine WX.run ttOk rfl ?_
  refine WX.callF 3 (fun _ _ h => GoT.ow_rd h) (fun _ f hf => GoT.fak f hf) rfl rfl rfl rfl rfl (fun _ => rfl) rfl (fun w G bs hI hΓ => f65 w n (by omega) a.name paName caName (hΓ.get 0 rfl) ((ok_Member hoka).1)) (fun _ => rfl) (fun _ => rfl) ?_
  rintro ⟨p1, c1⟩ hq1
  refine WX.run ttOk rfl ?_
  refine WX.callF 5 (fun _ _ h => GoT.ow_rd h) (fun _ f hf => GoT.fak f hf) rfl rfl rfl rfl rfl (fun _ => rfl) rfl (fun w G bs hI hΓ => f66 w n (by omega) a.vector paVector caVector (hΓ.get 1 rfl) ((ok_Member hoka).2.1)) (fun _ => rfl) (fun _ => rfl) ?_
  rintro ⟨p2, c2⟩ hq2
  refine WX.run ttOk rfl ?_
  refine WX.callF 7 (fun _ _ h => GoT.ow_rd h) (fun _ f hf => GoT.fak f hf) rfl rfl rfl rfl rfl (fun _ => rfl) rfl (fun w G bs hI hΓ => f67 w n (by omega) a.publications paPublications caPublications (hΓ.get 2 rfl) ((ok_Member hoka).2.2)) (fun _ => rfl) (fun _ => rfl) ?_
  rintro ⟨p3, c3⟩ hq3
  refine WX.run ttOk rfl ?_
  have hP1 : laws_toMember a = (Member.mk (laws_toName a.name) (laws_toStateVector a.vector) (laws_toPublicationS a.publications)) := by simp only [laws_toMember, cond_true, cond_false]
  refine WX.ret ttOk rfl ?_
  intro w1 G bs hI hΓ
  rw [hP1]
  exact Post.of [4, 6, 8] ((p1, c1), (p2, c2), (p3, c3)) hI hΓ rfl rfl rfl (And.intro hq1 (And.intro hq2 hq3))
end Go.Proofs.YtfffongneoegbaaGreat

namespace Go.Stp
set_option linter.unusedVariables false
set_option linter.unusedSimpArgs false
def laws_markText_L1 (k2 : Int) (out : Str) : Int × Str :=
  if k2 > 0 then
    laws_markText_L1 (IntKind.i64.wrap (Int.tdiv k2 10)) ((bstr ([(toU8 (IntKind.i64.wrap (48 + (Int.tmod k2 10))))])) ++ out)
  else
    (k2, out)
termination_by k2.toNat
decreasing_by exact wrap_quo10 ‹_›
def laws_markText (k : Int) : Str :=
  bif decide (k ≤ 0) then
    (⟨#[109, 48]⟩ : Str)
  else
    match laws_markText_L1 k (⟨#[]⟩ : Str) with
      | (k2, out) =>
        ((⟨#[109]⟩ : Str) ++ out)
def laws_markStringS_L1 : Nat → Nat → (List Str) → Int → (List Str) × Int
  | 0, i, a2, k2 => (((a2) : List Str), k2)
  | m_ + 1, i, a2, k2 =>
    match (a2)[i]? with
      | none => default
      | some e1 =>
        laws_markStringS_L1 m_ (i + 1) (((a2.set i (laws_markText k2))) : List Str) (IntKind.i64.wrap (k2 + 1))
def laws_markStringS (a : (List Str)) (k : Int) : Int × (List Str) :=
  match laws_markStringS_L1 ((a).length) 0 (a : List Str) k with
    | (a2, k2) =>
      (k2, a2)
def laws_markName (a : Name) (k : Int) : Int × Name :=
  (((laws_markStringS a.parts k).1), (Name.mk ((laws_markStringS a.parts k).2)))
def laws_markTableEntryS_L1 : Nat → Nat → (List TableEntry) → Int → (List TableEntry) × Int
  | 0, i, a2, k2 => (((a2) : List TableEntry), k2)
  | m_ + 1, i, a2, k2 =>
    match (a2)[i]? with
      | none => default
      | some e1 =>
        laws_markTableEntryS_L1 m_ (i + 1) (((a2.set i (TableEntry.mk (Name.mk ((laws_markStringS e1.name.parts k2).2)) ((laws_markStringS e1.name.parts k2).1)))) : List TableEntry) (IntKind.i64.wrap (((laws_markStringS e1.name.parts k2).1) + 1))
def laws_markTableEntryS (a : (List TableEntry)) (k : Int) : Int × (List TableEntry) :=
  match laws_markTableEntryS_L1 ((a).length) 0 (a : List TableEntry) k with
    | (a2, k2) =>
      (k2, a2)
def laws_markStateVector (a : StateVector) (k : Int) : Int × StateVector :=
  (((laws_markTableEntryS a.entries k).1), (StateVector.mk ((laws_markTableEntryS a.entries k).2)))
def laws_markByteS_L1 : Nat → Nat → (List UInt8) → Int → (List UInt8) × Int
  | 0, i, a2, k2 => (((a2) : List UInt8), k2)
  | m_ + 1, i, a2, k2 =>
    match (a2)[i]? with
      | none => default
      | some e1 =>
        laws_markByteS_L1 m_ (i + 1) (((a2.set i (toU8 k2))) : List UInt8) (IntKind.i64.wrap (k2 + 1))
def laws_markByteS (a : (List UInt8)) (k : Int) : Int × (List UInt8) :=
  match laws_markByteS_L1 ((a).length) 0 (a : List UInt8) k with
    | (a2, k2) =>
      (k2, a2)
def laws_markPublicationS_L1 : Nat → Nat → (List Publication) → Int → (List Publication) × Int
  | 0, i, a2, k2 => (((a2) : List Publication), k2)
  | m_ + 1, i, a2, k2 =>
    match (a2)[i]? with
      | none => default
      | some e1 =>
        laws_markPublicationS_L1 m_ (i + 1) (((a2.set i (Publication.mk (Name.mk ((laws_markStringS e1.publisher.parts k2).2)) ((laws_markStringS e1.publisher.parts k2).1) ((laws_markByteS e1.content (IntKind.i64.wrap (((laws_markStringS e1.publisher.parts k2).1) + 1))).2)))) : List Publication) ((laws_markByteS e1.content (IntKind.i64.wrap (((laws_markStringS e1.publisher.parts k2).1) + 1))).1)
def laws_markPublicationS (a : (List Publication)) (k : Int) : Int × (List Publication) :=
  match laws_markPublicationS_L1 ((a).length) 0 (a : List Publication) k with
    | (a2, k2) =>
      (k2, a2)
def laws_markMember (a : Member) (k : Int) : Int × Member :=
  (((laws_markPublicationS a.publications ((laws_markStateVector a.vector ((laws_markName a.name k).1)).1)).1), (Member.mk ((laws_markName a.name k).2) ((laws_markStateVector a.vector ((laws_markName a.name k).1)).2) ((laws_markPublicationS a.publications ((laws_markStateVector a.vector ((laws_markName a.name k).1)).1)).2)))
end Go.Stp

namespace Go.Proofs.YtfffongneoegbaaGreat
open Go.Stp
set_option linter.unusedVariables false
set_option linter.unusedSimpArgs false
theorem f301 (w : World) (n : Nat) (hn : n + 0 ≤ 9) (k : Int) (hokk : GoT.ok n k) :
    Does Tryz.prog 301 #[.int .i64 (k)] w emp (fun (rv : Value) (_ : World) => rv = .string (laws_markText k) ∧ GoT.ok n ((laws_markText k) : Str)) := by
  have hbP := bd_pos n
  have hbB := bd_big (n := n) (by omega)
  refine WX.enter (tt := tt) (Γ := []) Tryz.func301 rfl (by kernel_rfl) rfl allS_nil ?_
  refine WX.run ttOk rfl ?_
  refine WX.cases 5 rfl (fun h1 => ?_) (fun h1 => ?_)
  · skip
    have h1d := B.dt h1
    refine WX.run ttOk rfl ?_
    have hP1 : laws_markText k = (⟨#[109, 48]⟩ : Str) := by simp only [laws_markText, h1, cond_true, cond_false]
    refine WX.ret ttOk rfl ?_
    intro w1 G bs hI hΓ
    rw [hP1]
    exact ⟨rfl, (Nat.le_trans (by decide) (bd_pos _))⟩
  · skip
    have h1d := B.df h1
    refine WX.run ttOk rfl ?_
    have r1 : (⟨#[]⟩ : Str).size = 0 := rfl
    refine WX.loop (ι := Int × Str) ⟨fun | (k2, out) => (-9223372036854775808 ≤ k2 ∧ k2 ≤ 9223372036854775807) ∧ (out.size ≤ bd n) ∧ (mkInv k2 out.size) ∧ (laws_markText_L1 k (⟨#[]⟩ : Str) = laws_markText_L1 k2 out), fun | (k2, out) => k2.toNat, fun | (k2, out) => [(0, .v (.int .i64 (k2))), (3, .v (.string out))], fun | (k2, out) => [], fun | (k2, out) => [], fun | (k2, out) => []⟩ (k, (⟨#[]⟩ : Str)) ⟨hokk, (by first | assumption | omega), (mkInv_0 hokk.2), rfl⟩
      (.cons rfl (.cons rfl (.nil))) .nil .nil [] rfl ?_
    rintro ⟨k2, out⟩ hpre
    have hpre_ : (-9223372036854775808 ≤ k2 ∧ k2 ≤ 9223372036854775807) ∧ (out.size ≤ bd n) ∧ (mkInv k2 out.size) ∧ (laws_markText_L1 k (⟨#[]⟩ : Str) = laws_markText_L1 k2 out) := hpre
    clear hpre
    obtain ⟨v1, v2, v3, v4⟩ := hpre_
    have hz0 := mkInv_size v3
    refine WX.run ttOk rfl ?_
    refine WX.cases 7 rfl (fun h2 => ?_) (fun h2 => ?_)
    · skip
      have h2d := B.dt h2
      refine WX.run ttOk rfl ?_
      have r2 := tmod_rng k2 (show (0 : Int) < 10 by omega)
      refine WX.see rfl rfl rfl (fun _ hΓ => looks_rem rfl rfl rfl (by decide)) ?_
      refine WX.see rfl rfl rfl (fun _ hΓ => looks_wrap rfl rfl rfl rfl) ?_
      refine WX.see rfl rfl rfl (fun _ hΓ => looks_toU8 ttOk rfl rfl rfl rfl rfl rfl) ?_
      refine WX.bld ttOk rfl rfl rfl rfl rfl rfl rfl ?_
      intro p1
      refine WX.turn [] 0 rfl (fun h hs => ol_one (α := UInt8) (a := (toU8 (IntKind.i64.wrap (48 + (Int.tmod k2 10))))) (x := ()) hs) (gs := [MF.ol [.int .u8 ((toU8 (IntKind.i64.wrap (48 + (Int.tmod k2 10)))).toNat : Nat)] ([(toU8 (IntKind.i64.wrap (48 + (Int.tmod k2 10))))] : List UInt8)]) rfl ?_
      refine WX.seal 12 0 1 rfl rfl rfl rfl rfl ?_
      refine WX.see rfl rfl rfl (fun _ hΓ => looks_toStr ttOk (hΓ.get 1 rfl) rfl rfl rfl rfl rfl rfl rfl rfl rfl) ?_
      refine WX.run ttOk rfl ?_
      have r3 : (bstr ([(toU8 (IntKind.i64.wrap (48 + (Int.tmod k2 10))))])).size = 1 := bstr_size _
      refine WX.see rfl rfl rfl (fun _ hΓ => looks_cat rfl rfl rfl (by have := bd_le (n + 9); simp; omega)) ?_
      refine WX.run ttOk rfl ?_
      refine WX.see rfl rfl rfl (fun _ hΓ => looks_quo rfl rfl rfl (by decide)) ?_
      refine WX.run ttOk rfl ?_
      have hz1 : (bstr ([(toU8 (IntKind.i64.wrap (48 + (Int.tmod k2 10))))]) ++ out).size = out.size + 1 := by rw [ByteArray.size_append]; show 1 + out.size = out.size + 1; omega
      have hz2 := mkInv_size (mkInv_step h2d v3)
      exact WX.iter (IntKind.i64.wrap (Int.tdiv k2 10), ((bstr ([(toU8 (IntKind.i64.wrap (48 + (Int.tmod k2 10))))])) ++ out)) ⟨(i64_wrap _), (by first | assumption | omega | (simp; omega)), (by rw [hz1]; exact mkInv_step h2d v3), (by rw [v4]; rw [laws_markText_L1]; simp only [h2, h2d, cond_true, cond_false, ↓reduceIte, Bool.false_eq_true])⟩ (wrap_quo10 h2d) (.cons rfl (.cons rfl (.nil))) .nil .nil [] rfl
    · skip
      have h2d := B.df h2
      refine WX.run ttOk rfl ?_
      have hX1 : laws_markText_L1 k (⟨#[]⟩ : Str) = (k2, out) := by rw [v4]; rw [laws_markText_L1]; simp only [h2, h2d, cond_true, cond_false, ↓reduceIte, Bool.false_eq_true]
      have r4 : (⟨#[109]⟩ : Str).size = 1 := rfl
      refine WX.see rfl rfl rfl (fun _ hΓ => looks_cat rfl rfl rfl (by have := bd_le (n + 9); simp; omega)) ?_
      refine WX.run ttOk rfl ?_
      have hP2 : laws_markText k = ((⟨#[109]⟩ : Str) ++ out) := by simp only [laws_markText, h1, hX1, cond_true, cond_false]
      refine WX.ret ttOk rfl ?_
      intro w1 G bs hI hΓ
      rw [hP2]
      exact ⟨rfl, (show (((⟨#[109]⟩ : Str) ++ out)).size ≤ bd n from (by first | omega | (simp; omega)))⟩
theorem f198 (w : World) (n : Nat) (hn : n + 0 ≤ 9) (a : (List Str)) (pa : Option Addr) (ca : Nat) (k : Int) (H : GH) (hH : Le H (hp w)) (hown : Sep H (GoT.oa a (pa, ca))) (hoka : GoT.ok n a) (hokk : GoT.ok n k) :
    Does Tryz.prog 198 #[.slice pa ((a).length) ca, .int .i64 (k)] w H (Post w H (fun _ : Unit => .int .i64 ((laws_markStringS a k).1)) (fun _ => GoT.oa ((laws_markStringS a k).2 : (List Str)) (pa, ca)) ((GoT.ok n ((laws_markStringS a k).1 : Int) ∧ GoT.ok n ((laws_markStringS a k).2 : (List Str))) ∧ ((laws_markStringS a k).2).length = (a).length)) := by
  have hbP := bd_pos n
  have hbB := bd_big (n := n) (by omega)
  refine WX.enterM (tt := tt) (Γ := []) 1 Tryz.func198 rfl (by kernel_rfl) rfl allS_nil hH hown (fun f hf => GoT.oak f hf) rfl ?_
  refine WX.opn (kk := 1) 501 1 2 rfl rfl rfl ?_
  intro xs1 hx1
  refine WX.run ttOk rfl ?_
  have r1 : (a).length ≤ bd n := (okl hoka).1
  refine WX.loop (ι := (List Value) × (List Str) × Int × Nat) ⟨fun | (xsa2, a2, k2, i) => (i ≤ (a).length) ∧ (a2.length = (a).length) ∧ (∀ z_ ∈ a2, GoT.ok n z_) ∧ (-9223372036854775808 ≤ k2 ∧ k2 ≤ 9223372036854775807) ∧ (laws_markStringS_L1 ((a).length) 0 (a : List Str) k = laws_markStringS_L1 ((a).length - i) i a2 k2), fun | (xsa2, a2, k2, i) => (a).length - i, fun | (xsa2, a2, k2, i) => [(0, .v (.slice pa ((a).length) ca)), (1, .v (.int .i64 (k2))), (5, .v (.int .i64 (((i : Nat) : Int))))], fun | (xsa2, a2, k2, i) => [], fun | (xsa2, a2, k2, i) => [(501, ⟨1, pa, (a).length, ca, xsa2⟩)], fun | (xsa2, a2, k2, i) => [(2, MF.ol xsa2 (a2 : List Str))]⟩ (xs1, (a : List Str), k, 0) ⟨(Nat.zero_le _), (by simp), (okl hoka).2, hokk, rfl⟩
    (.cons rfl (.cons rfl (.cons rfl (.nil)))) .nil (.cons rfl (.nil)) [2] rfl ?_
  rintro ⟨xsa2, a2, k2, i⟩ hpre
  have hpre_ : (i ≤ (a).length) ∧ (a2.length = (a).length) ∧ (∀ z_ ∈ a2, GoT.ok n z_) ∧ (-9223372036854775808 ≤ k2 ∧ k2 ≤ 9223372036854775807) ∧ (laws_markStringS_L1 ((a).length) 0 (a : List Str) k = laws_markStringS_L1 ((a).length - i) i a2 k2) := hpre
  clear hpre
  obtain ⟨v1, v2, v3, v4, v5⟩ := hpre_
  refine WX.run ttOk rfl ?_
  refine WX.cases 9 rfl (fun h1 => ?_) (fun h1 => ?_)
  · skip
    have h1d := B.dt h1
    refine WX.run ttOk rfl ?_
    refine WX.callV rfl rfl rfl rfl rfl (fun _ => rfl) rfl (fun w G bs hI hΓ => f301 w n (by omega) k2 v4) ?_
    intro hq1
    have hr1 : i < (a).length := (by first | assumption | omega)
    refine WX.idxR 501 i ttOk rfl rfl rfl rfl rfl rfl rfl rfl rfl hr1 ?_
    rintro ad1 rfl
    have e1i : i < (a2).length := (by first | assumption | omega)
    obtain ⟨e1, e1h⟩ : ∃ e1, (a2)[i]? = some e1 := ⟨_, List.getElem?_eq_getElem e1i⟩
    have ok1 : GoT.ok n e1 := v3 _ (List.mem_of_getElem? e1h)
    refine WX.opnE (α := Str) (e := e1) 501 2 3 i rfl rfl rfl e1h (fun _ => rfl) (fun _ _ _ => rfl) (fun _ _ _ => rfl) ?_
    rintro A1 B1 ⟨⟩ hA1 hB1
    refine WX.stA 501 ttOk rfl rfl rfl rfl rfl rfl rfl rfl rfl rfl rfl rfl rfl rfl hA1 hr1 rfl rfl rfl rfl (by simp) rfl ?_
    refine WX.run ttOk rfl ?_
    refine WX.see rfl rfl rfl (fun _ hΓ => looks_wrap rfl rfl rfl rfl) ?_
    refine WX.run ttOk rfl ?_
    refine WX.see rfl rfl rfl (fun _ hΓ => looks_arith rfl rfl rfl rfl (by unfold I64; first | omega | (dsimp only; omega))) ?_
    refine WX.run ttOk rfl ?_
    refine WX.turn [3, 4] 5 rfl (fun h hs => cl_elem (α := Str) (e := (laws_markText k2)) (x := ()) e1i hs) (gs := [MF.ol (A1 ++ [.string (laws_markText k2)] ++ B1) (a2.set i (laws_markText k2))]) rfl ?_
    refine WX.turn [5] 2 rfl (fun _ h => h) rfl ?_
    exact WX.iter ((A1 ++ [.string (laws_markText k2)] ++ B1), ((a2.set i (laws_markText k2)) : List Str), IntKind.i64.wrap (k2 + 1), i + 1) ⟨(by omega), (by first | assumption | omega | (simp only [List.length_append, List.length_cons, List.length_nil, List.length_set, List.length_map, List.length_take, List.length_drop]; omega) | (simp; omega)), (all_set v3 (show GoT.ok n ((laws_markText k2) : Str) from hq1)), (i64_wrap _), (by rw [v5, show (a).length - i = ((a).length - (i + 1)) + 1 by omega]; simp only [laws_markStringS_L1, e1h, cond_true, cond_false])⟩ (by dsimp only; omega) (.cons rfl (.cons rfl (.cons rfl (.nil)))) .nil (.cons rfl (.nil)) [2] rfl
  · skip
    have h1d := B.df h1
    refine WX.run ttOk rfl ?_
    have hX1 : laws_markStringS_L1 ((a).length) 0 (a : List Str) k = (((a2) : List Str), k2) := by rw [v5, show (a).length - i = 0 by omega]; simp only [laws_markStringS_L1, cond_true, cond_false]
    refine WX.seal 501 2 6 rfl rfl (show (a).length = (a2).length from by omega) rfl rfl ?_
    refine WX.slot 7 (y := .v (.slice pa (a2).length ca)) rfl (fun _ => by show (Value.slice pa ((a).length) ca : Value) = Value.slice pa (a2).length ca; rw [(show (a).length = (a2).length from by omega)]) ?_
    refine WX.slot 0 (y := .v (.slice pa (a2).length ca)) rfl (fun _ => by show (Value.slice pa ((a).length) ca : Value) = Value.slice pa (a2).length ca; rw [(show (a).length = (a2).length from by omega)]) ?_
    have hP1 : laws_markStringS a k = (k2, a2) := by simp only [laws_markStringS, hX1, cond_true, cond_false]
    refine WX.ret ttOk rfl ?_
    intro w1 G bs hI hΓ
    rw [hP1]
    exact Post.of [7] () hI hΓ rfl rfl rfl ⟨⟨v4, (okl_mk (by omega) v3 : GoT.ok n (a2 : List Str))⟩, (show (a2).length = (a).length from by omega)⟩
theorem f77 (w : World) (n : Nat) (hn : n + 0 ≤ 9) (a : Name) (pa : Option Addr) (ca : Nat) (k : Int) (H : GH) (hH : Le H (hp w)) (hown : Sep H (GoT.oa a (pa, ca))) (hoka : GoT.ok n a) (hokk : GoT.ok n k) :
    Does Tryz.prog 77 #[.agg #[.slice pa ((a.parts).length) ca], .int .i64 (k)] w H (Post w H (fun _ : Unit => .int .i64 ((laws_markName a k).1)) (fun _ => GoT.oa ((laws_markName a k).2 : Name) (pa, ca)) ((GoT.ok n ((laws_markName a k).1 : Int) ∧ GoT.ok n ((laws_markName a k).2 : Name)) ∧ ((laws_markName a k).2.parts).length = (a.parts).length)) := by
  have hbP := bd_pos n
  have hbB := bd_big (n := n) (by omega)
  refine WX.enterM (tt := tt) (Γ := []) 1 Tryz.func77 rfl (by kernel_rfl) rfl allS_nil hH hown (fun f hf => GoT.oak f hf) rfl ?_
  refine WX.run ttOk rfl ?_
  refine WX.callM [1] 2 rfl (fun _ _ h => GoT.ow_rd h) (fun _ f hf => GoT.fak f hf) rfl rfl rfl rfl rfl (fun _ => rfl) rfl (fun w G bs H hI hH hs hΓ => f198 w n (by omega) a.parts pa ca k H hH hs (ok_Name hoka) hokk) (fun _ => rfl) (fun _ => rfl) ?_
  rintro ⟨⟩ hq1
  have hl1 : ((laws_markStringS a.parts k).2).length = (a.parts).length := hq1.2
  refine WX.run ttOk rfl ?_
  have hP1 : laws_markName a k = ((laws_markStringS a.parts k).1, Name.mk ((laws_markStringS a.parts k).2)) := by simp only [laws_markName, cond_true, cond_false]
  refine WX.ret ttOk rfl ?_
  intro w1 G bs hI hΓ
  rw [hP1]
  exact Post.of [3] () hI hΓ rfl rfl rfl ⟨⟨hq1.1.1, hq1.1.2⟩, (show ((laws_markStringS a.parts k).2).length = (a.parts).length from by omega)⟩
theorem f149 (w : World) (n : Nat) (hn : n + 0 ≤ 9) (a : (List TableEntry)) (pa : Option Addr) (ca : Nat) (k : Int) (H : GH) (hH : Le H (hp w)) (hown : Sep H (GoT.oa a (pa, ca))) (hoka : GoT.ok n a) (hokk : GoT.ok n k) :
    Does Tryz.prog 149 #[.slice pa ((a).length) ca, .int .i64 (k)] w H (Post w H (fun _ : Unit => .int .i64 ((laws_markTableEntryS a k).1)) (fun _ => GoT.oa ((laws_markTableEntryS a k).2 : (List TableEntry)) (pa, ca)) ((GoT.ok n ((laws_markTableEntryS a k).1 : Int) ∧ GoT.ok n ((laws_markTableEntryS a k).2 : (List TableEntry))) ∧ ((laws_markTableEntryS a k).2).length = (a).length)) := by
  have hbP := bd_pos n
  have hbB := bd_big (n := n) (by omega)
  refine WX.enterM (tt := tt) (Γ := []) 1 Tryz.func149 rfl (by kernel_rfl) rfl allS_nil hH hown (fun f hf => GoT.oak f hf) rfl ?_
  refine WX.opn (kk := 2) 501 1 2 rfl rfl rfl ?_
  intro xs1 hx1
  refine WX.run ttOk rfl ?_
  have r1 : (a).length ≤ bd n := (okl hoka).1
  refine WX.loop (ι := (List Value) × (List TableEntry) × Int × Nat) ⟨fun | (xsa2, a2, k2, i) => (i ≤ (a).length) ∧ (a2.length = (a).length) ∧ (∀ z_ ∈ a2, GoT.ok n z_) ∧ (-9223372036854775808 ≤ k2 ∧ k2 ≤ 9223372036854775807) ∧ (laws_markTableEntryS_L1 ((a).length) 0 (a : List TableEntry) k = laws_markTableEntryS_L1 ((a).length - i) i a2 k2), fun | (xsa2, a2, k2, i) => (a).length - i, fun | (xsa2, a2, k2, i) => [(0, .v (.slice pa ((a).length) ca)), (1, .v (.int .i64 (k2))), (5, .v (.int .i64 (((i : Nat) : Int))))], fun | (xsa2, a2, k2, i) => [], fun | (xsa2, a2, k2, i) => [(501, ⟨2, pa, (a).length, ca, xsa2⟩)], fun | (xsa2, a2, k2, i) => [(2, MF.ol xsa2 (a2 : List TableEntry))]⟩ (xs1, (a : List TableEntry), k, 0) ⟨(Nat.zero_le _), (by simp), (okl hoka).2, hokk, rfl⟩
    (.cons rfl (.cons rfl (.cons rfl (.nil)))) .nil (.cons rfl (.nil)) [2] rfl ?_
  rintro ⟨xsa2, a2, k2, i⟩ hpre
  have hpre_ : (i ≤ (a).length) ∧ (a2.length = (a).length) ∧ (∀ z_ ∈ a2, GoT.ok n z_) ∧ (-9223372036854775808 ≤ k2 ∧ k2 ≤ 9223372036854775807) ∧ (laws_markTableEntryS_L1 ((a).length) 0 (a : List TableEntry) k = laws_markTableEntryS_L1 ((a).length - i) i a2 k2) := hpre
  clear hpre
  obtain ⟨v1, v2, v3, v4, v5⟩ := hpre_
  refine WX.run ttOk rfl ?_
  refine WX.cases 9 rfl (fun h1 => ?_) (fun h1 => ?_)
  · skip
    have h1d := B.dt h1
    refine WX.run ttOk rfl ?_
    have hr1 : i < (a).length := (by first | assumption | omega)
    refine WX.idxR 501 i ttOk rfl rfl rfl rfl rfl rfl rfl rfl rfl hr1 ?_
    rintro ad1 rfl
    refine WX.run ttOk rfl ?_
    have e1i : i < (a2).length := (by first | assumption | omega)
    obtain ⟨e1, e1h⟩ : ∃ e1, (a2)[i]? = some e1 := ⟨_, List.getElem?_eq_getElem e1i⟩
    have ok1 : GoT.ok n e1 := v3 _ (List.mem_of_getElem? e1h)
    refine WX.opnE (α := TableEntry) (e := e1) 501 2 3 i rfl rfl rfl e1h (fun _ => rfl) (fun _ _ _ => rfl) (fun _ _ _ => rfl) ?_
    rintro A1 B1 ⟨⟨p1, c1⟩, ⟨⟩⟩ hA1 hB1
    refine WX.ldA 501 ttOk rfl rfl rfl rfl rfl rfl rfl rfl rfl rfl hA1 hr1 rfl ?_
    refine WX.run ttOk rfl ?_
    refine WX.callM [4] 7 rfl (fun _ _ h => GoT.ow_rd h) (fun _ f hf => GoT.fak f hf) rfl rfl rfl rfl rfl (fun _ => rfl) rfl (fun w G bs H hI hH hs hΓ => f198 w n (by omega) e1.name.parts p1 c1 k2 H hH hs (ok_Name (ok_TableEntry ok1).1) v4) (fun _ => rfl) (fun _ => rfl) ?_
    rintro ⟨⟩ hq1
    have hl1 : ((laws_markStringS e1.name.parts k2).2).length = (e1.name.parts).length := hq1.2
    refine WX.run ttOk rfl ?_
    have hr2 : i < (a).length := (by first | assumption | omega)
    refine WX.idxR 501 i ttOk rfl rfl rfl rfl rfl rfl rfl rfl rfl hr2 ?_
    rintro ad2 ⟨⟩
    refine WX.run ttOk rfl ?_
    refine WX.stA 501 ttOk rfl rfl rfl rfl rfl rfl rfl rfl rfl rfl rfl rfl rfl rfl hA1 hr2 rfl rfl rfl rfl (by simp) rfl ?_
    refine WX.run ttOk rfl ?_
    refine WX.see rfl rfl rfl (fun _ hΓ => looks_wrap rfl rfl rfl rfl) ?_
    refine WX.run ttOk rfl ?_
    refine WX.see rfl rfl rfl (fun _ hΓ => looks_arith rfl rfl rfl rfl (by unfold I64; first | omega | (dsimp only; omega))) ?_
    refine WX.run ttOk rfl ?_
    refine WX.turn [8, 5, 6] 9 rfl (fun h hs => by have z_ : Sep h [MF.ol (A1 ++ [.slice p1 (((laws_markStringS e1.name.parts k2).2).length) c1, .int .i64 ((laws_markStringS e1.name.parts k2).1)] ++ B1) (a2.set i (TableEntry.mk (Name.mk ((laws_markStringS e1.name.parts k2).2)) ((laws_markStringS e1.name.parts k2).1)))] := cl_elem (α := TableEntry) (e := (TableEntry.mk (Name.mk ((laws_markStringS e1.name.parts k2).2)) ((laws_markStringS e1.name.parts k2).1))) (x := ((p1, c1), ())) e1i hs; rw [hl1] at z_; exact z_) (gs := [MF.ol (A1 ++ [.slice p1 ((e1.name.parts).length) c1, .int .i64 ((laws_markStringS e1.name.parts k2).1)] ++ B1) (a2.set i (TableEntry.mk (Name.mk ((laws_markStringS e1.name.parts k2).2)) ((laws_markStringS e1.name.parts k2).1)))]) rfl ?_
    refine WX.turn [9] 2 rfl (fun _ h => h) rfl ?_
    exact WX.iter ((A1 ++ [.slice p1 ((e1.name.parts).length) c1, .int .i64 ((laws_markStringS e1.name.parts k2).1)] ++ B1), ((a2.set i (TableEntry.mk (Name.mk ((laws_markStringS e1.name.parts k2).2)) ((laws_markStringS e1.name.parts k2).1))) : List TableEntry), IntKind.i64.wrap (((laws_markStringS e1.name.parts k2).1) + 1), i + 1) ⟨(by omega), (by first | assumption | omega | (simp only [List.length_append, List.length_cons, List.length_nil, List.length_set, List.length_map, List.length_take, List.length_drop]; omega) | (simp; omega)), (all_set v3 (show GoT.ok n ((TableEntry.mk (Name.mk ((laws_markStringS e1.name.parts k2).2)) ((laws_markStringS e1.name.parts k2).1)) : TableEntry) from (And.intro hq1.1.2 hq1.1.1))), (i64_wrap _), (by rw [v5, show (a).length - i = ((a).length - (i + 1)) + 1 by omega]; simp only [laws_markTableEntryS_L1, e1h, cond_true, cond_false])⟩ (by dsimp only; omega) (.cons rfl (.cons rfl (.cons rfl (.nil)))) .nil (.cons rfl (.nil)) [2] rfl
  · skip
    have h1d := B.df h1
    refine WX.run ttOk rfl ?_
    have hX1 : laws_markTableEntryS_L1 ((a).length) 0 (a : List TableEntry) k = (((a2) : List TableEntry), k2) := by rw [v5, show (a).length - i = 0 by omega]; simp only [laws_markTableEntryS_L1, cond_true, cond_false]
    refine WX.seal 501 2 10 rfl rfl (show (a).length = (a2).length from by omega) rfl rfl ?_
    refine WX.slot 7 (y := .v (.slice pa (a2).length ca)) rfl (fun _ => by show (Value.slice pa ((a).length) ca : Value) = Value.slice pa (a2).length ca; rw [(show (a).length = (a2).length from by omega)]) ?_
    refine WX.slot 0 (y := .v (.slice pa (a2).length ca)) rfl (fun _ => by show (Value.slice pa ((a).length) ca : Value) = Value.slice pa (a2).length ca; rw [(show (a).length = (a2).length from by omega)]) ?_
    have hP1 : laws_markTableEntryS a k = (k2, a2) := by simp only [laws_markTableEntryS, hX1, cond_true, cond_false]
    refine WX.ret ttOk rfl ?_
    intro w1 G bs hI hΓ
    rw [hP1]
    exact Post.of [11] () hI hΓ rfl rfl rfl ⟨⟨v4, (okl_mk (by omega) v3 : GoT.ok n (a2 : List TableEntry))⟩, (show (a2).length = (a).length from by omega)⟩
theorem f78 (w : World) (n : Nat) (hn : n + 0 ≤ 9) (a : StateVector) (pa : Option Addr) (ca : Nat) (k : Int) (H : GH) (hH : Le H (hp w)) (hown : Sep H (GoT.oa a (pa, ca))) (hoka : GoT.ok n a) (hokk : GoT.ok n k) :
    Does Tryz.prog 78 #[.agg #[.slice pa ((a.entries).length) ca], .int .i64 (k)] w H (Post w H (fun _ : Unit => .int .i64 ((laws_markStateVector a k).1)) (fun _ => GoT.oa ((laws_markStateVector a k).2 : StateVector) (pa, ca)) ((GoT.ok n ((laws_markStateVector a k).1 : Int) ∧ GoT.ok n ((laws_markStateVector a k).2 : StateVector)) ∧ ((laws_markStateVector a k).2.entries).length = (a.entries).length)) := by
  have hbP := bd_pos n
  have hbB := bd_big (n := n) (by omega)
  refine WX.enterM (tt := tt) (Γ := []) 1 Tryz.func78 rfl (by kernel_rfl) rfl allS_nil hH hown (fun f hf => GoT.oak f hf) rfl ?_
  refine WX.run ttOk rfl ?_
  refine WX.callM [1] 2 rfl (fun _ _ h => GoT.ow_rd h) (fun _ f hf => GoT.fak f hf) rfl rfl rfl rfl rfl (fun _ => rfl) rfl (fun w G bs H hI hH hs hΓ => f149 w n (by omega) a.entries pa ca k H hH hs (ok_StateVector hoka) hokk) (fun _ => rfl) (fun _ => rfl) ?_
  rintro ⟨⟩ hq1
  have hl1 : ((laws_markTableEntryS a.entries k).2).length = (a.entries).length := hq1.2
  refine WX.run ttOk rfl ?_
  have hP1 : laws_markStateVector a k = ((laws_markTableEntryS a.entries k).1, StateVector.mk ((laws_markTableEntryS a.entries k).2)) := by simp only [laws_markStateVector, cond_true, cond_false]
  refine WX.ret ttOk rfl ?_
  intro w1 G bs hI hΓ
  rw [hP1]
  exact Post.of [3] () hI hΓ rfl rfl rfl ⟨⟨hq1.1.1, hq1.1.2⟩, (show ((laws_markTableEntryS a.entries k).2).length = (a.entries).length from by omega)⟩
theorem f25 (w : World) (n : Nat) (hn : n + 0 ≤ 9) (a : (List UInt8)) (pa : Option Addr) (ca : Nat) (k : Int) (H : GH) (hH : Le H (hp w)) (hown : Sep H (GoT.oa a (pa, ca))) (hoka : GoT.ok n a) (hokk : GoT.ok n k) :
    Does Tryz.prog 25 #[.slice pa ((a).length) ca, .int .i64 (k)] w H (Post w H (fun _ : Unit => .int .i64 ((laws_markByteS a k).1)) (fun _ => GoT.oa ((laws_markByteS a k).2 : (List UInt8)) (pa, ca)) ((GoT.ok n ((laws_markByteS a k).1 : Int) ∧ GoT.ok n ((laws_markByteS a k).2 : (List UInt8))) ∧ ((laws_markByteS a k).2).length = (a).length)) := by
  have hbP := bd_pos n
  have hbB := bd_big (n := n) (by omega)
  refine WX.enterM (tt := tt) (Γ := []) 1 Tryz.func25 rfl (by kernel_rfl) rfl allS_nil hH hown (fun f hf => GoT.oak f hf) rfl ?_
  refine WX.opn (kk := 1) 501 1 2 rfl rfl rfl ?_
  intro xs1 hx1
  refine WX.run ttOk rfl ?_
  have r1 : (a).length ≤ bd n := (okl hoka).1
  refine WX.loop (ι := (List Value) × (List UInt8) × Int × Nat) ⟨fun | (xsa2, a2, k2, i) => (i ≤ (a).length) ∧ (a2.length = (a).length) ∧ (∀ z_ ∈ a2, GoT.ok n z_) ∧ (-9223372036854775808 ≤ k2 ∧ k2 ≤ 9223372036854775807) ∧ (laws_markByteS_L1 ((a).length) 0 (a : List UInt8) k = laws_markByteS_L1 ((a).length - i) i a2 k2), fun | (xsa2, a2, k2, i) => (a).length - i, fun | (xsa2, a2, k2, i) => [(0, .v (.slice pa ((a).length) ca)), (1, .v (.int .i64 (k2))), (5, .v (.int .i64 (((i : Nat) : Int))))], fun | (xsa2, a2, k2, i) => [], fun | (xsa2, a2, k2, i) => [(501, ⟨1, pa, (a).length, ca, xsa2⟩)], fun | (xsa2, a2, k2, i) => [(2, MF.ol xsa2 (a2 : List UInt8))]⟩ (xs1, (a : List UInt8), k, 0) ⟨(Nat.zero_le _), (by simp), (okl hoka).2, hokk, rfl⟩
    (.cons rfl (.cons rfl (.cons rfl (.nil)))) .nil (.cons rfl (.nil)) [2] rfl ?_
  rintro ⟨xsa2, a2, k2, i⟩ hpre
  have hpre_ : (i ≤ (a).length) ∧ (a2.length = (a).length) ∧ (∀ z_ ∈ a2, GoT.ok n z_) ∧ (-9223372036854775808 ≤ k2 ∧ k2 ≤ 9223372036854775807) ∧ (laws_markByteS_L1 ((a).length) 0 (a : List UInt8) k = laws_markByteS_L1 ((a).length - i) i a2 k2) := hpre
  clear hpre
  obtain ⟨v1, v2, v3, v4, v5⟩ := hpre_
  refine WX.run ttOk rfl ?_
  refine WX.cases 9 rfl (fun h1 => ?_) (fun h1 => ?_)
  · skip
    have h1d := B.dt h1
    refine WX.run ttOk rfl ?_
    refine WX.see rfl rfl rfl (fun _ hΓ => looks_toU8 ttOk rfl rfl rfl rfl rfl rfl) ?_
    have hr1 : i < (a).length := (by first | assumption | omega)
    refine WX.idxR 501 i ttOk rfl rfl rfl rfl rfl rfl rfl rfl rfl hr1 ?_
    rintro ad1 rfl
    have e1i : i < (a2).length := (by first | assumption | omega)
    obtain ⟨e1, e1h⟩ : ∃ e1, (a2)[i]? = some e1 := ⟨_, List.getElem?_eq_getElem e1i⟩
    refine WX.opnE (α := UInt8) (e := e1) 501 2 3 i rfl rfl rfl e1h (fun _ => rfl) (fun _ _ _ => rfl) (fun _ _ _ => rfl) ?_
    rintro A1 B1 ⟨⟩ hA1 hB1
    refine WX.stA 501 ttOk rfl rfl rfl rfl rfl rfl rfl rfl rfl rfl rfl rfl rfl rfl hA1 hr1 rfl rfl rfl rfl (by simp) rfl ?_
    refine WX.run ttOk rfl ?_
    refine WX.see rfl rfl rfl (fun _ hΓ => looks_wrap rfl rfl rfl rfl) ?_
    refine WX.run ttOk rfl ?_
    refine WX.see rfl rfl rfl (fun _ hΓ => looks_arith rfl rfl rfl rfl (by unfold I64; first | omega | (dsimp only; omega))) ?_
    refine WX.run ttOk rfl ?_
    refine WX.turn [3, 4] 5 rfl (fun h hs => cl_elem (α := UInt8) (e := (toU8 k2)) (x := ()) e1i hs) (gs := [MF.ol (A1 ++ [.int .u8 ((toU8 k2).toNat : Nat)] ++ B1) (a2.set i (toU8 k2))]) rfl ?_
    refine WX.turn [5] 2 rfl (fun _ h => h) rfl ?_
    exact WX.iter ((A1 ++ [.int .u8 ((toU8 k2).toNat : Nat)] ++ B1), ((a2.set i (toU8 k2)) : List UInt8), IntKind.i64.wrap (k2 + 1), i + 1) ⟨(by omega), (by first | assumption | omega | (simp only [List.length_append, List.length_cons, List.length_nil, List.length_set, List.length_map, List.length_take, List.length_drop]; omega) | (simp; omega)), (all_set v3 (show GoT.ok n ((toU8 k2) : UInt8) from trivial)), (i64_wrap _), (by rw [v5, show (a).length - i = ((a).length - (i + 1)) + 1 by omega]; simp only [laws_markByteS_L1, e1h, cond_true, cond_false])⟩ (by dsimp only; omega) (.cons rfl (.cons rfl (.cons rfl (.nil)))) .nil (.cons rfl (.nil)) [2] rfl
  · skip
    have h1d := B.df h1
    refine WX.run ttOk rfl ?_
    have hX1 : laws_markByteS_L1 ((a).length) 0 (a : List UInt8) k = (((a2) : List UInt8), k2) := by rw [v5, show (a).length - i = 0 by omega]; simp only [laws_markByteS_L1, cond_true, cond_false]
    refine WX.seal 501 2 6 rfl rfl (show (a).length = (a2).length from by omega) rfl rfl ?_
    refine WX.slot 7 (y := .v (.slice pa (a2).length ca)) rfl (fun _ => by show (Value.slice pa ((a).length) ca : Value) = Value.slice pa (a2).length ca; rw [(show (a).length = (a2).length from by omega)]) ?_
    refine WX.slot 0 (y := .v (.slice pa (a2).length ca)) rfl (fun _ => by show (Value.slice pa ((a).length) ca : Value) = Value.slice pa (a2).length ca; rw [(show (a).length = (a2).length from by omega)]) ?_
    have hP1 : laws_markByteS a k = (k2, a2) := by simp only [laws_markByteS, hX1, cond_true, cond_false]
    refine WX.ret ttOk rfl ?_
    intro w1 G bs hI hΓ
    rw [hP1]
    exact Post.of [7] () hI hΓ rfl rfl rfl ⟨⟨v4, (okl_mk (by omega) v3 : GoT.ok n (a2 : List UInt8))⟩, (show (a2).length = (a).length from by omega)⟩
theorem f79 (w : World) (n : Nat) (hn : n + 0 ≤ 9) (a : (List Publication)) (pa : Option Addr) (ca : Nat) (k : Int) (H : GH) (hH : Le H (hp w)) (hown : Sep H (GoT.oa a (pa, ca))) (hoka : GoT.ok n a) (hokk : GoT.ok n k) :
    Does Tryz.prog 79 #[.slice pa ((a).length) ca, .int .i64 (k)] w H (Post w H (fun _ : Unit => .int .i64 ((laws_markPublicationS a k).1)) (fun _ => GoT.oa ((laws_markPublicationS a k).2 : (List Publication)) (pa, ca)) ((GoT.ok n ((laws_markPublicationS a k).1 : Int) ∧ GoT.ok n ((laws_markPublicationS a k).2 : (List Publication))) ∧ ((laws_markPublicationS a k).2).length = (a).length)) := by
  have hbP := bd_pos n
  have hbB := bd_big (n := n) (by omega)
  refine WX.enterM (tt := tt) (Γ := []) 1 Tryz.func79 rfl (by kernel_rfl) rfl allS_nil hH hown (fun f hf => GoT.oak f hf) rfl ?_
  refine WX.opn (kk := 3) 501 1 2 rfl rfl rfl ?_
  intro xs1 hx1
  refine WX.run ttOk rfl ?_
  have r1 : (a).length ≤ bd n := (okl hoka).1
  refine WX.loop (ι := (List Value) × (List Publication) × Int × Nat) ⟨fun | (xsa2, a2, k2, i) => (i ≤ (a).length) ∧ (a2.length = (a).length) ∧ (∀ z_ ∈ a2, GoT.ok n z_) ∧ (-9223372036854775808 ≤ k2 ∧ k2 ≤ 9223372036854775807) ∧ (laws_markPublicationS_L1 ((a).length) 0 (a : List Publication) k = laws_markPublicationS_L1 ((a).length - i) i a2 k2), fun | (xsa2, a2, k2, i) => (a).length - i, fun | (xsa2, a2, k2, i) => [(0, .v (.slice pa ((a).length) ca)), (1, .v (.int .i64 (k2))), (5, .v (.int .i64 (((i : Nat) : Int))))], fun | (xsa2, a2, k2, i) => [], fun | (xsa2, a2, k2, i) => [(501, ⟨3, pa, (a).length, ca, xsa2⟩)], fun | (xsa2, a2, k2, i) => [(2, MF.ol xsa2 (a2 : List Publication))]⟩ (xs1, (a : List Publication), k, 0) ⟨(Nat.zero_le _), (by simp), (okl hoka).2, hokk, rfl⟩
    (.cons rfl (.cons rfl (.cons rfl (.nil)))) .nil (.cons rfl (.nil)) [2] rfl ?_
  rintro ⟨xsa2, a2, k2, i⟩ hpre
  have hpre_ : (i ≤ (a).length) ∧ (a2.length = (a).length) ∧ (∀ z_ ∈ a2, GoT.ok n z_) ∧ (-9223372036854775808 ≤ k2 ∧ k2 ≤ 9223372036854775807) ∧ (laws_markPublicationS_L1 ((a).length) 0 (a : List Publication) k = laws_markPublicationS_L1 ((a).length - i) i a2 k2) := hpre
  clear hpre
  obtain ⟨v1, v2, v3, v4, v5⟩ := hpre_
  refine WX.run ttOk rfl ?_
  refine WX.cases 9 rfl (fun h1 => ?_) (fun h1 => ?_)
  · skip
    have h1d := B.dt h1
    refine WX.run ttOk rfl ?_
    have hr1 : i < (a).length := (by first | assumption | omega)
    refine WX.idxR 501 i ttOk rfl rfl rfl rfl rfl rfl rfl rfl rfl hr1 ?_
    rintro ad1 rfl
    refine WX.run ttOk rfl ?_
    have e1i : i < (a2).length := (by first | assumption | omega)
    obtain ⟨e1, e1h⟩ : ∃ e1, (a2)[i]? = some e1 := ⟨_, List.getElem?_eq_getElem e1i⟩
    have ok1 : GoT.ok n e1 := v3 _ (List.mem_of_getElem? e1h)
    refine WX.opnE (α := Publication) (e := e1) 501 2 3 i rfl rfl rfl e1h (fun _ => rfl) (fun _ _ _ => rfl) (fun _ _ _ => rfl) ?_
    rintro A1 B1 ⟨⟨p1, c1⟩, ⟨⟩, ⟨p2, c2⟩⟩ hA1 hB1
    refine WX.ldA 501 ttOk rfl rfl rfl rfl rfl rfl rfl rfl rfl rfl hA1 hr1 rfl ?_
    refine WX.run ttOk rfl ?_
    refine WX.callM [5] 9 rfl (fun _ _ h => GoT.ow_rd h) (fun _ f hf => GoT.fak f hf) rfl rfl rfl rfl rfl (fun _ => rfl) rfl (fun w G bs H hI hH hs hΓ => f198 w n (by omega) e1.publisher.parts p1 c1 k2 H hH hs (ok_Name (ok_Publication ok1).1) v4) (fun _ => rfl) (fun _ => rfl) ?_
    rintro ⟨⟩ hq1
    have hl1 : ((laws_markStringS e1.publisher.parts k2).2).length = (e1.publisher.parts).length := hq1.2
    refine WX.run ttOk rfl ?_
    have hr2 : i < (a).length := (by first | assumption | omega)
    refine WX.idxR 501 i ttOk rfl rfl rfl rfl rfl rfl rfl rfl rfl hr2 ?_
    rintro ad2 ⟨⟩
    refine WX.run ttOk rfl ?_
    refine WX.stA 501 ttOk rfl rfl rfl rfl rfl rfl rfl rfl rfl rfl rfl rfl rfl rfl hA1 hr2 rfl rfl rfl rfl (by simp) rfl ?_
    refine WX.run ttOk rfl ?_
    refine WX.see rfl rfl rfl (fun _ hΓ => looks_wrap rfl rfl rfl rfl) ?_
    refine WX.run ttOk rfl ?_
    have hr3 : i < (a).length := (by first | assumption | omega)
    refine WX.idxR 501 i ttOk rfl rfl rfl rfl rfl rfl rfl rfl rfl hr3 ?_
    rintro ad3 ⟨⟩
    refine WX.run ttOk rfl ?_
    refine WX.ldA 501 ttOk rfl rfl rfl rfl rfl rfl rfl rfl rfl rfl hA1 hr3 rfl ?_
    refine WX.run ttOk rfl ?_
    refine WX.callM [6] 11 rfl (fun _ _ h => GoT.ow_rd h) (fun _ f hf => GoT.fak f hf) rfl rfl rfl rfl rfl (fun _ => rfl) rfl (fun w G bs H hI hH hs hΓ => f25 w n (by omega) e1.content p2 c2 (IntKind.i64.wrap (((laws_markStringS e1.publisher.parts k2).1) + 1)) H hH hs ((ok_Publication ok1).2.2) (i64_wrap _)) (fun _ => rfl) (fun _ => rfl) ?_
    rintro ⟨⟩ hq2
    have hl2 : ((laws_markByteS e1.content (IntKind.i64.wrap (((laws_markStringS e1.publisher.parts k2).1) + 1))).2).length = (e1.content).length := hq2.2
    refine WX.run ttOk rfl ?_
    refine WX.see rfl rfl rfl (fun _ hΓ => looks_arith rfl rfl rfl rfl (by unfold I64; first | omega | (dsimp only; omega))) ?_
    refine WX.run ttOk rfl ?_
    refine WX.turn [10, 12, 7, 8] 13 rfl (fun h hs => by have z_ : Sep h [MF.ol (A1 ++ [.slice p1 (((laws_markStringS e1.publisher.parts k2).2).length) c1, .int .i64 ((laws_markStringS e1.publisher.parts k2).1), .slice p2 (((laws_markByteS e1.content (IntKind.i64.wrap (((laws_markStringS e1.publisher.parts k2).1) + 1))).2).length) c2] ++ B1) (a2.set i (Publication.mk (Name.mk ((laws_markStringS e1.publisher.parts k2).2)) ((laws_markStringS e1.publisher.parts k2).1) ((laws_markByteS e1.content (IntKind.i64.wrap (((laws_markStringS e1.publisher.parts k2).1) + 1))).2)))] := cl_elem (α := Publication) (e := (Publication.mk (Name.mk ((laws_markStringS e1.publisher.parts k2).2)) ((laws_markStringS e1.publisher.parts k2).1) ((laws_markByteS e1.content (IntKind.i64.wrap (((laws_markStringS e1.publisher.parts k2).1) + 1))).2))) (x := ((p1, c1), (), (p2, c2))) e1i hs; rw [hl1, hl2] at z_; exact z_) (gs := [MF.ol (A1 ++ [.slice p1 ((e1.publisher.parts).length) c1, .int .i64 ((laws_markStringS e1.publisher.parts k2).1), .slice p2 ((e1.content).length) c2] ++ B1) (a2.set i (Publication.mk (Name.mk ((laws_markStringS e1.publisher.parts k2).2)) ((laws_markStringS e1.publisher.parts k2).1) ((laws_markByteS e1.content (IntKind.i64.wrap (((laws_markStringS e1.publisher.parts k2).1) + 1))).2)))]) rfl ?_
    refine WX.turn [13] 2 rfl (fun _ h => h) rfl ?_
    exact WX.iter ((A1 ++ [.slice p1 ((e1.publisher.parts).length) c1, .int .i64 ((laws_markStringS e1.publisher.parts k2).1), .slice p2 ((e1.content).length) c2] ++ B1), ((a2.set i (Publication.mk (Name.mk ((laws_markStringS e1.publisher.parts k2).2)) ((laws_markStringS e1.publisher.parts k2).1) ((laws_markByteS e1.content (IntKind.i64.wrap (((laws_markStringS e1.publisher.parts k2).1) + 1))).2))) : List Publication), (laws_markByteS e1.content (IntKind.i64.wrap (((laws_markStringS e1.publisher.parts k2).1) + 1))).1, i + 1) ⟨(by omega), (by first | assumption | omega | (simp only [List.length_append, List.length_cons, List.length_nil, List.length_set, List.length_map, List.length_take, List.length_drop]; omega) | (simp; omega)), (all_set v3 (show GoT.ok n ((Publication.mk (Name.mk ((laws_markStringS e1.publisher.parts k2).2)) ((laws_markStringS e1.publisher.parts k2).1) ((laws_markByteS e1.content (IntKind.i64.wrap (((laws_markStringS e1.publisher.parts k2).1) + 1))).2)) : Publication) from (And.intro hq1.1.2 (And.intro hq1.1.1 hq2.1.2)))), hq2.1.1, (by rw [v5, show (a).length - i = ((a).length - (i + 1)) + 1 by omega]; simp only [laws_markPublicationS_L1, e1h, cond_true, cond_false])⟩ (by dsimp only; omega) (.cons rfl (.cons rfl (.cons rfl (.nil)))) .nil (.cons rfl (.nil)) [2] rfl
  · skip
    have h1d := B.df h1
    refine WX.run ttOk rfl ?_
    have hX1 : laws_markPublicationS_L1 ((a).length) 0 (a : List Publication) k = (((a2) : List Publication), k2) := by rw [v5, show (a).length - i = 0 by omega]; simp only [laws_markPublicationS_L1, cond_true, cond_false]
    refine WX.seal 501 2 14 rfl rfl (show (a).length = (a2).length from by omega) rfl rfl ?_
    refine WX.slot 7 (y := .v (.slice pa (a2).length ca)) rfl (fun _ => by show (Value.slice pa ((a).length) ca : Value) = Value.slice pa (a2).length ca; rw [(show (a).length = (a2).length from by omega)]) ?_
    refine WX.slot 0 (y := .v (.slice pa (a2).length ca)) rfl (fun _ => by show (Value.slice pa ((a).length) ca : Value) = Value.slice pa (a2).length ca; rw [(show (a).length = (a2).length from by omega)]) ?_
    have hP1 : laws_markPublicationS a k = (k2, a2) := by simp only [laws_markPublicationS, hX1, cond_true, cond_false]
    refine WX.ret ttOk rfl ?_
    intro w1 G bs hI hΓ
    rw [hP1]
    exact Post.of [15] () hI hΓ rfl rfl rfl ⟨⟨v4, (okl_mk (by omega) v3 : GoT.ok n (a2 : List Publication))⟩, (show (a2).length = (a).length from by omega)⟩
theorem f18 (w : World) (n : Nat) (hn : n + 0 ≤ 9) (a : Member) (paName : Option Addr) (caName : Nat) (paVector : Option Addr) (caVector : Nat) (paPublications : Option Addr) (caPublications : Nat) (k : Int) (H : GH) (hH : Le H (hp w)) (hown : Sep H (GoT.oa a ((paName, caName), (paVector, caVector), (paPublications, caPublications)))) (hoka : GoT.ok n a) (hokk : GoT.ok n k) :
    Does Tryz.prog 18 #[.agg #[.slice paName ((a.name.parts).length) caName, .slice paVector ((a.vector.entries).length) caVector, .slice paPublications ((a.publications).length) caPublications], .int .i64 (k)] w H (Post w H (fun _ : Unit => .int .i64 ((laws_markMember a k).1)) (fun _ => GoT.oa ((laws_markMember a k).2 : Member) ((paName, caName), (paVector, caVector), (paPublications, caPublications))) ((GoT.ok n ((laws_markMember a k).1 : Int) ∧ GoT.ok n ((laws_markMember a k).2 : Member)) ∧ ((laws_markMember a k).2.name.parts).length = (a.name.parts).length ∧ ((laws_markMember a k).2.vector.entries).length = (a.vector.entries).length ∧ ((laws_markMember a k).2.publications).length = (a.publications).length)) := by
  have hbP := bd_pos n
  have hbB := bd_big (n := n) (by omega)
  refine WX.enterM (tt := tt) (Γ := []) 3 Tryz.func18 rfl (by kernel_rfl) rfl allS_nil hH hown (fun f hf => GoT.oak f hf) rfl ?_
  refine WX.run ttOk rfl ?_
  refine WX.callM [3] 6 rfl (fun _ _ h => GoT.ow_rd h) (fun _ f hf => GoT.fak f hf) rfl rfl rfl rfl rfl (fun _ => rfl) rfl (fun w G bs H hI hH hs hΓ => f77 w n (by omega) a.name paName caName k H hH hs ((ok_Member hoka).1) hokk) (fun _ => rfl) (fun _ => rfl) ?_
  rintro ⟨⟩ hq1
  have hl1 : ((laws_markName a.name k).2.parts).length = (a.name.parts).length := hq1.2
  refine WX.run ttOk rfl ?_
  refine WX.callM [4] 8 rfl (fun _ _ h => GoT.ow_rd h) (fun _ f hf => GoT.fak f hf) rfl rfl rfl rfl rfl (fun _ => rfl) rfl (fun w G bs H hI hH hs hΓ => f78 w n (by omega) a.vector paVector caVector ((laws_markName a.name k).1) H hH hs ((ok_Member hoka).2.1) hq1.1.1) (fun _ => rfl) (fun _ => rfl) ?_
  rintro ⟨⟩ hq2
  have hl2 : ((laws_markStateVector a.vector ((laws_markName a.name k).1)).2.entries).length = (a.vector.entries).length := hq2.2
  refine WX.run ttOk rfl ?_
  refine WX.callM [5] 10 rfl (fun _ _ h => GoT.ow_rd h) (fun _ f hf => GoT.fak f hf) rfl rfl rfl rfl rfl (fun _ => rfl) rfl (fun w G bs H hI hH hs hΓ => f79 w n (by omega) a.publications paPublications caPublications ((laws_markStateVector a.vector ((laws_markName a.name k).1)).1) H hH hs ((ok_Member hoka).2.2) hq2.1.1) (fun _ => rfl) (fun _ => rfl) ?_
  rintro ⟨⟩ hq3
  have hl3 : ((laws_markPublicationS a.publications ((laws_markStateVector a.vector ((laws_markName a.name k).1)).1)).2).length = (a.publications).length := hq3.2
  refine WX.run ttOk rfl ?_
  have hP1 : laws_markMember a k = ((laws_markPublicationS a.publications ((laws_markStateVector a.vector ((laws_markName a.name k).1)).1)).1, Member.mk ((laws_markName a.name k).2) ((laws_markStateVector a.vector ((laws_markName a.name k).1)).2) ((laws_markPublicationS a.publications ((laws_markStateVector a.vector ((laws_markName a.name k).1)).1)).2)) := by simp only [laws_markMember, cond_true, cond_false]
  refine WX.ret ttOk rfl ?_
  intro w1 G bs hI hΓ
  rw [hP1]
  exact Post.of [7, 9, 11] () hI hΓ rfl rfl rfl ⟨⟨hq3.1.1, (And.intro hq1.1.2 (And.intro hq2.1.2 hq3.1.2))⟩, ⟨(show ((laws_markName a.name k).2.parts).length = (a.name.parts).length from by omega), ⟨(show ((laws_markStateVector a.vector ((laws_markName a.name k).1)).2.entries).length = (a.vector.entries).length from by omega), (show ((laws_markPublicationS a.publications ((laws_markStateVector a.vector ((laws_markName a.name k).1)).1)).2).length = (a.publications).length from by omega)⟩⟩⟩
end Go.Proofs.YtfffongneoegbaaGreat

namespace Go.Stp
set_option linter.unusedVariables false
set_option linter.unusedSimpArgs false
def laws_heldStringS_L1 : List Str → Int → Ctl (Int) (Int)
  | [], k2 => (Ctl.nxt k2)
  | e1 :: rest_, k2 =>
    bif (!((e1).toList == ((laws_markText k2)).toList)) then
      (Ctl.ret (-1))
    else
      laws_heldStringS_L1 rest_ (IntKind.i64.wrap (k2 + 1))
def laws_heldStringS (a : (List Str)) (k : Int) : Int :=
  match laws_heldStringS_L1 a k with
    | .ret r_ => r_
    | .nxt k2 =>
      k2
def laws_heldName (a : Name) (k : Int) : Int :=
  bif decide ((laws_heldStringS a.parts k) < 0) then
    (-1)
  else
    (laws_heldStringS a.parts k)
def laws_heldTableEntryS_L1 : List TableEntry → Int → Ctl (Int) (Int)
  | [], k2 => (Ctl.nxt k2)
  | e1 :: rest_, k2 =>
    bif decide ((laws_heldStringS e1.name.parts k2) < 0) then
      (Ctl.ret (-1))
    else
      bif (e1.value != (laws_heldStringS e1.name.parts k2)) then
        (Ctl.ret (-1))
      else
        laws_heldTableEntryS_L1 rest_ (IntKind.i64.wrap ((laws_heldStringS e1.name.parts k2) + 1))
def laws_heldTableEntryS (a : (List TableEntry)) (k : Int) : Int :=
  match laws_heldTableEntryS_L1 a k with
    | .ret r_ => r_
    | .nxt k2 =>
      k2
def laws_heldStateVector (a : StateVector) (k : Int) : Int :=
  bif decide ((laws_heldTableEntryS a.entries k) < 0) then
    (-1)
  else
    (laws_heldTableEntryS a.entries k)
def laws_heldByteS_L1 : List UInt8 → Int → Ctl (Int) (Int)
  | [], k2 => (Ctl.nxt k2)
  | e1 :: rest_, k2 =>
    bif (((e1).toNat : Int) != ((toU8 k2).toNat : Int)) then
      (Ctl.ret (-1))
    else
      laws_heldByteS_L1 rest_ (IntKind.i64.wrap (k2 + 1))
def laws_heldByteS (a : (List UInt8)) (k : Int) : Int :=
  match laws_heldByteS_L1 a k with
    | .ret r_ => r_
    | .nxt k2 =>
      k2
def laws_heldPublicationS_L1 : List Publication → Int → Ctl (Int) (Int)
  | [], k2 => (Ctl.nxt k2)
  | e1 :: rest_, k2 =>
    bif decide ((laws_heldStringS e1.publisher.parts k2) < 0) then
      (Ctl.ret (-1))
    else
      bif (e1.seq != (laws_heldStringS e1.publisher.parts k2)) then
        (Ctl.ret (-1))
      else
        bif decide ((laws_heldByteS e1.content (IntKind.i64.wrap ((laws_heldStringS e1.publisher.parts k2) + 1))) < 0) then
          (Ctl.ret (-1))
        else
          laws_heldPublicationS_L1 rest_ (laws_heldByteS e1.content (IntKind.i64.wrap ((laws_heldStringS e1.publisher.parts k2) + 1)))
def laws_heldPublicationS (a : (List Publication)) (k : Int) : Int :=
  match laws_heldPublicationS_L1 a k with
    | .ret r_ => r_
    | .nxt k2 =>
      k2
def laws_heldMember (a : Member) (k : Int) : Int :=
  bif decide ((laws_heldName a.name k) < 0) then
    (-1)
  else
    bif decide ((laws_heldStateVector a.vector (laws_heldName a.name k)) < 0) then
      (-1)
    else
      bif decide ((laws_heldPublicationS a.publications (laws_heldStateVector a.vector (laws_heldName a.name k))) < 0) then
        (-1)
      else
        (laws_heldPublicationS a.publications (laws_heldStateVector a.vector (laws_heldName a.name k)))
end Go.Stp

namespace Go.Proofs.YtfffongneoegbaaGreat
open Go.Stp
set_option linter.unusedVariables false
set_option linter.unusedSimpArgs false
theorem f199 (w : World) (n : Nat) (hn : n + 0 ≤ 9) (a : (List Str)) (pa : Option Addr) (ca : Nat) (hpa : RdSl (hp w) pa ca a) (k : Int) (hoka : GoT.ok n a) (hokk : GoT.ok n k) :
    Does Tryz.prog 199 #[.slice pa ((a).length) ca, .int .i64 (k)] w emp (fun (rv : Value) (_ : World) => rv = .int .i64 ((laws_heldStringS a k)) ∧ GoT.ok n ((laws_heldStringS a k) : Int)) := by
  have hbP := bd_pos n
  have hbB := bd_big (n := n) (by omega)
  refine WX.enter (tt := tt) (Γ := [(0, MF.rs .stb pa ca a)]) Tryz.func199 rfl (by kernel_rfl) rfl (allS_cons rfl hpa allS_nil) ?_
  refine WX.run ttOk rfl ?_
  have r1 : (a).length ≤ bd n := (okl hoka).1
  refine WX.loop (ι := Int × Nat) ⟨fun | (k2, i) => (i ≤ (a).length) ∧ (-9223372036854775808 ≤ k2 ∧ k2 ≤ 9223372036854775807) ∧ (laws_heldStringS_L1 a k = laws_heldStringS_L1 ((a).drop i) k2), fun | (k2, i) => (a).length - i, fun | (k2, i) => [(1, .v (.int .i64 (k2))), (5, .v (.int .i64 (((i : Nat) : Int)))), (0, .v (.slice pa ((a).length) ca))], fun | (k2, i) => [], fun | (k2, i) => [], fun | (k2, i) => [(0, MF.rs .stb pa ca a)]⟩ (k, 0) ⟨(Nat.zero_le _), hokk, rfl⟩
    (.cons rfl (.cons rfl (.cons rfl (.nil)))) .nil .nil [0] rfl ?_
  rintro ⟨k2, i⟩ hpre
  have hpre_ : (i ≤ (a).length) ∧ (-9223372036854775808 ≤ k2 ∧ k2 ≤ 9223372036854775807) ∧ (laws_heldStringS_L1 a k = laws_heldStringS_L1 ((a).drop i) k2) := hpre
  clear hpre
  obtain ⟨v1, v2, v3⟩ := hpre_
  refine WX.run ttOk rfl ?_
  refine WX.cases 9 rfl (fun h1 => ?_) (fun h1 => ?_)
  · skip
    have h1d := B.dt h1
    have e1i : i < (a).length := (by omega)
    obtain ⟨e1, e1h⟩ : ∃ e1, (a)[i]? = some e1 := ⟨_, List.getElem?_eq_getElem e1i⟩
    have ok1 : GoT.ok n e1 := (okl hoka).2 _ (List.mem_of_getElem? e1h)
    refine WX.run ttOk rfl ?_
    refine WX.draw [] mixed ?_
    intro bs G0 hΓ0
    refine DX.takes (fuel := 5) ttOk [(0, true), (1, true)] (by kernel_rfl) rfl ?_
    refine DX.idx 2 0 i ttOk hΓ0 (by kernel_rfl) rfl rfl rfl rfl rfl rfl rfl rfl rfl rfl rfl e1i ?_
    rintro ad1 rfl
    refine DX.ldE 3 0 1 e1 ttOk hΓ0 (by kernel_rfl) rfl rfl rfl rfl rfl rfl rfl rfl e1h (fun _ => rfl) (fun _ => rfl) ?_
    rintro ⟨⟩
    refine DX.takes (fuel := 2) ttOk [(4, true)] (by kernel_rfl) rfl ?_
    refine DX.callV 5 rfl (by kernel_rfl) rfl rfl rfl rfl rfl rfl (fun _ => rfl) rfl (fun w G bs hI hΓ => f301 w n (by omega) k2 v2) ?_
    intro hq1
    refine DX.takes (fuel := 0) ttOk [(6, true)] (by kernel_rfl) rfl ?_
    refine DX.tail2 [] rfl rfl (by kernel_rfl) ?_
    refine WX.run ttOk rfl ?_
    refine WX.cases 18 rfl (fun h2 => ?_) (fun h2 => ?_)
    · skip
      have h2d := B.ef (B.nt h2)
      refine WX.run ttOk rfl ?_
      have hP1 : laws_heldStringS_L1 a k = (Ctl.ret (-1)) := by rw [v3, drop_get e1h]; simp only [laws_heldStringS_L1, h2, cond_true, cond_false]
      have hP2 : laws_heldStringS a k = (-1) := by simp only [laws_heldStringS, hP1, cond_true, cond_false]
      refine WX.ret ttOk rfl ?_
      intro w1 G bs hI hΓ
      rw [hP2]
      exact ⟨rfl, (show I64 (-1) from (by unfold I64; omega))⟩
    · skip
      have h2d := B.et (B.nf h2)
      refine WX.run ttOk rfl ?_
      refine WX.see rfl rfl rfl (fun _ hΓ => looks_wrap rfl rfl rfl rfl) ?_
      refine WX.run ttOk rfl ?_
      refine WX.see rfl rfl rfl (fun _ hΓ => looks_arith rfl rfl rfl rfl (by unfold I64; first | omega | (dsimp only; omega))) ?_
      refine WX.run ttOk rfl ?_
      exact WX.iter (IntKind.i64.wrap (k2 + 1), i + 1) ⟨(by omega), (i64_wrap _), (by rw [v3, drop_get e1h]; simp only [laws_heldStringS_L1, h2, cond_true, cond_false])⟩ (by first | (dsimp only; omega) | omega) (.cons rfl (.cons rfl (.cons rfl (.nil)))) .nil .nil [0] rfl
  · skip
    have h1d := B.df h1
    refine WX.run ttOk rfl ?_
    have hX1 : laws_heldStringS_L1 a k = (Ctl.nxt k2) := by rw [v3, List.drop_eq_nil_of_le (show (a).length ≤ i by omega)]; simp only [laws_heldStringS_L1, cond_true, cond_false]
    have hP3 : laws_heldStringS a k = k2 := by simp only [laws_heldStringS, hX1, cond_true, cond_false]
    refine WX.ret ttOk rfl ?_
    intro w1 G bs hI hΓ
    rw [hP3]
    exact ⟨rfl, v2⟩
theorem f80 (w : World) (n : Nat) (hn : n + 0 ≤ 9) (a : Name) (pa : Option Addr) (ca : Nat) (hpa : RdSl (hp w) pa ca a.parts) (k : Int) (hoka : GoT.ok n a) (hokk : GoT.ok n k) :
    Does Tryz.prog 80 #[.agg #[.slice pa ((a.parts).length) ca], .int .i64 (k)] w emp (fun (rv : Value) (_ : World) => rv = .int .i64 ((laws_heldName a k)) ∧ GoT.ok n ((laws_heldName a k) : Int)) := by
  have hbP := bd_pos n
  have hbB := bd_big (n := n) (by omega)
  refine WX.enter (tt := tt) (Γ := [(0, MF.rs .stb pa ca a.parts)]) Tryz.func80 rfl (by kernel_rfl) rfl (allS_cons rfl hpa allS_nil) ?_
  refine WX.run ttOk rfl ?_
  refine WX.callV rfl rfl rfl rfl rfl (fun _ => rfl) rfl (fun w G bs hI hΓ => f199 w n (by omega) a.parts pa ca (hΓ.get 0 rfl) k (ok_Name hoka) hokk) ?_
  intro hq1
  refine WX.run ttOk rfl ?_
  refine WX.cases 10 rfl (fun h1 => ?_) (fun h1 => ?_)
  · skip
    have h1d := B.dt h1
    refine WX.run ttOk rfl ?_
    have hP1 : laws_heldName a k = (-1) := by simp only [laws_heldName, h1, cond_true, cond_false]
    refine WX.ret ttOk rfl ?_
    intro w1 G bs hI hΓ
    rw [hP1]
    exact ⟨rfl, (show I64 (-1) from (by unfold I64; omega))⟩
  · skip
    have h1d := B.df h1
    refine WX.run ttOk rfl ?_
    have hP2 : laws_heldName a k = (laws_heldStringS a.parts k) := by simp only [laws_heldName, h1, cond_true, cond_false]
    refine WX.ret ttOk rfl ?_
    intro w1 G bs hI hΓ
    rw [hP2]
    exact ⟨rfl, hq1⟩
theorem f200 (w : World) (n : Nat) (hn : n + 0 ≤ 9) (a : (List TableEntry)) (pa : Option Addr) (ca : Nat) (hpa : RdSl (hp w) pa ca a) (k : Int) (hoka : GoT.ok n a) (hokk : GoT.ok n k) :
    Does Tryz.prog 200 #[.slice pa ((a).length) ca, .int .i64 (k)] w emp (fun (rv : Value) (_ : World) => rv = .int .i64 ((laws_heldTableEntryS a k)) ∧ GoT.ok n ((laws_heldTableEntryS a k) : Int)) := by
  have hbP := bd_pos n
  have hbB := bd_big (n := n) (by omega)
  refine WX.enter (tt := tt) (Γ := [(0, MF.rs .stb pa ca a)]) Tryz.func200 rfl (by kernel_rfl) rfl (allS_cons rfl hpa allS_nil) ?_
  refine WX.run ttOk rfl ?_
  have r1 : (a).length ≤ bd n := (okl hoka).1
  refine WX.loop (ι := Int × Nat) ⟨fun | (k2, i) => (i ≤ (a).length) ∧ (-9223372036854775808 ≤ k2 ∧ k2 ≤ 9223372036854775807) ∧ (laws_heldTableEntryS_L1 a k = laws_heldTableEntryS_L1 ((a).drop i) k2), fun | (k2, i) => (a).length - i, fun | (k2, i) => [(1, .v (.int .i64 (k2))), (5, .v (.int .i64 (((i : Nat) : Int)))), (0, .v (.slice pa ((a).length) ca))], fun | (k2, i) => [], fun | (k2, i) => [], fun | (k2, i) => [(0, MF.rs .stb pa ca a)]⟩ (k, 0) ⟨(Nat.zero_le _), hokk, rfl⟩
    (.cons rfl (.cons rfl (.cons rfl (.nil)))) .nil .nil [0] rfl ?_
  rintro ⟨k2, i⟩ hpre
  have hpre_ : (i ≤ (a).length) ∧ (-9223372036854775808 ≤ k2 ∧ k2 ≤ 9223372036854775807) ∧ (laws_heldTableEntryS_L1 a k = laws_heldTableEntryS_L1 ((a).drop i) k2) := hpre
  clear hpre
  obtain ⟨v1, v2, v3⟩ := hpre_
  refine WX.run ttOk rfl ?_
  refine WX.cases 9 rfl (fun h1 => ?_) (fun h1 => ?_)
  · skip
    have h1d := B.dt h1
    have e1i : i < (a).length := (by omega)
    obtain ⟨e1, e1h⟩ : ∃ e1, (a)[i]? = some e1 := ⟨_, List.getElem?_eq_getElem e1i⟩
    have ok1 : GoT.ok n e1 := (okl hoka).2 _ (List.mem_of_getElem? e1h)
    refine WX.run ttOk rfl ?_
    refine WX.idx 0 i ttOk rfl rfl rfl rfl rfl rfl rfl rfl rfl rfl e1i ?_
    rintro ad1 rfl
    refine WX.run ttOk rfl ?_
    refine WX.ldE 0 1 e1 ttOk rfl rfl rfl rfl rfl rfl rfl rfl e1h (fun _ => rfl) (fun _ => rfl) ?_
    rintro ⟨⟨p1, c1⟩, ⟨⟩⟩
    refine WX.run ttOk rfl ?_
    refine WX.callV rfl rfl rfl rfl rfl (fun _ => rfl) rfl (fun w G bs hI hΓ => f199 w n (by omega) e1.name.parts p1 c1 (hΓ.get 1 rfl) k2 (ok_Name (ok_TableEntry ok1).1) v2) ?_
    intro hq1
    refine WX.run ttOk rfl ?_
    refine WX.cases 21 rfl (fun h2 => ?_) (fun h2 => ?_)
    · skip
      have h2d := B.dt h2
      refine WX.run ttOk rfl ?_
      have hP1 : laws_heldTableEntryS_L1 a k = (Ctl.ret (-1)) := by rw [v3, drop_get e1h]; simp only [laws_heldTableEntryS_L1, h2, cond_true, cond_false]
      have hP2 : laws_heldTableEntryS a k = (-1) := by simp only [laws_heldTableEntryS, hP1, cond_true, cond_false]
      refine WX.ret ttOk rfl ?_
      intro w1 G bs hI hΓ
      rw [hP2]
      exact ⟨rfl, (show I64 (-1) from (by unfold I64; omega))⟩
    · skip
      have h2d := B.df h2
      refine WX.run ttOk rfl ?_
      refine WX.idx 0 i ttOk rfl rfl rfl rfl rfl rfl rfl rfl rfl rfl e1i ?_
      rintro ad2 ⟨⟩
      refine WX.run ttOk rfl ?_
      refine WX.ldE 0 2 e1 ttOk rfl rfl rfl rfl rfl rfl rfl rfl e1h (fun _ => rfl) (fun _ => rfl) ?_
      rintro ⟨⟨p2, c2⟩, ⟨⟩⟩
      refine WX.run ttOk rfl ?_
      refine WX.cases 28 rfl (fun h3 => ?_) (fun h3 => ?_)
      · skip
        have h3d := B.nt' h3
        refine WX.run ttOk rfl ?_
        have hP3 : laws_heldTableEntryS_L1 a k = (Ctl.ret (-1)) := by rw [v3, drop_get e1h]; simp only [laws_heldTableEntryS_L1, h2, h3, cond_true, cond_false]
        have hP4 : laws_heldTableEntryS a k = (-1) := by simp only [laws_heldTableEntryS, hP3, cond_true, cond_false]
        refine WX.ret ttOk rfl ?_
        intro w1 G bs hI hΓ
        rw [hP4]
        exact ⟨rfl, (show I64 (-1) from (by unfold I64; omega))⟩
      · skip
        have h3d := B.nf' h3
        refine WX.run ttOk rfl ?_
        refine WX.see rfl rfl rfl (fun _ hΓ => looks_wrap rfl rfl rfl rfl) ?_
        refine WX.run ttOk rfl ?_
        refine WX.see rfl rfl rfl (fun _ hΓ => looks_arith rfl rfl rfl rfl (by unfold I64; first | omega | (dsimp only; omega))) ?_
        refine WX.run ttOk rfl ?_
        exact WX.iter (IntKind.i64.wrap ((laws_heldStringS e1.name.parts k2) + 1), i + 1) ⟨(by omega), (i64_wrap _), (by rw [v3, drop_get e1h]; simp only [laws_heldTableEntryS_L1, h2, h3, cond_true, cond_false])⟩ (by first | (dsimp only; omega) | omega) (.cons rfl (.cons rfl (.cons rfl (.nil)))) .nil .nil [0] rfl
  · skip
    have h1d := B.df h1
    refine WX.run ttOk rfl ?_
    have hX1 : laws_heldTableEntryS_L1 a k = (Ctl.nxt k2) := by rw [v3, List.drop_eq_nil_of_le (show (a).length ≤ i by omega)]; simp only [laws_heldTableEntryS_L1, cond_true, cond_false]
    have hP5 : laws_heldTableEntryS a k = k2 := by simp only [laws_heldTableEntryS, hX1, cond_true, cond_false]
    refine WX.ret ttOk rfl ?_
    intro w1 G bs hI hΓ
    rw [hP5]
    exact ⟨rfl, v2⟩
theorem f81 (w : World) (n : Nat) (hn : n + 0 ≤ 9) (a : StateVector) (pa : Option Addr) (ca : Nat) (hpa : RdSl (hp w) pa ca a.entries) (k : Int) (hoka : GoT.ok n a) (hokk : GoT.ok n k) :
    Does Tryz.prog 81 #[.agg #[.slice pa ((a.entries).length) ca], .int .i64 (k)] w emp (fun (rv : Value) (_ : World) => rv = .int .i64 ((laws_heldStateVector a k)) ∧ GoT.ok n ((laws_heldStateVector a k) : Int)) := by
  have hbP := bd_pos n
  have hbB := bd_big (n := n) (by omega)
  refine WX.enter (tt := tt) (Γ := [(0, MF.rs .stb pa ca a.entries)]) Tryz.func81 rfl (by kernel_rfl) rfl (allS_cons rfl hpa allS_nil) ?_
  refine WX.run ttOk rfl ?_
  refine WX.callV rfl rfl rfl rfl rfl (fun _ => rfl) rfl (fun w G bs hI hΓ => f200 w n (by omega) a.entries pa ca (hΓ.get 0 rfl) k (ok_StateVector hoka) hokk) ?_
  intro hq1
  refine WX.run ttOk rfl ?_
  refine WX.cases 10 rfl (fun h1 => ?_) (fun h1 => ?_)
  · skip
    have h1d := B.dt h1
    refine WX.run ttOk rfl ?_
    have hP1 : laws_heldStateVector a k = (-1) := by simp only [laws_heldStateVector, h1, cond_true, cond_false]
    refine WX.ret ttOk rfl ?_
    intro w1 G bs hI hΓ
    rw [hP1]
    exact ⟨rfl, (show I64 (-1) from (by unfold I64; omega))⟩
  · skip
    have h1d := B.df h1
    refine WX.run ttOk rfl ?_
    have hP2 : laws_heldStateVector a k = (laws_heldTableEntryS a.entries k) := by simp only [laws_heldStateVector, h1, cond_true, cond_false]
    refine WX.ret ttOk rfl ?_
    intro w1 G bs hI hΓ
    rw [hP2]
    exact ⟨rfl, hq1⟩
theorem f201 (w : World) (n : Nat) (hn : n + 0 ≤ 9) (a : (List UInt8)) (pa : Option Addr) (ca : Nat) (hpa : RdSl (hp w) pa ca a) (k : Int) (hoka : GoT.ok n a) (hokk : GoT.ok n k) :
    Does Tryz.prog 201 #[.slice pa ((a).length) ca, .int .i64 (k)] w emp (fun (rv : Value) (_ : World) => rv = .int .i64 ((laws_heldByteS a k)) ∧ GoT.ok n ((laws_heldByteS a k) : Int)) := by
  have hbP := bd_pos n
  have hbB := bd_big (n := n) (by omega)
  refine WX.enter (tt := tt) (Γ := [(0, MF.rs .stb pa ca a)]) Tryz.func201 rfl (by kernel_rfl) rfl (allS_cons rfl hpa allS_nil) ?_
  refine WX.run ttOk rfl ?_
  have r1 : (a).length ≤ bd n := (okl hoka).1
  refine WX.loop (ι := Int × Nat) ⟨fun | (k2, i) => (i ≤ (a).length) ∧ (-9223372036854775808 ≤ k2 ∧ k2 ≤ 9223372036854775807) ∧ (laws_heldByteS_L1 a k = laws_heldByteS_L1 ((a).drop i) k2), fun | (k2, i) => (a).length - i, fun | (k2, i) => [(1, .v (.int .i64 (k2))), (5, .v (.int .i64 (((i : Nat) : Int)))), (0, .v (.slice pa ((a).length) ca))], fun | (k2, i) => [], fun | (k2, i) => [], fun | (k2, i) => [(0, MF.rs .stb pa ca a)]⟩ (k, 0) ⟨(Nat.zero_le _), hokk, rfl⟩
    (.cons rfl (.cons rfl (.cons rfl (.nil)))) .nil .nil [0] rfl ?_
  rintro ⟨k2, i⟩ hpre
  have hpre_ : (i ≤ (a).length) ∧ (-9223372036854775808 ≤ k2 ∧ k2 ≤ 9223372036854775807) ∧ (laws_heldByteS_L1 a k = laws_heldByteS_L1 ((a).drop i) k2) := hpre
  clear hpre
  obtain ⟨v1, v2, v3⟩ := hpre_
  refine WX.run ttOk rfl ?_
  refine WX.cases 9 rfl (fun h1 => ?_) (fun h1 => ?_)
  · skip
    have h1d := B.dt h1
    have e1i : i < (a).length := (by omega)
    obtain ⟨e1, e1h⟩ : ∃ e1, (a)[i]? = some e1 := ⟨_, List.getElem?_eq_getElem e1i⟩
    refine WX.run ttOk rfl ?_
    refine WX.idx 0 i ttOk rfl rfl rfl rfl rfl rfl rfl rfl rfl rfl e1i ?_
    rintro ad1 rfl
    refine WX.ldE 0 1 e1 ttOk rfl rfl rfl rfl rfl rfl rfl rfl e1h (fun _ => rfl) (fun _ => rfl) ?_
    rintro ⟨⟩
    refine WX.run ttOk rfl ?_
    refine WX.see rfl rfl rfl (fun _ hΓ => looks_toU8 ttOk rfl rfl rfl rfl rfl rfl) ?_
    refine WX.run ttOk rfl ?_
    refine WX.cases 18 rfl (fun h2 => ?_) (fun h2 => ?_)
    · skip
      have h2d := B.nt' h2
      refine WX.run ttOk rfl ?_
      have hP1 : laws_heldByteS_L1 a k = (Ctl.ret (-1)) := by rw [v3, drop_get e1h]; simp only [laws_heldByteS_L1, h2, cond_true, cond_false]
      have hP2 : laws_heldByteS a k = (-1) := by simp only [laws_heldByteS, hP1, cond_true, cond_false]
      refine WX.ret ttOk rfl ?_
      intro w1 G bs hI hΓ
      rw [hP2]
      exact ⟨rfl, (show I64 (-1) from (by unfold I64; omega))⟩
    · skip
      have h2d := B.nf' h2
      refine WX.run ttOk rfl ?_
      refine WX.see rfl rfl rfl (fun _ hΓ => looks_wrap rfl rfl rfl rfl) ?_
      refine WX.run ttOk rfl ?_
      refine WX.see rfl rfl rfl (fun _ hΓ => looks_arith rfl rfl rfl rfl (by unfold I64; first | omega | (dsimp only; omega))) ?_
      refine WX.run ttOk rfl ?_
      exact WX.iter (IntKind.i64.wrap (k2 + 1), i + 1) ⟨(by omega), (i64_wrap _), (by rw [v3, drop_get e1h]; simp only [laws_heldByteS_L1, h2, cond_true, cond_false])⟩ (by first | (dsimp only; omega) | omega) (.cons rfl (.cons rfl (.cons rfl (.nil)))) .nil .nil [0] rfl
  · skip
    have h1d := B.df h1
    refine WX.run ttOk rfl ?_
    have hX1 : laws_heldByteS_L1 a k = (Ctl.nxt k2) := by rw [v3, List.drop_eq_nil_of_le (show (a).length ≤ i by omega)]; simp only [laws_heldByteS_L1, cond_true, cond_false]
    have hP3 : laws_heldByteS a k = k2 := by simp only [laws_heldByteS, hX1, cond_true, cond_false]
    refine WX.ret ttOk rfl ?_
    intro w1 G bs hI hΓ
    rw [hP3]
    exact ⟨rfl, v2⟩
theorem f82 (w : World) (n : Nat) (hn : n + 0 ≤ 9) (a : (List Publication)) (pa : Option Addr) (ca : Nat) (hpa : RdSl (hp w) pa ca a) (k : Int) (hoka : GoT.ok n a) (hokk : GoT.ok n k) :
    Does Tryz.prog 82 #[.slice pa ((a).length) ca, .int .i64 (k)] w emp (fun (rv : Value) (_ : World) => rv = .int .i64 ((laws_heldPublicationS a k)) ∧ GoT.ok n ((laws_heldPublicationS a k) : Int)) := by
  have hbP := bd_pos n
  have hbB := bd_big (n := n) (by omega)
  refine WX.enter (tt := tt) (Γ := [(0, MF.rs .stb pa ca a)]) Tryz.func82 rfl (by kernel_rfl) rfl (allS_cons rfl hpa allS_nil) ?_
  refine WX.run ttOk rfl ?_
  have r1 : (a).length ≤ bd n := (okl hoka).1
  refine WX.loop (ι := Int × Nat) ⟨fun | (k2, i) => (i ≤ (a).length) ∧ (-9223372036854775808 ≤ k2 ∧ k2 ≤ 9223372036854775807) ∧ (laws_heldPublicationS_L1 a k = laws_heldPublicationS_L1 ((a).drop i) k2), fun | (k2, i) => (a).length - i, fun | (k2, i) => [(1, .v (.int .i64 (k2))), (5, .v (.int .i64 (((i : Nat) : Int)))), (0, .v (.slice pa ((a).length) ca))], fun | (k2, i) => [], fun | (k2, i) => [], fun | (k2, i) => [(0, MF.rs .stb pa ca a)]⟩ (k, 0) ⟨(Nat.zero_le _), hokk, rfl⟩
    (.cons rfl (.cons rfl (.cons rfl (.nil)))) .nil .nil [0] rfl ?_
  rintro ⟨k2, i⟩ hpre
  have hpre_ : (i ≤ (a).length) ∧ (-9223372036854775808 ≤ k2 ∧ k2 ≤ 9223372036854775807) ∧ (laws_heldPublicationS_L1 a k = laws_heldPublicationS_L1 ((a).drop i) k2) := hpre
  clear hpre
  obtain ⟨v1, v2, v3⟩ := hpre_
  refine WX.run ttOk rfl ?_
  refine WX.cases 9 rfl (fun h1 => ?_) (fun h1 => ?_)
  · skip
    have h1d := B.dt h1
    have e1i : i < (a).length := (by omega)
    obtain ⟨e1, e1h⟩ : ∃ e1, (a)[i]? = some e1 := ⟨_, List.getElem?_eq_getElem e1i⟩
    have ok1 : GoT.ok n e1 := (okl hoka).2 _ (List.mem_of_getElem? e1h)
    refine WX.run ttOk rfl ?_
    refine WX.idx 0 i ttOk rfl rfl rfl rfl rfl rfl rfl rfl rfl rfl e1i ?_
    rintro ad1 rfl
    refine WX.run ttOk rfl ?_
    refine WX.ldE 0 1 e1 ttOk rfl rfl rfl rfl rfl rfl rfl rfl e1h (fun _ => rfl) (fun _ => rfl) ?_
    rintro ⟨⟨p1, c1⟩, ⟨⟩, ⟨p2, c2⟩⟩
    refine WX.run ttOk rfl ?_
    refine WX.callV rfl rfl rfl rfl rfl (fun _ => rfl) rfl (fun w G bs hI hΓ => f199 w n (by omega) e1.publisher.parts p1 c1 (hΓ.get 1 rfl) k2 (ok_Name (ok_Publication ok1).1) v2) ?_
    intro hq1
    refine WX.run ttOk rfl ?_
    refine WX.cases 21 rfl (fun h2 => ?_) (fun h2 => ?_)
    · skip
      have h2d := B.dt h2
      refine WX.run ttOk rfl ?_
      have hP1 : laws_heldPublicationS_L1 a k = (Ctl.ret (-1)) := by rw [v3, drop_get e1h]; simp only [laws_heldPublicationS_L1, h2, cond_true, cond_false]
      have hP2 : laws_heldPublicationS a k = (-1) := by simp only [laws_heldPublicationS, hP1, cond_true, cond_false]
      refine WX.ret ttOk rfl ?_
      intro w1 G bs hI hΓ
      rw [hP2]
      exact ⟨rfl, (show I64 (-1) from (by unfold I64; omega))⟩
    · skip
      have h2d := B.df h2
      refine WX.run ttOk rfl ?_
      refine WX.idx 0 i ttOk rfl rfl rfl rfl rfl rfl rfl rfl rfl rfl e1i ?_
      rintro ad2 ⟨⟩
      refine WX.run ttOk rfl ?_
      refine WX.ldE 0 3 e1 ttOk rfl rfl rfl rfl rfl rfl rfl rfl e1h (fun _ => rfl) (fun _ => rfl) ?_
      rintro ⟨⟨p3, c3⟩, ⟨⟩, ⟨p4, c4⟩⟩
      refine WX.run ttOk rfl ?_
      refine WX.cases 28 rfl (fun h3 => ?_) (fun h3 => ?_)
      · skip
        have h3d := B.nt' h3
        refine WX.run ttOk rfl ?_
        have hP3 : laws_heldPublicationS_L1 a k = (Ctl.ret (-1)) := by rw [v3, drop_get e1h]; simp only [laws_heldPublicationS_L1, h2, h3, cond_true, cond_false]
        have hP4 : laws_heldPublicationS a k = (-1) := by simp only [laws_heldPublicationS, hP3, cond_true, cond_false]
        refine WX.ret ttOk rfl ?_
        intro w1 G bs hI hΓ
        rw [hP4]
        exact ⟨rfl, (show I64 (-1) from (by unfold I64; omega))⟩
      · skip
        have h3d := B.nf' h3
        refine WX.run ttOk rfl ?_
        refine WX.see rfl rfl rfl (fun _ hΓ => looks_wrap rfl rfl rfl rfl) ?_
        refine WX.run ttOk rfl ?_
        refine WX.idx 0 i ttOk rfl rfl rfl rfl rfl rfl rfl rfl rfl rfl e1i ?_
        rintro ad3 ⟨⟩
        refine WX.run ttOk rfl ?_
        refine WX.ldE 0 5 e1 ttOk rfl rfl rfl rfl rfl rfl rfl rfl e1h (fun _ => rfl) (fun _ => rfl) ?_
        rintro ⟨⟨p5, c5⟩, ⟨⟩, ⟨p6, c6⟩⟩
        refine WX.run ttOk rfl ?_
        refine WX.callV rfl rfl rfl rfl rfl (fun _ => rfl) rfl (fun w G bs hI hΓ => f201 w n (by omega) e1.content p6 c6 (hΓ.get 6 rfl) (IntKind.i64.wrap ((laws_heldStringS e1.publisher.parts k2) + 1)) ((ok_Publication ok1).2.2) (i64_wrap _)) ?_
        intro hq2
        refine WX.run ttOk rfl ?_
        refine WX.cases 39 rfl (fun h4 => ?_) (fun h4 => ?_)
        · skip
          have h4d := B.dt h4
          refine WX.run ttOk rfl ?_
          have hP5 : laws_heldPublicationS_L1 a k = (Ctl.ret (-1)) := by rw [v3, drop_get e1h]; simp only [laws_heldPublicationS_L1, h2, h3, h4, cond_true, cond_false]
          have hP6 : laws_heldPublicationS a k = (-1) := by simp only [laws_heldPublicationS, hP5, cond_true, cond_false]
          refine WX.ret ttOk rfl ?_
          intro w1 G bs hI hΓ
          rw [hP6]
          exact ⟨rfl, (show I64 (-1) from (by unfold I64; omega))⟩
        · skip
          have h4d := B.df h4
          refine WX.run ttOk rfl ?_
          refine WX.see rfl rfl rfl (fun _ hΓ => looks_arith rfl rfl rfl rfl (by unfold I64; first | omega | (dsimp only; omega))) ?_
          refine WX.run ttOk rfl ?_
          exact WX.iter ((laws_heldByteS e1.content (IntKind.i64.wrap ((laws_heldStringS e1.publisher.parts k2) + 1))), i + 1) ⟨(by omega), hq2, (by rw [v3, drop_get e1h]; simp only [laws_heldPublicationS_L1, h2, h3, h4, cond_true, cond_false])⟩ (by first | (dsimp only; omega) | omega) (.cons rfl (.cons rfl (.cons rfl (.nil)))) .nil .nil [0] rfl
  · skip
    have h1d := B.df h1
    refine WX.run ttOk rfl ?_
    have hX1 : laws_heldPublicationS_L1 a k = (Ctl.nxt k2) := by rw [v3, List.drop_eq_nil_of_le (show (a).length ≤ i by omega)]; simp only [laws_heldPublicationS_L1, cond_true, cond_false]
    have hP7 : laws_heldPublicationS a k = k2 := by simp only [laws_heldPublicationS, hX1, cond_true, cond_false]
    refine WX.ret ttOk rfl ?_
    intro w1 G bs hI hΓ
    rw [hP7]
    exact ⟨rfl, v2⟩
theorem f20 (w : World) (n : Nat) (hn : n + 0 ≤ 9) (a : Member) (paName : Option Addr) (caName : Nat) (hpaName : RdSl (hp w) paName caName a.name.parts) (paVector : Option Addr) (caVector : Nat) (hpaVector : RdSl (hp w) paVector caVector a.vector.entries) (paPublications : Option Addr) (caPublications : Nat) (hpaPublications : RdSl (hp w) paPublications caPublications a.publications) (k : Int) (hoka : GoT.ok n a) (hokk : GoT.ok n k) :
    Does Tryz.prog 20 #[.agg #[.slice paName ((a.name.parts).length) caName, .slice paVector ((a.vector.entries).length) caVector, .slice paPublications ((a.publications).length) caPublications], .int .i64 (k)] w emp (fun (rv : Value) (_ : World) => rv = .int .i64 ((laws_heldMember a k)) ∧ GoT.ok n ((laws_heldMember a k) : Int)) := by
  have hbP := bd_pos n
  have hbB := bd_big (n := n) (by omega)
  refine WX.enter (tt := tt) (Γ := [(0, MF.rs .stb paName caName a.name.parts), (1, MF.rs .stb paVector caVector a.vector.entries), (2, MF.rs .stb paPublications caPublications a.publications)]) Tryz.func20 rfl (by kernel_rfl) rfl (allS_cons rfl hpaName (allS_cons rfl hpaVector (allS_cons rfl hpaPublications allS_nil))) ?_
  refine WX.run ttOk rfl ?_
  refine WX.callV rfl rfl rfl rfl rfl (fun _ => rfl) rfl (fun w G bs hI hΓ => f80 w n (by omega) a.name paName caName (hΓ.get 0 rfl) k ((ok_Member hoka).1) hokk) ?_
  intro hq1
  refine WX.run ttOk rfl ?_
  refine WX.cases 10 rfl (fun h1 => ?_) (fun h1 => ?_)
  · skip
    have h1d := B.dt h1
    refine WX.run ttOk rfl ?_
    have hP1 : laws_heldMember a k = (-1) := by simp only [laws_heldMember, h1, cond_true, cond_false]
    refine WX.ret ttOk rfl ?_
    intro w1 G bs hI hΓ
    rw [hP1]
    exact ⟨rfl, (show I64 (-1) from (by unfold I64; omega))⟩
  · skip
    have h1d := B.df h1
    refine WX.run ttOk rfl ?_
    refine WX.callV rfl rfl rfl rfl rfl (fun _ => rfl) rfl (fun w G bs hI hΓ => f81 w n (by omega) a.vector paVector caVector (hΓ.get 1 rfl) (laws_heldName a.name k) ((ok_Member hoka).2.1) hq1) ?_
    intro hq2
    refine WX.run ttOk rfl ?_
    refine WX.cases 16 rfl (fun h2 => ?_) (fun h2 => ?_)
    · skip
      have h2d := B.dt h2
      refine WX.run ttOk rfl ?_
      have hP2 : laws_heldMember a k = (-1) := by simp only [laws_heldMember, h1, h2, cond_true, cond_false]
      refine WX.ret ttOk rfl ?_
      intro w1 G bs hI hΓ
      rw [hP2]
      exact ⟨rfl, (show I64 (-1) from (by unfold I64; omega))⟩
    · skip
      have h2d := B.df h2
      refine WX.run ttOk rfl ?_
      refine WX.callV rfl rfl rfl rfl rfl (fun _ => rfl) rfl (fun w G bs hI hΓ => f82 w n (by omega) a.publications paPublications caPublications (hΓ.get 2 rfl) (laws_heldStateVector a.vector (laws_heldName a.name k)) ((ok_Member hoka).2.2) hq2) ?_
      intro hq3
      refine WX.run ttOk rfl ?_
      refine WX.cases 22 rfl (fun h3 => ?_) (fun h3 => ?_)
      · skip
        have h3d := B.dt h3
        refine WX.run ttOk rfl ?_
        have hP3 : laws_heldMember a k = (-1) := by simp only [laws_heldMember, h1, h2, h3, cond_true, cond_false]
        refine WX.ret ttOk rfl ?_
        intro w1 G bs hI hΓ
        rw [hP3]
        exact ⟨rfl, (show I64 (-1) from (by unfold I64; omega))⟩
      · skip
        have h3d := B.df h3
        refine WX.run ttOk rfl ?_
        have hP4 : laws_heldMember a k = (laws_heldPublicationS a.publications (laws_heldStateVector a.vector (laws_heldName a.name k))) := by simp only [laws_heldMember, h1, h2, h3, cond_true, cond_false]
        refine WX.ret ttOk rfl ?_
        intro w1 G bs hI hΓ
        rw [hP4]
        exact ⟨rfl, hq3⟩
end Go.Proofs.YtfffongneoegbaaGreat

namespace Go.Stp
set_option linter.unusedVariables false
set_option linter.unusedSimpArgs false
def slices_Equal_string_L1 (s2 : (List Str)) : List Str → Nat → Option (Bool)
  | [], i => none
  | e1 :: rest_, i =>
    match (s2)[i]? with
      | none => default
      | some e2 =>
        bif (!((e1).toList == (e2).toList)) then
          (some false)
        else
          slices_Equal_string_L1 s2 rest_ (i + 1)
def slices_Equal_string (s1 : (List Str)) (s2 : (List Str)) : Bool :=
  bif ((((s1).length : Nat) : Int) != (((s2).length : Nat) : Int)) then
    false
  else
    match slices_Equal_string_L1 s2 s1 0 with
      | some r_ => r_
      | none =>
        true
def impl_EqualNames (a : Name) (b : Name) : Bool :=
  (slices_Equal_string a.parts b.parts)
def spec_l4Cmp (a : Str) (b : Str) : Int :=
  bif (Op.bytesLess (a).toList (b).toList) then
    (-1)
  else
    bif (!(Op.bytesLess (a).toList (b).toList || (a).toList == (b).toList)) then
      1
    else
      0
def spec_CompareNames_L1 (b : Name) : List Str → Nat → Option (Int)
  | [], i => none
  | e1 :: rest_, i =>
    bif decide (((i : Nat) : Int) < (((b.parts).length : Nat) : Int)) then
      match (b.parts)[i]? with
        | none => default
        | some e2 =>
          bif ((spec_l4Cmp e1 e2) != 0) then
            (some (spec_l4Cmp e1 e2))
          else
            spec_CompareNames_L1 b rest_ (i + 1)
    else
      none
def spec_CompareNames (a : Name) (b : Name) : Int :=
  match spec_CompareNames_L1 b a.parts 0 with
    | some r_ => r_
    | none =>
      bif decide ((((a.parts).length : Nat) : Int) < (((b.parts).length : Nat) : Int)) then
        (-1)
      else
        bif decide ((((a.parts).length : Nat) : Int) > (((b.parts).length : Nat) : Int)) then
          1
        else
          0
def spec_EqualNames (a : Name) (b : Name) : Bool :=
  ((spec_CompareNames a b) == 0)
end Go.Stp

