/-
  That functions of the program compute what the Lean functions do. No condition but what each says. Written by a program (gen2.py).
-/
import Derived.Test.YtdkhklhnipiheaaC1
import Derived.Test.YtdkhklhnipiheaaP2
namespace Go.Proofs.Ytdkhklhnipiheaa
open Go.Stp
set_option linter.unusedVariables false
set_option linter.unusedSimpArgs false
theorem f135 (w : World) (n : Nat) (hn : n + 0 ≤ 9) (s : (List Str)) (ps : Option Addr) (cs : Nat) (hps : RdSl (hp w) ps cs s) (hoks : GoT.ok n s) :
    Does Try.prog 135 #[.slice ps ((s).length) cs] w emp (Post w emp (fun x : GoT.X ((List Str)) => (GoT.sh (s : (List Str)) x).headD undef) (fun x => GoT.oa (s : (List Str)) x) (GoT.ok n (s : (List Str)))) := by
  have hbP := bd_pos n
  have hbB := bd_big (n := n) (by omega)
  refine WX.enter (tt := tt) (Γ := [(0, MF.rs .stb ps cs s)]) Try.func135 rfl (by kernel_rfl) rfl (allS_cons rfl hps allS_nil) ?_
  refine WX.run ttOk rfl ?_
  refine WX.see rfl rfl rfl (fun _ hΓ => looks_nil ttOk rfl rfl rfl rfl) ?_
  refine WX.cases 4 rfl (fun hp1 => ?_) (fun hp1 => ?_)
  · skip
    obtain rfl : ps = none := by simpa using hp1
    refine WX.know (fun G hΓ => rdSl_none (hΓ.get 0 rfl)) ?_
    intro ln1
    refine WX.run ttOk rfl ?_
    subst ln1
    refine WX.free 1 (MF.os none 0 ([] : List Str)) (owSl_nil _ _) ?_
    refine WX.ret ttOk rfl ?_
    intro w1 G bs hI hΓ
    exact Post.of [1] (none, 0) hI hΓ rfl rfl rfl (by assumption)
  · skip
    refine WX.run ttOk rfl ?_
    refine WX.bld ttOk rfl rfl rfl rfl rfl rfl rfl ?_
    intro p1
    refine WX.run ttOk rfl ?_
    refine WX.free 2 (MF.ol [] ([] : List Str)) rfl ?_
    have r1 : (s).length ≤ bd n := (okl hoks).1
    refine WX.appG1 5 0 3 (s : List Str).length ttOk rfl rfl rfl rfl rfl rfl rfl rfl rfl rfl rfl rfl rfl (by simp) (by omega) (by omega) (fun _ _ _ => rfl) ?_
    intro ys1 p2 c1
    refine WX.know (fun G hΓ => (hΓ.get 3 rfl : RdL _ _ _).flat) ?_
    intro hf1
    refine WX.turn [2] 4 rfl (fun h hs => ol_flat hs hf1) (gs := [MF.ol ([] ++ ys1) (s : List Str)]) rfl ?_
    refine WX.run ttOk rfl ?_
    refine WX.seal 5 4 5 rfl rfl rfl rfl rfl ?_
    refine WX.ret ttOk rfl ?_
    intro w1 G bs hI hΓ
    exact Post.of [6] (p2, c1) hI hΓ rfl rfl rfl (by assumption)
theorem f87 (w : World) (n : Nat) (hn : n + 0 ≤ 9) (s : (List UInt8)) (ps : Option Addr) (cs : Nat) (hps : RdSl (hp w) ps cs s) (hoks : GoT.ok n s) :
    Does Try.prog 87 #[.slice ps ((s).length) cs] w emp (Post w emp (fun x : GoT.X ((List UInt8)) => (GoT.sh (s : (List UInt8)) x).headD undef) (fun x => GoT.oa (s : (List UInt8)) x) (GoT.ok n (s : (List UInt8)))) := by
  have hbP := bd_pos n
  have hbB := bd_big (n := n) (by omega)
  refine WX.enter (tt := tt) (Γ := [(0, MF.rs .stb ps cs s)]) Try.func87 rfl (by kernel_rfl) rfl (allS_cons rfl hps allS_nil) ?_
  refine WX.run ttOk rfl ?_
  refine WX.see rfl rfl rfl (fun _ hΓ => looks_nil ttOk rfl rfl rfl rfl) ?_
  refine WX.cases 4 rfl (fun hp1 => ?_) (fun hp1 => ?_)
  · skip
    obtain rfl : ps = none := by simpa using hp1
    refine WX.know (fun G hΓ => rdSl_none (hΓ.get 0 rfl)) ?_
    intro ln1
    refine WX.run ttOk rfl ?_
    subst ln1
    refine WX.free 1 (MF.os none 0 ([] : List UInt8)) (owSl_nil _ _) ?_
    refine WX.ret ttOk rfl ?_
    intro w1 G bs hI hΓ
    exact Post.of [1] (none, 0) hI hΓ rfl rfl rfl (by assumption)
  · skip
    refine WX.run ttOk rfl ?_
    refine WX.bld ttOk rfl rfl rfl rfl rfl rfl rfl ?_
    intro p1
    refine WX.run ttOk rfl ?_
    refine WX.free 2 (MF.ol [] ([] : List UInt8)) rfl ?_
    have r1 : (s).length ≤ bd n := (okl hoks).1
    refine WX.appG1 5 0 3 (s : List UInt8).length ttOk rfl rfl rfl rfl rfl rfl rfl rfl rfl rfl rfl rfl rfl (by simp) (by omega) (by omega) (fun _ _ _ => rfl) ?_
    intro ys1 p2 c1
    refine WX.know (fun G hΓ => (hΓ.get 3 rfl : RdL _ _ _).flat) ?_
    intro hf1
    refine WX.turn [2] 4 rfl (fun h hs => ol_flat hs hf1) (gs := [MF.ol ([] ++ ys1) (s : List UInt8)]) rfl ?_
    refine WX.run ttOk rfl ?_
    refine WX.seal 5 4 5 rfl rfl rfl rfl rfl ?_
    refine WX.ret ttOk rfl ?_
    intro w1 G bs hI hΓ
    exact Post.of [6] (p2, c1) hI hΓ rfl rfl rfl (by assumption)
theorem f106 (w : World) (n : Nat) (hn : n + 0 ≤ 9) (n_ : Name) (pn_ : Option Addr) (cn_ : Nat) (hpn_ : RdSl (hp w) pn_ cn_ n_.parts) (hokn_ : GoT.ok n n_) :
    Does Try.prog 106 #[.agg #[.slice pn_ ((n_.parts).length) cn_]] w emp (Post w emp (fun x : GoT.X (Name) => .agg ⟨GoT.sh ((impl_copyName n_) : Name) x⟩) (fun x => GoT.oa ((impl_copyName n_) : Name) x) (GoT.ok n ((impl_copyName n_) : Name))) := by
  have hbP := bd_pos n
  have hbB := bd_big (n := n) (by omega)
  refine WX.enter (tt := tt) (Γ := [(0, MF.rs .stb pn_ cn_ n_.parts)]) Try.func106 rfl (by kernel_rfl) rfl (allS_cons rfl hpn_ allS_nil) ?_
  refine WX.run ttOk rfl ?_
  refine WX.callF 1 (fun _ _ h => GoT.ow_rd h) (fun _ f hf => GoT.fak f hf) rfl rfl rfl rfl rfl (fun _ => rfl) rfl (fun w G bs hI hΓ => f135 w n (by omega) n_.parts pn_ cn_ (hΓ.get 0 rfl) (ok_Name hokn_)) (fun _ => rfl) (fun _ => rfl) ?_
  rintro ⟨p1, c1⟩ hq1
  refine WX.run ttOk rfl ?_
  have hP1 : impl_copyName n_ = n_ := by simp only [impl_copyName, cond_true, cond_false]
  refine WX.ret ttOk rfl ?_
  intro w1 G bs hI hΓ
  rw [hP1]
  exact Post.of [2] (p1, c1) hI hΓ rfl rfl rfl hq1
theorem f94 (w : World) (n : Nat) (hn : n + 0 ≤ 9) (n_ : Name) (pn_ : Option Addr) (cn_ : Nat) (hpn_ : RdSl (hp w) pn_ cn_ n_.parts) (hokn_ : GoT.ok n n_) :
    Does Try.prog 94 #[.agg #[.slice pn_ ((n_.parts).length) cn_]] w emp (Post w emp (fun x : GoT.X (Name) => .agg ⟨GoT.sh ((spec_l4Copy n_) : Name) x⟩) (fun x => GoT.oa ((spec_l4Copy n_) : Name) x) (GoT.ok n ((spec_l4Copy n_) : Name))) := by
  have hbP := bd_pos n
  have hbB := bd_big (n := n) (by omega)
  refine WX.enter (tt := tt) (Γ := [(0, MF.rs .stb pn_ cn_ n_.parts)]) Try.func94 rfl (by kernel_rfl) rfl (allS_cons rfl hpn_ allS_nil) ?_
  refine WX.run ttOk rfl ?_
  refine WX.bld ttOk rfl rfl rfl rfl rfl rfl rfl ?_
  intro p1
  refine WX.run ttOk rfl ?_
  refine WX.free 1 (MF.ol [] ([] : List Str)) rfl ?_
  have r1 : (n_.parts).length ≤ bd n := (okl (ok_Name hokn_)).1
  refine WX.appG1 3 0 2 (n_.parts : List Str).length ttOk rfl rfl rfl rfl rfl rfl rfl rfl rfl rfl rfl rfl rfl (by simp) (by omega) (by omega) (fun _ _ _ => rfl) ?_
  intro ys1 p2 c1
  refine WX.know (fun G hΓ => (hΓ.get 2 rfl : RdL _ _ _).flat) ?_
  intro hf1
  refine WX.turn [1] 3 rfl (fun h hs => ol_flat hs hf1) (gs := [MF.ol ([] ++ ys1) (n_.parts : List Str)]) rfl ?_
  refine WX.run ttOk rfl ?_
  refine WX.seal 3 3 4 rfl rfl rfl rfl rfl ?_
  have hP1 : spec_l4Copy n_ = n_ := by simp only [spec_l4Copy, cond_true, cond_false]
  refine WX.ret ttOk rfl ?_
  intro w1 G bs hI hΓ
  rw [hP1]
  exact Post.of [5] (p2, c1) hI hΓ rfl rfl rfl (okl_mk (by omega) (okl (ok_Name hokn_)).2 : GoT.ok n (n_.parts : List Str))
theorem f145 (w : World) (n : Nat) (hn : n + 0 ≤ 9) (x_ : DataP) (px_Name : Option Addr) (cx_Name : Nat) (hpx_Name : RdSl (hp w) px_Name cx_Name x_.name.parts) (px_Content : Option Addr) (cx_Content : Nat) (hpx_Content : RdSl (hp w) px_Content cx_Content x_.content) (px_KeyName : Option Addr) (cx_KeyName : Nat) (hpx_KeyName : RdSl (hp w) px_KeyName cx_KeyName x_.keyName.parts) (hokx_ : GoT.ok n x_) :
    Does Try.prog 145 #[.agg #[.slice px_Name ((x_.name.parts).length) cx_Name, .slice px_Content ((x_.content).length) cx_Content, .slice px_KeyName ((x_.keyName.parts).length) cx_KeyName, .int .i64 (x_.freshUntil), .int .i64 (x_.signature)]] w emp (Post w emp (fun x : GoT.X (DataP) => .agg ⟨GoT.sh ((impl_copyData x_) : DataP) x⟩) (fun x => GoT.oa ((impl_copyData x_) : DataP) x) (GoT.ok n ((impl_copyData x_) : DataP))) := by
  have hbP := bd_pos n
  have hbB := bd_big (n := n) (by omega)
  refine WX.enter (tt := tt) (Γ := [(0, MF.rs .stb px_Name cx_Name x_.name.parts), (1, MF.rs .stb px_Content cx_Content x_.content), (2, MF.rs .stb px_KeyName cx_KeyName x_.keyName.parts)]) Try.func145 rfl (by kernel_rfl) rfl (allS_cons rfl hpx_Name (allS_cons rfl hpx_Content (allS_cons rfl hpx_KeyName allS_nil))) ?_
  refine WX.run ttOk rfl ?_
  refine WX.callF 3 (fun _ _ h => GoT.ow_rd h) (fun _ f hf => GoT.fak f hf) rfl rfl rfl rfl rfl (fun _ => rfl) rfl (fun w G bs hI hΓ => f106 w n (by omega) x_.name px_Name cx_Name (hΓ.get 0 rfl) ((ok_DataP hokx_).1)) (fun _ => rfl) (fun _ => rfl) ?_
  rintro ⟨p1, c1⟩ hq1
  refine WX.run ttOk rfl ?_
  refine WX.callF 5 (fun _ _ h => GoT.ow_rd h) (fun _ f hf => GoT.fak f hf) rfl rfl rfl rfl rfl (fun _ => rfl) rfl (fun w G bs hI hΓ => f87 w n (by omega) x_.content px_Content cx_Content (hΓ.get 1 rfl) ((ok_DataP hokx_).2.1)) (fun _ => rfl) (fun _ => rfl) ?_
  rintro ⟨p2, c2⟩ hq2
  refine WX.run ttOk rfl ?_
  refine WX.callF 7 (fun _ _ h => GoT.ow_rd h) (fun _ f hf => GoT.fak f hf) rfl rfl rfl rfl rfl (fun _ => rfl) rfl (fun w G bs hI hΓ => f106 w n (by omega) x_.keyName px_KeyName cx_KeyName (hΓ.get 2 rfl) ((ok_DataP hokx_).2.2.1)) (fun _ => rfl) (fun _ => rfl) ?_
  rintro ⟨p3, c3⟩ hq3
  refine WX.run ttOk rfl ?_
  have hP1 : impl_copyData x_ = (DataP.mk (impl_copyName x_.name) x_.content (impl_copyName x_.keyName) x_.freshUntil x_.signature) := by simp only [impl_copyData, cond_true, cond_false]
  refine WX.ret ttOk rfl ?_
  intro w1 G bs hI hΓ
  rw [hP1]
  exact Post.of [4, 6, 8] ((p1, c1), (p2, c2), (p3, c3), (), ()) hI hΓ rfl rfl rfl (And.intro hq1 (And.intro hq2 (And.intro hq3 (And.intro (ok_DataP hokx_).2.2.2.1 (ok_DataP hokx_).2.2.2.2))))
theorem f138 (w : World) (n : Nat) (hn : n + 0 ≤ 9) (x_ : DataP) (px_Name : Option Addr) (cx_Name : Nat) (hpx_Name : RdSl (hp w) px_Name cx_Name x_.name.parts) (px_Content : Option Addr) (cx_Content : Nat) (hpx_Content : RdSl (hp w) px_Content cx_Content x_.content) (px_KeyName : Option Addr) (cx_KeyName : Nat) (hpx_KeyName : RdSl (hp w) px_KeyName cx_KeyName x_.keyName.parts) (hokx_ : GoT.ok n x_) :
    Does Try.prog 138 #[.agg #[.slice px_Name ((x_.name.parts).length) cx_Name, .slice px_Content ((x_.content).length) cx_Content, .slice px_KeyName ((x_.keyName.parts).length) cx_KeyName, .int .i64 (x_.freshUntil), .int .i64 (x_.signature)]] w emp (Post w emp (fun x : GoT.X (DataP) => .agg ⟨GoT.sh ((spec_l8Copy x_) : DataP) x⟩) (fun x => GoT.oa ((spec_l8Copy x_) : DataP) x) (GoT.ok n ((spec_l8Copy x_) : DataP))) := by
  have hbP := bd_pos n
  have hbB := bd_big (n := n) (by omega)
  refine WX.enter (tt := tt) (Γ := [(0, MF.rs .stb px_Name cx_Name x_.name.parts), (1, MF.rs .stb px_Content cx_Content x_.content), (2, MF.rs .stb px_KeyName cx_KeyName x_.keyName.parts)]) Try.func138 rfl (by kernel_rfl) rfl (allS_cons rfl hpx_Name (allS_cons rfl hpx_Content (allS_cons rfl hpx_KeyName allS_nil))) ?_
  refine WX.run ttOk rfl ?_
  refine WX.callF 3 (fun _ _ h => GoT.ow_rd h) (fun _ f hf => GoT.fak f hf) rfl rfl rfl rfl rfl (fun _ => rfl) rfl (fun w G bs hI hΓ => f94 w n (by omega) x_.name px_Name cx_Name (hΓ.get 0 rfl) ((ok_DataP hokx_).1)) (fun _ => rfl) (fun _ => rfl) ?_
  rintro ⟨p1, c1⟩ hq1
  refine WX.run ttOk rfl ?_
  refine WX.bld ttOk rfl rfl rfl rfl rfl rfl rfl ?_
  intro p2
  refine WX.run ttOk rfl ?_
  refine WX.free 5 (MF.ol [] ([] : List UInt8)) rfl ?_
  have r1 : (x_.content).length ≤ bd n := (okl (ok_DataP hokx_).2.1).1
  refine WX.appG1 9 1 6 (x_.content : List UInt8).length ttOk rfl rfl rfl rfl rfl rfl rfl rfl rfl rfl rfl rfl rfl (by simp) (by omega) (by omega) (fun _ _ _ => rfl) ?_
  intro ys1 p3 c2
  refine WX.know (fun G hΓ => (hΓ.get 6 rfl : RdL _ _ _).flat) ?_
  intro hf1
  refine WX.turn [5] 7 rfl (fun h hs => ol_flat hs hf1) (gs := [MF.ol ([] ++ ys1) (x_.content : List UInt8)]) rfl ?_
  refine WX.run ttOk rfl ?_
  refine WX.callF 8 (fun _ _ h => GoT.ow_rd h) (fun _ f hf => GoT.fak f hf) rfl rfl rfl rfl rfl (fun _ => rfl) rfl (fun w G bs hI hΓ => f94 w n (by omega) x_.keyName px_KeyName cx_KeyName (hΓ.get 2 rfl) ((ok_DataP hokx_).2.2.1)) (fun _ => rfl) (fun _ => rfl) ?_
  rintro ⟨p4, c3⟩ hq2
  refine WX.run ttOk rfl ?_
  refine WX.seal 9 7 10 rfl rfl rfl rfl rfl ?_
  have hP1 : spec_l8Copy x_ = (DataP.mk (spec_l4Copy x_.name) x_.content (spec_l4Copy x_.keyName) x_.freshUntil x_.signature) := by simp only [spec_l8Copy, cond_true, cond_false]
  refine WX.ret ttOk rfl ?_
  intro w1 G bs hI hΓ
  rw [hP1]
  exact Post.of [4, 11, 9] ((p1, c1), (p3, c2), (p4, c3), (), ()) hI hΓ rfl rfl rfl (And.intro hq1 (And.intro (okl_mk (by omega) (okl (ok_DataP hokx_).2.1).2 : GoT.ok n (x_.content : List UInt8)) (And.intro hq2 (And.intro (ok_DataP hokx_).2.2.2.1 (ok_DataP hokx_).2.2.2.2))))
theorem f144 (w : World) (n : Nat) (hn : n + 0 ≤ 9) (l : (List Record)) (pl : Option Addr) (cl : Nat) (hpl : RdSl (hp w) pl cl l) (hokl : GoT.ok n l) :
    Does Try.prog 144 #[.slice pl ((l).length) cl] w emp (Post w emp (fun x : GoT.X ((List Record)) => (GoT.sh ((impl_copyRecords l) : (List Record)) x).headD undef) (fun x => GoT.oa ((impl_copyRecords l) : (List Record)) x) (GoT.ok n ((impl_copyRecords l) : (List Record)))) := by
  have hbP := bd_pos n
  have hbB := bd_big (n := n) (by omega)
  refine WX.enter (tt := tt) (Γ := [(0, MF.rs .stb pl cl l)]) Try.func144 rfl (by kernel_rfl) rfl (allS_cons rfl hpl allS_nil) ?_
  refine WX.run ttOk rfl ?_
  refine WX.bld ttOk rfl rfl rfl rfl rfl rfl rfl ?_
  intro p1
  refine WX.run ttOk rfl ?_
  refine WX.free 1 (MF.ol [] ([] : List Record)) rfl ?_
  have r1 : (l).length ≤ bd n := (okl hokl).1
  refine WX.loop (ι := (Option Addr) × Nat × (List Value) × (List Record) × Nat) ⟨fun | (pout, cout, xsout, out, i) => (i ≤ (l).length) ∧ (∀ z_ ∈ out, GoT.ok n z_) ∧ (out.length ≤ i) ∧ (impl_copyRecords_L1 l ([] : List Record) = impl_copyRecords_L1 ((l).drop i) out), fun | (pout, cout, xsout, out, i) => (l).length - i, fun | (pout, cout, xsout, out, i) => [(3, .v (.slice pout ((out).length) cout)), (9, .v (.int .i64 (((i : Nat) : Int)))), (8, .v (.int .i64 ((((l).length : Nat) : Int)))), (7, .v (.slice pl ((l).length) cl))], fun | (pout, cout, xsout, out, i) => [], fun | (pout, cout, xsout, out, i) => [(6, ⟨6, pout, (out).length, cout, xsout⟩)], fun | (pout, cout, xsout, out, i) => [(0, MF.rs .stb pl cl l), (1, MF.ol xsout (out : List Record))]⟩ (p1, 0, [], ([] : List Record), 0) ⟨(Nat.zero_le _), (fun a ha => by cases ha), (by simp), rfl⟩
    (.cons rfl (.cons rfl (.cons rfl (.cons rfl (.nil))))) .nil (.cons rfl (.nil)) [0, 1] rfl ?_
  rintro ⟨pout, cout, xsout, out, i⟩ hpre
  have hpre_ : (i ≤ (l).length) ∧ (∀ z_ ∈ out, GoT.ok n z_) ∧ (out.length ≤ i) ∧ (impl_copyRecords_L1 l ([] : List Record) = impl_copyRecords_L1 ((l).drop i) out) := hpre
  clear hpre
  obtain ⟨v1, v2, v3, v4⟩ := hpre_
  refine WX.run ttOk rfl ?_
  refine WX.cases 10 rfl (fun h1 => ?_) (fun h1 => ?_)
  · skip
    have h1d := B.dt h1
    have e1i : i < (l).length := (by omega)
    obtain ⟨e1, e1h⟩ : ∃ e1, (l)[i]? = some e1 := ⟨_, List.getElem?_eq_getElem e1i⟩
    have ok1 : GoT.ok n e1 := (okl hokl).2 _ (List.mem_of_getElem? e1h)
    refine WX.run ttOk rfl ?_
    refine WX.idx 0 i ttOk rfl rfl rfl rfl rfl rfl rfl rfl rfl rfl e1i ?_
    rintro ad1 rfl
    refine WX.ldE 0 2 e1 ttOk rfl rfl rfl rfl rfl rfl rfl rfl e1h (fun _ => rfl) (fun _ => rfl) ?_
    rintro ⟨⟨⟩, ⟨⟨p2, c1⟩, ⟨p3, c2⟩, ⟨p4, c3⟩, ⟨⟩, ⟨⟩⟩⟩
    refine WX.run ttOk rfl ?_
    refine WX.draw [8, 9] mixed ?_
    intro bs G0 hΓ0
    refine DX.takes (fuel := 5) ttOk [(0, true), (1, true), (2, false), (3, true), (4, false)] (by kernel_rfl) rfl ?_
    refine DX.callF 5 5 (fun _ _ h => GoT.ow_rd h) (fun _ f hf => GoT.fak f hf) rfl (by kernel_rfl) rfl rfl rfl rfl rfl rfl (fun _ => rfl) rfl (fun w G bs hI hΓ => f145 w n (by omega) e1.data p2 c1 (hΓ.get 2 rfl) p3 c2 (hΓ.get 3 rfl) p4 c3 (hΓ.get 4 rfl) ((ok_Record ok1).2)) (fun _ => rfl) (fun _ => rfl) ?_
    rintro ⟨⟨p5, c4⟩, ⟨p6, c5⟩, ⟨p7, c6⟩, ⟨⟩, ⟨⟩⟩ hq1
    refine DX.takes (fuel := 3) ttOk [(6, true)] (by kernel_rfl) rfl ?_
    refine DX.tail2 [7, 8, 9] rfl rfl (by kernel_rfl) ?_
    refine WX.bld ttOk rfl rfl rfl rfl rfl rfl rfl ?_
    intro p8
    refine WX.turn [8, 9, 10] 11 rfl (fun h hs => ol_one (α := Record) (a := (Record.mk e1.kind (impl_copyData e1.data))) (x := ((), ((p5, c4), (p6, c5), (p7, c6), (), ()))) hs) (gs := [MF.ol [.int .i64 (e1.kind), .slice p5 (((impl_copyData e1.data).name.parts).length) c4, .slice p6 (((impl_copyData e1.data).content).length) c5, .slice p7 (((impl_copyData e1.data).keyName.parts).length) c6, .int .i64 ((impl_copyData e1.data).freshUntil), .int .i64 ((impl_copyData e1.data).signature)] ([(Record.mk e1.kind (impl_copyData e1.data))] : List Record)]) rfl ?_
    have r2 : -9223372036854775808 ≤ e1.kind ∧ e1.kind ≤ 9223372036854775807 := (ok_Record ok1).1
    refine WX.appR1 6 20 ((out ++ [(Record.mk e1.kind (impl_copyData e1.data))]) : List Record).length ttOk rfl rfl rfl rfl rfl rfl rfl rfl rfl rfl rfl rfl rfl (by simp [Value.oneCell']) (by simp) (by simp; omega) (by simp; omega) (fun _ _ => rfl) ?_
    intro p9 c7
    refine WX.turn [1, 11] 12 rfl (fun h hs => ol_app hs) (gs := [MF.ol (xsout ++ [.int .i64 (e1.kind), .slice p5 (((impl_copyData e1.data).name.parts).length) c4, .slice p6 (((impl_copyData e1.data).content).length) c5, .slice p7 (((impl_copyData e1.data).keyName.parts).length) c6, .int .i64 ((impl_copyData e1.data).freshUntil), .int .i64 ((impl_copyData e1.data).signature)]) ((out ++ [(Record.mk e1.kind (impl_copyData e1.data))]) : List Record)]) rfl ?_
    refine WX.run ttOk rfl ?_
    refine WX.see rfl rfl rfl (fun _ hΓ => looks_arith rfl rfl rfl rfl (by unfold I64; omega)) ?_
    refine WX.run ttOk rfl ?_
    refine WX.turn [12] 1 rfl (fun _ h => h) rfl ?_
    exact WX.iter (p9, c7, (xsout ++ [.int .i64 (e1.kind), .slice p5 (((impl_copyData e1.data).name.parts).length) c4, .slice p6 (((impl_copyData e1.data).content).length) c5, .slice p7 (((impl_copyData e1.data).keyName.parts).length) c6, .int .i64 ((impl_copyData e1.data).freshUntil), .int .i64 ((impl_copyData e1.data).signature)]), ((out ++ [(Record.mk e1.kind (impl_copyData e1.data))]) : List Record), i + 1) ⟨(by omega), (all_app v2 (all_cons (α := Record) (And.intro (ok_Record ok1).1 hq1) (fun a ha => by cases ha))), (by first | assumption | omega | (simp only [List.length_append, List.length_cons, List.length_nil, List.length_set, List.length_map, List.length_take, List.length_drop]; omega) | (simp; omega)), (by rw [v4, drop_get e1h]; simp only [impl_copyRecords_L1, cond_true, cond_false])⟩ (by dsimp only; omega) (.cons rfl (.cons rfl (.cons rfl (.cons rfl (.nil))))) .nil (.cons rfl (.nil)) [0, 1] rfl
  · skip
    have h1d := B.df h1
    refine WX.run ttOk rfl ?_
    have hX1 : impl_copyRecords_L1 l ([] : List Record) = ((out) : List Record) := by rw [v4, List.drop_eq_nil_of_le (show (l).length ≤ i by omega)]; simp only [impl_copyRecords_L1, cond_true, cond_false]
    refine WX.seal 6 1 13 rfl rfl rfl rfl rfl ?_
    have hP1 : impl_copyRecords l = out := by simp only [impl_copyRecords, hX1, cond_true, cond_false]
    refine WX.ret ttOk rfl ?_
    intro w1 G bs hI hΓ
    rw [hP1]
    exact Post.of [14] (pout, cout) hI hΓ rfl rfl rfl (okl_mk (by omega) v2 : GoT.ok n (out : List Record))
theorem f110 (w : World) (n : Nat) (hn : n + 0 ≤ 9) (l : (List Record)) (pl : Option Addr) (cl : Nat) (hpl : RdSl (hp w) pl cl l) (hokl : GoT.ok n l) :
    Does Try.prog 110 #[.slice pl ((l).length) cl] w emp (Post w emp (fun x : GoT.X ((List Record)) => (GoT.sh ((spec_l29Recs l) : (List Record)) x).headD undef) (fun x => GoT.oa ((spec_l29Recs l) : (List Record)) x) (GoT.ok n ((spec_l29Recs l) : (List Record)))) := by
  have hbP := bd_pos n
  have hbB := bd_big (n := n) (by omega)
  refine WX.enter (tt := tt) (Γ := [(0, MF.rs .stb pl cl l)]) Try.func110 rfl (by kernel_rfl) rfl (allS_cons rfl hpl allS_nil) ?_
  refine WX.run ttOk rfl ?_
  refine WX.bld ttOk rfl rfl rfl rfl rfl rfl rfl ?_
  intro p1
  refine WX.run ttOk rfl ?_
  refine WX.free 1 (MF.ol [] ([] : List Record)) rfl ?_
  have r1 : (l).length ≤ bd n := (okl hokl).1
  refine WX.loop (ι := (Option Addr) × Nat × (List Value) × (List Record) × Nat) ⟨fun | (pout, cout, xsout, out, i) => (i ≤ (l).length) ∧ (∀ z_ ∈ out, GoT.ok n z_) ∧ (out.length ≤ i) ∧ (spec_l29Recs_L1 l ([] : List Record) = spec_l29Recs_L1 ((l).drop i) out), fun | (pout, cout, xsout, out, i) => (l).length - i, fun | (pout, cout, xsout, out, i) => [(3, .v (.slice pout ((out).length) cout)), (4, .v (.int .i64 (((i : Nat) : Int)))), (0, .v (.slice pl ((l).length) cl))], fun | (pout, cout, xsout, out, i) => [], fun | (pout, cout, xsout, out, i) => [(6, ⟨6, pout, (out).length, cout, xsout⟩)], fun | (pout, cout, xsout, out, i) => [(0, MF.rs .stb pl cl l), (1, MF.ol xsout (out : List Record))]⟩ (p1, 0, [], ([] : List Record), 0) ⟨(Nat.zero_le _), (fun a ha => by cases ha), (by simp), rfl⟩
    (.cons rfl (.cons rfl (.cons rfl (.nil)))) .nil (.cons rfl (.nil)) [0, 1] rfl ?_
  rintro ⟨pout, cout, xsout, out, i⟩ hpre
  have hpre_ : (i ≤ (l).length) ∧ (∀ z_ ∈ out, GoT.ok n z_) ∧ (out.length ≤ i) ∧ (spec_l29Recs_L1 l ([] : List Record) = spec_l29Recs_L1 ((l).drop i) out) := hpre
  clear hpre
  obtain ⟨v1, v2, v3, v4⟩ := hpre_
  refine WX.run ttOk rfl ?_
  refine WX.cases 10 rfl (fun h1 => ?_) (fun h1 => ?_)
  · skip
    have h1d := B.dt h1
    have e1i : i < (l).length := (by omega)
    obtain ⟨e1, e1h⟩ : ∃ e1, (l)[i]? = some e1 := ⟨_, List.getElem?_eq_getElem e1i⟩
    have ok1 : GoT.ok n e1 := (okl hokl).2 _ (List.mem_of_getElem? e1h)
    refine WX.run ttOk rfl ?_
    refine WX.idx 0 i ttOk rfl rfl rfl rfl rfl rfl rfl rfl rfl rfl e1i ?_
    rintro ad1 rfl
    refine WX.run ttOk rfl ?_
    refine WX.ldE 0 2 e1 ttOk rfl rfl rfl rfl rfl rfl rfl rfl e1h (fun _ => rfl) (fun _ => rfl) ?_
    rintro ⟨⟨⟩, ⟨⟨p2, c1⟩, ⟨p3, c2⟩, ⟨p4, c3⟩, ⟨⟩, ⟨⟩⟩⟩
    refine WX.callF 5 (fun _ _ h => GoT.ow_rd h) (fun _ f hf => GoT.fak f hf) rfl rfl rfl rfl rfl (fun _ => rfl) rfl (fun w G bs hI hΓ => f138 w n (by omega) e1.data p2 c1 (hΓ.get 2 rfl) p3 c2 (hΓ.get 3 rfl) p4 c3 (hΓ.get 4 rfl) ((ok_Record ok1).2)) (fun _ => rfl) (fun _ => rfl) ?_
    rintro ⟨⟨p5, c4⟩, ⟨p6, c5⟩, ⟨p7, c6⟩, ⟨⟩, ⟨⟩⟩ hq1
    refine WX.run ttOk rfl ?_
    refine WX.draw [9, 10] mixed ?_
    intro bs G0 hΓ0
    refine DX.takes (fuel := 8) ttOk [(0, true), (1, true), (2, true)] (by kernel_rfl) rfl ?_
    refine DX.idx 3 0 i ttOk hΓ0 (by kernel_rfl) rfl rfl rfl rfl rfl rfl rfl rfl rfl rfl rfl e1i ?_
    rintro ad2 ⟨⟩
    refine DX.takes (fuel := 6) ttOk [(4, true)] (by kernel_rfl) rfl ?_
    refine DX.ldE 5 0 11 e1 ttOk hΓ0 (by kernel_rfl) rfl rfl rfl rfl rfl rfl rfl rfl e1h (fun _ => rfl) (fun _ => rfl) ?_
    rintro ⟨⟨⟩, ⟨⟨p8, c7⟩, ⟨p9, c8⟩, ⟨p10, c9⟩, ⟨⟩, ⟨⟩⟩⟩
    refine DX.takes (fuel := 3) ttOk [(6, false), (7, true)] (by kernel_rfl) rfl ?_
    refine DX.tail2 [8, 9, 10] rfl rfl (by kernel_rfl) ?_
    refine WX.bld ttOk rfl rfl rfl rfl rfl rfl rfl ?_
    intro p11
    refine WX.turn [8, 9, 10] 14 rfl (fun h hs => ol_one (α := Record) (a := (Record.mk e1.kind (spec_l8Copy e1.data))) (x := ((), ((p5, c4), (p6, c5), (p7, c6), (), ()))) hs) (gs := [MF.ol [.int .i64 (e1.kind), .slice p5 (((spec_l8Copy e1.data).name.parts).length) c4, .slice p6 (((spec_l8Copy e1.data).content).length) c5, .slice p7 (((spec_l8Copy e1.data).keyName.parts).length) c6, .int .i64 ((spec_l8Copy e1.data).freshUntil), .int .i64 ((spec_l8Copy e1.data).signature)] ([(Record.mk e1.kind (spec_l8Copy e1.data))] : List Record)]) rfl ?_
    have r2 : -9223372036854775808 ≤ e1.kind ∧ e1.kind ≤ 9223372036854775807 := (ok_Record ok1).1
    refine WX.appR1 6 27 ((out ++ [(Record.mk e1.kind (spec_l8Copy e1.data))]) : List Record).length ttOk rfl rfl rfl rfl rfl rfl rfl rfl rfl rfl rfl rfl rfl (by simp [Value.oneCell']) (by simp) (by simp; omega) (by simp; omega) (fun _ _ => rfl) ?_
    intro p12 c10
    refine WX.turn [1, 14] 15 rfl (fun h hs => ol_app hs) (gs := [MF.ol (xsout ++ [.int .i64 (e1.kind), .slice p5 (((spec_l8Copy e1.data).name.parts).length) c4, .slice p6 (((spec_l8Copy e1.data).content).length) c5, .slice p7 (((spec_l8Copy e1.data).keyName.parts).length) c6, .int .i64 ((spec_l8Copy e1.data).freshUntil), .int .i64 ((spec_l8Copy e1.data).signature)]) ((out ++ [(Record.mk e1.kind (spec_l8Copy e1.data))]) : List Record)]) rfl ?_
    refine WX.run ttOk rfl ?_
    refine WX.see rfl rfl rfl (fun _ hΓ => looks_arith rfl rfl rfl rfl (by unfold I64; omega)) ?_
    refine WX.run ttOk rfl ?_
    refine WX.turn [15] 1 rfl (fun _ h => h) rfl ?_
    exact WX.iter (p12, c10, (xsout ++ [.int .i64 (e1.kind), .slice p5 (((spec_l8Copy e1.data).name.parts).length) c4, .slice p6 (((spec_l8Copy e1.data).content).length) c5, .slice p7 (((spec_l8Copy e1.data).keyName.parts).length) c6, .int .i64 ((spec_l8Copy e1.data).freshUntil), .int .i64 ((spec_l8Copy e1.data).signature)]), ((out ++ [(Record.mk e1.kind (spec_l8Copy e1.data))]) : List Record), i + 1) ⟨(by omega), (all_app v2 (all_cons (α := Record) (And.intro (ok_Record ok1).1 hq1) (fun a ha => by cases ha))), (by first | assumption | omega | (simp only [List.length_append, List.length_cons, List.length_nil, List.length_set, List.length_map, List.length_take, List.length_drop]; omega) | (simp; omega)), (by rw [v4, drop_get e1h]; simp only [spec_l29Recs_L1, cond_true, cond_false])⟩ (by dsimp only; omega) (.cons rfl (.cons rfl (.cons rfl (.nil)))) .nil (.cons rfl (.nil)) [0, 1] rfl
  · skip
    have h1d := B.df h1
    refine WX.run ttOk rfl ?_
    have hX1 : spec_l29Recs_L1 l ([] : List Record) = ((out) : List Record) := by rw [v4, List.drop_eq_nil_of_le (show (l).length ≤ i by omega)]; simp only [spec_l29Recs_L1, cond_true, cond_false]
    refine WX.seal 6 1 16 rfl rfl rfl rfl rfl ?_
    have hP1 : spec_l29Recs l = out := by simp only [spec_l29Recs, hX1, cond_true, cond_false]
    refine WX.ret ttOk rfl ?_
    intro w1 G bs hI hΓ
    rw [hP1]
    exact Post.of [17] (pout, cout) hI hΓ rfl rfl rfl (okl_mk (by omega) v2 : GoT.ok n (out : List Record))
end Go.Proofs.Ytdkhklhnipiheaa
