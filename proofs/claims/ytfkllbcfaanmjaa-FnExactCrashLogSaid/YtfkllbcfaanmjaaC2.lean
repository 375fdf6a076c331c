/-
  That functions of the program compute what the Lean functions do. No condition but what each says. Written by a program (gen2.py).
-/
import Derived.Test.YtfkllbcfaanmjaaC1
import Derived.Test.YtfkllbcfaanmjaaP2
namespace Go.Proofs.Ytfkllbcfaanmjaa
open Go.Stp
set_option linter.unusedVariables false
set_option linter.unusedSimpArgs false
theorem f124 (w : World) (n : Nat) (hn : n + 0 ≤ 9) (s : (List Str)) (ps : Option Addr) (cs : Nat) (hps : RdSl (hp w) ps cs s) (hoks : GoT.ok n s) :
    Does Try.prog 124 #[.slice ps ((s).length) cs] w emp (Post w emp (fun x : GoT.X ((List Str)) => (GoT.sh (s : (List Str)) x).headD undef) (fun x => GoT.oa (s : (List Str)) x) (GoT.ok n (s : (List Str)))) := by
  have hbP := bd_pos n
  have hbB := bd_big (n := n) (by omega)
  refine WX.enter (tt := tt) (Γ := [(0, MF.rs .stb ps cs s)]) Try.func124 rfl (by kernel_rfl) rfl (allS_cons rfl hps allS_nil) ?_
  refine WX.run ttOk rfl ?_
  refine WX.see rfl rfl rfl (fun _ hΓ => looks_nil ttOk rfl rfl rfl rfl) ?_
  refine WX.cases 4 rfl (fun hp1 => ?_) (fun hp1 => ?_)
  · skip
    obtain rfl : ps = none := by simpa using hp1
    refine WX.know (fun G hΓ => rdSl_none (hΓ.get 0 rfl)) ?_
    intro ln1
    refine WX.run ttOk rfl ?_
    subst ln1
    refine WX.free 1 (MF.os none 0 ([] : List Str)) (owSl_nil _ _) ?_
    refine WX.ret ttOk rfl ?_
    intro w1 G bs hI hΓ
    exact Post.of [1] (none, 0) hI hΓ rfl rfl rfl (by assumption)
  · skip
    refine WX.run ttOk rfl ?_
    refine WX.bld ttOk rfl rfl rfl rfl rfl rfl rfl ?_
    intro p1
    refine WX.run ttOk rfl ?_
    refine WX.free 2 (MF.ol [] ([] : List Str)) rfl ?_
    have r1 : (s).length ≤ bd n := (okl hoks).1
    refine WX.appG1 5 0 3 (s : List Str).length ttOk rfl rfl rfl rfl rfl rfl rfl rfl rfl rfl rfl rfl rfl (by simp) (by omega) (by omega) (fun _ _ _ => rfl) ?_
    intro ys1 p2 c1
    refine WX.know (fun G hΓ => (hΓ.get 3 rfl : RdL _ _ _).flat) ?_
    intro hf1
    refine WX.turn [2] 4 rfl (fun h hs => ol_flat hs hf1) (gs := [MF.ol ([] ++ ys1) (s : List Str)]) rfl ?_
    refine WX.run ttOk rfl ?_
    refine WX.seal 5 4 5 rfl rfl rfl rfl rfl ?_
    refine WX.ret ttOk rfl ?_
    intro w1 G bs hI hΓ
    exact Post.of [6] (p2, c1) hI hΓ rfl rfl rfl (by assumption)
theorem f154 (w : World) (n : Nat) (hn : n + 0 ≤ 9) (s : (List UInt8)) (ps : Option Addr) (cs : Nat) (hps : RdSl (hp w) ps cs s) (hoks : GoT.ok n s) :
    Does Try.prog 154 #[.slice ps ((s).length) cs] w emp (Post w emp (fun x : GoT.X ((List UInt8)) => (GoT.sh (s : (List UInt8)) x).headD undef) (fun x => GoT.oa (s : (List UInt8)) x) (GoT.ok n (s : (List UInt8)))) := by
  have hbP := bd_pos n
  have hbB := bd_big (n := n) (by omega)
  refine WX.enter (tt := tt) (Γ := [(0, MF.rs .stb ps cs s)]) Try.func154 rfl (by kernel_rfl) rfl (allS_cons rfl hps allS_nil) ?_
  refine WX.run ttOk rfl ?_
  refine WX.see rfl rfl rfl (fun _ hΓ => looks_nil ttOk rfl rfl rfl rfl) ?_
  refine WX.cases 4 rfl (fun hp1 => ?_) (fun hp1 => ?_)
  · skip
    obtain rfl : ps = none := by simpa using hp1
    refine WX.know (fun G hΓ => rdSl_none (hΓ.get 0 rfl)) ?_
    intro ln1
    refine WX.run ttOk rfl ?_
    subst ln1
    refine WX.free 1 (MF.os none 0 ([] : List UInt8)) (owSl_nil _ _) ?_
    refine WX.ret ttOk rfl ?_
    intro w1 G bs hI hΓ
    exact Post.of [1] (none, 0) hI hΓ rfl rfl rfl (by assumption)
  · skip
    refine WX.run ttOk rfl ?_
    refine WX.bld ttOk rfl rfl rfl rfl rfl rfl rfl ?_
    intro p1
    refine WX.run ttOk rfl ?_
    refine WX.free 2 (MF.ol [] ([] : List UInt8)) rfl ?_
    have r1 : (s).length ≤ bd n := (okl hoks).1
    refine WX.appG1 5 0 3 (s : List UInt8).length ttOk rfl rfl rfl rfl rfl rfl rfl rfl rfl rfl rfl rfl rfl (by simp) (by omega) (by omega) (fun _ _ _ => rfl) ?_
    intro ys1 p2 c1
    refine WX.know (fun G hΓ => (hΓ.get 3 rfl : RdL _ _ _).flat) ?_
    intro hf1
    refine WX.turn [2] 4 rfl (fun h hs => ol_flat hs hf1) (gs := [MF.ol ([] ++ ys1) (s : List UInt8)]) rfl ?_
    refine WX.run ttOk rfl ?_
    refine WX.seal 5 4 5 rfl rfl rfl rfl rfl ?_
    refine WX.ret ttOk rfl ?_
    intro w1 G bs hI hΓ
    exact Post.of [6] (p2, c1) hI hΓ rfl rfl rfl (by assumption)
theorem f75 (w : World) (n : Nat) (hn : n + 0 ≤ 9) (n_ : Name) (pn_ : Option Addr) (cn_ : Nat) (hpn_ : RdSl (hp w) pn_ cn_ n_.parts) (hokn_ : GoT.ok n n_) :
    Does Try.prog 75 #[.agg #[.slice pn_ ((n_.parts).length) cn_]] w emp (Post w emp (fun x : GoT.X (Name) => .agg ⟨GoT.sh ((impl_copyName n_) : Name) x⟩) (fun x => GoT.oa ((impl_copyName n_) : Name) x) (GoT.ok n ((impl_copyName n_) : Name))) := by
  have hbP := bd_pos n
  have hbB := bd_big (n := n) (by omega)
  refine WX.enter (tt := tt) (Γ := [(0, MF.rs .stb pn_ cn_ n_.parts)]) Try.func75 rfl (by kernel_rfl) rfl (allS_cons rfl hpn_ allS_nil) ?_
  refine WX.run ttOk rfl ?_
  refine WX.callF 1 (fun _ _ h => GoT.ow_rd h) (fun _ f hf => GoT.fak f hf) rfl rfl rfl rfl rfl (fun _ => rfl) rfl (fun w G bs hI hΓ => f124 w n (by omega) n_.parts pn_ cn_ (hΓ.get 0 rfl) (ok_Name hokn_)) (fun _ => rfl) (fun _ => rfl) ?_
  rintro ⟨p1, c1⟩ hq1
  refine WX.run ttOk rfl ?_
  have hP1 : impl_copyName n_ = n_ := by simp only [impl_copyName, cond_true, cond_false]
  refine WX.ret ttOk rfl ?_
  intro w1 G bs hI hΓ
  rw [hP1]
  exact Post.of [2] (p1, c1) hI hΓ rfl rfl rfl hq1
theorem f73 (w : World) (n : Nat) (hn : n + 0 ≤ 9) (n_ : Name) (pn_ : Option Addr) (cn_ : Nat) (hpn_ : RdSl (hp w) pn_ cn_ n_.parts) (hokn_ : GoT.ok n n_) :
    Does Try.prog 73 #[.agg #[.slice pn_ ((n_.parts).length) cn_]] w emp (Post w emp (fun x : GoT.X (Name) => .agg ⟨GoT.sh ((spec_l4Copy n_) : Name) x⟩) (fun x => GoT.oa ((spec_l4Copy n_) : Name) x) (GoT.ok n ((spec_l4Copy n_) : Name))) := by
  have hbP := bd_pos n
  have hbB := bd_big (n := n) (by omega)
  refine WX.enter (tt := tt) (Γ := [(0, MF.rs .stb pn_ cn_ n_.parts)]) Try.func73 rfl (by kernel_rfl) rfl (allS_cons rfl hpn_ allS_nil) ?_
  refine WX.run ttOk rfl ?_
  refine WX.bld ttOk rfl rfl rfl rfl rfl rfl rfl ?_
  intro p1
  refine WX.run ttOk rfl ?_
  refine WX.free 1 (MF.ol [] ([] : List Str)) rfl ?_
  have r1 : (n_.parts).length ≤ bd n := (okl (ok_Name hokn_)).1
  refine WX.appG1 3 0 2 (n_.parts : List Str).length ttOk rfl rfl rfl rfl rfl rfl rfl rfl rfl rfl rfl rfl rfl (by simp) (by omega) (by omega) (fun _ _ _ => rfl) ?_
  intro ys1 p2 c1
  refine WX.know (fun G hΓ => (hΓ.get 2 rfl : RdL _ _ _).flat) ?_
  intro hf1
  refine WX.turn [1] 3 rfl (fun h hs => ol_flat hs hf1) (gs := [MF.ol ([] ++ ys1) (n_.parts : List Str)]) rfl ?_
  refine WX.run ttOk rfl ?_
  refine WX.seal 3 3 4 rfl rfl rfl rfl rfl ?_
  have hP1 : spec_l4Copy n_ = n_ := by simp only [spec_l4Copy, cond_true, cond_false]
  refine WX.ret ttOk rfl ?_
  intro w1 G bs hI hΓ
  rw [hP1]
  exact Post.of [5] (p2, c1) hI hΓ rfl rfl rfl (okl_mk (by omega) (okl (ok_Name hokn_)).2 : GoT.ok n (n_.parts : List Str))
theorem f148 (w : World) (n : Nat) (hn : n + 0 ≤ 9) (x_ : DataP) (px_Name : Option Addr) (cx_Name : Nat) (hpx_Name : RdSl (hp w) px_Name cx_Name x_.name.parts) (px_Content : Option Addr) (cx_Content : Nat) (hpx_Content : RdSl (hp w) px_Content cx_Content x_.content) (px_KeyName : Option Addr) (cx_KeyName : Nat) (hpx_KeyName : RdSl (hp w) px_KeyName cx_KeyName x_.keyName.parts) (hokx_ : GoT.ok n x_) :
    Does Try.prog 148 #[.agg #[.slice px_Name ((x_.name.parts).length) cx_Name, .slice px_Content ((x_.content).length) cx_Content, .slice px_KeyName ((x_.keyName.parts).length) cx_KeyName, .int .i64 (x_.freshUntil), .int .i64 (x_.signature)]] w emp (Post w emp (fun x : GoT.X (DataP) => .agg ⟨GoT.sh ((impl_copyData x_) : DataP) x⟩) (fun x => GoT.oa ((impl_copyData x_) : DataP) x) (GoT.ok n ((impl_copyData x_) : DataP))) := by
  have hbP := bd_pos n
  have hbB := bd_big (n := n) (by omega)
  refine WX.enter (tt := tt) (Γ := [(0, MF.rs .stb px_Name cx_Name x_.name.parts), (1, MF.rs .stb px_Content cx_Content x_.content), (2, MF.rs .stb px_KeyName cx_KeyName x_.keyName.parts)]) Try.func148 rfl (by kernel_rfl) rfl (allS_cons rfl hpx_Name (allS_cons rfl hpx_Content (allS_cons rfl hpx_KeyName allS_nil))) ?_
  refine WX.run ttOk rfl ?_
  refine WX.callF 3 (fun _ _ h => GoT.ow_rd h) (fun _ f hf => GoT.fak f hf) rfl rfl rfl rfl rfl (fun _ => rfl) rfl (fun w G bs hI hΓ => f75 w n (by omega) x_.name px_Name cx_Name (hΓ.get 0 rfl) ((ok_DataP hokx_).1)) (fun _ => rfl) (fun _ => rfl) ?_
  rintro ⟨p1, c1⟩ hq1
  refine WX.run ttOk rfl ?_
  refine WX.callF 5 (fun _ _ h => GoT.ow_rd h) (fun _ f hf => GoT.fak f hf) rfl rfl rfl rfl rfl (fun _ => rfl) rfl (fun w G bs hI hΓ => f154 w n (by omega) x_.content px_Content cx_Content (hΓ.get 1 rfl) ((ok_DataP hokx_).2.1)) (fun _ => rfl) (fun _ => rfl) ?_
  rintro ⟨p2, c2⟩ hq2
  refine WX.run ttOk rfl ?_
  refine WX.callF 7 (fun _ _ h => GoT.ow_rd h) (fun _ f hf => GoT.fak f hf) rfl rfl rfl rfl rfl (fun _ => rfl) rfl (fun w G bs hI hΓ => f75 w n (by omega) x_.keyName px_KeyName cx_KeyName (hΓ.get 2 rfl) ((ok_DataP hokx_).2.2.1)) (fun _ => rfl) (fun _ => rfl) ?_
  rintro ⟨p3, c3⟩ hq3
  refine WX.run ttOk rfl ?_
  have hP1 : impl_copyData x_ = (DataP.mk (impl_copyName x_.name) x_.content (impl_copyName x_.keyName) x_.freshUntil x_.signature) := by simp only [impl_copyData, cond_true, cond_false]
  refine WX.ret ttOk rfl ?_
  intro w1 G bs hI hΓ
  rw [hP1]
  exact Post.of [4, 6, 8] ((p1, c1), (p2, c2), (p3, c3), (), ()) hI hΓ rfl rfl rfl (And.intro hq1 (And.intro hq2 (And.intro hq3 (And.intro (ok_DataP hokx_).2.2.2.1 (ok_DataP hokx_).2.2.2.2))))
theorem f147 (w : World) (n : Nat) (hn : n + 0 ≤ 9) (x_ : DataP) (px_Name : Option Addr) (cx_Name : Nat) (hpx_Name : RdSl (hp w) px_Name cx_Name x_.name.parts) (px_Content : Option Addr) (cx_Content : Nat) (hpx_Content : RdSl (hp w) px_Content cx_Content x_.content) (px_KeyName : Option Addr) (cx_KeyName : Nat) (hpx_KeyName : RdSl (hp w) px_KeyName cx_KeyName x_.keyName.parts) (hokx_ : GoT.ok n x_) :
    Does Try.prog 147 #[.agg #[.slice px_Name ((x_.name.parts).length) cx_Name, .slice px_Content ((x_.content).length) cx_Content, .slice px_KeyName ((x_.keyName.parts).length) cx_KeyName, .int .i64 (x_.freshUntil), .int .i64 (x_.signature)]] w emp (Post w emp (fun x : GoT.X (DataP) => .agg ⟨GoT.sh ((spec_l8Copy x_) : DataP) x⟩) (fun x => GoT.oa ((spec_l8Copy x_) : DataP) x) (GoT.ok n ((spec_l8Copy x_) : DataP))) := by
  have hbP := bd_pos n
  have hbB := bd_big (n := n) (by omega)
  refine WX.enter (tt := tt) (Γ := [(0, MF.rs .stb px_Name cx_Name x_.name.parts), (1, MF.rs .stb px_Content cx_Content x_.content), (2, MF.rs .stb px_KeyName cx_KeyName x_.keyName.parts)]) Try.func147 rfl (by kernel_rfl) rfl (allS_cons rfl hpx_Name (allS_cons rfl hpx_Content (allS_cons rfl hpx_KeyName allS_nil))) ?_
  refine WX.run ttOk rfl ?_
  refine WX.callF 3 (fun _ _ h => GoT.ow_rd h) (fun _ f hf => GoT.fak f hf) rfl rfl rfl rfl rfl (fun _ => rfl) rfl (fun w G bs hI hΓ => f73 w n (by omega) x_.name px_Name cx_Name (hΓ.get 0 rfl) ((ok_DataP hokx_).1)) (fun _ => rfl) (fun _ => rfl) ?_
  rintro ⟨p1, c1⟩ hq1
  refine WX.run ttOk rfl ?_
  refine WX.bld ttOk rfl rfl rfl rfl rfl rfl rfl ?_
  intro p2
  refine WX.run ttOk rfl ?_
  refine WX.free 5 (MF.ol [] ([] : List UInt8)) rfl ?_
  have r1 : (x_.content).length ≤ bd n := (okl (ok_DataP hokx_).2.1).1
  refine WX.appG1 9 1 6 (x_.content : List UInt8).length ttOk rfl rfl rfl rfl rfl rfl rfl rfl rfl rfl rfl rfl rfl (by simp) (by omega) (by omega) (fun _ _ _ => rfl) ?_
  intro ys1 p3 c2
  refine WX.know (fun G hΓ => (hΓ.get 6 rfl : RdL _ _ _).flat) ?_
  intro hf1
  refine WX.turn [5] 7 rfl (fun h hs => ol_flat hs hf1) (gs := [MF.ol ([] ++ ys1) (x_.content : List UInt8)]) rfl ?_
  refine WX.run ttOk rfl ?_
  refine WX.callF 8 (fun _ _ h => GoT.ow_rd h) (fun _ f hf => GoT.fak f hf) rfl rfl rfl rfl rfl (fun _ => rfl) rfl (fun w G bs hI hΓ => f73 w n (by omega) x_.keyName px_KeyName cx_KeyName (hΓ.get 2 rfl) ((ok_DataP hokx_).2.2.1)) (fun _ => rfl) (fun _ => rfl) ?_
  rintro ⟨p4, c3⟩ hq2
  refine WX.run ttOk rfl ?_
  refine WX.seal 9 7 10 rfl rfl rfl rfl rfl ?_
  have hP1 : spec_l8Copy x_ = (DataP.mk (spec_l4Copy x_.name) x_.content (spec_l4Copy x_.keyName) x_.freshUntil x_.signature) := by simp only [spec_l8Copy, cond_true, cond_false]
  refine WX.ret ttOk rfl ?_
  intro w1 G bs hI hΓ
  rw [hP1]
  exact Post.of [4, 11, 9] ((p1, c1), (p3, c2), (p4, c3), (), ()) hI hΓ rfl rfl rfl (And.intro hq1 (And.intro (okl_mk (by omega) (okl (ok_DataP hokx_).2.1).2 : GoT.ok n (x_.content : List UInt8)) (And.intro hq2 (And.intro (ok_DataP hokx_).2.2.2.1 (ok_DataP hokx_).2.2.2.2))))
theorem f119 (w : World) (n : Nat) (hn : n + 0 ≤ 9) (a : Consumer) (paName : Option Addr) (caName : Nat) (hpaName : RdSl (hp w) paName caName a.name.parts) (paDataName : Option Addr) (caDataName : Nat) (hpaDataName : RdSl (hp w) paDataName caDataName a.data.name.parts) (paDataContent : Option Addr) (caDataContent : Nat) (hpaDataContent : RdSl (hp w) paDataContent caDataContent a.data.content) (paDataKeyName : Option Addr) (caDataKeyName : Nat) (hpaDataKeyName : RdSl (hp w) paDataKeyName caDataKeyName a.data.keyName.parts) (hoka : GoT.ok n a) :
    Does Try.prog 119 #[.agg #[.int .i64 (a.node), .int .i64 (a.index), .slice paName ((a.name.parts).length) caName, .int .i64 (a.attempts), .int .i64 (a.wait), .bool a.satisfied, .slice paDataName ((a.data.name.parts).length) caDataName, .slice paDataContent ((a.data.content).length) caDataContent, .slice paDataKeyName ((a.data.keyName.parts).length) caDataKeyName, .int .i64 (a.data.freshUntil), .int .i64 (a.data.signature)]] w emp (Post w emp (fun x : GoT.X (Consumer) => .agg ⟨GoT.sh ((impl_copyConsumer a) : Consumer) x⟩) (fun x => GoT.oa ((impl_copyConsumer a) : Consumer) x) (GoT.ok n ((impl_copyConsumer a) : Consumer))) := by
  have hbP := bd_pos n
  have hbB := bd_big (n := n) (by omega)
  refine WX.enter (tt := tt) (Γ := [(0, MF.rs .stb paName caName a.name.parts), (1, MF.rs .stb paDataName caDataName a.data.name.parts), (2, MF.rs .stb paDataContent caDataContent a.data.content), (3, MF.rs .stb paDataKeyName caDataKeyName a.data.keyName.parts)]) Try.func119 rfl (by kernel_rfl) rfl (allS_cons rfl hpaName (allS_cons rfl hpaDataName (allS_cons rfl hpaDataContent (allS_cons rfl hpaDataKeyName allS_nil)))) ?_
  refine WX.run ttOk rfl ?_
  refine WX.callF 4 (fun _ _ h => GoT.ow_rd h) (fun _ f hf => GoT.fak f hf) rfl rfl rfl rfl rfl (fun _ => rfl) rfl (fun w G bs hI hΓ => f75 w n (by omega) a.name paName caName (hΓ.get 0 rfl) ((ok_Consumer hoka).2.2.1)) (fun _ => rfl) (fun _ => rfl) ?_
  rintro ⟨p1, c1⟩ hq1
  refine WX.run ttOk rfl ?_
  refine WX.callF 6 (fun _ _ h => GoT.ow_rd h) (fun _ f hf => GoT.fak f hf) rfl rfl rfl rfl rfl (fun _ => rfl) rfl (fun w G bs hI hΓ => f148 w n (by omega) a.data paDataName caDataName (hΓ.get 1 rfl) paDataContent caDataContent (hΓ.get 2 rfl) paDataKeyName caDataKeyName (hΓ.get 3 rfl) ((ok_Consumer hoka).2.2.2.2.2.2)) (fun _ => rfl) (fun _ => rfl) ?_
  rintro ⟨⟨p2, c2⟩, ⟨p3, c3⟩, ⟨p4, c4⟩, ⟨⟩, ⟨⟩⟩ hq2
  refine WX.run ttOk rfl ?_
  have hP1 : impl_copyConsumer a = (Consumer.mk a.node a.index (impl_copyName a.name) a.attempts a.wait a.satisfied (impl_copyData a.data)) := by simp only [impl_copyConsumer, cond_true, cond_false]
  refine WX.ret ttOk rfl ?_
  intro w1 G bs hI hΓ
  rw [hP1]
  exact Post.of [5, 9, 10, 11] ((), (), (p1, c1), (), (), (), ((p2, c2), (p3, c3), (p4, c4), (), ())) hI hΓ rfl rfl rfl (And.intro (ok_Consumer hoka).1 (And.intro (ok_Consumer hoka).2.1 (And.intro hq1 (And.intro (ok_Consumer hoka).2.2.2.1 (And.intro (ok_Consumer hoka).2.2.2.2.1 (And.intro trivial hq2))))))
theorem f117 (w : World) (n : Nat) (hn : n + 0 ≤ 9) (a : Consumer) (paName : Option Addr) (caName : Nat) (hpaName : RdSl (hp w) paName caName a.name.parts) (paDataName : Option Addr) (caDataName : Nat) (hpaDataName : RdSl (hp w) paDataName caDataName a.data.name.parts) (paDataContent : Option Addr) (caDataContent : Nat) (hpaDataContent : RdSl (hp w) paDataContent caDataContent a.data.content) (paDataKeyName : Option Addr) (caDataKeyName : Nat) (hpaDataKeyName : RdSl (hp w) paDataKeyName caDataKeyName a.data.keyName.parts) (hoka : GoT.ok n a) :
    Does Try.prog 117 #[.agg #[.int .i64 (a.node), .int .i64 (a.index), .slice paName ((a.name.parts).length) caName, .int .i64 (a.attempts), .int .i64 (a.wait), .bool a.satisfied, .slice paDataName ((a.data.name.parts).length) caDataName, .slice paDataContent ((a.data.content).length) caDataContent, .slice paDataKeyName ((a.data.keyName.parts).length) caDataKeyName, .int .i64 (a.data.freshUntil), .int .i64 (a.data.signature)]] w emp (Post w emp (fun x : GoT.X (Consumer) => .agg ⟨GoT.sh ((spec_l31Copy a) : Consumer) x⟩) (fun x => GoT.oa ((spec_l31Copy a) : Consumer) x) (GoT.ok n ((spec_l31Copy a) : Consumer))) := by
  have hbP := bd_pos n
  have hbB := bd_big (n := n) (by omega)
  refine WX.enter (tt := tt) (Γ := [(0, MF.rs .stb paName caName a.name.parts), (1, MF.rs .stb paDataName caDataName a.data.name.parts), (2, MF.rs .stb paDataContent caDataContent a.data.content), (3, MF.rs .stb paDataKeyName caDataKeyName a.data.keyName.parts)]) Try.func117 rfl (by kernel_rfl) rfl (allS_cons rfl hpaName (allS_cons rfl hpaDataName (allS_cons rfl hpaDataContent (allS_cons rfl hpaDataKeyName allS_nil)))) ?_
  refine WX.run ttOk rfl ?_
  refine WX.callF 4 (fun _ _ h => GoT.ow_rd h) (fun _ f hf => GoT.fak f hf) rfl rfl rfl rfl rfl (fun _ => rfl) rfl (fun w G bs hI hΓ => f73 w n (by omega) a.name paName caName (hΓ.get 0 rfl) ((ok_Consumer hoka).2.2.1)) (fun _ => rfl) (fun _ => rfl) ?_
  rintro ⟨p1, c1⟩ hq1
  refine WX.run ttOk rfl ?_
  refine WX.callF 6 (fun _ _ h => GoT.ow_rd h) (fun _ f hf => GoT.fak f hf) rfl rfl rfl rfl rfl (fun _ => rfl) rfl (fun w G bs hI hΓ => f147 w n (by omega) a.data paDataName caDataName (hΓ.get 1 rfl) paDataContent caDataContent (hΓ.get 2 rfl) paDataKeyName caDataKeyName (hΓ.get 3 rfl) ((ok_Consumer hoka).2.2.2.2.2.2)) (fun _ => rfl) (fun _ => rfl) ?_
  rintro ⟨⟨p2, c2⟩, ⟨p3, c3⟩, ⟨p4, c4⟩, ⟨⟩, ⟨⟩⟩ hq2
  refine WX.run ttOk rfl ?_
  have hP1 : spec_l31Copy a = (Consumer.mk a.node a.index (spec_l4Copy a.name) a.attempts a.wait a.satisfied (spec_l8Copy a.data)) := by simp only [spec_l31Copy, cond_true, cond_false]
  refine WX.ret ttOk rfl ?_
  intro w1 G bs hI hΓ
  rw [hP1]
  exact Post.of [5, 9, 10, 11] ((), (), (p1, c1), (), (), (), ((p2, c2), (p3, c3), (p4, c4), (), ())) hI hΓ rfl rfl rfl (And.intro (ok_Consumer hoka).1 (And.intro (ok_Consumer hoka).2.1 (And.intro hq1 (And.intro (ok_Consumer hoka).2.2.2.1 (And.intro (ok_Consumer hoka).2.2.2.2.1 (And.intro trivial hq2))))))
theorem f18 (w : World) (n : Nat) (hn : n + 0 ≤ 9) (node : Int) (i : Int) (n_ : Name) (pn_ : Option Addr) (cn_ : Nat) (hpn_ : RdSl (hp w) pn_ cn_ n_.parts) (hoknode : GoT.ok n node) (hoki : GoT.ok n i) (hokn_ : GoT.ok n n_) :
    Does Try.prog 18 #[.int .i64 (node), .int .i64 (i), .agg #[.slice pn_ ((n_.parts).length) cn_]] w emp (Post w emp (fun x : GoT.X (Consumer) => .agg ⟨GoT.sh ((impl_NewConsumer node i n_) : Consumer) x⟩) (fun x => GoT.oa ((impl_NewConsumer node i n_) : Consumer) x) (GoT.ok n ((impl_NewConsumer node i n_) : Consumer))) := by
  have hbP := bd_pos n
  have hbB := bd_big (n := n) (by omega)
  refine WX.enter (tt := tt) (Γ := [(0, MF.rs .stb pn_ cn_ n_.parts)]) Try.func18 rfl (by kernel_rfl) rfl (allS_cons rfl hpn_ allS_nil) ?_
  refine WX.run ttOk rfl ?_
  refine WX.callF 1 (fun _ _ h => GoT.ow_rd h) (fun _ f hf => GoT.fak f hf) rfl rfl rfl rfl rfl (fun _ => rfl) rfl (fun w G bs hI hΓ => f75 w n (by omega) n_ pn_ cn_ (hΓ.get 0 rfl) hokn_) (fun _ => rfl) (fun _ => rfl) ?_
  rintro ⟨p1, c1⟩ hq1
  refine WX.run ttOk rfl ?_
  refine WX.free 3 (MF.os none 0 ([] : List Str)) (owSl_nil _ _) ?_
  refine WX.free 4 (MF.os none 0 ([] : List UInt8)) (owSl_nil _ _) ?_
  refine WX.free 5 (MF.os none 0 ([] : List Str)) (owSl_nil _ _) ?_
  have hP1 : impl_NewConsumer node i n_ = (Consumer.mk node i (impl_copyName n_) 0 0 false (DataP.mk (Name.mk ([])) ([]) (Name.mk ([])) 0 0)) := by simp only [impl_NewConsumer, cond_true, cond_false]
  refine WX.ret ttOk rfl ?_
  intro w1 G bs hI hΓ
  rw [hP1]
  exact Post.of [2, 3, 4, 5] ((), (), (p1, c1), (), (), (), ((none, 0), (none, 0), (none, 0), (), ())) hI hΓ rfl rfl rfl (And.intro hoknode (And.intro hoki (And.intro hq1 (And.intro (show I64 0 from (by unfold I64; omega)) (And.intro (show I64 0 from (by unfold I64; omega)) (And.intro trivial (And.intro (ok_nil (α := Str)) (And.intro (ok_nil (α := UInt8)) (And.intro (ok_nil (α := Str)) (And.intro (show I64 0 from (by unfold I64; omega)) (show I64 0 from (by unfold I64; omega))))))))))))
theorem f16 (w : World) (n : Nat) (hn : n + 0 ≤ 9) (node : Int) (i : Int) (n_ : Name) (pn_ : Option Addr) (cn_ : Nat) (hpn_ : RdSl (hp w) pn_ cn_ n_.parts) (hoknode : GoT.ok n node) (hoki : GoT.ok n i) (hokn_ : GoT.ok n n_) :
    Does Try.prog 16 #[.int .i64 (node), .int .i64 (i), .agg #[.slice pn_ ((n_.parts).length) cn_]] w emp (Post w emp (fun x : GoT.X (Consumer) => .agg ⟨GoT.sh ((spec_NewConsumer node i n_) : Consumer) x⟩) (fun x => GoT.oa ((spec_NewConsumer node i n_) : Consumer) x) (GoT.ok n ((spec_NewConsumer node i n_) : Consumer))) := by
  have hbP := bd_pos n
  have hbB := bd_big (n := n) (by omega)
  refine WX.enter (tt := tt) (Γ := [(0, MF.rs .stb pn_ cn_ n_.parts)]) Try.func16 rfl (by kernel_rfl) rfl (allS_cons rfl hpn_ allS_nil) ?_
  refine WX.run ttOk rfl ?_
  refine WX.callF 1 (fun _ _ h => GoT.ow_rd h) (fun _ f hf => GoT.fak f hf) rfl rfl rfl rfl rfl (fun _ => rfl) rfl (fun w G bs hI hΓ => f73 w n (by omega) n_ pn_ cn_ (hΓ.get 0 rfl) hokn_) (fun _ => rfl) (fun _ => rfl) ?_
  rintro ⟨p1, c1⟩ hq1
  refine WX.run ttOk rfl ?_
  refine WX.free 3 (MF.os none 0 ([] : List Str)) (owSl_nil _ _) ?_
  refine WX.free 4 (MF.os none 0 ([] : List UInt8)) (owSl_nil _ _) ?_
  refine WX.free 5 (MF.os none 0 ([] : List Str)) (owSl_nil _ _) ?_
  have hP1 : spec_NewConsumer node i n_ = (Consumer.mk node i (spec_l4Copy n_) 0 0 false (DataP.mk (Name.mk ([])) ([]) (Name.mk ([])) 0 0)) := by simp only [spec_NewConsumer, cond_true, cond_false]
  refine WX.ret ttOk rfl ?_
  intro w1 G bs hI hΓ
  rw [hP1]
  exact Post.of [2, 3, 4, 5] ((), (), (p1, c1), (), (), (), ((none, 0), (none, 0), (none, 0), (), ())) hI hΓ rfl rfl rfl (And.intro hoknode (And.intro hoki (And.intro hq1 (And.intro (show I64 0 from (by unfold I64; omega)) (And.intro (show I64 0 from (by unfold I64; omega)) (And.intro trivial (And.intro (ok_nil (α := Str)) (And.intro (ok_nil (α := UInt8)) (And.intro (ok_nil (α := Str)) (And.intro (show I64 0 from (by unfold I64; omega)) (show I64 0 from (by unfold I64; omega))))))))))))
theorem f44 (w : World) (n : Nat) (hn : n + 0 ≤ 9) (name : Name) (pname : Option Addr) (cname : Nat) (hpname : RdSl (hp w) pname cname name.parts) (hokname : GoT.ok n name) :
    Does Try.prog 44 #[.agg #[.slice pname ((name.parts).length) cname]] w emp (Post w emp (fun x : GoT.X (Member) => .agg ⟨GoT.sh ((impl_NewMember name) : Member) x⟩) (fun x => GoT.oa ((impl_NewMember name) : Member) x) (GoT.ok n ((impl_NewMember name) : Member))) := by
  have hbP := bd_pos n
  have hbB := bd_big (n := n) (by omega)
  refine WX.enter (tt := tt) (Γ := [(0, MF.rs .stb pname cname name.parts)]) Try.func44 rfl (by kernel_rfl) rfl (allS_cons rfl hpname allS_nil) ?_
  refine WX.run ttOk rfl ?_
  refine WX.callF 1 (fun _ _ h => GoT.ow_rd h) (fun _ f hf => GoT.fak f hf) rfl rfl rfl rfl rfl (fun _ => rfl) rfl (fun w G bs hI hΓ => f75 w n (by omega) name pname cname (hΓ.get 0 rfl) hokname) (fun _ => rfl) (fun _ => rfl) ?_
  rintro ⟨p1, c1⟩ hq1
  refine WX.run ttOk rfl ?_
  refine WX.free 3 (MF.os none 0 ([] : List TableEntry)) (owSl_nil _ _) ?_
  refine WX.free 4 (MF.os none 0 ([] : List Publication)) (owSl_nil _ _) ?_
  have hP1 : impl_NewMember name = (Member.mk (impl_copyName name) (StateVector.mk ([])) ([])) := by simp only [impl_NewMember, cond_true, cond_false]
  refine WX.ret ttOk rfl ?_
  intro w1 G bs hI hΓ
  rw [hP1]
  exact Post.of [2, 3, 4] ((p1, c1), (none, 0), (none, 0)) hI hΓ rfl rfl rfl (And.intro hq1 (And.intro (ok_nil (α := TableEntry)) (ok_nil (α := Publication))))
theorem f43 (w : World) (n : Nat) (hn : n + 0 ≤ 9) (me : Name) (pme : Option Addr) (cme : Nat) (hpme : RdSl (hp w) pme cme me.parts) (hokme : GoT.ok n me) :
    Does Try.prog 43 #[.agg #[.slice pme ((me.parts).length) cme]] w emp (Post w emp (fun x : GoT.X (Member) => .agg ⟨GoT.sh ((spec_NewMember me) : Member) x⟩) (fun x => GoT.oa ((spec_NewMember me) : Member) x) (GoT.ok n ((spec_NewMember me) : Member))) := by
  have hbP := bd_pos n
  have hbB := bd_big (n := n) (by omega)
  refine WX.enter (tt := tt) (Γ := [(0, MF.rs .stb pme cme me.parts)]) Try.func43 rfl (by kernel_rfl) rfl (allS_cons rfl hpme allS_nil) ?_
  refine WX.run ttOk rfl ?_
  refine WX.callF 1 (fun _ _ h => GoT.ow_rd h) (fun _ f hf => GoT.fak f hf) rfl rfl rfl rfl rfl (fun _ => rfl) rfl (fun w G bs hI hΓ => f73 w n (by omega) me pme cme (hΓ.get 0 rfl) hokme) (fun _ => rfl) (fun _ => rfl) ?_
  rintro ⟨p1, c1⟩ hq1
  refine WX.run ttOk rfl ?_
  refine WX.free 3 (MF.os none 0 ([] : List TableEntry)) (owSl_nil _ _) ?_
  refine WX.free 4 (MF.os none 0 ([] : List Publication)) (owSl_nil _ _) ?_
  have hP1 : spec_NewMember me = (Member.mk (spec_l4Copy me) (StateVector.mk ([])) ([])) := by simp only [spec_NewMember, cond_true, cond_false]
  refine WX.ret ttOk rfl ?_
  intro w1 G bs hI hΓ
  rw [hP1]
  exact Post.of [2, 3, 4] ((p1, c1), (none, 0), (none, 0)) hI hΓ rfl rfl rfl (And.intro hq1 (And.intro (ok_nil (α := TableEntry)) (ok_nil (α := Publication))))
theorem f25 (w : World) (n : Nat) (hn : n + 0 ≤ 9) (quota : Int) (hokquota : GoT.ok n quota) :
    Does Try.prog 25 #[.int .i64 (quota)] w emp (Post w emp (fun x : GoT.X (Repository) => .agg ⟨GoT.sh ((impl_NewRepository quota) : Repository) x⟩) (fun x => GoT.oa ((impl_NewRepository quota) : Repository) x) (GoT.ok n ((impl_NewRepository quota) : Repository))) := by
  have hbP := bd_pos n
  have hbB := bd_big (n := n) (by omega)
  refine WX.enter (tt := tt) (Γ := []) Try.func25 rfl (by kernel_rfl) rfl allS_nil ?_
  refine WX.run ttOk rfl ?_
  refine WX.callV rfl rfl rfl rfl rfl (fun _ => rfl) rfl (fun w G bs hI hΓ => f83 w n (by omega) quota 0 12 hokquota (show I64 0 from (by unfold I64; omega)) (show I64 12 from (by unfold I64; omega))) ?_
  intro hq1
  refine WX.run ttOk rfl ?_
  refine WX.cases 5 rfl (fun h1 => ?_) (fun h1 => ?_)
  · skip
    have h1d := (B.nt h1)
    refine WX.run ttOk rfl ?_
    refine WX.free 0 (MF.os none 0 ([] : List Record)) (owSl_nil _ _) ?_
    refine WX.free 1 (MF.os none 0 ([] : List Record)) (owSl_nil _ _) ?_
    have hP1 : impl_NewRepository quota = (Repository.mk (Log.mk ([]) ([])) 0) := by simp only [impl_NewRepository, h1, cond_true, cond_false]
    refine WX.ret ttOk rfl ?_
    intro w1 G bs hI hΓ
    rw [hP1]
    exact Post.of [0, 1] (((none, 0), (none, 0)), ()) hI hΓ rfl rfl rfl (And.intro (And.intro (ok_nil (α := Record)) (ok_nil (α := Record))) (show I64 0 from (by unfold I64; omega)))
  · skip
    have h1d := (B.nf h1)
    refine WX.run ttOk rfl ?_
    refine WX.free 2 (MF.os none 0 ([] : List Record)) (owSl_nil _ _) ?_
    refine WX.free 3 (MF.os none 0 ([] : List Record)) (owSl_nil _ _) ?_
    have hP2 : impl_NewRepository quota = (Repository.mk (Log.mk ([]) ([])) quota) := by simp only [impl_NewRepository, h1, cond_true, cond_false]
    refine WX.ret ttOk rfl ?_
    intro w1 G bs hI hΓ
    rw [hP2]
    exact Post.of [2, 3] (((none, 0), (none, 0)), ()) hI hΓ rfl rfl rfl (And.intro (And.intro (ok_nil (α := Record)) (ok_nil (α := Record))) hokquota)
theorem f24 (w : World) (n : Nat) (hn : n + 0 ≤ 9) (quota : Int) (hokquota : GoT.ok n quota) :
    Does Try.prog 24 #[.int .i64 (quota)] w emp (Post w emp (fun x : GoT.X (Repository) => .agg ⟨GoT.sh ((spec_NewRepository quota) : Repository) x⟩) (fun x => GoT.oa ((spec_NewRepository quota) : Repository) x) (GoT.ok n ((spec_NewRepository quota) : Repository))) := by
  have hbP := bd_pos n
  have hbB := bd_big (n := n) (by omega)
  refine WX.enter (tt := tt) (Γ := []) Try.func24 rfl (by kernel_rfl) rfl allS_nil ?_
  refine WX.run ttOk rfl ?_
  refine WX.callV rfl rfl rfl rfl rfl (fun _ => rfl) rfl (fun w G bs hI hΓ => f82 w n (by omega) quota 0 12 hokquota (show I64 0 from (by unfold I64; omega)) (show I64 12 from (by unfold I64; omega))) ?_
  intro hq1
  refine WX.run ttOk rfl ?_
  refine WX.cases 5 rfl (fun h1 => ?_) (fun h1 => ?_)
  · skip
    have h1d := (B.nt h1)
    refine WX.run ttOk rfl ?_
    refine WX.free 0 (MF.os none 0 ([] : List Record)) (owSl_nil _ _) ?_
    refine WX.free 1 (MF.os none 0 ([] : List Record)) (owSl_nil _ _) ?_
    have hP1 : spec_NewRepository quota = (Repository.mk (Log.mk ([]) ([])) 0) := by simp only [spec_NewRepository, h1, cond_true, cond_false]
    refine WX.ret ttOk rfl ?_
    intro w1 G bs hI hΓ
    rw [hP1]
    exact Post.of [0, 1] (((none, 0), (none, 0)), ()) hI hΓ rfl rfl rfl (And.intro (And.intro (ok_nil (α := Record)) (ok_nil (α := Record))) (show I64 0 from (by unfold I64; omega)))
  · skip
    have h1d := (B.nf h1)
    refine WX.run ttOk rfl ?_
    refine WX.free 2 (MF.os none 0 ([] : List Record)) (owSl_nil _ _) ?_
    refine WX.free 3 (MF.os none 0 ([] : List Record)) (owSl_nil _ _) ?_
    have hP2 : spec_NewRepository quota = (Repository.mk (Log.mk ([]) ([])) quota) := by simp only [spec_NewRepository, h1, cond_true, cond_false]
    refine WX.ret ttOk rfl ?_
    intro w1 G bs hI hΓ
    rw [hP2]
    exact Post.of [2, 3] (((none, 0), (none, 0)), ()) hI hΓ rfl rfl rfl (And.intro (And.intro (ok_nil (α := Record)) (ok_nil (α := Record))) hokquota)
theorem f123 (w : World) (n : Nat) (hn : n + 0 ≤ 9) (l : (List Record)) (pl : Option Addr) (cl : Nat) (hpl : RdSl (hp w) pl cl l) (hokl : GoT.ok n l) :
    Does Try.prog 123 #[.slice pl ((l).length) cl] w emp (Post w emp (fun x : GoT.X ((List Record)) => (GoT.sh ((impl_copyRecords l) : (List Record)) x).headD undef) (fun x => GoT.oa ((impl_copyRecords l) : (List Record)) x) (GoT.ok n ((impl_copyRecords l) : (List Record)))) := by
  have hbP := bd_pos n
  have hbB := bd_big (n := n) (by omega)
  refine WX.enter (tt := tt) (Γ := [(0, MF.rs .stb pl cl l)]) Try.func123 rfl (by kernel_rfl) rfl (allS_cons rfl hpl allS_nil) ?_
  refine WX.run ttOk rfl ?_
  refine WX.bld ttOk rfl rfl rfl rfl rfl rfl rfl ?_
  intro p1
  refine WX.run ttOk rfl ?_
  refine WX.free 1 (MF.ol [] ([] : List Record)) rfl ?_
  have r1 : (l).length ≤ bd n := (okl hokl).1
  refine WX.loop (ι := (Option Addr) × Nat × (List Value) × (List Record) × Nat) ⟨fun | (pout, cout, xsout, out, i) => (i ≤ (l).length) ∧ (∀ z_ ∈ out, GoT.ok n z_) ∧ (out.length ≤ i) ∧ (impl_copyRecords_L1 l ([] : List Record) = impl_copyRecords_L1 ((l).drop i) out), fun | (pout, cout, xsout, out, i) => (l).length - i, fun | (pout, cout, xsout, out, i) => [(3, .v (.slice pout ((out).length) cout)), (9, .v (.int .i64 (((i : Nat) : Int)))), (8, .v (.int .i64 ((((l).length : Nat) : Int)))), (7, .v (.slice pl ((l).length) cl))], fun | (pout, cout, xsout, out, i) => [], fun | (pout, cout, xsout, out, i) => [(6, ⟨6, pout, (out).length, cout, xsout⟩)], fun | (pout, cout, xsout, out, i) => [(0, MF.rs .stb pl cl l), (1, MF.ol xsout (out : List Record))]⟩ (p1, 0, [], ([] : List Record), 0) ⟨(Nat.zero_le _), (fun a ha => by cases ha), (by simp), rfl⟩
    (.cons rfl (.cons rfl (.cons rfl (.cons rfl (.nil))))) .nil (.cons rfl (.nil)) [0, 1] rfl ?_
  rintro ⟨pout, cout, xsout, out, i⟩ hpre
  have hpre_ : (i ≤ (l).length) ∧ (∀ z_ ∈ out, GoT.ok n z_) ∧ (out.length ≤ i) ∧ (impl_copyRecords_L1 l ([] : List Record) = impl_copyRecords_L1 ((l).drop i) out) := hpre
  clear hpre
  obtain ⟨v1, v2, v3, v4⟩ := hpre_
  refine WX.run ttOk rfl ?_
  refine WX.cases 10 rfl (fun h1 => ?_) (fun h1 => ?_)
  · skip
    have h1d := B.dt h1
    have e1i : i < (l).length := (by omega)
    obtain ⟨e1, e1h⟩ : ∃ e1, (l)[i]? = some e1 := ⟨_, List.getElem?_eq_getElem e1i⟩
    have ok1 : GoT.ok n e1 := (okl hokl).2 _ (List.mem_of_getElem? e1h)
    refine WX.run ttOk rfl ?_
    refine WX.idx 0 i ttOk rfl rfl rfl rfl rfl rfl rfl rfl rfl rfl e1i ?_
    rintro ad1 rfl
    refine WX.ldE 0 2 e1 ttOk rfl rfl rfl rfl rfl rfl rfl rfl e1h (fun _ => rfl) (fun _ => rfl) ?_
    rintro ⟨⟨⟩, ⟨⟨p2, c1⟩, ⟨p3, c2⟩, ⟨p4, c3⟩, ⟨⟩, ⟨⟩⟩⟩
    refine WX.run ttOk rfl ?_
    refine WX.draw [7, 8, 9] mixed ?_
    intro bs G0 hΓ0
    refine DX.takes (fuel := 5) ttOk [(0, true), (1, true), (2, false), (3, true), (4, false)] (by kernel_rfl) rfl ?_
    refine DX.callF 5 5 (fun _ _ h => GoT.ow_rd h) (fun _ f hf => GoT.fak f hf) rfl (by kernel_rfl) rfl rfl rfl rfl rfl rfl (fun _ => rfl) rfl (fun w G bs hI hΓ => f148 w n (by omega) e1.data p2 c1 (hΓ.get 2 rfl) p3 c2 (hΓ.get 3 rfl) p4 c3 (hΓ.get 4 rfl) ((ok_Record ok1).2)) (fun _ => rfl) (fun _ => rfl) ?_
    rintro ⟨⟨p5, c4⟩, ⟨p6, c5⟩, ⟨p7, c6⟩, ⟨⟩, ⟨⟩⟩ hq1
    refine DX.takes (fuel := 3) ttOk [(6, true)] (by kernel_rfl) rfl ?_
    refine DX.tail [7, 8, 9] rfl rfl (by kernel_rfl) ?_
    refine WX.bld ttOk rfl rfl rfl rfl rfl rfl rfl ?_
    intro p8
    refine WX.turn [8, 9, 10] 11 rfl (fun h hs => ol_one (α := Record) (a := (Record.mk e1.kind (impl_copyData e1.data))) (x := ((), ((p5, c4), (p6, c5), (p7, c6), (), ()))) hs) (gs := [MF.ol [.int .i64 (e1.kind), .slice p5 (((impl_copyData e1.data).name.parts).length) c4, .slice p6 (((impl_copyData e1.data).content).length) c5, .slice p7 (((impl_copyData e1.data).keyName.parts).length) c6, .int .i64 ((impl_copyData e1.data).freshUntil), .int .i64 ((impl_copyData e1.data).signature)] ([(Record.mk e1.kind (impl_copyData e1.data))] : List Record)]) rfl ?_
    have r2 : -9223372036854775808 ≤ e1.kind ∧ e1.kind ≤ 9223372036854775807 := (ok_Record ok1).1
    refine WX.appR1 6 20 ((out ++ [(Record.mk e1.kind (impl_copyData e1.data))]) : List Record).length ttOk rfl rfl rfl rfl rfl rfl rfl rfl rfl rfl rfl rfl rfl (by simp [Value.oneCell']) (by simp) (by simp; omega) (by simp; omega) (fun _ _ => rfl) ?_
    intro p9 c7
    refine WX.turn [1, 11] 12 rfl (fun h hs => ol_app hs) (gs := [MF.ol (xsout ++ [.int .i64 (e1.kind), .slice p5 (((impl_copyData e1.data).name.parts).length) c4, .slice p6 (((impl_copyData e1.data).content).length) c5, .slice p7 (((impl_copyData e1.data).keyName.parts).length) c6, .int .i64 ((impl_copyData e1.data).freshUntil), .int .i64 ((impl_copyData e1.data).signature)]) ((out ++ [(Record.mk e1.kind (impl_copyData e1.data))]) : List Record)]) rfl ?_
    refine WX.run ttOk rfl ?_
    refine WX.see rfl rfl rfl (fun _ hΓ => looks_arith rfl rfl rfl rfl (by unfold I64; omega)) ?_
    refine WX.run ttOk rfl ?_
    refine WX.turn [12] 1 rfl (fun _ h => h) rfl ?_
    exact WX.iter (p9, c7, (xsout ++ [.int .i64 (e1.kind), .slice p5 (((impl_copyData e1.data).name.parts).length) c4, .slice p6 (((impl_copyData e1.data).content).length) c5, .slice p7 (((impl_copyData e1.data).keyName.parts).length) c6, .int .i64 ((impl_copyData e1.data).freshUntil), .int .i64 ((impl_copyData e1.data).signature)]), ((out ++ [(Record.mk e1.kind (impl_copyData e1.data))]) : List Record), i + 1) ⟨(by omega), (all_app v2 (all_cons (α := Record) (And.intro (ok_Record ok1).1 hq1) (fun a ha => by cases ha))), (by simp; omega), (by rw [v4, drop_get e1h]; simp only [impl_copyRecords_L1, cond_true, cond_false])⟩ (by dsimp only; omega) (.cons rfl (.cons rfl (.cons rfl (.cons rfl (.nil))))) .nil (.cons rfl (.nil)) [0, 1] rfl
  · skip
    have h1d := B.df h1
    refine WX.run ttOk rfl ?_
    have hX1 : impl_copyRecords_L1 l ([] : List Record) = ((out) : List Record) := by rw [v4, List.drop_eq_nil_of_le (show (l).length ≤ i by omega)]; simp only [impl_copyRecords_L1, cond_true, cond_false]
    refine WX.seal 6 1 13 rfl rfl rfl rfl rfl ?_
    have hP1 : impl_copyRecords l = out := by simp only [impl_copyRecords, hX1, cond_true, cond_false]
    refine WX.ret ttOk rfl ?_
    intro w1 G bs hI hΓ
    rw [hP1]
    exact Post.of [14] (pout, cout) hI hΓ rfl rfl rfl (okl_mk (by omega) v2 : GoT.ok n (out : List Record))
theorem f113 (w : World) (n : Nat) (hn : n + 0 ≤ 9) (l : (List Record)) (pl : Option Addr) (cl : Nat) (hpl : RdSl (hp w) pl cl l) (hokl : GoT.ok n l) :
    Does Try.prog 113 #[.slice pl ((l).length) cl] w emp (Post w emp (fun x : GoT.X ((List Record)) => (GoT.sh ((spec_l29Recs l) : (List Record)) x).headD undef) (fun x => GoT.oa ((spec_l29Recs l) : (List Record)) x) (GoT.ok n ((spec_l29Recs l) : (List Record)))) := by
  have hbP := bd_pos n
  have hbB := bd_big (n := n) (by omega)
  refine WX.enter (tt := tt) (Γ := [(0, MF.rs .stb pl cl l)]) Try.func113 rfl (by kernel_rfl) rfl (allS_cons rfl hpl allS_nil) ?_
  refine WX.run ttOk rfl ?_
  refine WX.bld ttOk rfl rfl rfl rfl rfl rfl rfl ?_
  intro p1
  refine WX.run ttOk rfl ?_
  refine WX.free 1 (MF.ol [] ([] : List Record)) rfl ?_
  have r1 : (l).length ≤ bd n := (okl hokl).1
  refine WX.loop (ι := (Option Addr) × Nat × (List Value) × (List Record) × Nat) ⟨fun | (pout, cout, xsout, out, i) => (i ≤ (l).length) ∧ (∀ z_ ∈ out, GoT.ok n z_) ∧ (out.length ≤ i) ∧ (spec_l29Recs_L1 l ([] : List Record) = spec_l29Recs_L1 ((l).drop i) out), fun | (pout, cout, xsout, out, i) => (l).length - i, fun | (pout, cout, xsout, out, i) => [(3, .v (.slice pout ((out).length) cout)), (4, .v (.int .i64 (((i : Nat) : Int)))), (0, .v (.slice pl ((l).length) cl))], fun | (pout, cout, xsout, out, i) => [], fun | (pout, cout, xsout, out, i) => [(6, ⟨6, pout, (out).length, cout, xsout⟩)], fun | (pout, cout, xsout, out, i) => [(0, MF.rs .stb pl cl l), (1, MF.ol xsout (out : List Record))]⟩ (p1, 0, [], ([] : List Record), 0) ⟨(Nat.zero_le _), (fun a ha => by cases ha), (by simp), rfl⟩
    (.cons rfl (.cons rfl (.cons rfl (.nil)))) .nil (.cons rfl (.nil)) [0, 1] rfl ?_
  rintro ⟨pout, cout, xsout, out, i⟩ hpre
  have hpre_ : (i ≤ (l).length) ∧ (∀ z_ ∈ out, GoT.ok n z_) ∧ (out.length ≤ i) ∧ (spec_l29Recs_L1 l ([] : List Record) = spec_l29Recs_L1 ((l).drop i) out) := hpre
  clear hpre
  obtain ⟨v1, v2, v3, v4⟩ := hpre_
  refine WX.run ttOk rfl ?_
  refine WX.cases 10 rfl (fun h1 => ?_) (fun h1 => ?_)
  · skip
    have h1d := B.dt h1
    have e1i : i < (l).length := (by omega)
    obtain ⟨e1, e1h⟩ : ∃ e1, (l)[i]? = some e1 := ⟨_, List.getElem?_eq_getElem e1i⟩
    have ok1 : GoT.ok n e1 := (okl hokl).2 _ (List.mem_of_getElem? e1h)
    refine WX.run ttOk rfl ?_
    refine WX.idx 0 i ttOk rfl rfl rfl rfl rfl rfl rfl rfl rfl rfl e1i ?_
    rintro ad1 rfl
    refine WX.run ttOk rfl ?_
    refine WX.ldE 0 2 e1 ttOk rfl rfl rfl rfl rfl rfl rfl rfl e1h (fun _ => rfl) (fun _ => rfl) ?_
    rintro ⟨⟨⟩, ⟨⟨p2, c1⟩, ⟨p3, c2⟩, ⟨p4, c3⟩, ⟨⟩, ⟨⟩⟩⟩
    refine WX.callF 5 (fun _ _ h => GoT.ow_rd h) (fun _ f hf => GoT.fak f hf) rfl rfl rfl rfl rfl (fun _ => rfl) rfl (fun w G bs hI hΓ => f147 w n (by omega) e1.data p2 c1 (hΓ.get 2 rfl) p3 c2 (hΓ.get 3 rfl) p4 c3 (hΓ.get 4 rfl) ((ok_Record ok1).2)) (fun _ => rfl) (fun _ => rfl) ?_
    rintro ⟨⟨p5, c4⟩, ⟨p6, c5⟩, ⟨p7, c6⟩, ⟨⟩, ⟨⟩⟩ hq1
    refine WX.run ttOk rfl ?_
    refine WX.draw [8, 9, 10] mixed ?_
    intro bs G0 hΓ0
    refine DX.takes (fuel := 8) ttOk [(0, true), (1, true), (2, true)] (by kernel_rfl) rfl ?_
    refine DX.idx 3 0 i ttOk hΓ0 (by kernel_rfl) rfl rfl rfl rfl rfl rfl rfl rfl rfl rfl rfl e1i ?_
    rintro ad2 ⟨⟩
    refine DX.takes (fuel := 6) ttOk [(4, true)] (by kernel_rfl) rfl ?_
    refine DX.ldE 5 0 11 e1 ttOk hΓ0 (by kernel_rfl) rfl rfl rfl rfl rfl rfl rfl rfl e1h (fun _ => rfl) (fun _ => rfl) ?_
    rintro ⟨⟨⟩, ⟨⟨p8, c7⟩, ⟨p9, c8⟩, ⟨p10, c9⟩, ⟨⟩, ⟨⟩⟩⟩
    refine DX.takes (fuel := 3) ttOk [(6, false), (7, true)] (by kernel_rfl) rfl ?_
    refine DX.tail [8, 9, 10] rfl rfl (by kernel_rfl) ?_
    refine WX.bld ttOk rfl rfl rfl rfl rfl rfl rfl ?_
    intro p11
    refine WX.turn [8, 9, 10] 14 rfl (fun h hs => ol_one (α := Record) (a := (Record.mk e1.kind (spec_l8Copy e1.data))) (x := ((), ((p5, c4), (p6, c5), (p7, c6), (), ()))) hs) (gs := [MF.ol [.int .i64 (e1.kind), .slice p5 (((spec_l8Copy e1.data).name.parts).length) c4, .slice p6 (((spec_l8Copy e1.data).content).length) c5, .slice p7 (((spec_l8Copy e1.data).keyName.parts).length) c6, .int .i64 ((spec_l8Copy e1.data).freshUntil), .int .i64 ((spec_l8Copy e1.data).signature)] ([(Record.mk e1.kind (spec_l8Copy e1.data))] : List Record)]) rfl ?_
    have r2 : -9223372036854775808 ≤ e1.kind ∧ e1.kind ≤ 9223372036854775807 := (ok_Record ok1).1
    refine WX.appR1 6 27 ((out ++ [(Record.mk e1.kind (spec_l8Copy e1.data))]) : List Record).length ttOk rfl rfl rfl rfl rfl rfl rfl rfl rfl rfl rfl rfl rfl (by simp [Value.oneCell']) (by simp) (by simp; omega) (by simp; omega) (fun _ _ => rfl) ?_
    intro p12 c10
    refine WX.turn [1, 14] 15 rfl (fun h hs => ol_app hs) (gs := [MF.ol (xsout ++ [.int .i64 (e1.kind), .slice p5 (((spec_l8Copy e1.data).name.parts).length) c4, .slice p6 (((spec_l8Copy e1.data).content).length) c5, .slice p7 (((spec_l8Copy e1.data).keyName.parts).length) c6, .int .i64 ((spec_l8Copy e1.data).freshUntil), .int .i64 ((spec_l8Copy e1.data).signature)]) ((out ++ [(Record.mk e1.kind (spec_l8Copy e1.data))]) : List Record)]) rfl ?_
    refine WX.run ttOk rfl ?_
    refine WX.see rfl rfl rfl (fun _ hΓ => looks_arith rfl rfl rfl rfl (by unfold I64; omega)) ?_
    refine WX.run ttOk rfl ?_
    refine WX.turn [15] 1 rfl (fun _ h => h) rfl ?_
    exact WX.iter (p12, c10, (xsout ++ [.int .i64 (e1.kind), .slice p5 (((spec_l8Copy e1.data).name.parts).length) c4, .slice p6 (((spec_l8Copy e1.data).content).length) c5, .slice p7 (((spec_l8Copy e1.data).keyName.parts).length) c6, .int .i64 ((spec_l8Copy e1.data).freshUntil), .int .i64 ((spec_l8Copy e1.data).signature)]), ((out ++ [(Record.mk e1.kind (spec_l8Copy e1.data))]) : List Record), i + 1) ⟨(by omega), (all_app v2 (all_cons (α := Record) (And.intro (ok_Record ok1).1 hq1) (fun a ha => by cases ha))), (by simp; omega), (by rw [v4, drop_get e1h]; simp only [spec_l29Recs_L1, cond_true, cond_false])⟩ (by dsimp only; omega) (.cons rfl (.cons rfl (.cons rfl (.nil)))) .nil (.cons rfl (.nil)) [0, 1] rfl
  · skip
    have h1d := B.df h1
    refine WX.run ttOk rfl ?_
    have hX1 : spec_l29Recs_L1 l ([] : List Record) = ((out) : List Record) := by rw [v4, List.drop_eq_nil_of_le (show (l).length ≤ i by omega)]; simp only [spec_l29Recs_L1, cond_true, cond_false]
    refine WX.seal 6 1 16 rfl rfl rfl rfl rfl ?_
    have hP1 : spec_l29Recs l = out := by simp only [spec_l29Recs, hX1, cond_true, cond_false]
    refine WX.ret ttOk rfl ?_
    intro w1 G bs hI hΓ
    rw [hP1]
    exact Post.of [17] (pout, cout) hI hΓ rfl rfl rfl (okl_mk (by omega) v2 : GoT.ok n (out : List Record))
theorem f66 (w : World) (n : Nat) (hn : n + 0 ≤ 9) (a : Consumer) (paName : Option Addr) (caName : Nat) (hpaName : RdSl (hp w) paName caName a.name.parts) (paDataName : Option Addr) (caDataName : Nat) (hpaDataName : RdSl (hp w) paDataName caDataName a.data.name.parts) (paDataContent : Option Addr) (caDataContent : Nat) (hpaDataContent : RdSl (hp w) paDataContent caDataContent a.data.content) (paDataKeyName : Option Addr) (caDataKeyName : Nat) (hpaDataKeyName : RdSl (hp w) paDataKeyName caDataKeyName a.data.keyName.parts) (hoka : GoT.ok n a) :
    Does Try.prog 66 #[.agg #[.int .i64 (a.node), .int .i64 (a.index), .slice paName ((a.name.parts).length) caName, .int .i64 (a.attempts), .int .i64 (a.wait), .bool a.satisfied, .slice paDataName ((a.data.name.parts).length) caDataName, .slice paDataContent ((a.data.content).length) caDataContent, .slice paDataKeyName ((a.data.keyName.parts).length) caDataKeyName, .int .i64 (a.data.freshUntil), .int .i64 (a.data.signature)]] w emp (Post w emp (fun x : GoT.X (Consumer × Interest) => .tuple #[.agg ⟨GoT.sh ((impl_TickConsumer a).1 : Consumer) x.1⟩, .agg ⟨GoT.sh ((impl_TickConsumer a).2.1 : Interest) x.2⟩, .bool ((impl_TickConsumer a).2.2)]) (fun x => GoT.oa (((impl_TickConsumer a).1, (impl_TickConsumer a).2.1) : Consumer × Interest) x) (GoT.ok n ((impl_TickConsumer a).1 : Consumer) ∧ GoT.ok n ((impl_TickConsumer a).2.1 : Interest))) := by
  have hbP := bd_pos n
  have hbB := bd_big (n := n) (by omega)
  refine WX.enter (tt := tt) (Γ := [(0, MF.rs .stb paName caName a.name.parts), (1, MF.rs .stb paDataName caDataName a.data.name.parts), (2, MF.rs .stb paDataContent caDataContent a.data.content), (3, MF.rs .stb paDataKeyName caDataKeyName a.data.keyName.parts)]) Try.func66 rfl (by kernel_rfl) rfl (allS_cons rfl hpaName (allS_cons rfl hpaDataName (allS_cons rfl hpaDataContent (allS_cons rfl hpaDataKeyName allS_nil)))) ?_
  refine WX.run ttOk rfl ?_
  refine WX.callF 4 (fun _ _ h => GoT.ow_rd h) (fun _ f hf => GoT.fak f hf) rfl rfl rfl rfl rfl (fun _ => rfl) rfl (fun w G bs hI hΓ => f119 w n (by omega) a paName caName (hΓ.get 0 rfl) paDataName caDataName (hΓ.get 1 rfl) paDataContent caDataContent (hΓ.get 2 rfl) paDataKeyName caDataKeyName (hΓ.get 3 rfl) hoka) (fun _ => rfl) (fun _ => rfl) ?_
  rintro ⟨⟨⟩, ⟨⟩, ⟨p1, c1⟩, ⟨⟩, ⟨⟩, ⟨⟩, ⟨⟨p2, c2⟩, ⟨p3, c3⟩, ⟨p4, c4⟩, ⟨⟩, ⟨⟩⟩⟩ hq1
  refine WX.run ttOk rfl ?_
  refine WX.cases 11 rfl (fun h1 => ?_) (fun h1 => ?_)
  · skip
    refine WX.run ttOk rfl ?_
    refine WX.free 12 (MF.os none 0 ([] : List Str)) (owSl_nil _ _) ?_
    have hP1 : impl_TickConsumer a = (impl_copyConsumer a, Interest.mk (Name.mk ([])) 0 0 0, false) := by simp only [impl_TickConsumer, h1, cond_true, cond_false]
    refine WX.ret ttOk rfl ?_
    intro w1 G bs hI hΓ
    rw [hP1]
    exact Post.of [8, 9, 10, 11, 12] (((), (), (p1, c1), (), (), (), ((p2, c2), (p3, c3), (p4, c4), (), ())), ((none, 0), (), (), ())) hI hΓ rfl rfl rfl (⟨hq1, (And.intro (ok_nil (α := Str)) (And.intro (show I64 0 from (by unfold I64; omega)) (And.intro (show I64 0 from (by unfold I64; omega)) (show I64 0 from (by unfold I64; omega)))))⟩)
  · skip
    refine WX.run ttOk rfl ?_
    refine WX.cases 8 rfl (fun h2 => ?_) (fun h2 => ?_)
    · skip
      have h2d := B.et h2
      refine WX.run ttOk rfl ?_
      refine WX.free 13 (MF.os none 0 ([] : List Str)) (owSl_nil _ _) ?_
      have hP2 : impl_TickConsumer a = (impl_copyConsumer a, Interest.mk (Name.mk ([])) 0 0 0, false) := by simp only [impl_TickConsumer, h1, h2, cond_true, cond_false]
      refine WX.ret ttOk rfl ?_
      intro w1 G bs hI hΓ
      rw [hP2]
      exact Post.of [8, 9, 10, 11, 13] (((), (), (p1, c1), (), (), (), ((p2, c2), (p3, c3), (p4, c4), (), ())), ((none, 0), (), (), ())) hI hΓ rfl rfl rfl (⟨hq1, (And.intro (ok_nil (α := Str)) (And.intro (show I64 0 from (by unfold I64; omega)) (And.intro (show I64 0 from (by unfold I64; omega)) (show I64 0 from (by unfold I64; omega)))))⟩)
    · skip
      have h2d := B.ef h2
      refine WX.run ttOk rfl ?_
      refine WX.cases 18 rfl (fun h3 => ?_) (fun h3 => ?_)
      · skip
        have h3d := B.dt h3
        refine WX.run ttOk rfl ?_
        refine WX.see rfl rfl rfl (fun _ hΓ => looks_wrap rfl rfl rfl rfl) ?_
        refine WX.run ttOk rfl ?_
        refine WX.free 14 (MF.os none 0 ([] : List Str)) (owSl_nil _ _) ?_
        have hP3 : impl_TickConsumer a = (Consumer.mk ((impl_copyConsumer a).node) ((impl_copyConsumer a).index) ((impl_copyConsumer a).name) ((impl_copyConsumer a).attempts) (IntKind.i64.wrap (((impl_copyConsumer a).wait) - 1)) ((impl_copyConsumer a).satisfied) ((impl_copyConsumer a).data), Interest.mk (Name.mk ([])) 0 0 0, false) := by simp only [impl_TickConsumer, h1, h2, h3, cond_true, cond_false]
        refine WX.ret ttOk rfl ?_
        intro w1 G bs hI hΓ
        rw [hP3]
        exact Post.of [8, 9, 10, 11, 14] (((), (), (p1, c1), (), (), (), ((p2, c2), (p3, c3), (p4, c4), (), ())), ((none, 0), (), (), ())) hI hΓ rfl rfl rfl (⟨(And.intro (ok_Consumer hq1).1 (And.intro (ok_Consumer hq1).2.1 (And.intro (ok_Consumer hq1).2.2.1 (And.intro (ok_Consumer hq1).2.2.2.1 (And.intro (i64_wrap _) (And.intro trivial (ok_Consumer hq1).2.2.2.2.2.2)))))), (And.intro (ok_nil (α := Str)) (And.intro (show I64 0 from (by unfold I64; omega)) (And.intro (show I64 0 from (by unfold I64; omega)) (show I64 0 from (by unfold I64; omega)))))⟩)
      · skip
        have h3d := B.df h3
        refine WX.run ttOk rfl ?_
        refine WX.see rfl rfl rfl (fun _ hΓ => looks_wrap rfl rfl rfl rfl) ?_
        refine WX.run ttOk rfl ?_
        refine WX.draw [12, 13, 14] mixed ?_
        intro bs G0 hΓ0
        refine DX.takes (fuel := 6) ttOk [(0, false), (1, true), (2, false), (4, true), (5, false), (6, true), (7, false), (8, true), (9, false)] (by kernel_rfl) rfl ?_
        refine DX.callF 3 15 (fun _ _ h => GoT.ow_rd h) (fun _ f hf => GoT.fak f hf) rfl (by kernel_rfl) rfl rfl rfl rfl rfl rfl (fun _ => rfl) rfl (fun w G bs hI hΓ => f75 w n (by omega) a.name paName caName (hΓ.get 0 rfl) ((ok_Consumer hoka).2.2.1)) (fun _ => rfl) (fun _ => rfl) ?_
        rintro ⟨p5, c5⟩ hq2
        refine DX.callV 10 rfl (by kernel_rfl) rfl rfl rfl rfl rfl rfl (fun _ => rfl) rfl (fun w G bs hI hΓ => f120 w n (by omega) a.node a.index (IntKind.i64.wrap (((impl_copyConsumer a).attempts) + 1)) ((ok_Consumer hoka).1) ((ok_Consumer hoka).2.1) (i64_wrap _)) ?_
        intro hq3
        refine DX.takes (fuel := 3) ttOk [(11, true)] (by kernel_rfl) rfl ?_
        refine DX.tail [12, 13, 14] rfl rfl (by kernel_rfl) ?_
        refine WX.run ttOk rfl ?_
        have hP4 : impl_TickConsumer a = (Consumer.mk ((impl_copyConsumer a).node) ((impl_copyConsumer a).index) ((impl_copyConsumer a).name) (IntKind.i64.wrap (((impl_copyConsumer a).attempts) + 1)) 5 ((impl_copyConsumer a).satisfied) ((impl_copyConsumer a).data), Interest.mk (impl_copyName a.name) (impl_NonceOf a.node a.index (IntKind.i64.wrap (((impl_copyConsumer a).attempts) + 1))) 16 4, true) := by simp only [impl_TickConsumer, h1, h2, h3, cond_true, cond_false]
        refine WX.ret ttOk rfl ?_
        intro w1 G bs hI hΓ
        rw [hP4]
        exact Post.of [8, 9, 10, 11, 16] (((), (), (p1, c1), (), (), (), ((p2, c2), (p3, c3), (p4, c4), (), ())), ((p5, c5), (), (), ())) hI hΓ rfl rfl rfl (⟨(And.intro (ok_Consumer hq1).1 (And.intro (ok_Consumer hq1).2.1 (And.intro (ok_Consumer hq1).2.2.1 (And.intro (i64_wrap _) (And.intro (show I64 5 from (by unfold I64; omega)) (And.intro trivial (ok_Consumer hq1).2.2.2.2.2.2)))))), (And.intro hq2 (And.intro hq3 (And.intro (show I64 16 from (by unfold I64; omega)) (show I64 4 from (by unfold I64; omega)))))⟩)
theorem f65 (w : World) (n : Nat) (hn : n + 0 ≤ 9) (a : Consumer) (paName : Option Addr) (caName : Nat) (hpaName : RdSl (hp w) paName caName a.name.parts) (paDataName : Option Addr) (caDataName : Nat) (hpaDataName : RdSl (hp w) paDataName caDataName a.data.name.parts) (paDataContent : Option Addr) (caDataContent : Nat) (hpaDataContent : RdSl (hp w) paDataContent caDataContent a.data.content) (paDataKeyName : Option Addr) (caDataKeyName : Nat) (hpaDataKeyName : RdSl (hp w) paDataKeyName caDataKeyName a.data.keyName.parts) (hoka : GoT.ok n a) :
    Does Try.prog 65 #[.agg #[.int .i64 (a.node), .int .i64 (a.index), .slice paName ((a.name.parts).length) caName, .int .i64 (a.attempts), .int .i64 (a.wait), .bool a.satisfied, .slice paDataName ((a.data.name.parts).length) caDataName, .slice paDataContent ((a.data.content).length) caDataContent, .slice paDataKeyName ((a.data.keyName.parts).length) caDataKeyName, .int .i64 (a.data.freshUntil), .int .i64 (a.data.signature)]] w emp (Post w emp (fun x : GoT.X (Consumer × Interest) => .tuple #[.agg ⟨GoT.sh ((spec_TickConsumer a).1 : Consumer) x.1⟩, .agg ⟨GoT.sh ((spec_TickConsumer a).2.1 : Interest) x.2⟩, .bool ((spec_TickConsumer a).2.2)]) (fun x => GoT.oa (((spec_TickConsumer a).1, (spec_TickConsumer a).2.1) : Consumer × Interest) x) (GoT.ok n ((spec_TickConsumer a).1 : Consumer) ∧ GoT.ok n ((spec_TickConsumer a).2.1 : Interest))) := by
  have hbP := bd_pos n
  have hbB := bd_big (n := n) (by omega)
  refine WX.enter (tt := tt) (Γ := [(0, MF.rs .stb paName caName a.name.parts), (1, MF.rs .stb paDataName caDataName a.data.name.parts), (2, MF.rs .stb paDataContent caDataContent a.data.content), (3, MF.rs .stb paDataKeyName caDataKeyName a.data.keyName.parts)]) Try.func65 rfl (by kernel_rfl) rfl (allS_cons rfl hpaName (allS_cons rfl hpaDataName (allS_cons rfl hpaDataContent (allS_cons rfl hpaDataKeyName allS_nil)))) ?_
  refine WX.run ttOk rfl ?_
  refine WX.callF 4 (fun _ _ h => GoT.ow_rd h) (fun _ f hf => GoT.fak f hf) rfl rfl rfl rfl rfl (fun _ => rfl) rfl (fun w G bs hI hΓ => f117 w n (by omega) a paName caName (hΓ.get 0 rfl) paDataName caDataName (hΓ.get 1 rfl) paDataContent caDataContent (hΓ.get 2 rfl) paDataKeyName caDataKeyName (hΓ.get 3 rfl) hoka) (fun _ => rfl) (fun _ => rfl) ?_
  rintro ⟨⟨⟩, ⟨⟩, ⟨p1, c1⟩, ⟨⟩, ⟨⟩, ⟨⟩, ⟨⟨p2, c2⟩, ⟨p3, c3⟩, ⟨p4, c4⟩, ⟨⟩, ⟨⟩⟩⟩ hq1
  refine WX.run ttOk rfl ?_
  refine WX.cases 11 rfl (fun h1 => ?_) (fun h1 => ?_)
  · skip
    refine WX.run ttOk rfl ?_
    refine WX.free 12 (MF.os none 0 ([] : List Str)) (owSl_nil _ _) ?_
    have hP1 : spec_TickConsumer a = (spec_l31Copy a, Interest.mk (Name.mk ([])) 0 0 0, false) := by simp only [spec_TickConsumer, h1, cond_true, cond_false]
    refine WX.ret ttOk rfl ?_
    intro w1 G bs hI hΓ
    rw [hP1]
    exact Post.of [8, 9, 10, 11, 12] (((), (), (p1, c1), (), (), (), ((p2, c2), (p3, c3), (p4, c4), (), ())), ((none, 0), (), (), ())) hI hΓ rfl rfl rfl (⟨hq1, (And.intro (ok_nil (α := Str)) (And.intro (show I64 0 from (by unfold I64; omega)) (And.intro (show I64 0 from (by unfold I64; omega)) (show I64 0 from (by unfold I64; omega)))))⟩)
  · skip
    refine WX.run ttOk rfl ?_
    refine WX.cases 8 rfl (fun h2 => ?_) (fun h2 => ?_)
    · skip
      have h2d := B.et h2
      refine WX.run ttOk rfl ?_
      refine WX.free 13 (MF.os none 0 ([] : List Str)) (owSl_nil _ _) ?_
      have hP2 : spec_TickConsumer a = (spec_l31Copy a, Interest.mk (Name.mk ([])) 0 0 0, false) := by simp only [spec_TickConsumer, h1, h2, cond_true, cond_false]
      refine WX.ret ttOk rfl ?_
      intro w1 G bs hI hΓ
      rw [hP2]
      exact Post.of [8, 9, 10, 11, 13] (((), (), (p1, c1), (), (), (), ((p2, c2), (p3, c3), (p4, c4), (), ())), ((none, 0), (), (), ())) hI hΓ rfl rfl rfl (⟨hq1, (And.intro (ok_nil (α := Str)) (And.intro (show I64 0 from (by unfold I64; omega)) (And.intro (show I64 0 from (by unfold I64; omega)) (show I64 0 from (by unfold I64; omega)))))⟩)
    · skip
      have h2d := B.ef h2
      refine WX.run ttOk rfl ?_
      refine WX.cases 18 rfl (fun h3 => ?_) (fun h3 => ?_)
      · skip
        have h3d := B.dt h3
        refine WX.run ttOk rfl ?_
        refine WX.see rfl rfl rfl (fun _ hΓ => looks_wrap rfl rfl rfl rfl) ?_
        refine WX.run ttOk rfl ?_
        refine WX.free 14 (MF.os none 0 ([] : List Str)) (owSl_nil _ _) ?_
        have hP3 : spec_TickConsumer a = (Consumer.mk ((spec_l31Copy a).node) ((spec_l31Copy a).index) ((spec_l31Copy a).name) ((spec_l31Copy a).attempts) (IntKind.i64.wrap (a.wait - 1)) ((spec_l31Copy a).satisfied) ((spec_l31Copy a).data), Interest.mk (Name.mk ([])) 0 0 0, false) := by simp only [spec_TickConsumer, h1, h2, h3, cond_true, cond_false]
        refine WX.ret ttOk rfl ?_
        intro w1 G bs hI hΓ
        rw [hP3]
        exact Post.of [8, 9, 10, 11, 14] (((), (), (p1, c1), (), (), (), ((p2, c2), (p3, c3), (p4, c4), (), ())), ((none, 0), (), (), ())) hI hΓ rfl rfl rfl (⟨(And.intro (ok_Consumer hq1).1 (And.intro (ok_Consumer hq1).2.1 (And.intro (ok_Consumer hq1).2.2.1 (And.intro (ok_Consumer hq1).2.2.2.1 (And.intro (i64_wrap _) (And.intro trivial (ok_Consumer hq1).2.2.2.2.2.2)))))), (And.intro (ok_nil (α := Str)) (And.intro (show I64 0 from (by unfold I64; omega)) (And.intro (show I64 0 from (by unfold I64; omega)) (show I64 0 from (by unfold I64; omega)))))⟩)
      · skip
        have h3d := B.df h3
        refine WX.run ttOk rfl ?_
        refine WX.see rfl rfl rfl (fun _ hΓ => looks_wrap rfl rfl rfl rfl) ?_
        refine WX.run ttOk rfl ?_
        refine WX.draw [12, 13, 14] mixed ?_
        intro bs G0 hΓ0
        refine DX.takes (fuel := 6) ttOk [(0, false), (1, true), (2, false), (4, true), (5, false), (6, true), (7, false), (8, true), (9, false)] (by kernel_rfl) rfl ?_
        refine DX.callF 3 15 (fun _ _ h => GoT.ow_rd h) (fun _ f hf => GoT.fak f hf) rfl (by kernel_rfl) rfl rfl rfl rfl rfl rfl (fun _ => rfl) rfl (fun w G bs hI hΓ => f73 w n (by omega) a.name paName caName (hΓ.get 0 rfl) ((ok_Consumer hoka).2.2.1)) (fun _ => rfl) (fun _ => rfl) ?_
        rintro ⟨p5, c5⟩ hq2
        refine DX.callV 10 rfl (by kernel_rfl) rfl rfl rfl rfl rfl rfl (fun _ => rfl) rfl (fun w G bs hI hΓ => f118 w n (by omega) a.node a.index (IntKind.i64.wrap (a.attempts + 1)) ((ok_Consumer hoka).1) ((ok_Consumer hoka).2.1) (i64_wrap _)) ?_
        intro hq3
        refine DX.takes (fuel := 3) ttOk [(11, true)] (by kernel_rfl) rfl ?_
        refine DX.tail [12, 13, 14] rfl rfl (by kernel_rfl) ?_
        refine WX.run ttOk rfl ?_
        have hP4 : spec_TickConsumer a = (Consumer.mk ((spec_l31Copy a).node) ((spec_l31Copy a).index) ((spec_l31Copy a).name) (IntKind.i64.wrap (a.attempts + 1)) 5 ((spec_l31Copy a).satisfied) ((spec_l31Copy a).data), Interest.mk (spec_l4Copy a.name) (spec_NonceOf a.node a.index (IntKind.i64.wrap (a.attempts + 1))) 16 4, true) := by simp only [spec_TickConsumer, h1, h2, h3, cond_true, cond_false]
        refine WX.ret ttOk rfl ?_
        intro w1 G bs hI hΓ
        rw [hP4]
        exact Post.of [8, 9, 10, 11, 16] (((), (), (p1, c1), (), (), (), ((p2, c2), (p3, c3), (p4, c4), (), ())), ((p5, c5), (), (), ())) hI hΓ rfl rfl rfl (⟨(And.intro (ok_Consumer hq1).1 (And.intro (ok_Consumer hq1).2.1 (And.intro (ok_Consumer hq1).2.2.1 (And.intro (i64_wrap _) (And.intro (show I64 5 from (by unfold I64; omega)) (And.intro trivial (ok_Consumer hq1).2.2.2.2.2.2)))))), (And.intro hq2 (And.intro hq3 (And.intro (show I64 16 from (by unfold I64; omega)) (show I64 4 from (by unfold I64; omega)))))⟩)
end Go.Proofs.Ytfkllbcfaanmjaa
