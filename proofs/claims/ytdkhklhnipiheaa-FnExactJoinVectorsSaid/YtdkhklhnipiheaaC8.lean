/-
  That functions of the program compute what the Lean functions do. No condition but what each says. Written by a program (gen2.py).
-/
import Derived.Test.YtdkhklhnipiheaaC7
import Derived.Test.YtdkhklhnipiheaaP8
import Derived.Test.YtdkhklhnipiheaaCut
namespace Go.Proofs.Ytdkhklhnipiheaa
open Go.Stp
set_option linter.unusedVariables false
set_option linter.unusedSimpArgs false
theorem f142 (w : World) (n : Nat) (hn : n + 1 ≤ 9) (l : Log) (plDurable : Option Addr) (clDurable : Nat) (hplDurable : RdSl (hp w) plDurable clDurable l.durable) (plVolatile : Option Addr) (clVolatile : Nat) (hplVolatile : RdSl (hp w) plVolatile clVolatile l.volatile) (hokl : GoT.ok n l) :
    Does Try.prog 142 #[.agg #[.slice plDurable ((l.durable).length) clDurable, .slice plVolatile ((l.volatile).length) clVolatile]] w emp (Post w emp (fun x : GoT.X ((List Record)) => (GoT.sh ((impl_allRecords l) : (List Record)) x).headD undef) (fun x => GoT.oa ((impl_allRecords l) : (List Record)) x) (GoT.ok (n + 1) ((impl_allRecords l) : (List Record)))) := by
  have hbP := bd_pos n
  have hbS0 := bd_succ (n := n) (by omega)
  have hbB := bd_big (n := (n + 1)) (by omega)
  have hbM := bd_mono (show n ≤ n + 1 by omega)
  refine WX.enter (tt := tt) (Γ := [(0, MF.rs .stb plDurable clDurable l.durable), (1, MF.rs .stb plVolatile clVolatile l.volatile)]) Try.func142 rfl (by kernel_rfl) rfl (allS_cons rfl hplDurable (allS_cons rfl hplVolatile allS_nil)) ?_
  refine WX.run ttOk rfl ?_
  refine WX.draw [6, 7] mixed ?_
  intro bs G0 hΓ0
  refine DX.takes (fuel := 4) ttOk [(0, true), (1, false), (3, true), (4, false)] (by kernel_rfl) rfl ?_
  refine DX.callF 2 2 (fun _ _ h => GoT.ow_rd h) (fun _ f hf => GoT.fak f hf) rfl (by kernel_rfl) rfl rfl rfl rfl rfl rfl (fun _ => rfl) rfl (fun w G bs hI hΓ => f144 w n (by omega) l.durable plDurable clDurable (hΓ.get 0 rfl) ((ok_Log hokl).1)) (fun _ => rfl) (fun _ => rfl) ?_
  rintro ⟨p1, c1⟩ hq1
  refine DX.callF 5 4 (fun _ _ h => GoT.ow_rd h) (fun _ f hf => GoT.fak f hf) rfl (by kernel_rfl) rfl rfl rfl rfl rfl rfl (fun _ => rfl) rfl (fun w G bs hI hΓ => f144 w n (by omega) l.volatile plVolatile clVolatile (hΓ.get 1 rfl) ((ok_Log hokl).2)) (fun _ => rfl) (fun _ => rfl) ?_
  rintro ⟨p2, c2⟩ hq2
  refine DX.tail2 [6, 7] rfl rfl (by kernel_rfl) ?_
  refine WX.opn (kk := 6) 501 3 6 rfl rfl rfl ?_
  intro xs1 hx1
  refine WX.opn (kk := 6) 502 5 7 rfl rfl rfl ?_
  intro xs2 hx2
  have r1 : (l.durable).length ≤ bd n := (okl (ok_Log hokl).1).1
  have r2 : (l.volatile).length ≤ bd n := (okl (ok_Log hokl).2).1
  have r3 : (impl_copyRecords l.durable).length ≤ bd n := (okl hq1).1
  have r4 : (impl_copyRecords l.volatile).length ≤ bd n := (okl hq2).1
  refine WX.know (fun G hΓ => (hΓ.get 7 rfl : OwL _ _ _).rd.one) ?_
  intro ho1
  refine WX.appR1 501 502 (((impl_copyRecords l.durable) ++ (impl_copyRecords l.volatile)) : List Record).length ttOk rfl rfl rfl rfl rfl rfl rfl rfl rfl rfl rfl rfl rfl ho1 (by simp) (by simp; omega) (by simp; omega) (fun _ _ => rfl) ?_
  intro p3 c3
  refine WX.turn [6, 7] 8 rfl (fun h hs => ol_app hs) (gs := [MF.ol (xs1 ++ xs2) (((impl_copyRecords l.durable) ++ (impl_copyRecords l.volatile)) : List Record)]) rfl ?_
  refine WX.run ttOk rfl ?_
  refine WX.seal 501 8 9 rfl rfl rfl rfl rfl ?_
  have hP1 : impl_allRecords l = ((impl_copyRecords l.durable) ++ (impl_copyRecords l.volatile)) := by simp only [impl_allRecords, cond_true, cond_false]
  refine WX.ret ttOk rfl ?_
  intro w1 G bs hI hΓ
  rw [hP1]
  exact Post.of [10] (p3, c3) hI hΓ rfl rfl rfl (okl_mk (by simp; omega) (fun a ha => GoT.okm (by omega) ((all_app (okl hq1).2 (okl hq2).2) a ha)) : GoT.ok (n + 1) (((impl_copyRecords l.durable) ++ (impl_copyRecords l.volatile)) : List Record))
theorem f131 (w : World) (n : Nat) (hn : n + 0 ≤ 9) (e_ : TableEntry) (pe_Name : Option Addr) (ce_Name : Nat) (hpe_Name : RdSl (hp w) pe_Name ce_Name e_.name.parts) (n_ : Name) (bn_ : Addr) (hn_ : RdSl (hp w) (some bn_) 1 [n_]) (hoke_ : GoT.ok n e_) (hokn_ : GoT.ok n n_) :
    Does Try.prog 131 #[.agg #[.slice pe_Name ((e_.name.parts).length) ce_Name, .int .i64 (e_.value)], .pointer (some bn_)] w emp (fun (rv : Value) (_ : World) => rv = .bool (impl_indexOfName_c1 n_ e_) ∧ True) := by
  have hbP := bd_pos n
  have hbB := bd_big (n := n) (by omega)
  refine WX.enter (tt := tt) (Γ := [(0, MF.rs .stb pe_Name ce_Name e_.name.parts), (1, MF.rs .stb (some bn_) 1 ([n_]))]) Try.func131 rfl (by kernel_rfl) rfl (allS_cons rfl hpe_Name (allS_cons rfl hn_ allS_nil)) ?_
  have n_h : ([n_] : List Name)[0]? = some n_ := rfl
  refine WX.slot 1 (y := .e (some bn_) 0 1 0) rfl (fun _ => cap_eq) ?_
  refine WX.run ttOk rfl ?_
  refine WX.ldE 1 2 n_ ttOk rfl rfl rfl rfl rfl rfl rfl rfl n_h (fun _ => rfl) (fun _ => rfl) ?_
  rintro ⟨p1, c1⟩
  refine WX.callV rfl rfl rfl rfl rfl (fun _ => rfl) rfl (fun w G bs hI hΓ => f116 w n (by omega) e_.name pe_Name ce_Name (hΓ.get 0 rfl) n_ p1 c1 (hΓ.get 2 rfl) ((ok_TableEntry hoke_).1) hokn_) ?_
  intro hq1
  refine WX.run ttOk rfl ?_
  have hP1 : impl_indexOfName_c1 n_ e_ = (impl_EqualNames e_.name n_) := by simp only [impl_indexOfName_c1, cond_true, cond_false]
  refine WX.ret ttOk rfl ?_
  intro w1 G bs hI hΓ
  rw [hP1]
  exact ⟨rfl, trivial⟩
theorem f101 (w : World) (n : Nat) (hn : n + 0 ≤ 9) (l : (List TableEntry)) (pl : Option Addr) (cl : Nat) (hpl : RdSl (hp w) pl cl l) (n_ : Name) (pn_ : Option Addr) (cn_ : Nat) (hpn_ : RdSl (hp w) pn_ cn_ n_.parts) (hokl : GoT.ok n l) (hokn_ : GoT.ok n n_) :
    Does Try.prog 101 #[.slice pl ((l).length) cl, .agg #[.slice pn_ ((n_.parts).length) cn_]] w emp (fun (rv : Value) (_ : World) => rv = .int .i64 ((impl_indexOfName l n_)) ∧ GoT.ok n ((impl_indexOfName l n_) : Int)) := by
  have hbP := bd_pos n
  have hbB := bd_big (n := n) (by omega)
  refine WX.enter (tt := tt) (Γ := [(0, MF.rs .stb pl cl l), (1, MF.rs .stb pn_ cn_ n_.parts)]) Try.func101 rfl (by kernel_rfl) rfl (allS_cons rfl hpl (allS_cons rfl hpn_ allS_nil)) ?_
  refine WX.run ttOk rfl ?_
  refine WX.callV rfl rfl rfl rfl rfl (fun _ => rfl) rfl (fun w G bs hI hΓ => f102 w n (by omega) l pl cl (hΓ.get 0 rfl) 131 [Value.pointer (some ⟨bs 3, 0, none⟩)] (fun e0_ => (impl_indexOfName_c1 n_ e0_)) (fun w1_ hb_ e0_ x0_ hk0_ hx0_ => f131 w1_ n (by omega) e0_ x0_.1.1 x0_.1.2 (hx0_ _ List.mem_cons_self) n_ ⟨bs 3, 0, none⟩ ((rd_box (α := Name) (a := n_) (x := (pn_, cn_)) (hI.loc 3 _ rfl).1 (All.cons (hΓ.get 1 rfl : RdSl _ _ _ _) All.nil)).mono (kp_le hb_)) hk0_ hokn_) hokl) ?_
  intro hq1
  have q1 := ltI_slices_IndexFunc_TableEntry l (fun e0_ => (impl_indexOfName_c1 n_ e0_))
  refine WX.run ttOk rfl ?_
  have hP1 : impl_indexOfName l n_ = (slices_IndexFunc_TableEntry l (fun e0_ => (impl_indexOfName_c1 n_ e0_))) := by simp only [impl_indexOfName, cond_true, cond_false]
  refine WX.ret ttOk rfl ?_
  intro w1 G bs hI hΓ
  rw [hP1]
  exact ⟨rfl, hq1⟩
theorem f96 (w : World) (n : Nat) (hn : n + 0 ≤ 9) (l : (List TableEntry)) (pl : Option Addr) (cl : Nat) (hpl : RdSl (hp w) pl cl l) (n_ : Name) (pn_ : Option Addr) (cn_ : Nat) (hpn_ : RdSl (hp w) pn_ cn_ n_.parts) (hokl : GoT.ok n l) (hokn_ : GoT.ok n n_) :
    Does Try.prog 96 #[.slice pl ((l).length) cl, .agg #[.slice pn_ ((n_.parts).length) cn_]] w emp (fun (rv : Value) (_ : World) => rv = .int .i64 ((spec_l6Find l n_)) ∧ GoT.ok n ((spec_l6Find l n_) : Int)) := by
  have hbP := bd_pos n
  have hbB := bd_big (n := n) (by omega)
  refine WX.enter (tt := tt) (Γ := [(0, MF.rs .stb pl cl l), (1, MF.rs .stb pn_ cn_ n_.parts)]) Try.func96 rfl (by kernel_rfl) rfl (allS_cons rfl hpl (allS_cons rfl hpn_ allS_nil)) ?_
  refine WX.run ttOk rfl ?_
  have r1 : (l).length ≤ bd n := (okl hokl).1
  refine WX.loop (ι := Nat) ⟨fun i => (i ≤ (l).length) ∧ (spec_l6Find_L1 n_ l 0 = spec_l6Find_L1 n_ ((l).drop i) i), fun i => (l).length - i, fun i => [(5, .v (.int .i64 (((i : Nat) : Int)))), (3, .p 3 0), (0, .v (.slice pl ((l).length) cl))], fun i => [(3, ⟨64, [.slice pn_ ((n_.parts).length) cn_]⟩)], fun i => [], fun i => [(0, MF.rs .stb pl cl l), (1, MF.rs .stb pn_ cn_ n_.parts)]⟩ 0 ⟨(Nat.zero_le _), rfl⟩
    (.cons rfl (.cons rfl (.cons rfl (.nil)))) (.cons rfl (.nil)) .nil [0, 1] rfl ?_
  rintro i hpre
  have hpre_ : (i ≤ (l).length) ∧ (spec_l6Find_L1 n_ l 0 = spec_l6Find_L1 n_ ((l).drop i) i) := hpre
  clear hpre
  obtain ⟨v1, v2⟩ := hpre_
  refine WX.run ttOk rfl ?_
  refine WX.cases 9 rfl (fun h1 => ?_) (fun h1 => ?_)
  · skip
    have h1d := B.dt h1
    have e1i : i < (l).length := (by omega)
    obtain ⟨e1, e1h⟩ : ∃ e1, (l)[i]? = some e1 := ⟨_, List.getElem?_eq_getElem e1i⟩
    have ok1 : GoT.ok n e1 := (okl hokl).2 _ (List.mem_of_getElem? e1h)
    refine WX.run ttOk rfl ?_
    refine WX.draw [] mixed ?_
    intro bs G0 hΓ0
    refine DX.takes (fuel := 5) ttOk [(0, true), (1, true)] (by kernel_rfl) rfl ?_
    refine DX.idx 2 0 i ttOk hΓ0 (by kernel_rfl) rfl rfl rfl rfl rfl rfl rfl rfl rfl rfl rfl e1i ?_
    rintro ad1 rfl
    refine DX.takes (fuel := 3) ttOk [(3, true)] (by kernel_rfl) rfl ?_
    refine DX.ldE 4 0 2 e1 ttOk hΓ0 (by kernel_rfl) rfl rfl rfl rfl rfl rfl rfl rfl e1h (fun _ => rfl) (fun _ => rfl) ?_
    rintro ⟨⟨p1, c1⟩, ⟨⟩⟩
    refine DX.takes (fuel := 1) ttOk [(5, false)] (by kernel_rfl) rfl ?_
    refine DX.callV 6 rfl (by kernel_rfl) rfl rfl rfl rfl rfl rfl (fun _ => rfl) rfl (fun w G bs hI hΓ => f129 w n (by omega) e1.name p1 c1 (hΓ.get 2 rfl) n_ pn_ cn_ (hΓ.get 1 rfl) ((ok_TableEntry ok1).1) hokn_) ?_
    intro hq1
    refine DX.tail2 [] rfl rfl (by kernel_rfl) ?_
    refine WX.run ttOk rfl ?_
    refine WX.cases 18 rfl (fun h2 => ?_) (fun h2 => ?_)
    · skip
      refine WX.run ttOk rfl ?_
      have hP1 : spec_l6Find_L1 n_ l 0 = (some ((i : Nat) : Int)) := by rw [v2, drop_get e1h]; simp only [spec_l6Find_L1, h2, cond_true, cond_false]
      have hP2 : spec_l6Find l n_ = ((i : Nat) : Int) := by simp only [spec_l6Find, hP1, cond_true, cond_false]
      refine WX.ret ttOk rfl ?_
      intro w1 G bs hI hΓ
      rw [hP2]
      exact ⟨rfl, (show I64 ((i : Nat) : Int) from (by unfold I64; omega))⟩
    · skip
      refine WX.run ttOk rfl ?_
      refine WX.see rfl rfl rfl (fun _ hΓ => looks_arith rfl rfl rfl rfl (by unfold I64; omega)) ?_
      refine WX.run ttOk rfl ?_
      exact WX.iter (i + 1) ⟨(by omega), (by rw [v2, drop_get e1h]; simp only [spec_l6Find_L1, h2, cond_true, cond_false])⟩ (by dsimp only; omega) (.cons rfl (.cons rfl (.cons rfl (.nil)))) (.cons rfl (.nil)) .nil [0, 1] rfl
  · skip
    have h1d := B.df h1
    refine WX.run ttOk rfl ?_
    have hX1 : spec_l6Find_L1 n_ l 0 = none := by rw [v2, List.drop_eq_nil_of_le (show (l).length ≤ i by omega)]; simp only [spec_l6Find_L1, cond_true, cond_false]
    have hP3 : spec_l6Find l n_ = (-1) := by simp only [spec_l6Find, hX1, cond_true, cond_false]
    refine WX.ret ttOk rfl ?_
    intro w1 G bs hI hΓ
    rw [hP3]
    exact ⟨rfl, (show I64 (-1) from (by unfold I64; omega))⟩
theorem lt_iFL : ∀ (f : TableEntry → Bool) (l : List TableEntry) (i : Nat) (j : Int), slices_IndexFunc_TableEntry_L1 f l i = some j → j < ((i + l.length : Nat) : Int)
  | f, [], i, j, h => by cases h
  | f, x :: l, i, j, h => by
    simp only [slices_IndexFunc_TableEntry_L1] at h
    cases hx : f x
    · rw [hx, cond_false] at h
      have := lt_iFL f l (i + 1) j h
      simp only [List.length_cons]; omega
    · rw [hx, cond_true] at h
      cases h
      simp only [List.length_cons]; omega
theorem lt_indexOfName (l : List TableEntry) (n_ : Name) : impl_indexOfName l n_ < ((l.length : Nat) : Int) := by
  unfold impl_indexOfName slices_IndexFunc_TableEntry
  cases h : slices_IndexFunc_TableEntry_L1 (fun e0_ => impl_indexOfName_c1 n_ e0_) l 0 with
  | none => show (-1 : Int) < _; omega
  | some j => have := lt_iFL _ l 0 j h; show j < _; omega
theorem lt_l6L (n_ : Name) : ∀ (l : List TableEntry) (i : Nat) (j : Int), spec_l6Find_L1 n_ l i = some j → j < ((i + l.length : Nat) : Int)
  | [], i, j, h => by cases h
  | x :: l, i, j, h => by
    simp only [spec_l6Find_L1] at h
    cases hx : spec_EqualNames x.name n_
    · rw [hx, cond_false] at h
      have := lt_l6L n_ l (i + 1) j h
      simp only [List.length_cons]; omega
    · rw [hx, cond_true] at h
      cases h
      simp only [List.length_cons]; omega
theorem lt_l6Find (l : List TableEntry) (n_ : Name) : spec_l6Find l n_ < ((l.length : Nat) : Int) := by
  unfold spec_l6Find
  cases h : spec_l6Find_L1 n_ l 0 with
  | none => show (-1 : Int) < _; omega
  | some j => have := lt_l6L n_ l 0 j h; show j < _; omega
theorem f100 (w : World) (n : Nat) (hn : n + 0 ≤ 9) (l : (List TableEntry)) (pl : Option Addr) (cl : Nat) (hpl : RdSl (hp w) pl cl l) (n_ : Name) (pn_ : Option Addr) (cn_ : Nat) (hpn_ : RdSl (hp w) pn_ cn_ n_.parts) (hokl : GoT.ok n l) (hokn_ : GoT.ok n n_) :
    Does Try.prog 100 #[.slice pl ((l).length) cl, .agg #[.slice pn_ ((n_.parts).length) cn_]] w emp (fun (rv : Value) (_ : World) => rv = .tuple #[.int .i64 ((impl_LookupEntry l n_).1), .bool ((impl_LookupEntry l n_).2)] ∧ GoT.ok n ((impl_LookupEntry l n_).1 : Int)) := by
  have hbP := bd_pos n
  have hbB := bd_big (n := n) (by omega)
  refine WX.enter (tt := tt) (Γ := [(0, MF.rs .stb pl cl l), (1, MF.rs .stb pn_ cn_ n_.parts)]) Try.func100 rfl (by kernel_rfl) rfl (allS_cons rfl hpl (allS_cons rfl hpn_ allS_nil)) ?_
  refine WX.run ttOk rfl ?_
  refine WX.callV rfl rfl rfl rfl rfl (fun _ => rfl) rfl (fun w G bs hI hΓ => f101 w n (by omega) l pl cl (hΓ.get 0 rfl) n_ pn_ cn_ (hΓ.get 1 rfl) hokl hokn_) ?_
  intro hq1
  have q1 := lt_indexOfName l n_
  refine WX.run ttOk rfl ?_
  refine WX.cases 11 rfl (fun h1 => ?_) (fun h1 => ?_)
  · skip
    have h1d := B.dt h1
    refine WX.run ttOk rfl ?_
    have hP1 : impl_LookupEntry l n_ = (0, false) := by simp only [impl_LookupEntry, h1, cond_true, cond_false]
    refine WX.ret ttOk rfl ?_
    intro w1 G bs hI hΓ
    rw [hP1]
    exact ⟨rfl, (show I64 0 from (by unfold I64; omega))⟩
  · skip
    have h1d := B.df h1
    refine WX.run ttOk rfl ?_
    refine WX.slot 13 (y := .v (.int .i64 ((((impl_indexOfName l n_)).toNat : Nat) : Int))) rfl (fun _ => congrArg (Value.int .i64) (show (impl_indexOfName l n_) = ((((impl_indexOfName l n_)).toNat : Nat) : Int) from by omega)) ?_
    have e1i : ((impl_indexOfName l n_)).toNat < (l).length := (by first | assumption | omega)
    obtain ⟨e1, e1h⟩ : ∃ e1, (l)[((impl_indexOfName l n_)).toNat]? = some e1 := ⟨_, List.getElem?_eq_getElem e1i⟩
    have ok1 : GoT.ok n e1 := (okl hokl).2 _ (List.mem_of_getElem? e1h)
    refine WX.idx 0 (((impl_indexOfName l n_)).toNat) ttOk rfl rfl rfl rfl rfl rfl rfl rfl rfl rfl e1i ?_
    rintro ad1 rfl
    refine WX.run ttOk rfl ?_
    refine WX.ldE 0 2 e1 ttOk rfl rfl rfl rfl rfl rfl rfl rfl e1h (fun _ => rfl) (fun _ => rfl) ?_
    rintro ⟨⟨p1, c1⟩, ⟨⟩⟩
    refine WX.run ttOk rfl ?_
    have hP2 : impl_LookupEntry l n_ = (e1.value, true) := by simp only [impl_LookupEntry, h1, e1h, cond_true, cond_false]
    refine WX.ret ttOk rfl ?_
    intro w1 G bs hI hΓ
    rw [hP2]
    exact ⟨rfl, (ok_TableEntry ok1).2⟩
theorem f95 (w : World) (n : Nat) (hn : n + 0 ≤ 9) (l : (List TableEntry)) (pl : Option Addr) (cl : Nat) (hpl : RdSl (hp w) pl cl l) (n_ : Name) (pn_ : Option Addr) (cn_ : Nat) (hpn_ : RdSl (hp w) pn_ cn_ n_.parts) (hokl : GoT.ok n l) (hokn_ : GoT.ok n n_) :
    Does Try.prog 95 #[.slice pl ((l).length) cl, .agg #[.slice pn_ ((n_.parts).length) cn_]] w emp (fun (rv : Value) (_ : World) => rv = .tuple #[.int .i64 ((spec_LookupEntry l n_).1), .bool ((spec_LookupEntry l n_).2)] ∧ GoT.ok n ((spec_LookupEntry l n_).1 : Int)) := by
  have hbP := bd_pos n
  have hbB := bd_big (n := n) (by omega)
  refine WX.enter (tt := tt) (Γ := [(0, MF.rs .stb pl cl l), (1, MF.rs .stb pn_ cn_ n_.parts)]) Try.func95 rfl (by kernel_rfl) rfl (allS_cons rfl hpl (allS_cons rfl hpn_ allS_nil)) ?_
  refine WX.run ttOk rfl ?_
  refine WX.callV rfl rfl rfl rfl rfl (fun _ => rfl) rfl (fun w G bs hI hΓ => f96 w n (by omega) l pl cl (hΓ.get 0 rfl) n_ pn_ cn_ (hΓ.get 1 rfl) hokl hokn_) ?_
  intro hq1
  have q1 := lt_l6Find l n_
  refine WX.run ttOk rfl ?_
  refine WX.cases 11 rfl (fun h1 => ?_) (fun h1 => ?_)
  · skip
    have h1d := B.dt h1
    refine WX.run ttOk rfl ?_
    have hP1 : spec_LookupEntry l n_ = (0, false) := by simp only [spec_LookupEntry, h1, cond_true, cond_false]
    refine WX.ret ttOk rfl ?_
    intro w1 G bs hI hΓ
    rw [hP1]
    exact ⟨rfl, (show I64 0 from (by unfold I64; omega))⟩
  · skip
    have h1d := B.df h1
    refine WX.run ttOk rfl ?_
    refine WX.slot 13 (y := .v (.int .i64 ((((spec_l6Find l n_)).toNat : Nat) : Int))) rfl (fun _ => congrArg (Value.int .i64) (show (spec_l6Find l n_) = ((((spec_l6Find l n_)).toNat : Nat) : Int) from by omega)) ?_
    have e1i : ((spec_l6Find l n_)).toNat < (l).length := (by first | assumption | omega)
    obtain ⟨e1, e1h⟩ : ∃ e1, (l)[((spec_l6Find l n_)).toNat]? = some e1 := ⟨_, List.getElem?_eq_getElem e1i⟩
    have ok1 : GoT.ok n e1 := (okl hokl).2 _ (List.mem_of_getElem? e1h)
    refine WX.idx 0 (((spec_l6Find l n_)).toNat) ttOk rfl rfl rfl rfl rfl rfl rfl rfl rfl rfl e1i ?_
    rintro ad1 rfl
    refine WX.run ttOk rfl ?_
    refine WX.ldE 0 2 e1 ttOk rfl rfl rfl rfl rfl rfl rfl rfl e1h (fun _ => rfl) (fun _ => rfl) ?_
    rintro ⟨⟨p1, c1⟩, ⟨⟩⟩
    refine WX.run ttOk rfl ?_
    have hP2 : spec_LookupEntry l n_ = (e1.value, true) := by simp only [spec_LookupEntry, h1, e1h, cond_true, cond_false]
    refine WX.ret ttOk rfl ?_
    intro w1 G bs hI hΓ
    rw [hP2]
    exact ⟨rfl, (ok_TableEntry ok1).2⟩
theorem f59 (w : World) (n : Nat) (hn : n + 0 ≤ 9) (v : StateVector) (pv : Option Addr) (cv : Nat) (hpv : RdSl (hp w) pv cv v.entries) (n_ : Name) (pn_ : Option Addr) (cn_ : Nat) (hpn_ : RdSl (hp w) pn_ cn_ n_.parts) (hokv : GoT.ok n v) (hokn_ : GoT.ok n n_) :
    Does Try.prog 59 #[.agg #[.slice pv ((v.entries).length) cv], .agg #[.slice pn_ ((n_.parts).length) cn_]] w emp (fun (rv : Value) (_ : World) => rv = .int .i64 ((impl_SeqOf v n_)) ∧ GoT.ok n ((impl_SeqOf v n_) : Int)) := by
  have hbP := bd_pos n
  have hbB := bd_big (n := n) (by omega)
  refine WX.enter (tt := tt) (Γ := [(0, MF.rs .stb pv cv v.entries), (1, MF.rs .stb pn_ cn_ n_.parts)]) Try.func59 rfl (by kernel_rfl) rfl (allS_cons rfl hpv (allS_cons rfl hpn_ allS_nil)) ?_
  refine WX.run ttOk rfl ?_
  refine WX.callV rfl rfl rfl rfl rfl (fun _ => rfl) rfl (fun w G bs hI hΓ => f100 w n (by omega) v.entries pv cv (hΓ.get 0 rfl) n_ pn_ cn_ (hΓ.get 1 rfl) (ok_StateVector hokv) hokn_) ?_
  intro hq1
  refine WX.run ttOk rfl ?_
  have hP1 : impl_SeqOf v n_ = ((impl_LookupEntry v.entries n_).1) := by simp only [impl_SeqOf, cond_true, cond_false]
  refine WX.ret ttOk rfl ?_
  intro w1 G bs hI hΓ
  rw [hP1]
  exact ⟨rfl, hq1⟩
theorem f56 (w : World) (n : Nat) (hn : n + 0 ≤ 9) (v : StateVector) (pv : Option Addr) (cv : Nat) (hpv : RdSl (hp w) pv cv v.entries) (n_ : Name) (pn_ : Option Addr) (cn_ : Nat) (hpn_ : RdSl (hp w) pn_ cn_ n_.parts) (hokv : GoT.ok n v) (hokn_ : GoT.ok n n_) :
    Does Try.prog 56 #[.agg #[.slice pv ((v.entries).length) cv], .agg #[.slice pn_ ((n_.parts).length) cn_]] w emp (fun (rv : Value) (_ : World) => rv = .int .i64 ((spec_SeqOf v n_)) ∧ GoT.ok n ((spec_SeqOf v n_) : Int)) := by
  have hbP := bd_pos n
  have hbB := bd_big (n := n) (by omega)
  refine WX.enter (tt := tt) (Γ := [(0, MF.rs .stb pv cv v.entries), (1, MF.rs .stb pn_ cn_ n_.parts)]) Try.func56 rfl (by kernel_rfl) rfl (allS_cons rfl hpv (allS_cons rfl hpn_ allS_nil)) ?_
  refine WX.run ttOk rfl ?_
  refine WX.callV rfl rfl rfl rfl rfl (fun _ => rfl) rfl (fun w G bs hI hΓ => f95 w n (by omega) v.entries pv cv (hΓ.get 0 rfl) n_ pn_ cn_ (hΓ.get 1 rfl) (ok_StateVector hokv) hokn_) ?_
  intro hq1
  refine WX.run ttOk rfl ?_
  have hP1 : spec_SeqOf v n_ = ((spec_LookupEntry v.entries n_).1) := by simp only [spec_SeqOf, cond_true, cond_false]
  refine WX.ret ttOk rfl ?_
  intro w1 G bs hI hΓ
  rw [hP1]
  exact ⟨rfl, hq1⟩
theorem f117 (w : World) (n : Nat) (hn : n + 0 ≤ 9) (l : Log) (plDurable : Option Addr) (clDurable : Nat) (hplDurable : RdSl (hp w) plDurable clDurable l.durable) (plVolatile : Option Addr) (clVolatile : Nat) (hplVolatile : RdSl (hp w) plVolatile clVolatile l.volatile) (hokl : GoT.ok n l) :
    Does Try.prog 117 #[.agg #[.slice plDurable ((l.durable).length) clDurable, .slice plVolatile ((l.volatile).length) clVolatile]] w emp (Post w emp (fun x : GoT.X (Log) => .agg ⟨GoT.sh ((impl_copyLog l) : Log) x⟩) (fun x => GoT.oa ((impl_copyLog l) : Log) x) (GoT.ok n ((impl_copyLog l) : Log))) := by
  have hbP := bd_pos n
  have hbB := bd_big (n := n) (by omega)
  refine WX.enter (tt := tt) (Γ := [(0, MF.rs .stb plDurable clDurable l.durable), (1, MF.rs .stb plVolatile clVolatile l.volatile)]) Try.func117 rfl (by kernel_rfl) rfl (allS_cons rfl hplDurable (allS_cons rfl hplVolatile allS_nil)) ?_
  refine WX.run ttOk rfl ?_
  refine WX.draw [7] mixed ?_
  intro bs G0 hΓ0
  refine DX.takes (fuel := 4) ttOk [(0, true), (1, false), (3, true), (4, false)] (by kernel_rfl) rfl ?_
  refine DX.callF 2 2 (fun _ _ h => GoT.ow_rd h) (fun _ f hf => GoT.fak f hf) rfl (by kernel_rfl) rfl rfl rfl rfl rfl rfl (fun _ => rfl) rfl (fun w G bs hI hΓ => f144 w n (by omega) l.durable plDurable clDurable (hΓ.get 0 rfl) ((ok_Log hokl).1)) (fun _ => rfl) (fun _ => rfl) ?_
  rintro ⟨p1, c1⟩ hq1
  refine DX.callF 5 4 (fun _ _ h => GoT.ow_rd h) (fun _ f hf => GoT.fak f hf) rfl (by kernel_rfl) rfl rfl rfl rfl rfl rfl (fun _ => rfl) rfl (fun w G bs hI hΓ => f144 w n (by omega) l.volatile plVolatile clVolatile (hΓ.get 1 rfl) ((ok_Log hokl).2)) (fun _ => rfl) (fun _ => rfl) ?_
  rintro ⟨p2, c2⟩ hq2
  refine DX.takes (fuel := 1) ttOk [(6, true)] (by kernel_rfl) rfl ?_
  refine DX.tail2 [7] rfl rfl (by kernel_rfl) ?_
  refine WX.run ttOk rfl ?_
  have hP1 : impl_copyLog l = (Log.mk (impl_copyRecords l.durable) (impl_copyRecords l.volatile)) := by simp only [impl_copyLog, cond_true, cond_false]
  refine WX.ret ttOk rfl ?_
  intro w1 G bs hI hΓ
  rw [hP1]
  exact Post.of [3, 5] ((p1, c1), (p2, c2)) hI hΓ rfl rfl rfl (And.intro hq1 hq2)
theorem f64 (w : World) (n : Nat) (hn : n + 0 ≤ 9) (l : Log) (plDurable : Option Addr) (clDurable : Nat) (hplDurable : RdSl (hp w) plDurable clDurable l.durable) (plVolatile : Option Addr) (clVolatile : Nat) (hplVolatile : RdSl (hp w) plVolatile clVolatile l.volatile) (hokl : GoT.ok n l) :
    Does Try.prog 64 #[.agg #[.slice plDurable ((l.durable).length) clDurable, .slice plVolatile ((l.volatile).length) clVolatile]] w emp (Post w emp (fun x : GoT.X (Log) => .agg ⟨GoT.sh ((spec_l29Copy l) : Log) x⟩) (fun x => GoT.oa ((spec_l29Copy l) : Log) x) (GoT.ok n ((spec_l29Copy l) : Log))) := by
  have hbP := bd_pos n
  have hbB := bd_big (n := n) (by omega)
  refine WX.enter (tt := tt) (Γ := [(0, MF.rs .stb plDurable clDurable l.durable), (1, MF.rs .stb plVolatile clVolatile l.volatile)]) Try.func64 rfl (by kernel_rfl) rfl (allS_cons rfl hplDurable (allS_cons rfl hplVolatile allS_nil)) ?_
  refine WX.run ttOk rfl ?_
  refine WX.draw [7] mixed ?_
  intro bs G0 hΓ0
  refine DX.takes (fuel := 4) ttOk [(0, true), (1, false), (3, true), (4, false)] (by kernel_rfl) rfl ?_
  refine DX.callF 2 2 (fun _ _ h => GoT.ow_rd h) (fun _ f hf => GoT.fak f hf) rfl (by kernel_rfl) rfl rfl rfl rfl rfl rfl (fun _ => rfl) rfl (fun w G bs hI hΓ => f110 w n (by omega) l.durable plDurable clDurable (hΓ.get 0 rfl) ((ok_Log hokl).1)) (fun _ => rfl) (fun _ => rfl) ?_
  rintro ⟨p1, c1⟩ hq1
  refine DX.callF 5 4 (fun _ _ h => GoT.ow_rd h) (fun _ f hf => GoT.fak f hf) rfl (by kernel_rfl) rfl rfl rfl rfl rfl rfl (fun _ => rfl) rfl (fun w G bs hI hΓ => f110 w n (by omega) l.volatile plVolatile clVolatile (hΓ.get 1 rfl) ((ok_Log hokl).2)) (fun _ => rfl) (fun _ => rfl) ?_
  rintro ⟨p2, c2⟩ hq2
  refine DX.takes (fuel := 1) ttOk [(6, true)] (by kernel_rfl) rfl ?_
  refine DX.tail2 [7] rfl rfl (by kernel_rfl) ?_
  refine WX.run ttOk rfl ?_
  have hP1 : spec_l29Copy l = (Log.mk (spec_l29Recs l.durable) (spec_l29Recs l.volatile)) := by simp only [spec_l29Copy, cond_true, cond_false]
  refine WX.ret ttOk rfl ?_
  intro w1 G bs hI hΓ
  rw [hP1]
  exact Post.of [3, 5] ((p1, c1), (p2, c2)) hI hΓ rfl rfl rfl (And.intro hq1 hq2)
end Go.Proofs.Ytdkhklhnipiheaa
