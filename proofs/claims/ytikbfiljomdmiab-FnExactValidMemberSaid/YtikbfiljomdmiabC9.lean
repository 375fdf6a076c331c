/-
  That functions of the program compute what the Lean functions do. No condition but what each says. Written by a program (gen2.py).
-/
import Derived.Test.YtikbfiljomdmiabC8
import Derived.Test.YtikbfiljomdmiabP9
namespace Go.Proofs.Ytikbfiljomdmiab
open Go.Stp
set_option linter.unusedVariables false
set_option linter.unusedSimpArgs false
theorem f117 (w : World) (n : Nat) (hn : n + 0 ≤ 9) (s : (List Publication)) (ps : Option Addr) (cs : Nat) (hps : RdSl (hp w) ps cs s) (fg : FuncId) (fc : List Value) (fq : Publication → Bool) (ff : ∀ w1, Kp emp w w1 → ∀ (e0 : Publication) (x0 : GoT.X Publication), GoT.ok n e0 → All (hp w1) (GoT.fa .der e0 x0) → Does Try.prog fg ([Value.agg ⟨GoT.sh e0 x0⟩] ++ fc).toArray w1 emp (fun rv _ => rv = .bool (fq e0) ∧ True)) (hoks : GoT.ok n s) :
    Does Try.prog 117 #[.slice ps ((s).length) cs, .func (.func fg) #[] fc.toArray] w emp (fun (rv : Value) (_ : World) => rv = .int .i64 ((slices_IndexFunc_Publication s fq)) ∧ GoT.ok n ((slices_IndexFunc_Publication s fq) : Int)) := by
  have hbP := bd_pos n
  have hbB := bd_big (n := n) (by omega)
  refine WX.enter (tt := tt) (Γ := [(0, MF.rs .stb ps cs s)]) Try.func117 rfl (by kernel_rfl) rfl (allS_cons rfl hps allS_nil) ?_
  refine WX.run ttOk rfl ?_
  have r1 : (s).length ≤ bd n := (okl hoks).1
  refine WX.loop (ι := Nat) ⟨fun i => (i ≤ (s).length) ∧ (slices_IndexFunc_Publication_L1 fq s 0 = slices_IndexFunc_Publication_L1 fq ((s).drop i) i), fun i => (s).length - i, fun i => [(8, .v (.int .i64 (((i : Nat) : Int)))), (7, .v (.int .i64 ((((s).length : Nat) : Int)))), (0, .v (.slice ps ((s).length) cs)), (1, .v (.func (.func fg) #[] fc.toArray))], fun i => [], fun i => [], fun i => [(0, MF.rs .stb ps cs s)]⟩ 0 ⟨(Nat.zero_le _), rfl⟩
    (.cons rfl (.cons rfl (.cons rfl (.cons rfl (.nil))))) .nil .nil [0] rfl ?_
  rintro i hpre
  have hpre_ : (i ≤ (s).length) ∧ (slices_IndexFunc_Publication_L1 fq s 0 = slices_IndexFunc_Publication_L1 fq ((s).drop i) i) := hpre
  clear hpre
  obtain ⟨v1, v2⟩ := hpre_
  refine WX.run ttOk rfl ?_
  refine WX.cases 9 rfl (fun h1 => ?_) (fun h1 => ?_)
  · skip
    have h1d := B.dt h1
    have e1i : i < (s).length := (by omega)
    obtain ⟨e1, e1h⟩ : ∃ e1, (s)[i]? = some e1 := ⟨_, List.getElem?_eq_getElem e1i⟩
    have ok1 : GoT.ok n e1 := (okl hoks).2 _ (List.mem_of_getElem? e1h)
    refine WX.run ttOk rfl ?_
    refine WX.idx 0 i ttOk rfl rfl rfl rfl rfl rfl rfl rfl rfl rfl e1i ?_
    rintro ad1 rfl
    refine WX.ldE 0 1 e1 ttOk rfl rfl rfl rfl rfl rfl rfl rfl e1h (fun _ => rfl) (fun _ => rfl) ?_
    rintro ⟨⟨p1, c1⟩, ⟨⟩, ⟨p2, c2⟩⟩
    refine WX.callV rfl rfl rfl rfl rfl (fun _ => rfl) rfl (fun w G bs hI hΓ => ff w hI.keep e1 ((p1, c1), (), (p2, c2)) ok1 (All.cons (hΓ.get 1 rfl : RdSl _ _ _ _) (All.cons (hΓ.get 2 rfl : RdSl _ _ _ _) All.nil))) ?_
    intro hq1
    refine WX.run ttOk rfl ?_
    refine WX.cases 16 rfl (fun h2 => ?_) (fun h2 => ?_)
    · skip
      refine WX.run ttOk rfl ?_
      have hP1 : slices_IndexFunc_Publication_L1 fq s 0 = (some ((i : Nat) : Int)) := by rw [v2, drop_get e1h]; simp only [slices_IndexFunc_Publication_L1, h2, cond_true, cond_false]
      have hP2 : slices_IndexFunc_Publication s fq = ((i : Nat) : Int) := by simp only [slices_IndexFunc_Publication, hP1, cond_true, cond_false]
      refine WX.ret ttOk rfl ?_
      intro w1 G bs hI hΓ
      rw [hP2]
      exact ⟨rfl, (show I64 ((i : Nat) : Int) from (by unfold I64; omega))⟩
    · skip
      refine WX.run ttOk rfl ?_
      refine WX.see rfl rfl rfl (fun _ hΓ => looks_arith rfl rfl rfl rfl (by unfold I64; omega)) ?_
      refine WX.run ttOk rfl ?_
      exact WX.iter (i + 1) ⟨(by omega), (by rw [v2, drop_get e1h]; simp only [slices_IndexFunc_Publication_L1, h2, cond_true, cond_false])⟩ (by dsimp only; omega) (.cons rfl (.cons rfl (.cons rfl (.cons rfl (.nil))))) .nil .nil [0] rfl
  · skip
    have h1d := B.df h1
    refine WX.run ttOk rfl ?_
    have hX1 : slices_IndexFunc_Publication_L1 fq s 0 = none := by rw [v2, List.drop_eq_nil_of_le (show (s).length ≤ i by omega)]; simp only [slices_IndexFunc_Publication_L1, cond_true, cond_false]
    have hP3 : slices_IndexFunc_Publication s fq = (-1) := by simp only [slices_IndexFunc_Publication, hX1, cond_true, cond_false]
    refine WX.ret ttOk rfl ?_
    intro w1 G bs hI hΓ
    rw [hP3]
    exact ⟨rfl, (show I64 (-1) from (by unfold I64; omega))⟩
theorem f118 (w : World) (n : Nat) (hn : n + 0 ≤ 9) (p_ : Publication) (pp_Publisher : Option Addr) (cp_Publisher : Nat) (hpp_Publisher : RdSl (hp w) pp_Publisher cp_Publisher p_.publisher.parts) (pp_Content : Option Addr) (cp_Content : Nat) (hpp_Content : RdSl (hp w) pp_Content cp_Content p_.content) (i : Int) (bi : Addr) (hi : RdSl (hp w) (some bi) 1 [i]) (n_ : Name) (bn_ : Addr) (hn_ : RdSl (hp w) (some bn_) 1 [n_]) (hokp_ : GoT.ok n p_) (hoki : GoT.ok n i) (hokn_ : GoT.ok n n_) :
    Does Try.prog 118 #[.agg #[.slice pp_Publisher ((p_.publisher.parts).length) cp_Publisher, .int .i64 (p_.seq), .slice pp_Content ((p_.content).length) cp_Content], .pointer (some bi), .pointer (some bn_)] w emp (fun (rv : Value) (_ : World) => rv = .bool (impl_publishedAt_c1 i n_ p_) ∧ True) := by
  have hbP := bd_pos n
  have hbB := bd_big (n := n) (by omega)
  refine WX.enter (tt := tt) (Γ := [(0, MF.rs .stb pp_Publisher cp_Publisher p_.publisher.parts), (1, MF.rs .stb pp_Content cp_Content p_.content), (2, MF.rs .stb (some bi) 1 ([i])), (3, MF.rs .stb (some bn_) 1 ([n_]))]) Try.func118 rfl (by kernel_rfl) rfl (allS_cons rfl hpp_Publisher (allS_cons rfl hpp_Content (allS_cons rfl hi (allS_cons rfl hn_ allS_nil)))) ?_
  have ih : ([i] : List Int)[0]? = some i := rfl
  refine WX.slot 1 (y := .e (some bi) 0 1 0) rfl (fun _ => cap_eq) ?_
  have n_h : ([n_] : List Name)[0]? = some n_ := rfl
  refine WX.slot 2 (y := .e (some bn_) 0 1 0) rfl (fun _ => cap_eq) ?_
  refine WX.run ttOk rfl ?_
  refine WX.ldE 2 4 i ttOk rfl rfl rfl rfl rfl rfl rfl rfl ih (fun _ => rfl) (fun _ => rfl) ?_
  rintro ⟨⟩
  refine WX.run ttOk rfl ?_
  refine WX.cases 9 rfl (fun h1 => ?_) (fun h1 => ?_)
  · skip
    have h1d := B.et h1
    refine WX.run ttOk rfl ?_
    refine WX.ldE 3 4 n_ ttOk rfl rfl rfl rfl rfl rfl rfl rfl n_h (fun _ => rfl) (fun _ => rfl) ?_
    rintro ⟨p1, c1⟩
    refine WX.callV rfl rfl rfl rfl rfl (fun _ => rfl) rfl (fun w G bs hI hΓ => f67 w n (by omega) p_.publisher pp_Publisher cp_Publisher (hΓ.get 0 rfl) n_ p1 c1 (hΓ.get 4 rfl) ((ok_Publication hokp_).1) hokn_) ?_
    intro hq1
    refine WX.run ttOk rfl ?_
    have hP1 : impl_publishedAt_c1 i n_ p_ = (impl_EqualNames p_.publisher n_) := by simp only [impl_publishedAt_c1, h1, cond_true, cond_false]
    refine WX.ret ttOk rfl ?_
    intro w1 G bs hI hΓ
    rw [hP1]
    exact ⟨rfl, trivial⟩
  · skip
    have h1d := B.ef h1
    refine WX.run ttOk rfl ?_
    have hP2 : impl_publishedAt_c1 i n_ p_ = false := by simp only [impl_publishedAt_c1, h1, cond_true, cond_false]
    refine WX.ret ttOk rfl ?_
    intro w1 G bs hI hΓ
    rw [hP2]
    exact ⟨rfl, trivial⟩
theorem f83 (w : World) (n : Nat) (hn : n + 0 ≤ 9) (l : (List Publication)) (pl : Option Addr) (cl : Nat) (hpl : RdSl (hp w) pl cl l) (n_ : Name) (pn_ : Option Addr) (cn_ : Nat) (hpn_ : RdSl (hp w) pn_ cn_ n_.parts) (i : Int) (hokl : GoT.ok n l) (hokn_ : GoT.ok n n_) (hoki : GoT.ok n i) :
    Does Try.prog 83 #[.slice pl ((l).length) cl, .agg #[.slice pn_ ((n_.parts).length) cn_], .int .i64 (i)] w emp (fun (rv : Value) (_ : World) => rv = .int .i64 ((impl_publishedAt l n_ i)) ∧ GoT.ok n ((impl_publishedAt l n_ i) : Int)) := by
  have hbP := bd_pos n
  have hbB := bd_big (n := n) (by omega)
  refine WX.enter (tt := tt) (Γ := [(0, MF.rs .stb pl cl l), (1, MF.rs .stb pn_ cn_ n_.parts)]) Try.func83 rfl (by kernel_rfl) rfl (allS_cons rfl hpl (allS_cons rfl hpn_ allS_nil)) ?_
  refine WX.run ttOk rfl ?_
  refine WX.callV rfl rfl rfl rfl rfl (fun _ => rfl) rfl (fun w G bs hI hΓ => f117 w n (by omega) l pl cl (hΓ.get 0 rfl) 118 [Value.pointer (some ⟨bs 5, 0, none⟩), Value.pointer (some ⟨bs 4, 0, none⟩)] (fun e0_ => (impl_publishedAt_c1 i n_ e0_)) (fun w1_ hb_ e0_ x0_ hk0_ hx0_ => f118 w1_ n (by omega) e0_ x0_.1.1 x0_.1.2 (hx0_ _ List.mem_cons_self) x0_.2.2.1 x0_.2.2.2 (hx0_ (MF.rs .der x0_.2.2.1 x0_.2.2.2 e0_.content) (by simp [GoT.fa])) i ⟨bs 5, 0, none⟩ ((rd_box (α := Int) (a := i) (x := ()) (hI.loc 5 _ rfl).1 All.nil).mono (kp_le hb_)) n_ ⟨bs 4, 0, none⟩ ((rd_box (α := Name) (a := n_) (x := (pn_, cn_)) (hI.loc 4 _ rfl).1 (All.cons (hΓ.get 1 rfl : RdSl _ _ _ _) All.nil)).mono (kp_le hb_)) hk0_ hoki hokn_) hokl) ?_
  intro hq1
  refine WX.run ttOk rfl ?_
  have hP1 : impl_publishedAt l n_ i = (slices_IndexFunc_Publication l (fun e0_ => (impl_publishedAt_c1 i n_ e0_))) := by simp only [impl_publishedAt, cond_true, cond_false]
  refine WX.ret ttOk rfl ?_
  intro w1 G bs hI hΓ
  rw [hP1]
  exact ⟨rfl, hq1⟩
theorem f77 (w : World) (n : Nat) (hn : n + 0 ≤ 9) (l : (List Publication)) (pl : Option Addr) (cl : Nat) (hpl : RdSl (hp w) pl cl l) (n_ : Name) (pn_ : Option Addr) (cn_ : Nat) (hpn_ : RdSl (hp w) pn_ cn_ n_.parts) (i : Int) (hokl : GoT.ok n l) (hokn_ : GoT.ok n n_) (hoki : GoT.ok n i) :
    Does Try.prog 77 #[.slice pl ((l).length) cl, .agg #[.slice pn_ ((n_.parts).length) cn_], .int .i64 (i)] w emp (fun (rv : Value) (_ : World) => rv = .int .i64 ((spec_l28Find l n_ i)) ∧ GoT.ok n ((spec_l28Find l n_ i) : Int)) := by
  have hbP := bd_pos n
  have hbB := bd_big (n := n) (by omega)
  refine WX.enter (tt := tt) (Γ := [(0, MF.rs .stb pl cl l), (1, MF.rs .stb pn_ cn_ n_.parts)]) Try.func77 rfl (by kernel_rfl) rfl (allS_cons rfl hpl (allS_cons rfl hpn_ allS_nil)) ?_
  refine WX.run ttOk rfl ?_
  have r1 : (l).length ≤ bd n := (okl hokl).1
  refine WX.loop (ι := Nat) ⟨fun i2 => (i2 ≤ (l).length) ∧ (spec_l28Find_L1 n_ i l 0 = spec_l28Find_L1 n_ i ((l).drop i2) i2), fun i2 => (l).length - i2, fun i2 => [(7, .v (.int .i64 (((i2 : Nat) : Int)))), (4, .p 4 0), (0, .v (.slice pl ((l).length) cl)), (2, .v (.int .i64 (i)))], fun i2 => [(4, ⟨51, [.slice pn_ ((n_.parts).length) cn_]⟩)], fun i2 => [], fun i2 => [(0, MF.rs .stb pl cl l), (1, MF.rs .stb pn_ cn_ n_.parts)]⟩ 0 ⟨(Nat.zero_le _), rfl⟩
    (.cons rfl (.cons rfl (.cons rfl (.cons rfl (.nil))))) (.cons rfl (.nil)) .nil [0, 1] rfl ?_
  rintro i2 hpre
  have hpre_ : (i2 ≤ (l).length) ∧ (spec_l28Find_L1 n_ i l 0 = spec_l28Find_L1 n_ i ((l).drop i2) i2) := hpre
  clear hpre
  obtain ⟨v1, v2⟩ := hpre_
  refine WX.run ttOk rfl ?_
  refine WX.cases 11 rfl (fun h1 => ?_) (fun h1 => ?_)
  · skip
    have h1d := B.dt h1
    have e1i : i2 < (l).length := (by omega)
    obtain ⟨e1, e1h⟩ : ∃ e1, (l)[i2]? = some e1 := ⟨_, List.getElem?_eq_getElem e1i⟩
    have ok1 : GoT.ok n e1 := (okl hokl).2 _ (List.mem_of_getElem? e1h)
    refine WX.run ttOk rfl ?_
    refine WX.draw [] mixed ?_
    intro bs G0 hΓ0
    refine DX.takes (fuel := 14) ttOk [(0, true), (1, true)] (by kernel_rfl) rfl ?_
    refine DX.idx 2 0 i2 ttOk hΓ0 (by kernel_rfl) rfl rfl rfl rfl rfl rfl rfl rfl rfl rfl rfl e1i ?_
    rintro ad1 rfl
    refine DX.takes (fuel := 12) ttOk [(3, true)] (by kernel_rfl) rfl ?_
    refine DX.ldE 4 0 2 e1 ttOk hΓ0 (by kernel_rfl) rfl rfl rfl rfl rfl rfl rfl rfl e1h (fun _ => rfl) (fun _ => rfl) ?_
    rintro ⟨⟨p1, c1⟩, ⟨⟩, ⟨p2, c2⟩⟩
    refine DX.takes (fuel := 8) ttOk [(5, true), (6, true), (7, true)] (by kernel_rfl) rfl ?_
    refine DX.cases 21 rfl (fun h2 => ?_) (fun h2 => ?_)
    · skip
      have h2d := B.et h2
      refine DX.takes (fuel := 6) ttOk [(8, true), (9, true)] (by kernel_rfl) rfl ?_
      refine DX.idx 10 0 i2 ttOk hΓ0 (by kernel_rfl) rfl rfl rfl rfl rfl rfl rfl rfl rfl rfl rfl e1i ?_
      rintro ad2 ⟨⟩
      refine DX.takes (fuel := 4) ttOk [(11, true)] (by kernel_rfl) rfl ?_
      refine DX.ldE 12 0 4 e1 ttOk hΓ0 (by kernel_rfl) rfl rfl rfl rfl rfl rfl rfl rfl e1h (fun _ => rfl) (fun _ => rfl) ?_
      rintro ⟨⟨p3, c3⟩, ⟨⟩, ⟨p4, c4⟩⟩
      refine DX.takes (fuel := 2) ttOk [(13, false)] (by kernel_rfl) rfl ?_
      refine DX.callV 14 rfl (by kernel_rfl) rfl rfl rfl rfl rfl rfl (fun _ => rfl) rfl (fun w G bs hI hΓ => f101 w n (by omega) e1.publisher p3 c3 (hΓ.get 4 rfl) n_ pn_ cn_ (hΓ.get 1 rfl) ((ok_Publication ok1).1) hokn_) ?_
      intro hq1
      refine DX.takes (fuel := 0) ttOk [(15, true)] (by kernel_rfl) rfl ?_
      refine DX.tail [] rfl rfl (by kernel_rfl) ?_
      refine WX.run ttOk rfl ?_
      refine WX.cases 29 rfl (fun h3 => ?_) (fun h3 => ?_)
      · skip
        refine WX.run ttOk rfl ?_
        have hP1 : spec_l28Find_L1 n_ i l 0 = (some ((i2 : Nat) : Int)) := by rw [v2, drop_get e1h]; simp only [spec_l28Find_L1, h2, h3, cond_true, cond_false]
        have hP2 : spec_l28Find l n_ i = ((i2 : Nat) : Int) := by simp only [spec_l28Find, hP1, cond_true, cond_false]
        refine WX.ret ttOk rfl ?_
        intro w1 G bs hI hΓ
        rw [hP2]
        exact ⟨rfl, (show I64 ((i2 : Nat) : Int) from (by unfold I64; omega))⟩
      · skip
        refine WX.run ttOk rfl ?_
        refine WX.see rfl rfl rfl (fun _ hΓ => looks_arith rfl rfl rfl rfl (by unfold I64; omega)) ?_
        refine WX.run ttOk rfl ?_
        exact WX.iter (i2 + 1) ⟨(by omega), (by rw [v2, drop_get e1h]; simp only [spec_l28Find_L1, h2, h3, cond_true, cond_false])⟩ (by dsimp only; omega) (.cons rfl (.cons rfl (.cons rfl (.cons rfl (.nil))))) (.cons rfl (.nil)) .nil [0, 1] rfl
    · skip
      have h2d := B.ef h2
      refine DX.takes (fuel := 0) ttOk [(8, true), (9, true), (10, true), (11, true), (12, true), (13, true), (14, true), (15, true)] (by kernel_rfl) rfl ?_
      refine DX.tail [] rfl rfl (by kernel_rfl) ?_
      refine WX.run ttOk rfl ?_
      refine WX.see rfl rfl rfl (fun _ hΓ => looks_arith rfl rfl rfl rfl (by unfold I64; omega)) ?_
      refine WX.run ttOk rfl ?_
      exact WX.iter (i2 + 1) ⟨(by omega), (by rw [v2, drop_get e1h]; simp only [spec_l28Find_L1, h2, cond_true, cond_false])⟩ (by dsimp only; omega) (.cons rfl (.cons rfl (.cons rfl (.cons rfl (.nil))))) (.cons rfl (.nil)) .nil [0, 1] rfl
  · skip
    have h1d := B.df h1
    refine WX.run ttOk rfl ?_
    have hX1 : spec_l28Find_L1 n_ i l 0 = none := by rw [v2, List.drop_eq_nil_of_le (show (l).length ≤ i2 by omega)]; simp only [spec_l28Find_L1, cond_true, cond_false]
    have hP3 : spec_l28Find l n_ i = (-1) := by simp only [spec_l28Find, hX1, cond_true, cond_false]
    refine WX.ret ttOk rfl ?_
    intro w1 G bs hI hΓ
    rw [hP3]
    exact ⟨rfl, (show I64 (-1) from (by unfold I64; omega))⟩
theorem lt_iFP : ∀ (f : Publication → Bool) (l : List Publication) (i : Nat) (j : Int), slices_IndexFunc_Publication_L1 f l i = some j → j < ((i + l.length : Nat) : Int)
  | f, [], i, j, h => by cases h
  | f, x :: l, i, j, h => by
    simp only [slices_IndexFunc_Publication_L1] at h
    cases hx : f x
    · rw [hx, cond_false] at h
      have := lt_iFP f l (i + 1) j h
      simp only [List.length_cons]; omega
    · rw [hx, cond_true] at h
      cases h
      simp only [List.length_cons]; omega
theorem lt_publishedAt (l : List Publication) (n_ : Name) (i : Int) : impl_publishedAt l n_ i < ((l.length : Nat) : Int) := by
  unfold impl_publishedAt slices_IndexFunc_Publication
  cases h : slices_IndexFunc_Publication_L1 (fun e0_ => impl_publishedAt_c1 i n_ e0_) l 0 with
  | none => show (-1 : Int) < _; omega
  | some j => have := lt_iFP _ l 0 j h; show j < _; omega
theorem lt_l28L (n_ : Name) (i : Int) : ∀ (l : List Publication) (k : Nat) (j : Int), spec_l28Find_L1 n_ i l k = some j → j < ((k + l.length : Nat) : Int)
  | [], k, j, h => by cases h
  | x :: l, k, j, h => by
    simp only [spec_l28Find_L1] at h
    cases hx : (x.seq == i)
    · rw [hx, cond_false] at h
      have := lt_l28L n_ i l (k + 1) j h
      simp only [List.length_cons]; omega
    · rw [hx, cond_true] at h
      cases hy : spec_EqualNames x.publisher n_
      · rw [hy, cond_false] at h
        have := lt_l28L n_ i l (k + 1) j h
        simp only [List.length_cons]; omega
      · rw [hy, cond_true] at h
        cases h
        simp only [List.length_cons]; omega
theorem lt_l28Find (l : List Publication) (n_ : Name) (i : Int) : spec_l28Find l n_ i < ((l.length : Nat) : Int) := by
  unfold spec_l28Find
  cases h : spec_l28Find_L1 n_ i l 0 with
  | none => show (-1 : Int) < _; omega
  | some j => have := lt_l28L n_ i l 0 j h; show j < _; omega
end Go.Proofs.Ytikbfiljomdmiab
