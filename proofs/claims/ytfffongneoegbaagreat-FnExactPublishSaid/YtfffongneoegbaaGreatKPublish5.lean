/-
  What the proof of one law needs: rules of the program logic, functions as Lean functions, contracts. No condition but what each says. Written by a program (pack.py) out of my own texts.
-/
import Derived.Test.YtfffongneoegbaaGreatKPublish4
namespace Go.Proofs.YtfffongneoegbaaGreat
open Go.Stp
set_option linter.unusedVariables false
set_option linter.unusedSimpArgs false
theorem f290 (w : World) (n : Nat) (hn : n + 0 ≤ 9) (e_ : TableEntry) (pe_Name : Option Addr) (ce_Name : Nat) (hpe_Name : RdSl (hp w) pe_Name ce_Name e_.name.parts) (hoke_ : GoT.ok n e_) :
    Does Tryz.prog 290 #[.agg #[.slice pe_Name ((e_.name.parts).length) ce_Name, .int .i64 (e_.value)]] w emp (fun (rv : Value) (_ : World) => rv = .bool (impl_copyTable_c1 e_) ∧ True) := by
  refine WX.enter (tt := tt) (Γ := [(0, MF.rs .stb pe_Name ce_Name e_.name.parts)]) Tryz.func290 rfl (by kernel_rfl) rfl (allS_cons rfl hpe_Name allS_nil) ?_
  refine WX.run ttOk rfl ?_
  have hP1 : impl_copyTable_c1 e_ = true := by simp only [impl_copyTable_c1, cond_true, cond_false]
  refine WX.ret ttOk rfl ?_
  intro w1 G bs hI hΓ
  rw [hP1]
  exact ⟨rfl, trivial⟩
theorem f289 (w : World) (n : Nat) (hn : n + 0 ≤ 9) (l : (List TableEntry)) (pl : Option Addr) (cl : Nat) (hpl : RdSl (hp w) pl cl l) (keepg : FuncId) (keepc : List Value) (keepq : TableEntry → Bool) (keepf : ∀ w1, Kp emp w w1 → ∀ (e0 : TableEntry) (x0 : GoT.X TableEntry), GoT.ok n e0 → All (hp w1) (GoT.fa .der e0 x0) → Does Tryz.prog keepg ([Value.agg ⟨GoT.sh e0 x0⟩] ++ keepc).toArray w1 emp (fun rv _ => rv = .bool (keepq e0) ∧ True)) (hokl : GoT.ok n l) :
    Does Tryz.prog 289 #[.slice pl ((l).length) cl, .func (.func keepg) #[] keepc.toArray] w emp (Post w emp (fun x : GoT.X ((List TableEntry)) => (GoT.sh ((impl_keepTable l keepq) : (List TableEntry)) x).headD undef) (fun x => GoT.oa ((impl_keepTable l keepq) : (List TableEntry)) x) (GoT.ok n ((impl_keepTable l keepq) : (List TableEntry)))) := by
  have hbP := bd_pos n
  have hbB := bd_big (n := n) (by omega)
  refine WX.enter (tt := tt) (Γ := [(0, MF.rs .stb pl cl l)]) Tryz.func289 rfl (by kernel_rfl) rfl (allS_cons rfl hpl allS_nil) ?_
  refine WX.run ttOk rfl ?_
  refine WX.bld ttOk rfl rfl rfl rfl rfl rfl rfl ?_
  intro p1
  refine WX.run ttOk rfl ?_
  refine WX.free 1 (MF.ol [] ([] : List TableEntry)) rfl ?_
  have r1 : (l).length ≤ bd n := (okl hokl).1
  refine WX.loop (ι := (Option Addr) × Nat × (List Value) × (List TableEntry) × Nat) ⟨fun | (pout, cout, xsout, out, i) => (i ≤ (l).length) ∧ (∀ z_ ∈ out, GoT.ok n z_) ∧ (out.length ≤ i) ∧ (impl_keepTable_L1 keepq l ([] : List TableEntry) = impl_keepTable_L1 keepq ((l).drop i) out), fun | (pout, cout, xsout, out, i) => (l).length - i, fun | (pout, cout, xsout, out, i) => [(5, .v (.slice pout ((out).length) cout)), (11, .v (.int .i64 (((i : Nat) : Int)))), (10, .v (.int .i64 ((((l).length : Nat) : Int)))), (9, .v (.slice pl ((l).length) cl)), (1, .v (.func (.func keepg) #[] keepc.toArray))], fun | (pout, cout, xsout, out, i) => [], fun | (pout, cout, xsout, out, i) => [(8, ⟨2, pout, (out).length, cout, xsout⟩)], fun | (pout, cout, xsout, out, i) => [(0, MF.rs .stb pl cl l), (1, MF.ol xsout (out : List TableEntry))]⟩ (p1, 0, [], ([] : List TableEntry), 0) ⟨(Nat.zero_le _), (fun a ha => by cases ha), (by simp), rfl⟩
    (.cons rfl (.cons rfl (.cons rfl (.cons rfl (.cons rfl (.nil)))))) .nil (.cons rfl (.nil)) [0, 1] rfl ?_
  rintro ⟨pout, cout, xsout, out, i⟩ hpre
  have hpre_ : (i ≤ (l).length) ∧ (∀ z_ ∈ out, GoT.ok n z_) ∧ (out.length ≤ i) ∧ (impl_keepTable_L1 keepq l ([] : List TableEntry) = impl_keepTable_L1 keepq ((l).drop i) out) := hpre
  clear hpre
  obtain ⟨v1, v2, v3, v4⟩ := hpre_
  refine WX.run ttOk rfl ?_
  refine WX.cases 12 rfl (fun h1 => ?_) (fun h1 => ?_)
  · skip
    have h1d := B.dt h1
    have e1i : i < (l).length := (by omega)
    obtain ⟨e1, e1h⟩ : ∃ e1, (l)[i]? = some e1 := ⟨_, List.getElem?_eq_getElem e1i⟩
    have ok1 : GoT.ok n e1 := (okl hokl).2 _ (List.mem_of_getElem? e1h)
    refine WX.run ttOk rfl ?_
    refine WX.idx 0 i ttOk rfl rfl rfl rfl rfl rfl rfl rfl rfl rfl e1i ?_
    rintro ad1 rfl
    refine WX.ldE 0 2 e1 ttOk rfl rfl rfl rfl rfl rfl rfl rfl e1h (fun _ => rfl) (fun _ => rfl) ?_
    rintro ⟨⟨p2, c1⟩, ⟨⟩⟩
    refine WX.run ttOk rfl ?_
    refine WX.callV rfl rfl rfl rfl rfl (fun _ => rfl) rfl (fun w G bs hI hΓ => keepf w hI.keep e1 ((p2, c1), ()) ok1 (All.cons (hΓ.get 2 rfl : RdSl _ _ _ _) All.nil)) ?_
    intro hq1
    refine WX.run ttOk rfl ?_
    refine WX.cases 17 rfl (fun h2 => ?_) (fun h2 => ?_)
    · skip
      refine WX.run ttOk rfl ?_
      refine WX.draw [8, 9] mixed ?_
      intro bs G0 hΓ0
      refine DX.takes (fuel := 5) ttOk [(0, true), (1, true), (2, false), (4, true), (5, false)] (by kernel_rfl) rfl ?_
      refine DX.callF 3 3 (fun _ _ h => GoT.ow_rd h) (fun _ f hf => GoT.fak f hf) rfl (by kernel_rfl) rfl rfl rfl rfl rfl rfl (fun _ => rfl) rfl (fun w G bs hI hΓ => f70 w n (by omega) e1.name p2 c1 (hΓ.get 2 rfl) ((ok_TableEntry ok1).1)) (fun _ => rfl) (fun _ => rfl) ?_
      rintro ⟨p3, c2⟩ hq2
      refine DX.takes (fuel := 3) ttOk [(6, true)] (by kernel_rfl) rfl ?_
      refine DX.tail2 [7, 8, 9] rfl rfl (by kernel_rfl) ?_
      refine WX.bld ttOk rfl rfl rfl rfl rfl rfl rfl ?_
      intro p4
      refine WX.turn [4] 5 rfl (fun h hs => ol_one (α := TableEntry) (a := (TableEntry.mk (impl_copyName e1.name) e1.value)) (x := ((p3, c2), ())) hs) (gs := [MF.ol [.slice p3 (((impl_copyName e1.name).parts).length) c2, .int .i64 (e1.value)] ([(TableEntry.mk (impl_copyName e1.name) e1.value)] : List TableEntry)]) rfl ?_
      have r2 : -9223372036854775808 ≤ e1.value ∧ e1.value ≤ 9223372036854775807 := (ok_TableEntry ok1).2
      refine WX.know (fun G hΓ => (hΓ.get 5 rfl : OwL _ _ _).rd.one) ?_
      intro ho1
      refine WX.appR1 8 25 ((out ++ [(TableEntry.mk (impl_copyName e1.name) e1.value)]) : List TableEntry).length ttOk rfl rfl rfl rfl rfl rfl rfl rfl rfl rfl rfl rfl rfl ho1 (by simp) (by simp; omega) (by simp; omega) (fun _ _ => rfl) ?_
      intro p5 c3
      refine WX.turn [1, 5] 6 rfl (fun h hs => ol_app hs) (gs := [MF.ol (xsout ++ [.slice p3 (((impl_copyName e1.name).parts).length) c2, .int .i64 (e1.value)]) ((out ++ [(TableEntry.mk (impl_copyName e1.name) e1.value)]) : List TableEntry)]) rfl ?_
      refine WX.run ttOk rfl ?_
      refine WX.see rfl rfl rfl (fun _ hΓ => looks_arith rfl rfl rfl rfl (by unfold I64; first | omega | (dsimp only; omega))) ?_
      refine WX.run ttOk rfl ?_
      refine WX.turn [6] 1 rfl (fun _ h => h) rfl ?_
      exact WX.iter (p5, c3, (xsout ++ [.slice p3 (((impl_copyName e1.name).parts).length) c2, .int .i64 (e1.value)]), ((out ++ [(TableEntry.mk (impl_copyName e1.name) e1.value)]) : List TableEntry), i + 1) ⟨(by omega), (all_app v2 (all_cons (α := TableEntry) (And.intro hq2 (ok_TableEntry ok1).2) (fun a ha => by cases ha))), (by first | assumption | omega | (simp only [List.length_append, List.length_cons, List.length_nil, List.length_set, List.length_map, List.length_take, List.length_drop]; omega) | (simp; omega)), (by rw [v4, drop_get e1h]; simp only [impl_keepTable_L1, h2, cond_true, cond_false])⟩ (by first | (dsimp only; omega) | omega) (.cons rfl (.cons rfl (.cons rfl (.cons rfl (.cons rfl (.nil)))))) .nil (.cons rfl (.nil)) [0, 1] rfl
    · skip
      refine WX.run ttOk rfl ?_
      refine WX.see rfl rfl rfl (fun _ hΓ => looks_arith rfl rfl rfl rfl (by unfold I64; first | omega | (dsimp only; omega))) ?_
      refine WX.run ttOk rfl ?_
      exact WX.iter (pout, cout, xsout, (out : List TableEntry), i + 1) ⟨(by omega), v2, (by first | assumption | omega | (simp only [List.length_append, List.length_cons, List.length_nil, List.length_set, List.length_map, List.length_take, List.length_drop]; omega) | (simp; omega)), (by rw [v4, drop_get e1h]; simp only [impl_keepTable_L1, h2, cond_true, cond_false])⟩ (by first | (dsimp only; omega) | omega) (.cons rfl (.cons rfl (.cons rfl (.cons rfl (.cons rfl (.nil)))))) .nil (.cons rfl (.nil)) [0, 1] rfl
  · skip
    have h1d := B.df h1
    refine WX.run ttOk rfl ?_
    have hX1 : impl_keepTable_L1 keepq l ([] : List TableEntry) = ((out) : List TableEntry) := by rw [v4, List.drop_eq_nil_of_le (show (l).length ≤ i by omega)]; simp only [impl_keepTable_L1, cond_true, cond_false]
    refine WX.seal 8 1 7 rfl rfl rfl rfl rfl ?_
    have hP1 : impl_keepTable l keepq = out := by simp only [impl_keepTable, hX1, cond_true, cond_false]
    refine WX.ret ttOk rfl ?_
    intro w1 G bs hI hΓ
    rw [hP1]
    exact Post.of [8] (pout, cout) hI hΓ rfl rfl rfl (okl_mk (by omega) v2 : GoT.ok n (out : List TableEntry))
theorem f184 (w : World) (n : Nat) (hn : n + 0 ≤ 9) (l : (List TableEntry)) (pl : Option Addr) (cl : Nat) (hpl : RdSl (hp w) pl cl l) (hokl : GoT.ok n l) :
    Does Tryz.prog 184 #[.slice pl ((l).length) cl] w emp (Post w emp (fun x : GoT.X ((List TableEntry)) => (GoT.sh ((impl_copyTable l) : (List TableEntry)) x).headD undef) (fun x => GoT.oa ((impl_copyTable l) : (List TableEntry)) x) (GoT.ok n ((impl_copyTable l) : (List TableEntry)))) := by
  have hbP := bd_pos n
  have hbB := bd_big (n := n) (by omega)
  refine WX.enter (tt := tt) (Γ := [(0, MF.rs .stb pl cl l)]) Tryz.func184 rfl (by kernel_rfl) rfl (allS_cons rfl hpl allS_nil) ?_
  refine WX.run ttOk rfl ?_
  refine WX.callF 1 (fun _ _ h => GoT.ow_rd h) (fun _ f hf => GoT.fak f hf) rfl rfl rfl rfl rfl (fun _ => rfl) rfl (fun w G bs hI hΓ => f289 w n (by omega) l pl cl (hΓ.get 0 rfl) 290 [] (fun e0_ => (impl_copyTable_c1 e0_)) (fun w1_ hb_ e0_ x0_ hk0_ hx0_ => f290 w1_ n (by omega) e0_ x0_.1.1 x0_.1.2 (hx0_ _ List.mem_cons_self) hk0_) hokl) (fun _ => rfl) (fun _ => rfl) ?_
  rintro ⟨p1, c1⟩ hq1
  refine WX.run ttOk rfl ?_
  have hP1 : impl_copyTable l = (impl_keepTable l (fun e0_ => (impl_copyTable_c1 e0_))) := by simp only [impl_copyTable, cond_true, cond_false]
  refine WX.ret ttOk rfl ?_
  intro w1 G bs hI hΓ
  rw [hP1]
  exact Post.of [2] (p1, c1) hI hΓ rfl rfl rfl hq1
theorem f174 (w : World) (n : Nat) (hn : n + 0 ≤ 9) (l : (List TableEntry)) (pl : Option Addr) (cl : Nat) (hpl : RdSl (hp w) pl cl l) (hokl : GoT.ok n l) :
    Does Tryz.prog 174 #[.slice pl ((l).length) cl] w emp (Post w emp (fun x : GoT.X ((List TableEntry)) => (GoT.sh ((spec_l6Copy l) : (List TableEntry)) x).headD undef) (fun x => GoT.oa ((spec_l6Copy l) : (List TableEntry)) x) (GoT.ok n ((spec_l6Copy l) : (List TableEntry)))) := by
  have hbP := bd_pos n
  have hbB := bd_big (n := n) (by omega)
  refine WX.enter (tt := tt) (Γ := [(0, MF.rs .stb pl cl l)]) Tryz.func174 rfl (by kernel_rfl) rfl (allS_cons rfl hpl allS_nil) ?_
  refine WX.run ttOk rfl ?_
  refine WX.bld ttOk rfl rfl rfl rfl rfl rfl rfl ?_
  intro p1
  refine WX.run ttOk rfl ?_
  refine WX.free 1 (MF.ol [] ([] : List TableEntry)) rfl ?_
  have r1 : (l).length ≤ bd n := (okl hokl).1
  refine WX.loop (ι := (Option Addr) × Nat × (List Value) × (List TableEntry) × Nat) ⟨fun | (pout, cout, xsout, out, i) => (i ≤ (l).length) ∧ (∀ z_ ∈ out, GoT.ok n z_) ∧ (out.length ≤ i) ∧ (spec_l6Copy_L1 l ([] : List TableEntry) = spec_l6Copy_L1 ((l).drop i) out), fun | (pout, cout, xsout, out, i) => (l).length - i, fun | (pout, cout, xsout, out, i) => [(3, .v (.slice pout ((out).length) cout)), (4, .v (.int .i64 (((i : Nat) : Int)))), (0, .v (.slice pl ((l).length) cl))], fun | (pout, cout, xsout, out, i) => [], fun | (pout, cout, xsout, out, i) => [(6, ⟨2, pout, (out).length, cout, xsout⟩)], fun | (pout, cout, xsout, out, i) => [(0, MF.rs .stb pl cl l), (1, MF.ol xsout (out : List TableEntry))]⟩ (p1, 0, [], ([] : List TableEntry), 0) ⟨(Nat.zero_le _), (fun a ha => by cases ha), (by simp), rfl⟩
    (.cons rfl (.cons rfl (.cons rfl (.nil)))) .nil (.cons rfl (.nil)) [0, 1] rfl ?_
  rintro ⟨pout, cout, xsout, out, i⟩ hpre
  have hpre_ : (i ≤ (l).length) ∧ (∀ z_ ∈ out, GoT.ok n z_) ∧ (out.length ≤ i) ∧ (spec_l6Copy_L1 l ([] : List TableEntry) = spec_l6Copy_L1 ((l).drop i) out) := hpre
  clear hpre
  obtain ⟨v1, v2, v3, v4⟩ := hpre_
  refine WX.run ttOk rfl ?_
  refine WX.cases 10 rfl (fun h1 => ?_) (fun h1 => ?_)
  · skip
    have h1d := B.dt h1
    have e1i : i < (l).length := (by omega)
    obtain ⟨e1, e1h⟩ : ∃ e1, (l)[i]? = some e1 := ⟨_, List.getElem?_eq_getElem e1i⟩
    have ok1 : GoT.ok n e1 := (okl hokl).2 _ (List.mem_of_getElem? e1h)
    refine WX.run ttOk rfl ?_
    refine WX.idx 0 i ttOk rfl rfl rfl rfl rfl rfl rfl rfl rfl rfl e1i ?_
    rintro ad1 rfl
    refine WX.run ttOk rfl ?_
    refine WX.ldE 0 2 e1 ttOk rfl rfl rfl rfl rfl rfl rfl rfl e1h (fun _ => rfl) (fun _ => rfl) ?_
    rintro ⟨⟨p2, c1⟩, ⟨⟩⟩
    refine WX.callF 3 (fun _ _ h => GoT.ow_rd h) (fun _ f hf => GoT.fak f hf) rfl rfl rfl rfl rfl (fun _ => rfl) rfl (fun w G bs hI hΓ => f63 w n (by omega) e1.name p2 c1 (hΓ.get 2 rfl) ((ok_TableEntry ok1).1)) (fun _ => rfl) (fun _ => rfl) ?_
    rintro ⟨p3, c2⟩ hq1
    refine WX.run ttOk rfl ?_
    refine WX.draw [9, 10] mixed ?_
    intro bs G0 hΓ0
    refine DX.takes (fuel := 7) ttOk [(0, true), (1, false), (2, true), (3, true)] (by kernel_rfl) rfl ?_
    refine DX.idx 4 0 i ttOk hΓ0 (by kernel_rfl) rfl rfl rfl rfl rfl rfl rfl rfl rfl rfl rfl e1i ?_
    rintro ad2 ⟨⟩
    refine DX.takes (fuel := 5) ttOk [(5, true)] (by kernel_rfl) rfl ?_
    refine DX.ldE 6 0 5 e1 ttOk hΓ0 (by kernel_rfl) rfl rfl rfl rfl rfl rfl rfl rfl e1h (fun _ => rfl) (fun _ => rfl) ?_
    rintro ⟨⟨p4, c3⟩, ⟨⟩⟩
    refine DX.takes (fuel := 3) ttOk [(7, true)] (by kernel_rfl) rfl ?_
    refine DX.tail2 [8, 9, 10] rfl rfl (by kernel_rfl) ?_
    refine WX.bld ttOk rfl rfl rfl rfl rfl rfl rfl ?_
    intro p5
    refine WX.turn [4] 6 rfl (fun h hs => ol_one (α := TableEntry) (a := (TableEntry.mk (spec_l4Copy e1.name) e1.value)) (x := ((p3, c2), ())) hs) (gs := [MF.ol [.slice p3 (((spec_l4Copy e1.name).parts).length) c2, .int .i64 (e1.value)] ([(TableEntry.mk (spec_l4Copy e1.name) e1.value)] : List TableEntry)]) rfl ?_
    have r2 : -9223372036854775808 ≤ e1.value ∧ e1.value ≤ 9223372036854775807 := (ok_TableEntry ok1).2
    refine WX.know (fun G hΓ => (hΓ.get 6 rfl : OwL _ _ _).rd.one) ?_
    intro ho1
    refine WX.appR1 6 27 ((out ++ [(TableEntry.mk (spec_l4Copy e1.name) e1.value)]) : List TableEntry).length ttOk rfl rfl rfl rfl rfl rfl rfl rfl rfl rfl rfl rfl rfl ho1 (by simp) (by simp; omega) (by simp; omega) (fun _ _ => rfl) ?_
    intro p6 c4
    refine WX.turn [1, 6] 7 rfl (fun h hs => ol_app hs) (gs := [MF.ol (xsout ++ [.slice p3 (((spec_l4Copy e1.name).parts).length) c2, .int .i64 (e1.value)]) ((out ++ [(TableEntry.mk (spec_l4Copy e1.name) e1.value)]) : List TableEntry)]) rfl ?_
    refine WX.run ttOk rfl ?_
    refine WX.see rfl rfl rfl (fun _ hΓ => looks_arith rfl rfl rfl rfl (by unfold I64; first | omega | (dsimp only; omega))) ?_
    refine WX.run ttOk rfl ?_
    refine WX.turn [7] 1 rfl (fun _ h => h) rfl ?_
    exact WX.iter (p6, c4, (xsout ++ [.slice p3 (((spec_l4Copy e1.name).parts).length) c2, .int .i64 (e1.value)]), ((out ++ [(TableEntry.mk (spec_l4Copy e1.name) e1.value)]) : List TableEntry), i + 1) ⟨(by omega), (all_app v2 (all_cons (α := TableEntry) (And.intro hq1 (ok_TableEntry ok1).2) (fun a ha => by cases ha))), (by first | assumption | omega | (simp only [List.length_append, List.length_cons, List.length_nil, List.length_set, List.length_map, List.length_take, List.length_drop]; omega) | (simp; omega)), (by rw [v4, drop_get e1h]; simp only [spec_l6Copy_L1, cond_true, cond_false])⟩ (by first | (dsimp only; omega) | omega) (.cons rfl (.cons rfl (.cons rfl (.nil)))) .nil (.cons rfl (.nil)) [0, 1] rfl
  · skip
    have h1d := B.df h1
    refine WX.run ttOk rfl ?_
    have hX1 : spec_l6Copy_L1 l ([] : List TableEntry) = ((out) : List TableEntry) := by rw [v4, List.drop_eq_nil_of_le (show (l).length ≤ i by omega)]; simp only [spec_l6Copy_L1, cond_true, cond_false]
    refine WX.seal 6 1 8 rfl rfl rfl rfl rfl ?_
    have hP1 : spec_l6Copy l = out := by simp only [spec_l6Copy, hX1, cond_true, cond_false]
    refine WX.ret ttOk rfl ?_
    intro w1 G bs hI hΓ
    rw [hP1]
    exact Post.of [9] (pout, cout) hI hΓ rfl rfl rfl (okl_mk (by omega) v2 : GoT.ok n (out : List TableEntry))
theorem f189 (w : World) (n : Nat) (hn : n + 0 ≤ 9) (e_ : TableEntry) (pe_Name : Option Addr) (ce_Name : Nat) (hpe_Name : RdSl (hp w) pe_Name ce_Name e_.name.parts) (n_ : Name) (bn_ : Addr) (hn_ : RdSl (hp w) (some bn_) 1 [n_]) (hoke_ : GoT.ok n e_) (hokn_ : GoT.ok n n_) :
    Does Tryz.prog 189 #[.agg #[.slice pe_Name ((e_.name.parts).length) ce_Name, .int .i64 (e_.value)], .pointer (some bn_)] w emp (fun (rv : Value) (_ : World) => rv = .bool (impl_PutEntry_c1 n_ e_) ∧ True) := by
  have hbP := bd_pos n
  have hbB := bd_big (n := n) (by omega)
  refine WX.enter (tt := tt) (Γ := [(0, MF.rs .stb pe_Name ce_Name e_.name.parts), (1, MF.rs .stb (some bn_) 1 ([n_]))]) Tryz.func189 rfl (by kernel_rfl) rfl (allS_cons rfl hpe_Name (allS_cons rfl hn_ allS_nil)) ?_
  have n_h : ([n_] : List Name)[0]? = some n_ := rfl
  refine WX.slot 1 (y := .e (some bn_) 0 1 0) rfl (fun _ => cap_eq) ?_
  refine WX.run ttOk rfl ?_
  refine WX.ldE 1 2 n_ ttOk rfl rfl rfl rfl rfl rfl rfl rfl n_h (fun _ => rfl) (fun _ => rfl) ?_
  rintro ⟨p1, c1⟩
  refine WX.callV rfl rfl rfl rfl rfl (fun _ => rfl) rfl (fun w G bs hI hΓ => f190 w n (by omega) e_.name pe_Name ce_Name (hΓ.get 0 rfl) n_ p1 c1 (hΓ.get 2 rfl) ((ok_TableEntry hoke_).1) hokn_) ?_
  intro hq1
  refine WX.run ttOk rfl ?_
  have hP1 : impl_PutEntry_c1 n_ e_ = (decide ((impl_CompareNames e_.name n_) > 0)) := by simp only [impl_PutEntry_c1, cond_true, cond_false]
  refine WX.ret ttOk rfl ?_
  intro w1 G bs hI hΓ
  rw [hP1]
  exact ⟨rfl, trivial⟩
theorem f72 (w : World) (n : Nat) (hn : n + 1 ≤ 9) (l : (List TableEntry)) (pl : Option Addr) (cl : Nat) (hpl : RdSl (hp w) pl cl l) (n_ : Name) (pn_ : Option Addr) (cn_ : Nat) (hpn_ : RdSl (hp w) pn_ cn_ n_.parts) (v : Int) (hokl : GoT.ok n l) (hokn_ : GoT.ok n n_) (hokv : GoT.ok n v) :
    Does Tryz.prog 72 #[.slice pl ((l).length) cl, .agg #[.slice pn_ ((n_.parts).length) cn_], .int .i64 (v)] w emp (Post w emp (fun x : GoT.X ((List TableEntry)) => .tuple #[(GoT.sh ((impl_PutEntry l n_ v).1 : (List TableEntry)) x).headD undef, .bool ((impl_PutEntry l n_ v).2)]) (fun x => GoT.oa ((impl_PutEntry l n_ v).1 : (List TableEntry)) x) (GoT.ok (n + 1) ((impl_PutEntry l n_ v).1 : (List TableEntry)))) := by
  have hbP := bd_pos n
  have hbS0 : bd (n + 1) = 4 * bd (n) := bd_succ (n := n) (by omega)
  have hbB := bd_big (n := (n + 1)) (by omega)
  have hbM := bd_mono (show n ≤ n + 1 by omega)
  refine WX.enter (tt := tt) (Γ := [(0, MF.rs .stb pl cl l), (1, MF.rs .stb pn_ cn_ n_.parts)]) Tryz.func72 rfl (by kernel_rfl) rfl (allS_cons rfl hpl (allS_cons rfl hpn_ allS_nil)) ?_
  refine WX.run ttOk rfl ?_
  refine WX.callF 2 (fun _ _ h => GoT.ow_rd h) (fun _ f hf => GoT.fak f hf) rfl rfl rfl rfl rfl (fun _ => rfl) rfl (fun w G bs hI hΓ => f184 w n (by omega) l pl cl (hΓ.get 0 rfl) hokl) (fun _ => rfl) (fun _ => rfl) ?_
  rintro ⟨p1, c1⟩ hq1
  have q1 := len_copyTable l
  refine WX.run ttOk rfl ?_
  refine WX.callV rfl rfl rfl rfl rfl (fun _ => rfl) rfl (fun w G bs hI hΓ => f187 w n (by omega) l pl cl (hΓ.get 0 rfl) n_ pn_ cn_ (hΓ.get 1 rfl) hokl hokn_) ?_
  intro hq2
  have q2 := lt_indexOfName l n_
  refine WX.run ttOk rfl ?_
  refine WX.cases 16 rfl (fun h1 => ?_) (fun h1 => ?_)
  · skip
    have h1d := B.dt h1
    refine WX.run ttOk rfl ?_
    refine WX.slot 18 (y := .v (.int .i64 ((((impl_indexOfName l n_)).toNat : Nat) : Int))) rfl (fun _ => congrArg (Value.int .i64) (show (impl_indexOfName l n_) = ((((impl_indexOfName l n_)).toNat : Nat) : Int) from by omega)) ?_
    refine WX.opn (kk := 2) 501 3 4 rfl rfl rfl ?_
    intro xs1 hx1
    have r1 : (l).length ≤ bd n := (okl hokl).1
    have r2 : -9223372036854775808 ≤ (impl_indexOfName l n_) ∧ (impl_indexOfName l n_) ≤ 9223372036854775807 := hq2
    have hr1 : ((impl_indexOfName l n_)).toNat < ((impl_copyTable l)).length := (by first | assumption | omega)
    refine WX.idxR 501 (((impl_indexOfName l n_)).toNat) ttOk rfl rfl rfl rfl rfl rfl rfl rfl rfl hr1 ?_
    rintro ad1 rfl
    refine WX.run ttOk rfl ?_
    have e1i : ((impl_indexOfName l n_)).toNat < ((impl_copyTable l)).length := (by first | assumption | omega)
    obtain ⟨e1, e1h⟩ : ∃ e1, ((impl_copyTable l))[((impl_indexOfName l n_)).toNat]? = some e1 := ⟨_, List.getElem?_eq_getElem e1i⟩
    have ok1 : GoT.ok n e1 := (okl hq1).2 _ (List.mem_of_getElem? e1h)
    refine WX.opnE (α := TableEntry) (e := e1) 501 4 5 (((impl_indexOfName l n_)).toNat) rfl rfl rfl e1h (fun _ => rfl) (fun _ _ _ => rfl) (fun _ _ _ => rfl) ?_
    rintro A1 B1 ⟨⟨p2, c2⟩, ⟨⟩⟩ hA1 hB1
    refine WX.stA 501 ttOk rfl rfl rfl rfl rfl rfl rfl rfl rfl rfl rfl rfl rfl rfl hA1 hr1 rfl rfl rfl rfl (by simp) rfl ?_
    refine WX.run ttOk rfl ?_
    refine WX.turn [6, 7, 8] 9 rfl (fun h hs => cl_elem (α := TableEntry) (e := (TableEntry.mk e1.name v)) (x := ((p2, c2), ())) e1i hs) (gs := [MF.ol (A1 ++ [.slice p2 ((e1.name.parts).length) c2, .int .i64 (v)] ++ B1) ((impl_copyTable l).set (((impl_indexOfName l n_)).toNat) (TableEntry.mk e1.name v))]) rfl ?_
    refine WX.seal 501 9 10 rfl rfl (show ((impl_copyTable l)).length = (((impl_copyTable l).set (((impl_indexOfName l n_)).toNat) (TableEntry.mk e1.name v))).length from by first | (simp; done) | (simp; omega)) rfl rfl ?_
    refine WX.slot 37 (y := .v (.slice (some ad1) (((impl_copyTable l).set (((impl_indexOfName l n_)).toNat) (TableEntry.mk e1.name v))).length c1)) rfl (fun _ => by show (Value.slice (some ad1) (((impl_copyTable l)).length) c1 : Value) = Value.slice (some ad1) (((impl_copyTable l).set (((impl_indexOfName l n_)).toNat) (TableEntry.mk e1.name v))).length c1; rw [(show ((impl_copyTable l)).length = (((impl_copyTable l).set (((impl_indexOfName l n_)).toNat) (TableEntry.mk e1.name v))).length from by first | (simp; done) | (simp; omega))]) ?_
    refine WX.slot 17 (y := .v (.slice (some ad1) (((impl_copyTable l).set (((impl_indexOfName l n_)).toNat) (TableEntry.mk e1.name v))).length c1)) rfl (fun _ => by show (Value.slice (some ad1) (((impl_copyTable l)).length) c1 : Value) = Value.slice (some ad1) (((impl_copyTable l).set (((impl_indexOfName l n_)).toNat) (TableEntry.mk e1.name v))).length c1; rw [(show ((impl_copyTable l)).length = (((impl_copyTable l).set (((impl_indexOfName l n_)).toNat) (TableEntry.mk e1.name v))).length from by first | (simp; done) | (simp; omega))]) ?_
    refine WX.slot 8 (y := .v (.slice (some ad1) (((impl_copyTable l).set (((impl_indexOfName l n_)).toNat) (TableEntry.mk e1.name v))).length c1)) rfl (fun _ => by show (Value.slice (some ad1) (((impl_copyTable l)).length) c1 : Value) = Value.slice (some ad1) (((impl_copyTable l).set (((impl_indexOfName l n_)).toNat) (TableEntry.mk e1.name v))).length c1; rw [(show ((impl_copyTable l)).length = (((impl_copyTable l).set (((impl_indexOfName l n_)).toNat) (TableEntry.mk e1.name v))).length from by first | (simp; done) | (simp; omega))]) ?_
    refine WX.slot 11 (y := .v (.slice (some ad1) (((impl_copyTable l).set (((impl_indexOfName l n_)).toNat) (TableEntry.mk e1.name v))).length c1)) rfl (fun _ => by show (Value.slice (some ad1) (((impl_copyTable l)).length) c1 : Value) = Value.slice (some ad1) (((impl_copyTable l).set (((impl_indexOfName l n_)).toNat) (TableEntry.mk e1.name v))).length c1; rw [(show ((impl_copyTable l)).length = (((impl_copyTable l).set (((impl_indexOfName l n_)).toNat) (TableEntry.mk e1.name v))).length from by first | (simp; done) | (simp; omega))]) ?_
    have r3 : -9223372036854775808 ≤ v ∧ v ≤ 9223372036854775807 := hokv
    have r4 : (impl_copyTable l).length ≤ bd n := (okl hq1).1
    refine WX.callV rfl rfl rfl rfl rfl (fun _ => rfl) rfl (fun w G bs hI hΓ => f192 w n (by omega) ((impl_copyTable l).set (((impl_indexOfName l n_)).toNat) (TableEntry.mk e1.name v)) (some ad1) c1 (hΓ.get 10 rfl) (okl_mk (by simp; omega) (all_set (okl hq1).2 (show GoT.ok n ((TableEntry.mk e1.name v) : TableEntry) from (And.intro (ok_TableEntry ok1).1 hokv))) : GoT.ok n (((impl_copyTable l).set (((impl_indexOfName l n_)).toNat) (TableEntry.mk e1.name v)) : List TableEntry))) ?_
    intro hq3
    refine WX.run ttOk rfl ?_
    refine WX.cases 39 rfl (fun h2 => ?_) (fun h2 => ?_)
    · skip
      have h2d := (B.nt h2)
      refine WX.run ttOk rfl ?_
      refine WX.callF 12 (fun _ _ h => GoT.ow_rd h) (fun _ f hf => GoT.fak f hf) rfl rfl rfl rfl rfl (fun _ => rfl) rfl (fun w G bs hI hΓ => f184 w n (by omega) l pl cl (hΓ.get 0 rfl) hokl) (fun _ => rfl) (fun _ => rfl) ?_
      rintro ⟨p3, c3⟩ hq4
      have q3 := len_copyTable l
      refine WX.run ttOk rfl ?_
      have hP1 : impl_PutEntry l n_ v = (impl_copyTable l, false) := by simp only [impl_PutEntry, h1, e1h, h2, cond_true, cond_false]
      refine WX.ret ttOk rfl ?_
      intro w1 G bs hI hΓ
      rw [hP1]
      exact Post.of [13] (p3, c3) hI hΓ rfl rfl rfl (GoT.okm (α := List TableEntry) (by omega) hq4)
    · skip
      have h2d := (B.nf h2)
      refine WX.run ttOk rfl ?_
      have hP2 : impl_PutEntry l n_ v = ((impl_copyTable l).set (((impl_indexOfName l n_)).toNat) (TableEntry.mk e1.name v), true) := by simp only [impl_PutEntry, h1, e1h, h2, cond_true, cond_false]
      refine WX.ret ttOk rfl ?_
      intro w1 G bs hI hΓ
      rw [hP2]
      exact Post.of [11] ((some ad1), c1) hI hΓ rfl rfl rfl (okl_mk (by simp; omega) (fun a ha => GoT.okm (by omega) ((all_set (okl hq1).2 (show GoT.ok n ((TableEntry.mk e1.name v) : TableEntry) from (And.intro (ok_TableEntry ok1).1 hokv))) a ha)) : GoT.ok (n + 1) (((impl_copyTable l).set (((impl_indexOfName l n_)).toNat) (TableEntry.mk e1.name v)) : List TableEntry))
  · skip
    have h1d := B.df h1
    refine WX.run ttOk rfl ?_
    refine WX.callV rfl rfl rfl rfl rfl (fun _ => rfl) rfl (fun w G bs hI hΓ => f188 w n (by omega) l pl cl (hΓ.get 0 rfl) 189 [Value.pointer (some ⟨bs 4, 0, none⟩)] (fun e0_ => (impl_PutEntry_c1 n_ e0_)) (fun w1_ hb_ e0_ x0_ hk0_ hx0_ => f189 w1_ n (by omega) e0_ x0_.1.1 x0_.1.2 (hx0_ _ List.mem_cons_self) n_ ⟨bs 4, 0, none⟩ ((rd_box (α := Name) (a := n_) (x := (pn_, cn_)) (hI.loc 4 _ rfl).1 (All.cons (hΓ.get 1 rfl : RdSl _ _ _ _) All.nil)).mono (kp_le hb_)) hk0_ hokn_) hokl) ?_
    intro hq5
    have q4 := ltI_slices_IndexFunc_TableEntry l (fun e0_ => (impl_PutEntry_c1 n_ e0_))
    refine WX.run ttOk rfl ?_
    refine WX.cases 26 rfl (fun h3 => ?_) (fun h3 => ?_)
    · skip
      have h3d := B.dt h3
      refine WX.run ttOk rfl ?_
      refine WX.callF 14 (fun _ _ h => GoT.ow_rd h) (fun _ f hf => GoT.fak f hf) rfl rfl rfl rfl rfl (fun _ => rfl) rfl (fun w G bs hI hΓ => f70 w n (by omega) n_ pn_ cn_ (hΓ.get 1 rfl) hokn_) (fun _ => rfl) (fun _ => rfl) ?_
      rintro ⟨p4, c4⟩ hq6
      refine WX.run ttOk rfl ?_
      refine WX.bld ttOk rfl rfl rfl rfl rfl rfl rfl ?_
      intro p5
      refine WX.turn [15] 16 rfl (fun h hs => ol_one (α := TableEntry) (a := (TableEntry.mk (impl_copyName n_) v)) (x := ((p4, c4), ())) hs) (gs := [MF.ol [.slice p4 (((impl_copyName n_).parts).length) c4, .int .i64 (v)] ([(TableEntry.mk (impl_copyName n_) v)] : List TableEntry)]) rfl ?_
      refine WX.seal 35 16 17 rfl rfl rfl rfl rfl ?_
      have r5 : (l).length ≤ bd n := (okl hokl).1
      have r6 : -9223372036854775808 ≤ v ∧ v ≤ 9223372036854775807 := hokv
      refine WX.callN [3, 18] 19 rfl (fun _ _ h => GoT.ow_rd h) (fun _ f hf => GoT.fak f hf) rfl rfl rfl rfl rfl (fun _ => rfl) rfl (fun w G bs H hI hHG hH hs hΓ => f191 w n (by omega) (impl_copyTable l) p1 c1 (((l).length : Nat) : Int) ([(TableEntry.mk (impl_copyName n_) v)]) p5 1 H hH hs ⟨by omega, by omega⟩ (by simp) hq1 (show I64 (((l).length : Nat) : Int) from (by unfold I64; omega)) (okl_mk (by simp; omega) (all_cons (α := TableEntry) (And.intro hq6 hokv) (fun a ha => by cases ha)) : GoT.ok n ([(TableEntry.mk (impl_copyName n_) v)] : List TableEntry))) (fun _ => rfl) (fun _ => rfl) ?_
      rintro ⟨p6, c5⟩ hq7
      have q5 := len_slices_Insert_TableEntry (impl_copyTable l) (((l).length : Nat) : Int) ([(TableEntry.mk (impl_copyName n_) v)])
      refine WX.run ttOk rfl ?_
      refine WX.callV rfl rfl rfl rfl rfl (fun _ => rfl) rfl (fun w G bs hI hΓ => f192 w (n + 1) (by omega) (slices_Insert_TableEntry (impl_copyTable l) (((l).length : Nat) : Int) ([(TableEntry.mk (impl_copyName n_) v)])) p6 c5 (hΓ.get 19 rfl) hq7) ?_
      intro hq8
      refine WX.run ttOk rfl ?_
      refine WX.cases 39 rfl (fun h4 => ?_) (fun h4 => ?_)
      · skip
        have h4d := (B.nt h4)
        refine WX.run ttOk rfl ?_
        refine WX.callF 21 (fun _ _ h => GoT.ow_rd h) (fun _ f hf => GoT.fak f hf) rfl rfl rfl rfl rfl (fun _ => rfl) rfl (fun w G bs hI hΓ => f184 w n (by omega) l pl cl (hΓ.get 0 rfl) hokl) (fun _ => rfl) (fun _ => rfl) ?_
        rintro ⟨p7, c6⟩ hq9
        have q6 := len_copyTable l
        refine WX.run ttOk rfl ?_
        have hP3 : impl_PutEntry l n_ v = (impl_copyTable l, false) := by simp only [impl_PutEntry, h1, h3, h4, cond_true, cond_false]
        refine WX.ret ttOk rfl ?_
        intro w1 G bs hI hΓ
        rw [hP3]
        exact Post.of [22] (p7, c6) hI hΓ rfl rfl rfl (GoT.okm (α := List TableEntry) (by omega) hq9)
      · skip
        have h4d := (B.nf h4)
        refine WX.run ttOk rfl ?_
        have hP4 : impl_PutEntry l n_ v = (slices_Insert_TableEntry (impl_copyTable l) (((l).length : Nat) : Int) ([(TableEntry.mk (impl_copyName n_) v)]), true) := by simp only [impl_PutEntry, h1, h3, h4, cond_true, cond_false]
        refine WX.ret ttOk rfl ?_
        intro w1 G bs hI hΓ
        rw [hP4]
        exact Post.of [20] (p6, c5) hI hΓ rfl rfl rfl hq7
    · skip
      have h3d := B.df h3
      refine WX.run ttOk rfl ?_
      refine WX.callF 23 (fun _ _ h => GoT.ow_rd h) (fun _ f hf => GoT.fak f hf) rfl rfl rfl rfl rfl (fun _ => rfl) rfl (fun w G bs hI hΓ => f70 w n (by omega) n_ pn_ cn_ (hΓ.get 1 rfl) hokn_) (fun _ => rfl) (fun _ => rfl) ?_
      rintro ⟨p8, c7⟩ hq10
      refine WX.run ttOk rfl ?_
      refine WX.bld ttOk rfl rfl rfl rfl rfl rfl rfl ?_
      intro p9
      refine WX.turn [24] 25 rfl (fun h hs => ol_one (α := TableEntry) (a := (TableEntry.mk (impl_copyName n_) v)) (x := ((p8, c7), ())) hs) (gs := [MF.ol [.slice p8 (((impl_copyName n_).parts).length) c7, .int .i64 (v)] ([(TableEntry.mk (impl_copyName n_) v)] : List TableEntry)]) rfl ?_
      refine WX.seal 35 25 26 rfl rfl rfl rfl rfl ?_
      have r7 : -9223372036854775808 ≤ v ∧ v ≤ 9223372036854775807 := hokv
      refine WX.callN [3, 27] 28 rfl (fun _ _ h => GoT.ow_rd h) (fun _ f hf => GoT.fak f hf) rfl rfl rfl rfl rfl (fun _ => rfl) rfl (fun w G bs H hI hHG hH hs hΓ => f191 w n (by omega) (impl_copyTable l) p1 c1 (slices_IndexFunc_TableEntry l (fun e0_ => (impl_PutEntry_c1 n_ e0_))) ([(TableEntry.mk (impl_copyName n_) v)]) p9 1 H hH hs ⟨by omega, by omega⟩ (by simp) hq1 hq5 (okl_mk (by simp; omega) (all_cons (α := TableEntry) (And.intro hq10 hokv) (fun a ha => by cases ha)) : GoT.ok n ([(TableEntry.mk (impl_copyName n_) v)] : List TableEntry))) (fun _ => rfl) (fun _ => rfl) ?_
      rintro ⟨p10, c8⟩ hq11
      have q7 := len_slices_Insert_TableEntry (impl_copyTable l) (slices_IndexFunc_TableEntry l (fun e0_ => (impl_PutEntry_c1 n_ e0_))) ([(TableEntry.mk (impl_copyName n_) v)])
      refine WX.run ttOk rfl ?_
      refine WX.callV rfl rfl rfl rfl rfl (fun _ => rfl) rfl (fun w G bs hI hΓ => f192 w (n + 1) (by omega) (slices_Insert_TableEntry (impl_copyTable l) (slices_IndexFunc_TableEntry l (fun e0_ => (impl_PutEntry_c1 n_ e0_))) ([(TableEntry.mk (impl_copyName n_) v)])) p10 c8 (hΓ.get 28 rfl) hq11) ?_
      intro hq12
      refine WX.run ttOk rfl ?_
      refine WX.cases 39 rfl (fun h5 => ?_) (fun h5 => ?_)
      · skip
        have h5d := (B.nt h5)
        refine WX.run ttOk rfl ?_
        refine WX.callF 30 (fun _ _ h => GoT.ow_rd h) (fun _ f hf => GoT.fak f hf) rfl rfl rfl rfl rfl (fun _ => rfl) rfl (fun w G bs hI hΓ => f184 w n (by omega) l pl cl (hΓ.get 0 rfl) hokl) (fun _ => rfl) (fun _ => rfl) ?_
        rintro ⟨p11, c9⟩ hq13
        have q8 := len_copyTable l
        refine WX.run ttOk rfl ?_
        have hP5 : impl_PutEntry l n_ v = (impl_copyTable l, false) := by simp only [impl_PutEntry, h1, h3, h5, cond_true, cond_false]
        refine WX.ret ttOk rfl ?_
        intro w1 G bs hI hΓ
        rw [hP5]
        exact Post.of [31] (p11, c9) hI hΓ rfl rfl rfl (GoT.okm (α := List TableEntry) (by omega) hq13)
      · skip
        have h5d := (B.nf h5)
        refine WX.run ttOk rfl ?_
        have hP6 : impl_PutEntry l n_ v = (slices_Insert_TableEntry (impl_copyTable l) (slices_IndexFunc_TableEntry l (fun e0_ => (impl_PutEntry_c1 n_ e0_))) ([(TableEntry.mk (impl_copyName n_) v)]), true) := by simp only [impl_PutEntry, h1, h3, h5, cond_true, cond_false]
        refine WX.ret ttOk rfl ?_
        intro w1 G bs hI hΓ
        rw [hP6]
        exact Post.of [29] (p10, c8) hI hΓ rfl rfl rfl hq11
theorem f62 (w : World) (n : Nat) (hn : n + 3 ≤ 9) (l : (List TableEntry)) (pl : Option Addr) (cl : Nat) (hpl : RdSl (hp w) pl cl l) (n_ : Name) (pn_ : Option Addr) (cn_ : Nat) (hpn_ : RdSl (hp w) pn_ cn_ n_.parts) (v : Int) (hokl : GoT.ok n l) (hokn_ : GoT.ok n n_) (hokv : GoT.ok n v) :
    Does Tryz.prog 62 #[.slice pl ((l).length) cl, .agg #[.slice pn_ ((n_.parts).length) cn_], .int .i64 (v)] w emp (Post w emp (fun x : GoT.X ((List TableEntry)) => .tuple #[(GoT.sh ((spec_PutEntry l n_ v).1 : (List TableEntry)) x).headD undef, .bool ((spec_PutEntry l n_ v).2)]) (fun x => GoT.oa ((spec_PutEntry l n_ v).1 : (List TableEntry)) x) (GoT.ok (n + 3) ((spec_PutEntry l n_ v).1 : (List TableEntry)))) := by
  have hbP := bd_pos n
  have hbS0 : bd (n + 1) = 4 * bd (n) := bd_succ (n := n) (by omega)
  have hbS1 : bd (n + 2) = 4 * bd (n + 1) := bd_succ (n := n + 1) (by omega)
  have hbS2 : bd (n + 3) = 4 * bd (n + 2) := bd_succ (n := n + 2) (by omega)
  have hbB := bd_big (n := (n + 3)) (by omega)
  have hbM := bd_mono (show n ≤ n + 3 by omega)
  refine WX.enter (tt := tt) (Γ := [(0, MF.rs .stb pl cl l), (1, MF.rs .stb pn_ cn_ n_.parts)]) Tryz.func62 rfl (by kernel_rfl) rfl (allS_cons rfl hpl (allS_cons rfl hpn_ allS_nil)) ?_
  refine WX.run ttOk rfl ?_
  refine WX.callF 2 (fun _ _ h => GoT.ow_rd h) (fun _ f hf => GoT.fak f hf) rfl rfl rfl rfl rfl (fun _ => rfl) rfl (fun w G bs hI hΓ => f174 w n (by omega) l pl cl (hΓ.get 0 rfl) hokl) (fun _ => rfl) (fun _ => rfl) ?_
  rintro ⟨p1, c1⟩ hq1
  have q1 := len_l6Copy l
  refine WX.run ttOk rfl ?_
  refine WX.callV rfl rfl rfl rfl rfl (fun _ => rfl) rfl (fun w G bs hI hΓ => f176 w n (by omega) l pl cl (hΓ.get 0 rfl) n_ pn_ cn_ (hΓ.get 1 rfl) hokl hokn_) ?_
  intro hq2
  have q2 := lt_l6Find l n_
  refine WX.run ttOk rfl ?_
  refine WX.cases 17 rfl (fun h1 => ?_) (fun h1 => ?_)
  · skip
    have h1d := B.dt h1
    refine WX.run ttOk rfl ?_
    refine WX.slot 19 (y := .v (.int .i64 ((((spec_l6Find l n_)).toNat : Nat) : Int))) rfl (fun _ => congrArg (Value.int .i64) (show (spec_l6Find l n_) = ((((spec_l6Find l n_)).toNat : Nat) : Int) from by omega)) ?_
    refine WX.opn (kk := 2) 501 3 4 rfl rfl rfl ?_
    intro xs1 hx1
    have r1 : (l).length ≤ bd n := (okl hokl).1
    have r2 : -9223372036854775808 ≤ (spec_l6Find l n_) ∧ (spec_l6Find l n_) ≤ 9223372036854775807 := hq2
    have hr1 : ((spec_l6Find l n_)).toNat < ((spec_l6Copy l)).length := (by first | assumption | omega)
    refine WX.idxR 501 (((spec_l6Find l n_)).toNat) ttOk rfl rfl rfl rfl rfl rfl rfl rfl rfl hr1 ?_
    rintro ad1 rfl
    refine WX.run ttOk rfl ?_
    have e1i : ((spec_l6Find l n_)).toNat < ((spec_l6Copy l)).length := (by first | assumption | omega)
    obtain ⟨e1, e1h⟩ : ∃ e1, ((spec_l6Copy l))[((spec_l6Find l n_)).toNat]? = some e1 := ⟨_, List.getElem?_eq_getElem e1i⟩
    have ok1 : GoT.ok n e1 := (okl hq1).2 _ (List.mem_of_getElem? e1h)
    refine WX.opnE (α := TableEntry) (e := e1) 501 4 5 (((spec_l6Find l n_)).toNat) rfl rfl rfl e1h (fun _ => rfl) (fun _ _ _ => rfl) (fun _ _ _ => rfl) ?_
    rintro A1 B1 ⟨⟨p2, c2⟩, ⟨⟩⟩ hA1 hB1
    refine WX.stA 501 ttOk rfl rfl rfl rfl rfl rfl rfl rfl rfl rfl rfl rfl rfl rfl hA1 hr1 rfl rfl rfl rfl (by simp) rfl ?_
    refine WX.run ttOk rfl ?_
    refine WX.turn [6, 7, 8] 9 rfl (fun h hs => cl_elem (α := TableEntry) (e := (TableEntry.mk e1.name v)) (x := ((p2, c2), ())) e1i hs) (gs := [MF.ol (A1 ++ [.slice p2 ((e1.name.parts).length) c2, .int .i64 (v)] ++ B1) ((spec_l6Copy l).set (((spec_l6Find l n_)).toNat) (TableEntry.mk e1.name v))]) rfl ?_
    refine WX.seal 501 9 10 rfl rfl (show ((spec_l6Copy l)).length = (((spec_l6Copy l).set (((spec_l6Find l n_)).toNat) (TableEntry.mk e1.name v))).length from by first | (simp; done) | (simp; omega)) rfl rfl ?_
    refine WX.slot 55 (y := .v (.slice (some ad1) (((spec_l6Copy l).set (((spec_l6Find l n_)).toNat) (TableEntry.mk e1.name v))).length c1)) rfl (fun _ => by show (Value.slice (some ad1) (((spec_l6Copy l)).length) c1 : Value) = Value.slice (some ad1) (((spec_l6Copy l).set (((spec_l6Find l n_)).toNat) (TableEntry.mk e1.name v))).length c1; rw [(show ((spec_l6Copy l)).length = (((spec_l6Copy l).set (((spec_l6Find l n_)).toNat) (TableEntry.mk e1.name v))).length from by first | (simp; done) | (simp; omega))]) ?_
    refine WX.slot 18 (y := .v (.slice (some ad1) (((spec_l6Copy l).set (((spec_l6Find l n_)).toNat) (TableEntry.mk e1.name v))).length c1)) rfl (fun _ => by show (Value.slice (some ad1) (((spec_l6Copy l)).length) c1 : Value) = Value.slice (some ad1) (((spec_l6Copy l).set (((spec_l6Find l n_)).toNat) (TableEntry.mk e1.name v))).length c1; rw [(show ((spec_l6Copy l)).length = (((spec_l6Copy l).set (((spec_l6Find l n_)).toNat) (TableEntry.mk e1.name v))).length from by first | (simp; done) | (simp; omega))]) ?_
    refine WX.slot 8 (y := .v (.slice (some ad1) (((spec_l6Copy l).set (((spec_l6Find l n_)).toNat) (TableEntry.mk e1.name v))).length c1)) rfl (fun _ => by show (Value.slice (some ad1) (((spec_l6Copy l)).length) c1 : Value) = Value.slice (some ad1) (((spec_l6Copy l).set (((spec_l6Find l n_)).toNat) (TableEntry.mk e1.name v))).length c1; rw [(show ((spec_l6Copy l)).length = (((spec_l6Copy l).set (((spec_l6Find l n_)).toNat) (TableEntry.mk e1.name v))).length from by first | (simp; done) | (simp; omega))]) ?_
    refine WX.slot 12 (y := .v (.slice (some ad1) (((spec_l6Copy l).set (((spec_l6Find l n_)).toNat) (TableEntry.mk e1.name v))).length c1)) rfl (fun _ => by show (Value.slice (some ad1) (((spec_l6Copy l)).length) c1 : Value) = Value.slice (some ad1) (((spec_l6Copy l).set (((spec_l6Find l n_)).toNat) (TableEntry.mk e1.name v))).length c1; rw [(show ((spec_l6Copy l)).length = (((spec_l6Copy l).set (((spec_l6Find l n_)).toNat) (TableEntry.mk e1.name v))).length from by first | (simp; done) | (simp; omega))]) ?_
    have r3 : -9223372036854775808 ≤ v ∧ v ≤ 9223372036854775807 := hokv
    have r4 : (spec_l6Copy l).length ≤ bd n := (okl hq1).1
    refine WX.callV rfl rfl rfl rfl rfl (fun _ => rfl) rfl (fun w G bs hI hΓ => f178 w n (by omega) ((spec_l6Copy l).set (((spec_l6Find l n_)).toNat) (TableEntry.mk e1.name v)) (some ad1) c1 (hΓ.get 10 rfl) (okl_mk (by simp; omega) (all_set (okl hq1).2 (show GoT.ok n ((TableEntry.mk e1.name v) : TableEntry) from (And.intro (ok_TableEntry ok1).1 hokv))) : GoT.ok n (((spec_l6Copy l).set (((spec_l6Find l n_)).toNat) (TableEntry.mk e1.name v)) : List TableEntry))) ?_
    intro hq3
    refine WX.run ttOk rfl ?_
    refine WX.cases 57 rfl (fun h2 => ?_) (fun h2 => ?_)
    · skip
      have h2d := (B.nt h2)
      refine WX.run ttOk rfl ?_
      refine WX.callF 12 (fun _ _ h => GoT.ow_rd h) (fun _ f hf => GoT.fak f hf) rfl rfl rfl rfl rfl (fun _ => rfl) rfl (fun w G bs hI hΓ => f174 w n (by omega) l pl cl (hΓ.get 0 rfl) hokl) (fun _ => rfl) (fun _ => rfl) ?_
      rintro ⟨p3, c3⟩ hq4
      have q3 := len_l6Copy l
      refine WX.run ttOk rfl ?_
      have hP1 : spec_PutEntry l n_ v = (spec_l6Copy l, false) := by simp only [spec_PutEntry, h1, e1h, h2, cond_true, cond_false]
      refine WX.ret ttOk rfl ?_
      intro w1 G bs hI hΓ
      rw [hP1]
      exact Post.of [13] (p3, c3) hI hΓ rfl rfl rfl (GoT.okm (α := List TableEntry) (by omega) hq4)
    · skip
      have h2d := (B.nf h2)
      refine WX.run ttOk rfl ?_
      have hP2 : spec_PutEntry l n_ v = ((spec_l6Copy l).set (((spec_l6Find l n_)).toNat) (TableEntry.mk e1.name v), true) := by simp only [spec_PutEntry, h1, e1h, h2, cond_true, cond_false]
      refine WX.ret ttOk rfl ?_
      intro w1 G bs hI hΓ
      rw [hP2]
      exact Post.of [11] ((some ad1), c1) hI hΓ rfl rfl rfl (okl_mk (by simp; omega) (fun a ha => GoT.okm (by omega) ((all_set (okl hq1).2 (show GoT.ok n ((TableEntry.mk e1.name v) : TableEntry) from (And.intro (ok_TableEntry ok1).1 hokv))) a ha)) : GoT.ok (n + 3) (((spec_l6Copy l).set (((spec_l6Find l n_)).toNat) (TableEntry.mk e1.name v)) : List TableEntry))
  · skip
    have h1d := B.df h1
    refine WX.run ttOk rfl ?_
    have hL0 : (spec_l6Copy l).length ≤ bd n := (okl hq1).1
    refine WX.loop (ι := Nat) ⟨fun i => (i ≤ (spec_l6Copy l).length) ∧ (spec_PutEntry_L1 l n_ 0 = spec_PutEntry_L1 l n_ i), fun i => (spec_l6Copy l).length - i, fun i => [(9, .v (.int .i64 (((i : Nat) : Int)))), (8, .v (.slice p1 (((spec_l6Copy l)).length) c1)), (4, .p 4 0), (0, .v (.slice pl ((l).length) cl)), (2, .v (.int .i64 (v)))], fun i => [(4, ⟨36, [.slice pn_ ((n_.parts).length) cn_]⟩)], fun i => [], fun i => [(0, MF.rs .stb pl cl l), (1, MF.rs .stb pn_ cn_ n_.parts), (3, MF.os p1 c1 (spec_l6Copy l))]⟩ 0 ⟨(Nat.zero_le _), rfl⟩
      (.cons rfl (.cons rfl (.cons rfl (.cons rfl (.cons rfl (.nil)))))) (.cons rfl (.nil)) .nil [0, 1, 3] rfl ?_
    rintro i hpre
    have hpre_ : (i ≤ (spec_l6Copy l).length) ∧ (spec_PutEntry_L1 l n_ 0 = spec_PutEntry_L1 l n_ i) := hpre
    clear hpre
    obtain ⟨v1, v2⟩ := hpre_
    refine WX.run ttOk rfl ?_
    refine WX.der 14 (MF.rs .der p1 c1 (spec_l6Copy l)) rfl (fun _ hΓ => (hΓ.get 3 rfl : OwSl _ _ _ _).rd) ?_
    refine WX.draw [] mixed ?_
    intro bs G0 hΓ0
    refine DX.takes (fuel := 9) ttOk [(0, true), (1, true), (2, true), (3, true), (4, true)] (by kernel_rfl) rfl ?_
    refine DX.cases 27 rfl (fun h3 => ?_) (fun h3 => ?_)
    · skip
      have h3d := B.dt h3
      refine DX.takes (fuel := 7) ttOk [(5, true), (6, true)] (by kernel_rfl) rfl ?_
      have e2i : i < ((spec_l6Copy l)).length := (by first | assumption | omega)
      obtain ⟨e2, e2h⟩ : ∃ e2, ((spec_l6Copy l))[i]? = some e2 := ⟨_, List.getElem?_eq_getElem e2i⟩
      have ok2 : GoT.ok n e2 := (okl hq1).2 _ (List.mem_of_getElem? e2h)
      refine DX.idx 7 14 i ttOk hΓ0 (by kernel_rfl) rfl rfl rfl rfl rfl rfl rfl rfl rfl rfl rfl e2i ?_
      rintro ad2 rfl
      refine DX.takes (fuel := 5) ttOk [(8, true)] (by kernel_rfl) rfl ?_
      refine DX.ldE 9 14 15 e2 ttOk hΓ0 (by kernel_rfl) rfl rfl rfl rfl rfl rfl rfl rfl e2h (fun _ => rfl) (fun _ => rfl) ?_
      rintro ⟨⟨p4, c4⟩, ⟨⟩⟩
      refine DX.takes (fuel := 3) ttOk [(10, false)] (by kernel_rfl) rfl ?_
      refine DX.callV 11 rfl (by kernel_rfl) rfl rfl rfl rfl rfl rfl (fun _ => rfl) rfl (fun w G bs hI hΓ => f177 w n (by omega) e2.name p4 c4 (hΓ.get 15 rfl) n_ pn_ cn_ (hΓ.get 1 rfl) ((ok_TableEntry ok2).1) hokn_) ?_
      intro hq5
      refine DX.takes (fuel := 0) ttOk [(12, true), (13, true)] (by kernel_rfl) rfl ?_
      refine DX.tail2 [] rfl rfl (by kernel_rfl) ?_
      refine WX.run ttOk rfl ?_
      refine WX.cases 36 rfl (fun h4 => ?_) (fun h4 => ?_)
      · skip
        have h4d := B.dt h4
        refine WX.run ttOk rfl ?_
        refine WX.see rfl rfl rfl (fun _ hΓ => looks_arith rfl rfl rfl rfl (by unfold I64; first | omega | (dsimp only; omega))) ?_
        refine WX.run ttOk rfl ?_
        exact WX.iter (i + 1) ⟨(by omega), (by rw [v2]; rw [spec_PutEntry_L1]; simp only [h3, h3d, e2h, h4, h4d, cond_true, cond_false, ↓reduceIte, Bool.false_eq_true])⟩ (by first | (dsimp only; omega) | omega) (.cons rfl (.cons rfl (.cons rfl (.cons rfl (.cons rfl (.nil)))))) (.cons rfl (.nil)) .nil [0, 1, 3] rfl
      · skip
        have h4d := B.df h4
        refine WX.run ttOk rfl ?_
        have hX1 : spec_PutEntry_L1 l n_ 0 = i := by rw [v2]; rw [spec_PutEntry_L1]; simp only [h3, h3d, e2h, h4, h4d, cond_true, cond_false, ↓reduceIte, Bool.false_eq_true]
        refine WX.callF 16 (fun _ _ h => GoT.ow_rd h) (fun _ f hf => GoT.fak f hf) rfl rfl rfl rfl rfl (fun _ => rfl) rfl (fun w G bs hI hΓ => f63 w n (by omega) n_ pn_ cn_ (hΓ.get 1 rfl) hokn_) (fun _ => rfl) (fun _ => rfl) ?_
        rintro ⟨p5, c5⟩ hq6
        refine WX.run ttOk rfl ?_
        refine WX.opn (kk := 2) 502 3 18 rfl rfl rfl ?_
        intro xs2 hx2
        refine WX.cap 502 rfl ?_
        intro hcap1
        refine WX.know (fun G hΓ => (hΓ.get 18 rfl : OwL _ _ _).rd.one) ?_
        intro hone1
        refine WX.der 19 (MF.rs .der p5 c5 ((spec_l4Copy n_).parts)) rfl (fun _ hΓ => (hΓ.get 17 rfl : OwSl _ _ _ _).rd) ?_
        refine WX.draw [4, 5, 7, 11, 12] mixed ?_
        intro bs G0 hΓ0
        refine DX.takes (fuel := 11) ttOk [(1, true), (2, true)] (by kernel_rfl) rfl ?_
        have r5 : (l).length ≤ bd n := (okl hokl).1
        have r6 : (spec_l6Copy l).length ≤ bd n := (okl hq1).1
        refine DX.seeP 3 (by kernel_rfl) rfl rfl rfl rfl (looksP_slH i ttOk rfl rfl rfl rfl (by simp) (Nat.le_trans (show i ≤ ((spec_l6Copy l)).length from (by omega)) hcap1)) ?_
        refine DX.takes (fuel := 8) ttOk [(8, true), (9, true)] (by kernel_rfl) rfl ?_
        refine DX.seeP 10 (by kernel_rfl) rfl rfl rfl rfl (looksP_slL i ttOk rfl rfl rfl rfl (by simp) (show i ≤ ((spec_l6Copy l)).length from (by omega))) ?_
        refine DX.toTX ?_
        intro S_
        refine TX.all2 0 5 (by kernel_rfl) ?_ ?_
        · skip
          refine TS.op 0 rfl (by kernel_rfl) ?_
          refine WX.bld ttOk rfl rfl rfl rfl rfl rfl rfl ?_
          intro p6
          refine WX.run ttOk rfl ?_
          refine WX.back0 ?_
          refine TX.all2 4 5 (by kernel_rfl) ?_ ?_
          · skip
            refine TS.op 4 rfl (by kernel_rfl) ?_
            refine WX.free 20 (MF.ol [] ([] : List TableEntry)) rfl ?_
            refine WX.appPre 43 502 i ((List.take i (spec_l6Copy l)) : List TableEntry).length ttOk rfl rfl rfl rfl rfl rfl rfl rfl rfl rfl rfl rfl rfl hone1 (show i ≤ ((spec_l6Copy l)).length from (by omega)) (by have z_ := (show i ≤ ((spec_l6Copy l)).length from (by omega)); first | (simp; done) | (simp only [List.length_append, List.length_cons, List.length_nil, List.length_take, List.length_drop, List.length_set]; omega) | (simp; omega)) (by first | assumption | omega | (simp only [List.length_append, List.length_cons, List.length_nil, List.length_set, List.length_map, List.length_take, List.length_drop]; omega) | (simp; omega)) (by first | assumption | omega | (simp only [List.length_append, List.length_cons, List.length_nil, List.length_set, List.length_map, List.length_take, List.length_drop]; omega) | (simp; omega)) (fun _ _ => rfl) ?_
            intro p7 c6
            refine WX.turn [18] 21 rfl (fun h hs => ol_split i (show i ≤ ((spec_l6Copy l)).length from (by omega)) hs) (gs := [MF.ol (List.take (i * 2) xs2) (List.take i (spec_l6Copy l)), MF.ol (List.drop (i * 2) xs2) (List.drop i (spec_l6Copy l))]) rfl ?_
            refine WX.turn [20, 21] 23 rfl (fun h hs => ol_app hs) (gs := [MF.ol ([] ++ (List.take (i * 2) xs2)) ((List.take i (spec_l6Copy l)) : List TableEntry)]) rfl ?_
            refine WX.run ttOk rfl ?_
            refine WX.back0 ?_
            refine TX.tail [5, 6, 7, 11, 12] rfl rfl (by kernel_rfl) ?_
            refine WX.run ttOk rfl ?_
            refine WX.bld ttOk rfl rfl rfl rfl rfl rfl rfl ?_
            intro p8
            refine WX.turn [17] 24 rfl (fun h hs => ol_one (α := TableEntry) (a := (TableEntry.mk (spec_l4Copy n_) v)) (x := ((p5, c5), ())) hs) (gs := [MF.ol [.slice p5 (((spec_l4Copy n_).parts).length) c5, .int .i64 (v)] ([(TableEntry.mk (spec_l4Copy n_) v)] : List TableEntry)]) rfl ?_
            have r7 : -9223372036854775808 ≤ v ∧ v ≤ 9223372036854775807 := hokv
            refine WX.know (fun G hΓ => (hΓ.get 24 rfl : OwL _ _ _).rd.one) ?_
            intro ho1
            refine WX.appR1 43 49 (((List.take i (spec_l6Copy l)) ++ [(TableEntry.mk (spec_l4Copy n_) v)]) : List TableEntry).length ttOk rfl rfl rfl rfl rfl rfl rfl rfl rfl rfl rfl rfl rfl ho1 (by first | (simp; done) | omega | (simp only [List.length_append, List.length_cons, List.length_nil, List.length_take, List.length_drop, List.length_set]; omega) | (simp; omega)) (by first | assumption | omega | (simp only [List.length_append, List.length_cons, List.length_nil, List.length_set, List.length_map, List.length_take, List.length_drop]; omega) | (simp; omega)) (by first | assumption | omega | (simp only [List.length_append, List.length_cons, List.length_nil, List.length_set, List.length_map, List.length_take, List.length_drop]; omega) | (simp; omega)) (fun _ _ => rfl) ?_
            intro p9 c7
            refine WX.turn [23, 24] 25 rfl (fun h hs => ol_app hs) (gs := [MF.ol (([] ++ (List.take (i * 2) xs2)) ++ [.slice p5 (((spec_l4Copy n_).parts).length) c5, .int .i64 (v)]) (((List.take i (spec_l6Copy l)) ++ [(TableEntry.mk (spec_l4Copy n_) v)]) : List TableEntry)]) rfl ?_
            refine WX.appSuf 43 502 i ((((List.take i (spec_l6Copy l)) ++ [(TableEntry.mk (spec_l4Copy n_) v)]) ++ (List.drop i (spec_l6Copy l))) : List TableEntry).length ttOk rfl rfl rfl rfl rfl rfl rfl rfl rfl rfl rfl rfl rfl hone1 (show i ≤ ((spec_l6Copy l)).length from (by omega)) (by have z_ := (show i ≤ ((spec_l6Copy l)).length from (by omega)); first | (simp; done) | (simp only [List.length_append, List.length_cons, List.length_nil, List.length_take, List.length_drop, List.length_set]; omega) | (simp; omega)) (by first | assumption | omega | (simp only [List.length_append, List.length_cons, List.length_nil, List.length_set, List.length_map, List.length_take, List.length_drop]; omega) | (simp; omega)) (by first | assumption | omega | (simp only [List.length_append, List.length_cons, List.length_nil, List.length_set, List.length_map, List.length_take, List.length_drop]; omega) | (simp; omega)) (fun _ _ => rfl) ?_
            intro p10 c8
            refine WX.turn [22] 26 rfl (fun h hs => ol_drop (show i ≤ i by omega) (show i ≤ ((spec_l6Copy l)).length from (by omega)) hs) (gs := [MF.ol (List.drop (i * 2) xs2) (List.drop i (spec_l6Copy l))]) rfl ?_
            refine WX.turn [25, 26] 27 rfl (fun h hs => ol_app hs) (gs := [MF.ol ((([] ++ (List.take (i * 2) xs2)) ++ [.slice p5 (((spec_l4Copy n_).parts).length) c5, .int .i64 (v)]) ++ (List.drop (i * 2) xs2)) ((((List.take i (spec_l6Copy l)) ++ [(TableEntry.mk (spec_l4Copy n_) v)]) ++ (List.drop i (spec_l6Copy l))) : List TableEntry)]) rfl ?_
            refine WX.run ttOk rfl ?_
            refine WX.seal 43 27 28 rfl rfl rfl rfl rfl ?_
            refine WX.callV rfl rfl rfl rfl rfl (fun _ => rfl) rfl (fun w G bs hI hΓ => f178 w (n + 3) (by omega) (((List.take i (spec_l6Copy l)) ++ [(TableEntry.mk (spec_l4Copy n_) v)]) ++ (List.drop i (spec_l6Copy l))) p10 c8 (hΓ.get 28 rfl) (okl_mk (by first | assumption | omega | (simp only [List.length_append, List.length_cons, List.length_nil, List.length_set, List.length_map, List.length_take, List.length_drop]; omega) | (simp; omega)) (fun a ha => GoT.okm (show (n + 2) ≤ (n + 3) by omega) ((all_app (fun a ha => GoT.okm (show (n + 1) ≤ (n + 2) by omega) ((all_app (fun a ha => GoT.okm (show n ≤ (n + 1) by omega) ((fun a ha => (okl hq1).2 a (List.mem_of_mem_take ha)) a ha)) (fun a ha => GoT.okm (by omega) ((all_cons (α := TableEntry) (And.intro hq6 hokv) (fun a ha => by cases ha)) a ha))) a ha)) (fun a ha => GoT.okm (by omega) ((fun a ha => (okl hq1).2 a (List.mem_of_mem_drop ha)) a ha))) a ha)) : GoT.ok (n + 3) ((((List.take i (spec_l6Copy l)) ++ [(TableEntry.mk (spec_l4Copy n_) v)]) ++ (List.drop i (spec_l6Copy l))) : List TableEntry))) ?_
            intro hq7
            refine WX.run ttOk rfl ?_
            refine WX.cases 57 rfl (fun h5 => ?_) (fun h5 => ?_)
            · skip
              have h5d := (B.nt h5)
              refine WX.run ttOk rfl ?_
              refine WX.callF 30 (fun _ _ h => GoT.ow_rd h) (fun _ f hf => GoT.fak f hf) rfl rfl rfl rfl rfl (fun _ => rfl) rfl (fun w G bs hI hΓ => f174 w n (by omega) l pl cl (hΓ.get 0 rfl) hokl) (fun _ => rfl) (fun _ => rfl) ?_
              rintro ⟨p11, c9⟩ hq8
              have q4 := len_l6Copy l
              refine WX.run ttOk rfl ?_
              have hP3 : spec_PutEntry l n_ v = (spec_l6Copy l, false) := by simp only [spec_PutEntry, h1, hX1, h5, cond_true, cond_false]
              refine WX.ret ttOk rfl ?_
              intro w1 G bs hI hΓ
              rw [hP3]
              exact Post.of [31] (p11, c9) hI hΓ rfl rfl rfl (GoT.okm (α := List TableEntry) (by omega) hq8)
            · skip
              have h5d := (B.nf h5)
              refine WX.run ttOk rfl ?_
              have hP4 : spec_PutEntry l n_ v = (((List.take i (spec_l6Copy l)) ++ [(TableEntry.mk (spec_l4Copy n_) v)]) ++ (List.drop i (spec_l6Copy l)), true) := by simp only [spec_PutEntry, h1, hX1, h5, cond_true, cond_false]
              refine WX.ret ttOk rfl ?_
              intro w1 G bs hI hΓ
              rw [hP4]
              exact Post.of [29] (p10, c8) hI hΓ rfl rfl rfl (okl_mk (by first | assumption | omega | (simp only [List.length_append, List.length_cons, List.length_nil, List.length_set, List.length_map, List.length_take, List.length_drop]; omega) | (simp; omega)) (fun a ha => GoT.okm (show (n + 2) ≤ (n + 3) by omega) ((all_app (fun a ha => GoT.okm (show (n + 1) ≤ (n + 2) by omega) ((all_app (fun a ha => GoT.okm (show n ≤ (n + 1) by omega) ((fun a ha => (okl hq1).2 a (List.mem_of_mem_take ha)) a ha)) (fun a ha => GoT.okm (by omega) ((all_cons (α := TableEntry) (And.intro hq6 hokv) (fun a ha => by cases ha)) a ha))) a ha)) (fun a ha => GoT.okm (by omega) ((fun a ha => (okl hq1).2 a (List.mem_of_mem_drop ha)) a ha))) a ha)) : GoT.ok (n + 3) ((((List.take i (spec_l6Copy l)) ++ [(TableEntry.mk (spec_l4Copy n_) v)]) ++ (List.drop i (spec_l6Copy l))) : List TableEntry))
          · skip
            refine TS.op 5 rfl (by kernel_rfl) ?_
            refine WX.run ttOk rfl ?_
            refine WX.back0 ?_
            refine TX.all2 4 6 (by kernel_rfl) ?_ ?_
            · skip
              refine TS.op 4 rfl (by kernel_rfl) ?_
              refine WX.free 32 (MF.ol [] ([] : List TableEntry)) rfl ?_
              refine WX.appPre 43 502 i ((List.take i (spec_l6Copy l)) : List TableEntry).length ttOk rfl rfl rfl rfl rfl rfl rfl rfl rfl rfl rfl rfl rfl hone1 (show i ≤ ((spec_l6Copy l)).length from (by omega)) (by have z_ := (show i ≤ ((spec_l6Copy l)).length from (by omega)); first | (simp; done) | (simp only [List.length_append, List.length_cons, List.length_nil, List.length_take, List.length_drop, List.length_set]; omega) | (simp; omega)) (by first | assumption | omega | (simp only [List.length_append, List.length_cons, List.length_nil, List.length_set, List.length_map, List.length_take, List.length_drop]; omega) | (simp; omega)) (by first | assumption | omega | (simp only [List.length_append, List.length_cons, List.length_nil, List.length_set, List.length_map, List.length_take, List.length_drop]; omega) | (simp; omega)) (fun _ _ => rfl) ?_
              intro p12 c10
              refine WX.turn [18] 33 rfl (fun h hs => ol_split i (show i ≤ ((spec_l6Copy l)).length from (by omega)) hs) (gs := [MF.ol (List.take (i * 2) xs2) (List.take i (spec_l6Copy l)), MF.ol (List.drop (i * 2) xs2) (List.drop i (spec_l6Copy l))]) rfl ?_
              refine WX.turn [32, 33] 35 rfl (fun h hs => ol_app hs) (gs := [MF.ol ([] ++ (List.take (i * 2) xs2)) ((List.take i (spec_l6Copy l)) : List TableEntry)]) rfl ?_
              refine WX.run ttOk rfl ?_
              refine WX.back0 ?_
              refine TX.tail [6, 7, 11, 12] rfl rfl (by kernel_rfl) ?_
              refine WX.bld ttOk rfl rfl rfl rfl rfl rfl rfl ?_
              intro p13
              refine WX.turn [17] 36 rfl (fun h hs => ol_one (α := TableEntry) (a := (TableEntry.mk (spec_l4Copy n_) v)) (x := ((p5, c5), ())) hs) (gs := [MF.ol [.slice p5 (((spec_l4Copy n_).parts).length) c5, .int .i64 (v)] ([(TableEntry.mk (spec_l4Copy n_) v)] : List TableEntry)]) rfl ?_
              have r8 : -9223372036854775808 ≤ v ∧ v ≤ 9223372036854775807 := hokv
              refine WX.know (fun G hΓ => (hΓ.get 36 rfl : OwL _ _ _).rd.one) ?_
              intro ho2
              refine WX.appR1 43 49 (((List.take i (spec_l6Copy l)) ++ [(TableEntry.mk (spec_l4Copy n_) v)]) : List TableEntry).length ttOk rfl rfl rfl rfl rfl rfl rfl rfl rfl rfl rfl rfl rfl ho2 (by first | (simp; done) | omega | (simp only [List.length_append, List.length_cons, List.length_nil, List.length_take, List.length_drop, List.length_set]; omega) | (simp; omega)) (by first | assumption | omega | (simp only [List.length_append, List.length_cons, List.length_nil, List.length_set, List.length_map, List.length_take, List.length_drop]; omega) | (simp; omega)) (by first | assumption | omega | (simp only [List.length_append, List.length_cons, List.length_nil, List.length_set, List.length_map, List.length_take, List.length_drop]; omega) | (simp; omega)) (fun _ _ => rfl) ?_
              intro p14 c11
              refine WX.turn [35, 36] 37 rfl (fun h hs => ol_app hs) (gs := [MF.ol (([] ++ (List.take (i * 2) xs2)) ++ [.slice p5 (((spec_l4Copy n_).parts).length) c5, .int .i64 (v)]) (((List.take i (spec_l6Copy l)) ++ [(TableEntry.mk (spec_l4Copy n_) v)]) : List TableEntry)]) rfl ?_
              refine WX.appSuf 43 502 i ((((List.take i (spec_l6Copy l)) ++ [(TableEntry.mk (spec_l4Copy n_) v)]) ++ (List.drop i (spec_l6Copy l))) : List TableEntry).length ttOk rfl rfl rfl rfl rfl rfl rfl rfl rfl rfl rfl rfl rfl hone1 (show i ≤ ((spec_l6Copy l)).length from (by omega)) (by have z_ := (show i ≤ ((spec_l6Copy l)).length from (by omega)); first | (simp; done) | (simp only [List.length_append, List.length_cons, List.length_nil, List.length_take, List.length_drop, List.length_set]; omega) | (simp; omega)) (by first | assumption | omega | (simp only [List.length_append, List.length_cons, List.length_nil, List.length_set, List.length_map, List.length_take, List.length_drop]; omega) | (simp; omega)) (by first | assumption | omega | (simp only [List.length_append, List.length_cons, List.length_nil, List.length_set, List.length_map, List.length_take, List.length_drop]; omega) | (simp; omega)) (fun _ _ => rfl) ?_
              intro p15 c12
              refine WX.turn [34] 38 rfl (fun h hs => ol_drop (show i ≤ i by omega) (show i ≤ ((spec_l6Copy l)).length from (by omega)) hs) (gs := [MF.ol (List.drop (i * 2) xs2) (List.drop i (spec_l6Copy l))]) rfl ?_
              refine WX.turn [37, 38] 39 rfl (fun h hs => ol_app hs) (gs := [MF.ol ((([] ++ (List.take (i * 2) xs2)) ++ [.slice p5 (((spec_l4Copy n_).parts).length) c5, .int .i64 (v)]) ++ (List.drop (i * 2) xs2)) ((((List.take i (spec_l6Copy l)) ++ [(TableEntry.mk (spec_l4Copy n_) v)]) ++ (List.drop i (spec_l6Copy l))) : List TableEntry)]) rfl ?_
              refine WX.run ttOk rfl ?_
              refine WX.seal 43 39 40 rfl rfl rfl rfl rfl ?_
              refine WX.callV rfl rfl rfl rfl rfl (fun _ => rfl) rfl (fun w G bs hI hΓ => f178 w (n + 3) (by omega) (((List.take i (spec_l6Copy l)) ++ [(TableEntry.mk (spec_l4Copy n_) v)]) ++ (List.drop i (spec_l6Copy l))) p15 c12 (hΓ.get 40 rfl) (okl_mk (by first | assumption | omega | (simp only [List.length_append, List.length_cons, List.length_nil, List.length_set, List.length_map, List.length_take, List.length_drop]; omega) | (simp; omega)) (fun a ha => GoT.okm (show (n + 2) ≤ (n + 3) by omega) ((all_app (fun a ha => GoT.okm (show (n + 1) ≤ (n + 2) by omega) ((all_app (fun a ha => GoT.okm (show n ≤ (n + 1) by omega) ((fun a ha => (okl hq1).2 a (List.mem_of_mem_take ha)) a ha)) (fun a ha => GoT.okm (by omega) ((all_cons (α := TableEntry) (And.intro hq6 hokv) (fun a ha => by cases ha)) a ha))) a ha)) (fun a ha => GoT.okm (by omega) ((fun a ha => (okl hq1).2 a (List.mem_of_mem_drop ha)) a ha))) a ha)) : GoT.ok (n + 3) ((((List.take i (spec_l6Copy l)) ++ [(TableEntry.mk (spec_l4Copy n_) v)]) ++ (List.drop i (spec_l6Copy l))) : List TableEntry))) ?_
              intro hq9
              refine WX.run ttOk rfl ?_
              refine WX.cases 57 rfl (fun h6 => ?_) (fun h6 => ?_)
              · skip
                have h6d := (B.nt h6)
                refine WX.run ttOk rfl ?_
                refine WX.callF 42 (fun _ _ h => GoT.ow_rd h) (fun _ f hf => GoT.fak f hf) rfl rfl rfl rfl rfl (fun _ => rfl) rfl (fun w G bs hI hΓ => f174 w n (by omega) l pl cl (hΓ.get 0 rfl) hokl) (fun _ => rfl) (fun _ => rfl) ?_
                rintro ⟨p16, c13⟩ hq10
                have q5 := len_l6Copy l
                refine WX.run ttOk rfl ?_
                have hP5 : spec_PutEntry l n_ v = (spec_l6Copy l, false) := by simp only [spec_PutEntry, h1, hX1, h6, cond_true, cond_false]
                refine WX.ret ttOk rfl ?_
                intro w1 G bs hI hΓ
                rw [hP5]
                exact Post.of [43] (p16, c13) hI hΓ rfl rfl rfl (GoT.okm (α := List TableEntry) (by omega) hq10)
              · skip
                have h6d := (B.nf h6)
                refine WX.run ttOk rfl ?_
                have hP6 : spec_PutEntry l n_ v = (((List.take i (spec_l6Copy l)) ++ [(TableEntry.mk (spec_l4Copy n_) v)]) ++ (List.drop i (spec_l6Copy l)), true) := by simp only [spec_PutEntry, h1, hX1, h6, cond_true, cond_false]
                refine WX.ret ttOk rfl ?_
                intro w1 G bs hI hΓ
                rw [hP6]
                exact Post.of [41] (p15, c12) hI hΓ rfl rfl rfl (okl_mk (by first | assumption | omega | (simp only [List.length_append, List.length_cons, List.length_nil, List.length_set, List.length_map, List.length_take, List.length_drop]; omega) | (simp; omega)) (fun a ha => GoT.okm (show (n + 2) ≤ (n + 3) by omega) ((all_app (fun a ha => GoT.okm (show (n + 1) ≤ (n + 2) by omega) ((all_app (fun a ha => GoT.okm (show n ≤ (n + 1) by omega) ((fun a ha => (okl hq1).2 a (List.mem_of_mem_take ha)) a ha)) (fun a ha => GoT.okm (by omega) ((all_cons (α := TableEntry) (And.intro hq6 hokv) (fun a ha => by cases ha)) a ha))) a ha)) (fun a ha => GoT.okm (by omega) ((fun a ha => (okl hq1).2 a (List.mem_of_mem_drop ha)) a ha))) a ha)) : GoT.ok (n + 3) ((((List.take i (spec_l6Copy l)) ++ [(TableEntry.mk (spec_l4Copy n_) v)]) ++ (List.drop i (spec_l6Copy l))) : List TableEntry))
            · skip
              refine TS.op 6 rfl (by kernel_rfl) ?_
              refine WX.bld ttOk rfl rfl rfl rfl rfl rfl rfl ?_
              intro p17
              refine WX.run ttOk rfl ?_
              refine WX.back0 ?_
              refine TX.tail [4, 7, 11, 12] rfl rfl (by kernel_rfl) ?_
              refine WX.free 44 (MF.ol [] ([] : List TableEntry)) rfl ?_
              refine WX.appPre 43 502 i ((List.take i (spec_l6Copy l)) : List TableEntry).length ttOk rfl rfl rfl rfl rfl rfl rfl rfl rfl rfl rfl rfl rfl hone1 (show i ≤ ((spec_l6Copy l)).length from (by omega)) (by have z_ := (show i ≤ ((spec_l6Copy l)).length from (by omega)); first | (simp; done) | (simp only [List.length_append, List.length_cons, List.length_nil, List.length_take, List.length_drop, List.length_set]; omega) | (simp; omega)) (by first | assumption | omega | (simp only [List.length_append, List.length_cons, List.length_nil, List.length_set, List.length_map, List.length_take, List.length_drop]; omega) | (simp; omega)) (by first | assumption | omega | (simp only [List.length_append, List.length_cons, List.length_nil, List.length_set, List.length_map, List.length_take, List.length_drop]; omega) | (simp; omega)) (fun _ _ => rfl) ?_
              intro p18 c14
              refine WX.turn [18] 45 rfl (fun h hs => ol_split i (show i ≤ ((spec_l6Copy l)).length from (by omega)) hs) (gs := [MF.ol (List.take (i * 2) xs2) (List.take i (spec_l6Copy l)), MF.ol (List.drop (i * 2) xs2) (List.drop i (spec_l6Copy l))]) rfl ?_
              refine WX.turn [44, 45] 47 rfl (fun h hs => ol_app hs) (gs := [MF.ol ([] ++ (List.take (i * 2) xs2)) ((List.take i (spec_l6Copy l)) : List TableEntry)]) rfl ?_
              refine WX.turn [17] 48 rfl (fun h hs => ol_one (α := TableEntry) (a := (TableEntry.mk (spec_l4Copy n_) v)) (x := ((p5, c5), ())) hs) (gs := [MF.ol [.slice p5 (((spec_l4Copy n_).parts).length) c5, .int .i64 (v)] ([(TableEntry.mk (spec_l4Copy n_) v)] : List TableEntry)]) rfl ?_
              have r9 : -9223372036854775808 ≤ v ∧ v ≤ 9223372036854775807 := hokv
              refine WX.know (fun G hΓ => (hΓ.get 48 rfl : OwL _ _ _).rd.one) ?_
              intro ho3
              refine WX.appR1 43 49 (((List.take i (spec_l6Copy l)) ++ [(TableEntry.mk (spec_l4Copy n_) v)]) : List TableEntry).length ttOk rfl rfl rfl rfl rfl rfl rfl rfl rfl rfl rfl rfl rfl ho3 (by first | (simp; done) | omega | (simp only [List.length_append, List.length_cons, List.length_nil, List.length_take, List.length_drop, List.length_set]; omega) | (simp; omega)) (by first | assumption | omega | (simp only [List.length_append, List.length_cons, List.length_nil, List.length_set, List.length_map, List.length_take, List.length_drop]; omega) | (simp; omega)) (by first | assumption | omega | (simp only [List.length_append, List.length_cons, List.length_nil, List.length_set, List.length_map, List.length_take, List.length_drop]; omega) | (simp; omega)) (fun _ _ => rfl) ?_
              intro p19 c15
              refine WX.turn [47, 48] 49 rfl (fun h hs => ol_app hs) (gs := [MF.ol (([] ++ (List.take (i * 2) xs2)) ++ [.slice p5 (((spec_l4Copy n_).parts).length) c5, .int .i64 (v)]) (((List.take i (spec_l6Copy l)) ++ [(TableEntry.mk (spec_l4Copy n_) v)]) : List TableEntry)]) rfl ?_
              refine WX.appSuf 43 502 i ((((List.take i (spec_l6Copy l)) ++ [(TableEntry.mk (spec_l4Copy n_) v)]) ++ (List.drop i (spec_l6Copy l))) : List TableEntry).length ttOk rfl rfl rfl rfl rfl rfl rfl rfl rfl rfl rfl rfl rfl hone1 (show i ≤ ((spec_l6Copy l)).length from (by omega)) (by have z_ := (show i ≤ ((spec_l6Copy l)).length from (by omega)); first | (simp; done) | (simp only [List.length_append, List.length_cons, List.length_nil, List.length_take, List.length_drop, List.length_set]; omega) | (simp; omega)) (by first | assumption | omega | (simp only [List.length_append, List.length_cons, List.length_nil, List.length_set, List.length_map, List.length_take, List.length_drop]; omega) | (simp; omega)) (by first | assumption | omega | (simp only [List.length_append, List.length_cons, List.length_nil, List.length_set, List.length_map, List.length_take, List.length_drop]; omega) | (simp; omega)) (fun _ _ => rfl) ?_
              intro p20 c16
              refine WX.turn [46] 50 rfl (fun h hs => ol_drop (show i ≤ i by omega) (show i ≤ ((spec_l6Copy l)).length from (by omega)) hs) (gs := [MF.ol (List.drop (i * 2) xs2) (List.drop i (spec_l6Copy l))]) rfl ?_
              refine WX.turn [49, 50] 51 rfl (fun h hs => ol_app hs) (gs := [MF.ol ((([] ++ (List.take (i * 2) xs2)) ++ [.slice p5 (((spec_l4Copy n_).parts).length) c5, .int .i64 (v)]) ++ (List.drop (i * 2) xs2)) ((((List.take i (spec_l6Copy l)) ++ [(TableEntry.mk (spec_l4Copy n_) v)]) ++ (List.drop i (spec_l6Copy l))) : List TableEntry)]) rfl ?_
              refine WX.run ttOk rfl ?_
              refine WX.seal 43 51 52 rfl rfl rfl rfl rfl ?_
              refine WX.callV rfl rfl rfl rfl rfl (fun _ => rfl) rfl (fun w G bs hI hΓ => f178 w (n + 3) (by omega) (((List.take i (spec_l6Copy l)) ++ [(TableEntry.mk (spec_l4Copy n_) v)]) ++ (List.drop i (spec_l6Copy l))) p20 c16 (hΓ.get 52 rfl) (okl_mk (by first | assumption | omega | (simp only [List.length_append, List.length_cons, List.length_nil, List.length_set, List.length_map, List.length_take, List.length_drop]; omega) | (simp; omega)) (fun a ha => GoT.okm (show (n + 2) ≤ (n + 3) by omega) ((all_app (fun a ha => GoT.okm (show (n + 1) ≤ (n + 2) by omega) ((all_app (fun a ha => GoT.okm (show n ≤ (n + 1) by omega) ((fun a ha => (okl hq1).2 a (List.mem_of_mem_take ha)) a ha)) (fun a ha => GoT.okm (by omega) ((all_cons (α := TableEntry) (And.intro hq6 hokv) (fun a ha => by cases ha)) a ha))) a ha)) (fun a ha => GoT.okm (by omega) ((fun a ha => (okl hq1).2 a (List.mem_of_mem_drop ha)) a ha))) a ha)) : GoT.ok (n + 3) ((((List.take i (spec_l6Copy l)) ++ [(TableEntry.mk (spec_l4Copy n_) v)]) ++ (List.drop i (spec_l6Copy l))) : List TableEntry))) ?_
              intro hq11
              refine WX.run ttOk rfl ?_
              refine WX.cases 57 rfl (fun h7 => ?_) (fun h7 => ?_)
              · skip
                have h7d := (B.nt h7)
                refine WX.run ttOk rfl ?_
                refine WX.callF 54 (fun _ _ h => GoT.ow_rd h) (fun _ f hf => GoT.fak f hf) rfl rfl rfl rfl rfl (fun _ => rfl) rfl (fun w G bs hI hΓ => f174 w n (by omega) l pl cl (hΓ.get 0 rfl) hokl) (fun _ => rfl) (fun _ => rfl) ?_
                rintro ⟨p21, c17⟩ hq12
                have q6 := len_l6Copy l
                refine WX.run ttOk rfl ?_
                have hP7 : spec_PutEntry l n_ v = (spec_l6Copy l, false) := by simp only [spec_PutEntry, h1, hX1, h7, cond_true, cond_false]
                refine WX.ret ttOk rfl ?_
                intro w1 G bs hI hΓ
                rw [hP7]
                exact Post.of [55] (p21, c17) hI hΓ rfl rfl rfl (GoT.okm (α := List TableEntry) (by omega) hq12)
              · skip
                have h7d := (B.nf h7)
                refine WX.run ttOk rfl ?_
                have hP8 : spec_PutEntry l n_ v = (((List.take i (spec_l6Copy l)) ++ [(TableEntry.mk (spec_l4Copy n_) v)]) ++ (List.drop i (spec_l6Copy l)), true) := by simp only [spec_PutEntry, h1, hX1, h7, cond_true, cond_false]
                refine WX.ret ttOk rfl ?_
                intro w1 G bs hI hΓ
                rw [hP8]
                exact Post.of [53] (p20, c16) hI hΓ rfl rfl rfl (okl_mk (by first | assumption | omega | (simp only [List.length_append, List.length_cons, List.length_nil, List.length_set, List.length_map, List.length_take, List.length_drop]; omega) | (simp; omega)) (fun a ha => GoT.okm (show (n + 2) ≤ (n + 3) by omega) ((all_app (fun a ha => GoT.okm (show (n + 1) ≤ (n + 2) by omega) ((all_app (fun a ha => GoT.okm (show n ≤ (n + 1) by omega) ((fun a ha => (okl hq1).2 a (List.mem_of_mem_take ha)) a ha)) (fun a ha => GoT.okm (by omega) ((all_cons (α := TableEntry) (And.intro hq6 hokv) (fun a ha => by cases ha)) a ha))) a ha)) (fun a ha => GoT.okm (by omega) ((fun a ha => (okl hq1).2 a (List.mem_of_mem_drop ha)) a ha))) a ha)) : GoT.ok (n + 3) ((((List.take i (spec_l6Copy l)) ++ [(TableEntry.mk (spec_l4Copy n_) v)]) ++ (List.drop i (spec_l6Copy l))) : List TableEntry))
        · skip
          refine TS.op 5 rfl (by kernel_rfl) ?_
          refine WX.run ttOk rfl ?_
          refine WX.back0 ?_
          refine TX.all2 0 6 (by kernel_rfl) ?_ ?_
          · skip
            refine TS.op 0 rfl (by kernel_rfl) ?_
            refine WX.bld ttOk rfl rfl rfl rfl rfl rfl rfl ?_
            intro p22
            refine WX.run ttOk rfl ?_
            refine WX.back0 ?_
            refine TX.all2 4 6 (by kernel_rfl) ?_ ?_
            · skip
              refine TS.op 4 rfl (by kernel_rfl) ?_
              refine WX.free 56 (MF.ol [] ([] : List TableEntry)) rfl ?_
              refine WX.appPre 43 502 i ((List.take i (spec_l6Copy l)) : List TableEntry).length ttOk rfl rfl rfl rfl rfl rfl rfl rfl rfl rfl rfl rfl rfl hone1 (show i ≤ ((spec_l6Copy l)).length from (by omega)) (by have z_ := (show i ≤ ((spec_l6Copy l)).length from (by omega)); first | (simp; done) | (simp only [List.length_append, List.length_cons, List.length_nil, List.length_take, List.length_drop, List.length_set]; omega) | (simp; omega)) (by first | assumption | omega | (simp only [List.length_append, List.length_cons, List.length_nil, List.length_set, List.length_map, List.length_take, List.length_drop]; omega) | (simp; omega)) (by first | assumption | omega | (simp only [List.length_append, List.length_cons, List.length_nil, List.length_set, List.length_map, List.length_take, List.length_drop]; omega) | (simp; omega)) (fun _ _ => rfl) ?_
              intro p23 c18
              refine WX.turn [18] 57 rfl (fun h hs => ol_split i (show i ≤ ((spec_l6Copy l)).length from (by omega)) hs) (gs := [MF.ol (List.take (i * 2) xs2) (List.take i (spec_l6Copy l)), MF.ol (List.drop (i * 2) xs2) (List.drop i (spec_l6Copy l))]) rfl ?_
              refine WX.turn [56, 57] 59 rfl (fun h hs => ol_app hs) (gs := [MF.ol ([] ++ (List.take (i * 2) xs2)) ((List.take i (spec_l6Copy l)) : List TableEntry)]) rfl ?_
              refine WX.run ttOk rfl ?_
              refine WX.back0 ?_
              refine TX.tail [6, 7, 11, 12] rfl rfl (by kernel_rfl) ?_
              refine WX.bld ttOk rfl rfl rfl rfl rfl rfl rfl ?_
              intro p24
              refine WX.turn [17] 60 rfl (fun h hs => ol_one (α := TableEntry) (a := (TableEntry.mk (spec_l4Copy n_) v)) (x := ((p5, c5), ())) hs) (gs := [MF.ol [.slice p5 (((spec_l4Copy n_).parts).length) c5, .int .i64 (v)] ([(TableEntry.mk (spec_l4Copy n_) v)] : List TableEntry)]) rfl ?_
              have r10 : -9223372036854775808 ≤ v ∧ v ≤ 9223372036854775807 := hokv
              refine WX.know (fun G hΓ => (hΓ.get 60 rfl : OwL _ _ _).rd.one) ?_
              intro ho4
              refine WX.appR1 43 49 (((List.take i (spec_l6Copy l)) ++ [(TableEntry.mk (spec_l4Copy n_) v)]) : List TableEntry).length ttOk rfl rfl rfl rfl rfl rfl rfl rfl rfl rfl rfl rfl rfl ho4 (by first | (simp; done) | omega | (simp only [List.length_append, List.length_cons, List.length_nil, List.length_take, List.length_drop, List.length_set]; omega) | (simp; omega)) (by first | assumption | omega | (simp only [List.length_append, List.length_cons, List.length_nil, List.length_set, List.length_map, List.length_take, List.length_drop]; omega) | (simp; omega)) (by first | assumption | omega | (simp only [List.length_append, List.length_cons, List.length_nil, List.length_set, List.length_map, List.length_take, List.length_drop]; omega) | (simp; omega)) (fun _ _ => rfl) ?_
              intro p25 c19
              refine WX.turn [59, 60] 61 rfl (fun h hs => ol_app hs) (gs := [MF.ol (([] ++ (List.take (i * 2) xs2)) ++ [.slice p5 (((spec_l4Copy n_).parts).length) c5, .int .i64 (v)]) (((List.take i (spec_l6Copy l)) ++ [(TableEntry.mk (spec_l4Copy n_) v)]) : List TableEntry)]) rfl ?_
              refine WX.appSuf 43 502 i ((((List.take i (spec_l6Copy l)) ++ [(TableEntry.mk (spec_l4Copy n_) v)]) ++ (List.drop i (spec_l6Copy l))) : List TableEntry).length ttOk rfl rfl rfl rfl rfl rfl rfl rfl rfl rfl rfl rfl rfl hone1 (show i ≤ ((spec_l6Copy l)).length from (by omega)) (by have z_ := (show i ≤ ((spec_l6Copy l)).length from (by omega)); first | (simp; done) | (simp only [List.length_append, List.length_cons, List.length_nil, List.length_take, List.length_drop, List.length_set]; omega) | (simp; omega)) (by first | assumption | omega | (simp only [List.length_append, List.length_cons, List.length_nil, List.length_set, List.length_map, List.length_take, List.length_drop]; omega) | (simp; omega)) (by first | assumption | omega | (simp only [List.length_append, List.length_cons, List.length_nil, List.length_set, List.length_map, List.length_take, List.length_drop]; omega) | (simp; omega)) (fun _ _ => rfl) ?_
              intro p26 c20
              refine WX.turn [58] 62 rfl (fun h hs => ol_drop (show i ≤ i by omega) (show i ≤ ((spec_l6Copy l)).length from (by omega)) hs) (gs := [MF.ol (List.drop (i * 2) xs2) (List.drop i (spec_l6Copy l))]) rfl ?_
              refine WX.turn [61, 62] 63 rfl (fun h hs => ol_app hs) (gs := [MF.ol ((([] ++ (List.take (i * 2) xs2)) ++ [.slice p5 (((spec_l4Copy n_).parts).length) c5, .int .i64 (v)]) ++ (List.drop (i * 2) xs2)) ((((List.take i (spec_l6Copy l)) ++ [(TableEntry.mk (spec_l4Copy n_) v)]) ++ (List.drop i (spec_l6Copy l))) : List TableEntry)]) rfl ?_
              refine WX.run ttOk rfl ?_
              refine WX.seal 43 63 64 rfl rfl rfl rfl rfl ?_
              refine WX.callV rfl rfl rfl rfl rfl (fun _ => rfl) rfl (fun w G bs hI hΓ => f178 w (n + 3) (by omega) (((List.take i (spec_l6Copy l)) ++ [(TableEntry.mk (spec_l4Copy n_) v)]) ++ (List.drop i (spec_l6Copy l))) p26 c20 (hΓ.get 64 rfl) (okl_mk (by first | assumption | omega | (simp only [List.length_append, List.length_cons, List.length_nil, List.length_set, List.length_map, List.length_take, List.length_drop]; omega) | (simp; omega)) (fun a ha => GoT.okm (show (n + 2) ≤ (n + 3) by omega) ((all_app (fun a ha => GoT.okm (show (n + 1) ≤ (n + 2) by omega) ((all_app (fun a ha => GoT.okm (show n ≤ (n + 1) by omega) ((fun a ha => (okl hq1).2 a (List.mem_of_mem_take ha)) a ha)) (fun a ha => GoT.okm (by omega) ((all_cons (α := TableEntry) (And.intro hq6 hokv) (fun a ha => by cases ha)) a ha))) a ha)) (fun a ha => GoT.okm (by omega) ((fun a ha => (okl hq1).2 a (List.mem_of_mem_drop ha)) a ha))) a ha)) : GoT.ok (n + 3) ((((List.take i (spec_l6Copy l)) ++ [(TableEntry.mk (spec_l4Copy n_) v)]) ++ (List.drop i (spec_l6Copy l))) : List TableEntry))) ?_
              intro hq13
              refine WX.run ttOk rfl ?_
              refine WX.cases 57 rfl (fun h8 => ?_) (fun h8 => ?_)
              · skip
                have h8d := (B.nt h8)
                refine WX.run ttOk rfl ?_
                refine WX.callF 66 (fun _ _ h => GoT.ow_rd h) (fun _ f hf => GoT.fak f hf) rfl rfl rfl rfl rfl (fun _ => rfl) rfl (fun w G bs hI hΓ => f174 w n (by omega) l pl cl (hΓ.get 0 rfl) hokl) (fun _ => rfl) (fun _ => rfl) ?_
                rintro ⟨p27, c21⟩ hq14
                have q7 := len_l6Copy l
                refine WX.run ttOk rfl ?_
                have hP9 : spec_PutEntry l n_ v = (spec_l6Copy l, false) := by simp only [spec_PutEntry, h1, hX1, h8, cond_true, cond_false]
                refine WX.ret ttOk rfl ?_
                intro w1 G bs hI hΓ
                rw [hP9]
                exact Post.of [67] (p27, c21) hI hΓ rfl rfl rfl (GoT.okm (α := List TableEntry) (by omega) hq14)
              · skip
                have h8d := (B.nf h8)
                refine WX.run ttOk rfl ?_
                have hP10 : spec_PutEntry l n_ v = (((List.take i (spec_l6Copy l)) ++ [(TableEntry.mk (spec_l4Copy n_) v)]) ++ (List.drop i (spec_l6Copy l)), true) := by simp only [spec_PutEntry, h1, hX1, h8, cond_true, cond_false]
                refine WX.ret ttOk rfl ?_
                intro w1 G bs hI hΓ
                rw [hP10]
                exact Post.of [65] (p26, c20) hI hΓ rfl rfl rfl (okl_mk (by first | assumption | omega | (simp only [List.length_append, List.length_cons, List.length_nil, List.length_set, List.length_map, List.length_take, List.length_drop]; omega) | (simp; omega)) (fun a ha => GoT.okm (show (n + 2) ≤ (n + 3) by omega) ((all_app (fun a ha => GoT.okm (show (n + 1) ≤ (n + 2) by omega) ((all_app (fun a ha => GoT.okm (show n ≤ (n + 1) by omega) ((fun a ha => (okl hq1).2 a (List.mem_of_mem_take ha)) a ha)) (fun a ha => GoT.okm (by omega) ((all_cons (α := TableEntry) (And.intro hq6 hokv) (fun a ha => by cases ha)) a ha))) a ha)) (fun a ha => GoT.okm (by omega) ((fun a ha => (okl hq1).2 a (List.mem_of_mem_drop ha)) a ha))) a ha)) : GoT.ok (n + 3) ((((List.take i (spec_l6Copy l)) ++ [(TableEntry.mk (spec_l4Copy n_) v)]) ++ (List.drop i (spec_l6Copy l))) : List TableEntry))
            · skip
              refine TS.op 6 rfl (by kernel_rfl) ?_
              refine WX.bld ttOk rfl rfl rfl rfl rfl rfl rfl ?_
              intro p28
              refine WX.run ttOk rfl ?_
              refine WX.back0 ?_
              refine TX.tail [4, 7, 11, 12] rfl rfl (by kernel_rfl) ?_
              refine WX.free 68 (MF.ol [] ([] : List TableEntry)) rfl ?_
              refine WX.appPre 43 502 i ((List.take i (spec_l6Copy l)) : List TableEntry).length ttOk rfl rfl rfl rfl rfl rfl rfl rfl rfl rfl rfl rfl rfl hone1 (show i ≤ ((spec_l6Copy l)).length from (by omega)) (by have z_ := (show i ≤ ((spec_l6Copy l)).length from (by omega)); first | (simp; done) | (simp only [List.length_append, List.length_cons, List.length_nil, List.length_take, List.length_drop, List.length_set]; omega) | (simp; omega)) (by first | assumption | omega | (simp only [List.length_append, List.length_cons, List.length_nil, List.length_set, List.length_map, List.length_take, List.length_drop]; omega) | (simp; omega)) (by first | assumption | omega | (simp only [List.length_append, List.length_cons, List.length_nil, List.length_set, List.length_map, List.length_take, List.length_drop]; omega) | (simp; omega)) (fun _ _ => rfl) ?_
              intro p29 c22
              refine WX.turn [18] 69 rfl (fun h hs => ol_split i (show i ≤ ((spec_l6Copy l)).length from (by omega)) hs) (gs := [MF.ol (List.take (i * 2) xs2) (List.take i (spec_l6Copy l)), MF.ol (List.drop (i * 2) xs2) (List.drop i (spec_l6Copy l))]) rfl ?_
              refine WX.turn [68, 69] 71 rfl (fun h hs => ol_app hs) (gs := [MF.ol ([] ++ (List.take (i * 2) xs2)) ((List.take i (spec_l6Copy l)) : List TableEntry)]) rfl ?_
              refine WX.turn [17] 72 rfl (fun h hs => ol_one (α := TableEntry) (a := (TableEntry.mk (spec_l4Copy n_) v)) (x := ((p5, c5), ())) hs) (gs := [MF.ol [.slice p5 (((spec_l4Copy n_).parts).length) c5, .int .i64 (v)] ([(TableEntry.mk (spec_l4Copy n_) v)] : List TableEntry)]) rfl ?_
              have r11 : -9223372036854775808 ≤ v ∧ v ≤ 9223372036854775807 := hokv
              refine WX.know (fun G hΓ => (hΓ.get 72 rfl : OwL _ _ _).rd.one) ?_
              intro ho5
              refine WX.appR1 43 49 (((List.take i (spec_l6Copy l)) ++ [(TableEntry.mk (spec_l4Copy n_) v)]) : List TableEntry).length ttOk rfl rfl rfl rfl rfl rfl rfl rfl rfl rfl rfl rfl rfl ho5 (by first | (simp; done) | omega | (simp only [List.length_append, List.length_cons, List.length_nil, List.length_take, List.length_drop, List.length_set]; omega) | (simp; omega)) (by first | assumption | omega | (simp only [List.length_append, List.length_cons, List.length_nil, List.length_set, List.length_map, List.length_take, List.length_drop]; omega) | (simp; omega)) (by first | assumption | omega | (simp only [List.length_append, List.length_cons, List.length_nil, List.length_set, List.length_map, List.length_take, List.length_drop]; omega) | (simp; omega)) (fun _ _ => rfl) ?_
              intro p30 c23
              refine WX.turn [71, 72] 73 rfl (fun h hs => ol_app hs) (gs := [MF.ol (([] ++ (List.take (i * 2) xs2)) ++ [.slice p5 (((spec_l4Copy n_).parts).length) c5, .int .i64 (v)]) (((List.take i (spec_l6Copy l)) ++ [(TableEntry.mk (spec_l4Copy n_) v)]) : List TableEntry)]) rfl ?_
              refine WX.appSuf 43 502 i ((((List.take i (spec_l6Copy l)) ++ [(TableEntry.mk (spec_l4Copy n_) v)]) ++ (List.drop i (spec_l6Copy l))) : List TableEntry).length ttOk rfl rfl rfl rfl rfl rfl rfl rfl rfl rfl rfl rfl rfl hone1 (show i ≤ ((spec_l6Copy l)).length from (by omega)) (by have z_ := (show i ≤ ((spec_l6Copy l)).length from (by omega)); first | (simp; done) | (simp only [List.length_append, List.length_cons, List.length_nil, List.length_take, List.length_drop, List.length_set]; omega) | (simp; omega)) (by first | assumption | omega | (simp only [List.length_append, List.length_cons, List.length_nil, List.length_set, List.length_map, List.length_take, List.length_drop]; omega) | (simp; omega)) (by first | assumption | omega | (simp only [List.length_append, List.length_cons, List.length_nil, List.length_set, List.length_map, List.length_take, List.length_drop]; omega) | (simp; omega)) (fun _ _ => rfl) ?_
              intro p31 c24
              refine WX.turn [70] 74 rfl (fun h hs => ol_drop (show i ≤ i by omega) (show i ≤ ((spec_l6Copy l)).length from (by omega)) hs) (gs := [MF.ol (List.drop (i * 2) xs2) (List.drop i (spec_l6Copy l))]) rfl ?_
              refine WX.turn [73, 74] 75 rfl (fun h hs => ol_app hs) (gs := [MF.ol ((([] ++ (List.take (i * 2) xs2)) ++ [.slice p5 (((spec_l4Copy n_).parts).length) c5, .int .i64 (v)]) ++ (List.drop (i * 2) xs2)) ((((List.take i (spec_l6Copy l)) ++ [(TableEntry.mk (spec_l4Copy n_) v)]) ++ (List.drop i (spec_l6Copy l))) : List TableEntry)]) rfl ?_
              refine WX.run ttOk rfl ?_
              refine WX.seal 43 75 76 rfl rfl rfl rfl rfl ?_
              refine WX.callV rfl rfl rfl rfl rfl (fun _ => rfl) rfl (fun w G bs hI hΓ => f178 w (n + 3) (by omega) (((List.take i (spec_l6Copy l)) ++ [(TableEntry.mk (spec_l4Copy n_) v)]) ++ (List.drop i (spec_l6Copy l))) p31 c24 (hΓ.get 76 rfl) (okl_mk (by first | assumption | omega | (simp only [List.length_append, List.length_cons, List.length_nil, List.length_set, List.length_map, List.length_take, List.length_drop]; omega) | (simp; omega)) (fun a ha => GoT.okm (show (n + 2) ≤ (n + 3) by omega) ((all_app (fun a ha => GoT.okm (show (n + 1) ≤ (n + 2) by omega) ((all_app (fun a ha => GoT.okm (show n ≤ (n + 1) by omega) ((fun a ha => (okl hq1).2 a (List.mem_of_mem_take ha)) a ha)) (fun a ha => GoT.okm (by omega) ((all_cons (α := TableEntry) (And.intro hq6 hokv) (fun a ha => by cases ha)) a ha))) a ha)) (fun a ha => GoT.okm (by omega) ((fun a ha => (okl hq1).2 a (List.mem_of_mem_drop ha)) a ha))) a ha)) : GoT.ok (n + 3) ((((List.take i (spec_l6Copy l)) ++ [(TableEntry.mk (spec_l4Copy n_) v)]) ++ (List.drop i (spec_l6Copy l))) : List TableEntry))) ?_
              intro hq15
              refine WX.run ttOk rfl ?_
              refine WX.cases 57 rfl (fun h9 => ?_) (fun h9 => ?_)
              · skip
                have h9d := (B.nt h9)
                refine WX.run ttOk rfl ?_
                refine WX.callF 78 (fun _ _ h => GoT.ow_rd h) (fun _ f hf => GoT.fak f hf) rfl rfl rfl rfl rfl (fun _ => rfl) rfl (fun w G bs hI hΓ => f174 w n (by omega) l pl cl (hΓ.get 0 rfl) hokl) (fun _ => rfl) (fun _ => rfl) ?_
                rintro ⟨p32, c25⟩ hq16
                have q8 := len_l6Copy l
                refine WX.run ttOk rfl ?_
                have hP11 : spec_PutEntry l n_ v = (spec_l6Copy l, false) := by simp only [spec_PutEntry, h1, hX1, h9, cond_true, cond_false]
                refine WX.ret ttOk rfl ?_
                intro w1 G bs hI hΓ
                rw [hP11]
                exact Post.of [79] (p32, c25) hI hΓ rfl rfl rfl (GoT.okm (α := List TableEntry) (by omega) hq16)
              · skip
                have h9d := (B.nf h9)
                refine WX.run ttOk rfl ?_
                have hP12 : spec_PutEntry l n_ v = (((List.take i (spec_l6Copy l)) ++ [(TableEntry.mk (spec_l4Copy n_) v)]) ++ (List.drop i (spec_l6Copy l)), true) := by simp only [spec_PutEntry, h1, hX1, h9, cond_true, cond_false]
                refine WX.ret ttOk rfl ?_
                intro w1 G bs hI hΓ
                rw [hP12]
                exact Post.of [77] (p31, c24) hI hΓ rfl rfl rfl (okl_mk (by first | assumption | omega | (simp only [List.length_append, List.length_cons, List.length_nil, List.length_set, List.length_map, List.length_take, List.length_drop]; omega) | (simp; omega)) (fun a ha => GoT.okm (show (n + 2) ≤ (n + 3) by omega) ((all_app (fun a ha => GoT.okm (show (n + 1) ≤ (n + 2) by omega) ((all_app (fun a ha => GoT.okm (show n ≤ (n + 1) by omega) ((fun a ha => (okl hq1).2 a (List.mem_of_mem_take ha)) a ha)) (fun a ha => GoT.okm (by omega) ((all_cons (α := TableEntry) (And.intro hq6 hokv) (fun a ha => by cases ha)) a ha))) a ha)) (fun a ha => GoT.okm (by omega) ((fun a ha => (okl hq1).2 a (List.mem_of_mem_drop ha)) a ha))) a ha)) : GoT.ok (n + 3) ((((List.take i (spec_l6Copy l)) ++ [(TableEntry.mk (spec_l4Copy n_) v)]) ++ (List.drop i (spec_l6Copy l))) : List TableEntry))
          · skip
            refine TS.op 6 rfl (by kernel_rfl) ?_
            refine WX.bld ttOk rfl rfl rfl rfl rfl rfl rfl ?_
            intro p33
            refine WX.run ttOk rfl ?_
            refine WX.back0 ?_
            refine TX.tail [0, 4, 7, 11, 12] rfl rfl (by kernel_rfl) ?_
            refine WX.bld ttOk rfl rfl rfl rfl rfl rfl rfl ?_
            intro p34
            refine WX.free 80 (MF.ol [] ([] : List TableEntry)) rfl ?_
            refine WX.appPre 43 502 i ((List.take i (spec_l6Copy l)) : List TableEntry).length ttOk rfl rfl rfl rfl rfl rfl rfl rfl rfl rfl rfl rfl rfl hone1 (show i ≤ ((spec_l6Copy l)).length from (by omega)) (by have z_ := (show i ≤ ((spec_l6Copy l)).length from (by omega)); first | (simp; done) | (simp only [List.length_append, List.length_cons, List.length_nil, List.length_take, List.length_drop, List.length_set]; omega) | (simp; omega)) (by first | assumption | omega | (simp only [List.length_append, List.length_cons, List.length_nil, List.length_set, List.length_map, List.length_take, List.length_drop]; omega) | (simp; omega)) (by first | assumption | omega | (simp only [List.length_append, List.length_cons, List.length_nil, List.length_set, List.length_map, List.length_take, List.length_drop]; omega) | (simp; omega)) (fun _ _ => rfl) ?_
            intro p35 c26
            refine WX.turn [18] 81 rfl (fun h hs => ol_split i (show i ≤ ((spec_l6Copy l)).length from (by omega)) hs) (gs := [MF.ol (List.take (i * 2) xs2) (List.take i (spec_l6Copy l)), MF.ol (List.drop (i * 2) xs2) (List.drop i (spec_l6Copy l))]) rfl ?_
            refine WX.turn [80, 81] 83 rfl (fun h hs => ol_app hs) (gs := [MF.ol ([] ++ (List.take (i * 2) xs2)) ((List.take i (spec_l6Copy l)) : List TableEntry)]) rfl ?_
            refine WX.turn [17] 84 rfl (fun h hs => ol_one (α := TableEntry) (a := (TableEntry.mk (spec_l4Copy n_) v)) (x := ((p5, c5), ())) hs) (gs := [MF.ol [.slice p5 (((spec_l4Copy n_).parts).length) c5, .int .i64 (v)] ([(TableEntry.mk (spec_l4Copy n_) v)] : List TableEntry)]) rfl ?_
            have r12 : -9223372036854775808 ≤ v ∧ v ≤ 9223372036854775807 := hokv
            refine WX.know (fun G hΓ => (hΓ.get 84 rfl : OwL _ _ _).rd.one) ?_
            intro ho6
            refine WX.appR1 43 49 (((List.take i (spec_l6Copy l)) ++ [(TableEntry.mk (spec_l4Copy n_) v)]) : List TableEntry).length ttOk rfl rfl rfl rfl rfl rfl rfl rfl rfl rfl rfl rfl rfl ho6 (by first | (simp; done) | omega | (simp only [List.length_append, List.length_cons, List.length_nil, List.length_take, List.length_drop, List.length_set]; omega) | (simp; omega)) (by first | assumption | omega | (simp only [List.length_append, List.length_cons, List.length_nil, List.length_set, List.length_map, List.length_take, List.length_drop]; omega) | (simp; omega)) (by first | assumption | omega | (simp only [List.length_append, List.length_cons, List.length_nil, List.length_set, List.length_map, List.length_take, List.length_drop]; omega) | (simp; omega)) (fun _ _ => rfl) ?_
            intro p36 c27
            refine WX.turn [83, 84] 85 rfl (fun h hs => ol_app hs) (gs := [MF.ol (([] ++ (List.take (i * 2) xs2)) ++ [.slice p5 (((spec_l4Copy n_).parts).length) c5, .int .i64 (v)]) (((List.take i (spec_l6Copy l)) ++ [(TableEntry.mk (spec_l4Copy n_) v)]) : List TableEntry)]) rfl ?_
            refine WX.appSuf 43 502 i ((((List.take i (spec_l6Copy l)) ++ [(TableEntry.mk (spec_l4Copy n_) v)]) ++ (List.drop i (spec_l6Copy l))) : List TableEntry).length ttOk rfl rfl rfl rfl rfl rfl rfl rfl rfl rfl rfl rfl rfl hone1 (show i ≤ ((spec_l6Copy l)).length from (by omega)) (by have z_ := (show i ≤ ((spec_l6Copy l)).length from (by omega)); first | (simp; done) | (simp only [List.length_append, List.length_cons, List.length_nil, List.length_take, List.length_drop, List.length_set]; omega) | (simp; omega)) (by first | assumption | omega | (simp only [List.length_append, List.length_cons, List.length_nil, List.length_set, List.length_map, List.length_take, List.length_drop]; omega) | (simp; omega)) (by first | assumption | omega | (simp only [List.length_append, List.length_cons, List.length_nil, List.length_set, List.length_map, List.length_take, List.length_drop]; omega) | (simp; omega)) (fun _ _ => rfl) ?_
            intro p37 c28
            refine WX.turn [82] 86 rfl (fun h hs => ol_drop (show i ≤ i by omega) (show i ≤ ((spec_l6Copy l)).length from (by omega)) hs) (gs := [MF.ol (List.drop (i * 2) xs2) (List.drop i (spec_l6Copy l))]) rfl ?_
            refine WX.turn [85, 86] 87 rfl (fun h hs => ol_app hs) (gs := [MF.ol ((([] ++ (List.take (i * 2) xs2)) ++ [.slice p5 (((spec_l4Copy n_).parts).length) c5, .int .i64 (v)]) ++ (List.drop (i * 2) xs2)) ((((List.take i (spec_l6Copy l)) ++ [(TableEntry.mk (spec_l4Copy n_) v)]) ++ (List.drop i (spec_l6Copy l))) : List TableEntry)]) rfl ?_
            refine WX.run ttOk rfl ?_
            refine WX.seal 43 87 88 rfl rfl rfl rfl rfl ?_
            refine WX.callV rfl rfl rfl rfl rfl (fun _ => rfl) rfl (fun w G bs hI hΓ => f178 w (n + 3) (by omega) (((List.take i (spec_l6Copy l)) ++ [(TableEntry.mk (spec_l4Copy n_) v)]) ++ (List.drop i (spec_l6Copy l))) p37 c28 (hΓ.get 88 rfl) (okl_mk (by first | assumption | omega | (simp only [List.length_append, List.length_cons, List.length_nil, List.length_set, List.length_map, List.length_take, List.length_drop]; omega) | (simp; omega)) (fun a ha => GoT.okm (show (n + 2) ≤ (n + 3) by omega) ((all_app (fun a ha => GoT.okm (show (n + 1) ≤ (n + 2) by omega) ((all_app (fun a ha => GoT.okm (show n ≤ (n + 1) by omega) ((fun a ha => (okl hq1).2 a (List.mem_of_mem_take ha)) a ha)) (fun a ha => GoT.okm (by omega) ((all_cons (α := TableEntry) (And.intro hq6 hokv) (fun a ha => by cases ha)) a ha))) a ha)) (fun a ha => GoT.okm (by omega) ((fun a ha => (okl hq1).2 a (List.mem_of_mem_drop ha)) a ha))) a ha)) : GoT.ok (n + 3) ((((List.take i (spec_l6Copy l)) ++ [(TableEntry.mk (spec_l4Copy n_) v)]) ++ (List.drop i (spec_l6Copy l))) : List TableEntry))) ?_
            intro hq17
            refine WX.run ttOk rfl ?_
            refine WX.cases 57 rfl (fun h10 => ?_) (fun h10 => ?_)
            · skip
              have h10d := (B.nt h10)
              refine WX.run ttOk rfl ?_
              refine WX.callF 90 (fun _ _ h => GoT.ow_rd h) (fun _ f hf => GoT.fak f hf) rfl rfl rfl rfl rfl (fun _ => rfl) rfl (fun w G bs hI hΓ => f174 w n (by omega) l pl cl (hΓ.get 0 rfl) hokl) (fun _ => rfl) (fun _ => rfl) ?_
              rintro ⟨p38, c29⟩ hq18
              have q9 := len_l6Copy l
              refine WX.run ttOk rfl ?_
              have hP13 : spec_PutEntry l n_ v = (spec_l6Copy l, false) := by simp only [spec_PutEntry, h1, hX1, h10, cond_true, cond_false]
              refine WX.ret ttOk rfl ?_
              intro w1 G bs hI hΓ
              rw [hP13]
              exact Post.of [91] (p38, c29) hI hΓ rfl rfl rfl (GoT.okm (α := List TableEntry) (by omega) hq18)
            · skip
              have h10d := (B.nf h10)
              refine WX.run ttOk rfl ?_
              have hP14 : spec_PutEntry l n_ v = (((List.take i (spec_l6Copy l)) ++ [(TableEntry.mk (spec_l4Copy n_) v)]) ++ (List.drop i (spec_l6Copy l)), true) := by simp only [spec_PutEntry, h1, hX1, h10, cond_true, cond_false]
              refine WX.ret ttOk rfl ?_
              intro w1 G bs hI hΓ
              rw [hP14]
              exact Post.of [89] (p37, c28) hI hΓ rfl rfl rfl (okl_mk (by first | assumption | omega | (simp only [List.length_append, List.length_cons, List.length_nil, List.length_set, List.length_map, List.length_take, List.length_drop]; omega) | (simp; omega)) (fun a ha => GoT.okm (show (n + 2) ≤ (n + 3) by omega) ((all_app (fun a ha => GoT.okm (show (n + 1) ≤ (n + 2) by omega) ((all_app (fun a ha => GoT.okm (show n ≤ (n + 1) by omega) ((fun a ha => (okl hq1).2 a (List.mem_of_mem_take ha)) a ha)) (fun a ha => GoT.okm (by omega) ((all_cons (α := TableEntry) (And.intro hq6 hokv) (fun a ha => by cases ha)) a ha))) a ha)) (fun a ha => GoT.okm (by omega) ((fun a ha => (okl hq1).2 a (List.mem_of_mem_drop ha)) a ha))) a ha)) : GoT.ok (n + 3) ((((List.take i (spec_l6Copy l)) ++ [(TableEntry.mk (spec_l4Copy n_) v)]) ++ (List.drop i (spec_l6Copy l))) : List TableEntry))
    · skip
      have h3d := B.df h3
      refine DX.takes (fuel := 0) ttOk [(5, true), (6, true), (7, true), (8, true), (9, true), (10, true), (11, true), (12, true), (13, true)] (by kernel_rfl) rfl ?_
      refine DX.tail2 [] rfl rfl (by kernel_rfl) ?_
      refine WX.run ttOk rfl ?_
      have hX2 : spec_PutEntry_L1 l n_ 0 = i := by rw [v2]; rw [spec_PutEntry_L1]; simp only [h3, h3d, cond_true, cond_false, ↓reduceIte, Bool.false_eq_true]
      refine WX.callF 92 (fun _ _ h => GoT.ow_rd h) (fun _ f hf => GoT.fak f hf) rfl rfl rfl rfl rfl (fun _ => rfl) rfl (fun w G bs hI hΓ => f63 w n (by omega) n_ pn_ cn_ (hΓ.get 1 rfl) hokn_) (fun _ => rfl) (fun _ => rfl) ?_
      rintro ⟨p39, c30⟩ hq19
      refine WX.run ttOk rfl ?_
      refine WX.opn (kk := 2) 503 3 94 rfl rfl rfl ?_
      intro xs3 hx3
      refine WX.cap 503 rfl ?_
      intro hcap2
      refine WX.know (fun G hΓ => (hΓ.get 94 rfl : OwL _ _ _).rd.one) ?_
      intro hone2
      refine WX.der 95 (MF.rs .der p39 c30 ((spec_l4Copy n_).parts)) rfl (fun _ hΓ => (hΓ.get 93 rfl : OwSl _ _ _ _).rd) ?_
      refine WX.draw [4, 5, 7, 11, 12] mixed ?_
      intro bs G0 hΓ0
      refine DX.takes (fuel := 11) ttOk [(1, true), (2, true)] (by kernel_rfl) rfl ?_
      have r13 : (l).length ≤ bd n := (okl hokl).1
      have r14 : (spec_l6Copy l).length ≤ bd n := (okl hq1).1
      refine DX.seeP 3 (by kernel_rfl) rfl rfl rfl rfl (looksP_slH i ttOk rfl rfl rfl rfl (by simp) (Nat.le_trans (show i ≤ ((spec_l6Copy l)).length from (by omega)) hcap2)) ?_
      refine DX.takes (fuel := 8) ttOk [(8, true), (9, true)] (by kernel_rfl) rfl ?_
      refine DX.seeP 10 (by kernel_rfl) rfl rfl rfl rfl (looksP_slL i ttOk rfl rfl rfl rfl (by simp) (show i ≤ ((spec_l6Copy l)).length from (by omega))) ?_
      refine DX.toTX ?_
      intro S_
      refine TX.all2 0 5 (by kernel_rfl) ?_ ?_
      · skip
        refine TS.op 0 rfl (by kernel_rfl) ?_
        refine WX.bld ttOk rfl rfl rfl rfl rfl rfl rfl ?_
        intro p40
        refine WX.run ttOk rfl ?_
        refine WX.back0 ?_
        refine TX.all2 4 5 (by kernel_rfl) ?_ ?_
        · skip
          refine TS.op 4 rfl (by kernel_rfl) ?_
          refine WX.free 96 (MF.ol [] ([] : List TableEntry)) rfl ?_
          refine WX.appPre 43 503 i ((List.take i (spec_l6Copy l)) : List TableEntry).length ttOk rfl rfl rfl rfl rfl rfl rfl rfl rfl rfl rfl rfl rfl hone2 (show i ≤ ((spec_l6Copy l)).length from (by omega)) (by have z_ := (show i ≤ ((spec_l6Copy l)).length from (by omega)); first | (simp; done) | (simp only [List.length_append, List.length_cons, List.length_nil, List.length_take, List.length_drop, List.length_set]; omega) | (simp; omega)) (by first | assumption | omega | (simp only [List.length_append, List.length_cons, List.length_nil, List.length_set, List.length_map, List.length_take, List.length_drop]; omega) | (simp; omega)) (by first | assumption | omega | (simp only [List.length_append, List.length_cons, List.length_nil, List.length_set, List.length_map, List.length_take, List.length_drop]; omega) | (simp; omega)) (fun _ _ => rfl) ?_
          intro p41 c31
          refine WX.turn [94] 97 rfl (fun h hs => ol_split i (show i ≤ ((spec_l6Copy l)).length from (by omega)) hs) (gs := [MF.ol (List.take (i * 2) xs3) (List.take i (spec_l6Copy l)), MF.ol (List.drop (i * 2) xs3) (List.drop i (spec_l6Copy l))]) rfl ?_
          refine WX.turn [96, 97] 99 rfl (fun h hs => ol_app hs) (gs := [MF.ol ([] ++ (List.take (i * 2) xs3)) ((List.take i (spec_l6Copy l)) : List TableEntry)]) rfl ?_
          refine WX.run ttOk rfl ?_
          refine WX.back0 ?_
          refine TX.tail [5, 6, 7, 11, 12] rfl rfl (by kernel_rfl) ?_
          refine WX.run ttOk rfl ?_
          refine WX.bld ttOk rfl rfl rfl rfl rfl rfl rfl ?_
          intro p42
          refine WX.turn [93] 100 rfl (fun h hs => ol_one (α := TableEntry) (a := (TableEntry.mk (spec_l4Copy n_) v)) (x := ((p39, c30), ())) hs) (gs := [MF.ol [.slice p39 (((spec_l4Copy n_).parts).length) c30, .int .i64 (v)] ([(TableEntry.mk (spec_l4Copy n_) v)] : List TableEntry)]) rfl ?_
          have r15 : -9223372036854775808 ≤ v ∧ v ≤ 9223372036854775807 := hokv
          refine WX.know (fun G hΓ => (hΓ.get 100 rfl : OwL _ _ _).rd.one) ?_
          intro ho7
          refine WX.appR1 43 49 (((List.take i (spec_l6Copy l)) ++ [(TableEntry.mk (spec_l4Copy n_) v)]) : List TableEntry).length ttOk rfl rfl rfl rfl rfl rfl rfl rfl rfl rfl rfl rfl rfl ho7 (by first | (simp; done) | omega | (simp only [List.length_append, List.length_cons, List.length_nil, List.length_take, List.length_drop, List.length_set]; omega) | (simp; omega)) (by first | assumption | omega | (simp only [List.length_append, List.length_cons, List.length_nil, List.length_set, List.length_map, List.length_take, List.length_drop]; omega) | (simp; omega)) (by first | assumption | omega | (simp only [List.length_append, List.length_cons, List.length_nil, List.length_set, List.length_map, List.length_take, List.length_drop]; omega) | (simp; omega)) (fun _ _ => rfl) ?_
          intro p43 c32
          refine WX.turn [99, 100] 101 rfl (fun h hs => ol_app hs) (gs := [MF.ol (([] ++ (List.take (i * 2) xs3)) ++ [.slice p39 (((spec_l4Copy n_).parts).length) c30, .int .i64 (v)]) (((List.take i (spec_l6Copy l)) ++ [(TableEntry.mk (spec_l4Copy n_) v)]) : List TableEntry)]) rfl ?_
          refine WX.appSuf 43 503 i ((((List.take i (spec_l6Copy l)) ++ [(TableEntry.mk (spec_l4Copy n_) v)]) ++ (List.drop i (spec_l6Copy l))) : List TableEntry).length ttOk rfl rfl rfl rfl rfl rfl rfl rfl rfl rfl rfl rfl rfl hone2 (show i ≤ ((spec_l6Copy l)).length from (by omega)) (by have z_ := (show i ≤ ((spec_l6Copy l)).length from (by omega)); first | (simp; done) | (simp only [List.length_append, List.length_cons, List.length_nil, List.length_take, List.length_drop, List.length_set]; omega) | (simp; omega)) (by first | assumption | omega | (simp only [List.length_append, List.length_cons, List.length_nil, List.length_set, List.length_map, List.length_take, List.length_drop]; omega) | (simp; omega)) (by first | assumption | omega | (simp only [List.length_append, List.length_cons, List.length_nil, List.length_set, List.length_map, List.length_take, List.length_drop]; omega) | (simp; omega)) (fun _ _ => rfl) ?_
          intro p44 c33
          refine WX.turn [98] 102 rfl (fun h hs => ol_drop (show i ≤ i by omega) (show i ≤ ((spec_l6Copy l)).length from (by omega)) hs) (gs := [MF.ol (List.drop (i * 2) xs3) (List.drop i (spec_l6Copy l))]) rfl ?_
          refine WX.turn [101, 102] 103 rfl (fun h hs => ol_app hs) (gs := [MF.ol ((([] ++ (List.take (i * 2) xs3)) ++ [.slice p39 (((spec_l4Copy n_).parts).length) c30, .int .i64 (v)]) ++ (List.drop (i * 2) xs3)) ((((List.take i (spec_l6Copy l)) ++ [(TableEntry.mk (spec_l4Copy n_) v)]) ++ (List.drop i (spec_l6Copy l))) : List TableEntry)]) rfl ?_
          refine WX.run ttOk rfl ?_
          refine WX.seal 43 103 104 rfl rfl rfl rfl rfl ?_
          refine WX.callV rfl rfl rfl rfl rfl (fun _ => rfl) rfl (fun w G bs hI hΓ => f178 w (n + 3) (by omega) (((List.take i (spec_l6Copy l)) ++ [(TableEntry.mk (spec_l4Copy n_) v)]) ++ (List.drop i (spec_l6Copy l))) p44 c33 (hΓ.get 104 rfl) (okl_mk (by first | assumption | omega | (simp only [List.length_append, List.length_cons, List.length_nil, List.length_set, List.length_map, List.length_take, List.length_drop]; omega) | (simp; omega)) (fun a ha => GoT.okm (show (n + 2) ≤ (n + 3) by omega) ((all_app (fun a ha => GoT.okm (show (n + 1) ≤ (n + 2) by omega) ((all_app (fun a ha => GoT.okm (show n ≤ (n + 1) by omega) ((fun a ha => (okl hq1).2 a (List.mem_of_mem_take ha)) a ha)) (fun a ha => GoT.okm (by omega) ((all_cons (α := TableEntry) (And.intro hq19 hokv) (fun a ha => by cases ha)) a ha))) a ha)) (fun a ha => GoT.okm (by omega) ((fun a ha => (okl hq1).2 a (List.mem_of_mem_drop ha)) a ha))) a ha)) : GoT.ok (n + 3) ((((List.take i (spec_l6Copy l)) ++ [(TableEntry.mk (spec_l4Copy n_) v)]) ++ (List.drop i (spec_l6Copy l))) : List TableEntry))) ?_
          intro hq20
          refine WX.run ttOk rfl ?_
          refine WX.cases 57 rfl (fun h11 => ?_) (fun h11 => ?_)
          · skip
            have h11d := (B.nt h11)
            refine WX.run ttOk rfl ?_
            refine WX.callF 106 (fun _ _ h => GoT.ow_rd h) (fun _ f hf => GoT.fak f hf) rfl rfl rfl rfl rfl (fun _ => rfl) rfl (fun w G bs hI hΓ => f174 w n (by omega) l pl cl (hΓ.get 0 rfl) hokl) (fun _ => rfl) (fun _ => rfl) ?_
            rintro ⟨p45, c34⟩ hq21
            have q10 := len_l6Copy l
            refine WX.run ttOk rfl ?_
            have hP15 : spec_PutEntry l n_ v = (spec_l6Copy l, false) := by simp only [spec_PutEntry, h1, hX2, h11, cond_true, cond_false]
            refine WX.ret ttOk rfl ?_
            intro w1 G bs hI hΓ
            rw [hP15]
            exact Post.of [107] (p45, c34) hI hΓ rfl rfl rfl (GoT.okm (α := List TableEntry) (by omega) hq21)
          · skip
            have h11d := (B.nf h11)
            refine WX.run ttOk rfl ?_
            have hP16 : spec_PutEntry l n_ v = (((List.take i (spec_l6Copy l)) ++ [(TableEntry.mk (spec_l4Copy n_) v)]) ++ (List.drop i (spec_l6Copy l)), true) := by simp only [spec_PutEntry, h1, hX2, h11, cond_true, cond_false]
            refine WX.ret ttOk rfl ?_
            intro w1 G bs hI hΓ
            rw [hP16]
            exact Post.of [105] (p44, c33) hI hΓ rfl rfl rfl (okl_mk (by first | assumption | omega | (simp only [List.length_append, List.length_cons, List.length_nil, List.length_set, List.length_map, List.length_take, List.length_drop]; omega) | (simp; omega)) (fun a ha => GoT.okm (show (n + 2) ≤ (n + 3) by omega) ((all_app (fun a ha => GoT.okm (show (n + 1) ≤ (n + 2) by omega) ((all_app (fun a ha => GoT.okm (show n ≤ (n + 1) by omega) ((fun a ha => (okl hq1).2 a (List.mem_of_mem_take ha)) a ha)) (fun a ha => GoT.okm (by omega) ((all_cons (α := TableEntry) (And.intro hq19 hokv) (fun a ha => by cases ha)) a ha))) a ha)) (fun a ha => GoT.okm (by omega) ((fun a ha => (okl hq1).2 a (List.mem_of_mem_drop ha)) a ha))) a ha)) : GoT.ok (n + 3) ((((List.take i (spec_l6Copy l)) ++ [(TableEntry.mk (spec_l4Copy n_) v)]) ++ (List.drop i (spec_l6Copy l))) : List TableEntry))
        · skip
          refine TS.op 5 rfl (by kernel_rfl) ?_
          refine WX.run ttOk rfl ?_
          refine WX.back0 ?_
          refine TX.all2 4 6 (by kernel_rfl) ?_ ?_
          · skip
            refine TS.op 4 rfl (by kernel_rfl) ?_
            refine WX.free 108 (MF.ol [] ([] : List TableEntry)) rfl ?_
            refine WX.appPre 43 503 i ((List.take i (spec_l6Copy l)) : List TableEntry).length ttOk rfl rfl rfl rfl rfl rfl rfl rfl rfl rfl rfl rfl rfl hone2 (show i ≤ ((spec_l6Copy l)).length from (by omega)) (by have z_ := (show i ≤ ((spec_l6Copy l)).length from (by omega)); first | (simp; done) | (simp only [List.length_append, List.length_cons, List.length_nil, List.length_take, List.length_drop, List.length_set]; omega) | (simp; omega)) (by first | assumption | omega | (simp only [List.length_append, List.length_cons, List.length_nil, List.length_set, List.length_map, List.length_take, List.length_drop]; omega) | (simp; omega)) (by first | assumption | omega | (simp only [List.length_append, List.length_cons, List.length_nil, List.length_set, List.length_map, List.length_take, List.length_drop]; omega) | (simp; omega)) (fun _ _ => rfl) ?_
            intro p46 c35
            refine WX.turn [94] 109 rfl (fun h hs => ol_split i (show i ≤ ((spec_l6Copy l)).length from (by omega)) hs) (gs := [MF.ol (List.take (i * 2) xs3) (List.take i (spec_l6Copy l)), MF.ol (List.drop (i * 2) xs3) (List.drop i (spec_l6Copy l))]) rfl ?_
            refine WX.turn [108, 109] 111 rfl (fun h hs => ol_app hs) (gs := [MF.ol ([] ++ (List.take (i * 2) xs3)) ((List.take i (spec_l6Copy l)) : List TableEntry)]) rfl ?_
            refine WX.run ttOk rfl ?_
            refine WX.back0 ?_
            refine TX.tail [6, 7, 11, 12] rfl rfl (by kernel_rfl) ?_
            refine WX.bld ttOk rfl rfl rfl rfl rfl rfl rfl ?_
            intro p47
            refine WX.turn [93] 112 rfl (fun h hs => ol_one (α := TableEntry) (a := (TableEntry.mk (spec_l4Copy n_) v)) (x := ((p39, c30), ())) hs) (gs := [MF.ol [.slice p39 (((spec_l4Copy n_).parts).length) c30, .int .i64 (v)] ([(TableEntry.mk (spec_l4Copy n_) v)] : List TableEntry)]) rfl ?_
            have r16 : -9223372036854775808 ≤ v ∧ v ≤ 9223372036854775807 := hokv
            refine WX.know (fun G hΓ => (hΓ.get 112 rfl : OwL _ _ _).rd.one) ?_
            intro ho8
            refine WX.appR1 43 49 (((List.take i (spec_l6Copy l)) ++ [(TableEntry.mk (spec_l4Copy n_) v)]) : List TableEntry).length ttOk rfl rfl rfl rfl rfl rfl rfl rfl rfl rfl rfl rfl rfl ho8 (by first | (simp; done) | omega | (simp only [List.length_append, List.length_cons, List.length_nil, List.length_take, List.length_drop, List.length_set]; omega) | (simp; omega)) (by first | assumption | omega | (simp only [List.length_append, List.length_cons, List.length_nil, List.length_set, List.length_map, List.length_take, List.length_drop]; omega) | (simp; omega)) (by first | assumption | omega | (simp only [List.length_append, List.length_cons, List.length_nil, List.length_set, List.length_map, List.length_take, List.length_drop]; omega) | (simp; omega)) (fun _ _ => rfl) ?_
            intro p48 c36
            refine WX.turn [111, 112] 113 rfl (fun h hs => ol_app hs) (gs := [MF.ol (([] ++ (List.take (i * 2) xs3)) ++ [.slice p39 (((spec_l4Copy n_).parts).length) c30, .int .i64 (v)]) (((List.take i (spec_l6Copy l)) ++ [(TableEntry.mk (spec_l4Copy n_) v)]) : List TableEntry)]) rfl ?_
            refine WX.appSuf 43 503 i ((((List.take i (spec_l6Copy l)) ++ [(TableEntry.mk (spec_l4Copy n_) v)]) ++ (List.drop i (spec_l6Copy l))) : List TableEntry).length ttOk rfl rfl rfl rfl rfl rfl rfl rfl rfl rfl rfl rfl rfl hone2 (show i ≤ ((spec_l6Copy l)).length from (by omega)) (by have z_ := (show i ≤ ((spec_l6Copy l)).length from (by omega)); first | (simp; done) | (simp only [List.length_append, List.length_cons, List.length_nil, List.length_take, List.length_drop, List.length_set]; omega) | (simp; omega)) (by first | assumption | omega | (simp only [List.length_append, List.length_cons, List.length_nil, List.length_set, List.length_map, List.length_take, List.length_drop]; omega) | (simp; omega)) (by first | assumption | omega | (simp only [List.length_append, List.length_cons, List.length_nil, List.length_set, List.length_map, List.length_take, List.length_drop]; omega) | (simp; omega)) (fun _ _ => rfl) ?_
            intro p49 c37
            refine WX.turn [110] 114 rfl (fun h hs => ol_drop (show i ≤ i by omega) (show i ≤ ((spec_l6Copy l)).length from (by omega)) hs) (gs := [MF.ol (List.drop (i * 2) xs3) (List.drop i (spec_l6Copy l))]) rfl ?_
            refine WX.turn [113, 114] 115 rfl (fun h hs => ol_app hs) (gs := [MF.ol ((([] ++ (List.take (i * 2) xs3)) ++ [.slice p39 (((spec_l4Copy n_).parts).length) c30, .int .i64 (v)]) ++ (List.drop (i * 2) xs3)) ((((List.take i (spec_l6Copy l)) ++ [(TableEntry.mk (spec_l4Copy n_) v)]) ++ (List.drop i (spec_l6Copy l))) : List TableEntry)]) rfl ?_
            refine WX.run ttOk rfl ?_
            refine WX.seal 43 115 116 rfl rfl rfl rfl rfl ?_
            refine WX.callV rfl rfl rfl rfl rfl (fun _ => rfl) rfl (fun w G bs hI hΓ => f178 w (n + 3) (by omega) (((List.take i (spec_l6Copy l)) ++ [(TableEntry.mk (spec_l4Copy n_) v)]) ++ (List.drop i (spec_l6Copy l))) p49 c37 (hΓ.get 116 rfl) (okl_mk (by first | assumption | omega | (simp only [List.length_append, List.length_cons, List.length_nil, List.length_set, List.length_map, List.length_take, List.length_drop]; omega) | (simp; omega)) (fun a ha => GoT.okm (show (n + 2) ≤ (n + 3) by omega) ((all_app (fun a ha => GoT.okm (show (n + 1) ≤ (n + 2) by omega) ((all_app (fun a ha => GoT.okm (show n ≤ (n + 1) by omega) ((fun a ha => (okl hq1).2 a (List.mem_of_mem_take ha)) a ha)) (fun a ha => GoT.okm (by omega) ((all_cons (α := TableEntry) (And.intro hq19 hokv) (fun a ha => by cases ha)) a ha))) a ha)) (fun a ha => GoT.okm (by omega) ((fun a ha => (okl hq1).2 a (List.mem_of_mem_drop ha)) a ha))) a ha)) : GoT.ok (n + 3) ((((List.take i (spec_l6Copy l)) ++ [(TableEntry.mk (spec_l4Copy n_) v)]) ++ (List.drop i (spec_l6Copy l))) : List TableEntry))) ?_
            intro hq22
            refine WX.run ttOk rfl ?_
            refine WX.cases 57 rfl (fun h12 => ?_) (fun h12 => ?_)
            · skip
              have h12d := (B.nt h12)
              refine WX.run ttOk rfl ?_
              refine WX.callF 118 (fun _ _ h => GoT.ow_rd h) (fun _ f hf => GoT.fak f hf) rfl rfl rfl rfl rfl (fun _ => rfl) rfl (fun w G bs hI hΓ => f174 w n (by omega) l pl cl (hΓ.get 0 rfl) hokl) (fun _ => rfl) (fun _ => rfl) ?_
              rintro ⟨p50, c38⟩ hq23
              have q11 := len_l6Copy l
              refine WX.run ttOk rfl ?_
              have hP17 : spec_PutEntry l n_ v = (spec_l6Copy l, false) := by simp only [spec_PutEntry, h1, hX2, h12, cond_true, cond_false]
              refine WX.ret ttOk rfl ?_
              intro w1 G bs hI hΓ
              rw [hP17]
              exact Post.of [119] (p50, c38) hI hΓ rfl rfl rfl (GoT.okm (α := List TableEntry) (by omega) hq23)
            · skip
              have h12d := (B.nf h12)
              refine WX.run ttOk rfl ?_
              have hP18 : spec_PutEntry l n_ v = (((List.take i (spec_l6Copy l)) ++ [(TableEntry.mk (spec_l4Copy n_) v)]) ++ (List.drop i (spec_l6Copy l)), true) := by simp only [spec_PutEntry, h1, hX2, h12, cond_true, cond_false]
              refine WX.ret ttOk rfl ?_
              intro w1 G bs hI hΓ
              rw [hP18]
              exact Post.of [117] (p49, c37) hI hΓ rfl rfl rfl (okl_mk (by first | assumption | omega | (simp only [List.length_append, List.length_cons, List.length_nil, List.length_set, List.length_map, List.length_take, List.length_drop]; omega) | (simp; omega)) (fun a ha => GoT.okm (show (n + 2) ≤ (n + 3) by omega) ((all_app (fun a ha => GoT.okm (show (n + 1) ≤ (n + 2) by omega) ((all_app (fun a ha => GoT.okm (show n ≤ (n + 1) by omega) ((fun a ha => (okl hq1).2 a (List.mem_of_mem_take ha)) a ha)) (fun a ha => GoT.okm (by omega) ((all_cons (α := TableEntry) (And.intro hq19 hokv) (fun a ha => by cases ha)) a ha))) a ha)) (fun a ha => GoT.okm (by omega) ((fun a ha => (okl hq1).2 a (List.mem_of_mem_drop ha)) a ha))) a ha)) : GoT.ok (n + 3) ((((List.take i (spec_l6Copy l)) ++ [(TableEntry.mk (spec_l4Copy n_) v)]) ++ (List.drop i (spec_l6Copy l))) : List TableEntry))
          · skip
            refine TS.op 6 rfl (by kernel_rfl) ?_
            refine WX.bld ttOk rfl rfl rfl rfl rfl rfl rfl ?_
            intro p51
            refine WX.run ttOk rfl ?_
            refine WX.back0 ?_
            refine TX.tail [4, 7, 11, 12] rfl rfl (by kernel_rfl) ?_
            refine WX.free 120 (MF.ol [] ([] : List TableEntry)) rfl ?_
            refine WX.appPre 43 503 i ((List.take i (spec_l6Copy l)) : List TableEntry).length ttOk rfl rfl rfl rfl rfl rfl rfl rfl rfl rfl rfl rfl rfl hone2 (show i ≤ ((spec_l6Copy l)).length from (by omega)) (by have z_ := (show i ≤ ((spec_l6Copy l)).length from (by omega)); first | (simp; done) | (simp only [List.length_append, List.length_cons, List.length_nil, List.length_take, List.length_drop, List.length_set]; omega) | (simp; omega)) (by first | assumption | omega | (simp only [List.length_append, List.length_cons, List.length_nil, List.length_set, List.length_map, List.length_take, List.length_drop]; omega) | (simp; omega)) (by first | assumption | omega | (simp only [List.length_append, List.length_cons, List.length_nil, List.length_set, List.length_map, List.length_take, List.length_drop]; omega) | (simp; omega)) (fun _ _ => rfl) ?_
            intro p52 c39
            refine WX.turn [94] 121 rfl (fun h hs => ol_split i (show i ≤ ((spec_l6Copy l)).length from (by omega)) hs) (gs := [MF.ol (List.take (i * 2) xs3) (List.take i (spec_l6Copy l)), MF.ol (List.drop (i * 2) xs3) (List.drop i (spec_l6Copy l))]) rfl ?_
            refine WX.turn [120, 121] 123 rfl (fun h hs => ol_app hs) (gs := [MF.ol ([] ++ (List.take (i * 2) xs3)) ((List.take i (spec_l6Copy l)) : List TableEntry)]) rfl ?_
            refine WX.turn [93] 124 rfl (fun h hs => ol_one (α := TableEntry) (a := (TableEntry.mk (spec_l4Copy n_) v)) (x := ((p39, c30), ())) hs) (gs := [MF.ol [.slice p39 (((spec_l4Copy n_).parts).length) c30, .int .i64 (v)] ([(TableEntry.mk (spec_l4Copy n_) v)] : List TableEntry)]) rfl ?_
            have r17 : -9223372036854775808 ≤ v ∧ v ≤ 9223372036854775807 := hokv
            refine WX.know (fun G hΓ => (hΓ.get 124 rfl : OwL _ _ _).rd.one) ?_
            intro ho9
            refine WX.appR1 43 49 (((List.take i (spec_l6Copy l)) ++ [(TableEntry.mk (spec_l4Copy n_) v)]) : List TableEntry).length ttOk rfl rfl rfl rfl rfl rfl rfl rfl rfl rfl rfl rfl rfl ho9 (by first | (simp; done) | omega | (simp only [List.length_append, List.length_cons, List.length_nil, List.length_take, List.length_drop, List.length_set]; omega) | (simp; omega)) (by first | assumption | omega | (simp only [List.length_append, List.length_cons, List.length_nil, List.length_set, List.length_map, List.length_take, List.length_drop]; omega) | (simp; omega)) (by first | assumption | omega | (simp only [List.length_append, List.length_cons, List.length_nil, List.length_set, List.length_map, List.length_take, List.length_drop]; omega) | (simp; omega)) (fun _ _ => rfl) ?_
            intro p53 c40
            refine WX.turn [123, 124] 125 rfl (fun h hs => ol_app hs) (gs := [MF.ol (([] ++ (List.take (i * 2) xs3)) ++ [.slice p39 (((spec_l4Copy n_).parts).length) c30, .int .i64 (v)]) (((List.take i (spec_l6Copy l)) ++ [(TableEntry.mk (spec_l4Copy n_) v)]) : List TableEntry)]) rfl ?_
            refine WX.appSuf 43 503 i ((((List.take i (spec_l6Copy l)) ++ [(TableEntry.mk (spec_l4Copy n_) v)]) ++ (List.drop i (spec_l6Copy l))) : List TableEntry).length ttOk rfl rfl rfl rfl rfl rfl rfl rfl rfl rfl rfl rfl rfl hone2 (show i ≤ ((spec_l6Copy l)).length from (by omega)) (by have z_ := (show i ≤ ((spec_l6Copy l)).length from (by omega)); first | (simp; done) | (simp only [List.length_append, List.length_cons, List.length_nil, List.length_take, List.length_drop, List.length_set]; omega) | (simp; omega)) (by first | assumption | omega | (simp only [List.length_append, List.length_cons, List.length_nil, List.length_set, List.length_map, List.length_take, List.length_drop]; omega) | (simp; omega)) (by first | assumption | omega | (simp only [List.length_append, List.length_cons, List.length_nil, List.length_set, List.length_map, List.length_take, List.length_drop]; omega) | (simp; omega)) (fun _ _ => rfl) ?_
            intro p54 c41
            refine WX.turn [122] 126 rfl (fun h hs => ol_drop (show i ≤ i by omega) (show i ≤ ((spec_l6Copy l)).length from (by omega)) hs) (gs := [MF.ol (List.drop (i * 2) xs3) (List.drop i (spec_l6Copy l))]) rfl ?_
            refine WX.turn [125, 126] 127 rfl (fun h hs => ol_app hs) (gs := [MF.ol ((([] ++ (List.take (i * 2) xs3)) ++ [.slice p39 (((spec_l4Copy n_).parts).length) c30, .int .i64 (v)]) ++ (List.drop (i * 2) xs3)) ((((List.take i (spec_l6Copy l)) ++ [(TableEntry.mk (spec_l4Copy n_) v)]) ++ (List.drop i (spec_l6Copy l))) : List TableEntry)]) rfl ?_
            refine WX.run ttOk rfl ?_
            refine WX.seal 43 127 128 rfl rfl rfl rfl rfl ?_
            refine WX.callV rfl rfl rfl rfl rfl (fun _ => rfl) rfl (fun w G bs hI hΓ => f178 w (n + 3) (by omega) (((List.take i (spec_l6Copy l)) ++ [(TableEntry.mk (spec_l4Copy n_) v)]) ++ (List.drop i (spec_l6Copy l))) p54 c41 (hΓ.get 128 rfl) (okl_mk (by first | assumption | omega | (simp only [List.length_append, List.length_cons, List.length_nil, List.length_set, List.length_map, List.length_take, List.length_drop]; omega) | (simp; omega)) (fun a ha => GoT.okm (show (n + 2) ≤ (n + 3) by omega) ((all_app (fun a ha => GoT.okm (show (n + 1) ≤ (n + 2) by omega) ((all_app (fun a ha => GoT.okm (show n ≤ (n + 1) by omega) ((fun a ha => (okl hq1).2 a (List.mem_of_mem_take ha)) a ha)) (fun a ha => GoT.okm (by omega) ((all_cons (α := TableEntry) (And.intro hq19 hokv) (fun a ha => by cases ha)) a ha))) a ha)) (fun a ha => GoT.okm (by omega) ((fun a ha => (okl hq1).2 a (List.mem_of_mem_drop ha)) a ha))) a ha)) : GoT.ok (n + 3) ((((List.take i (spec_l6Copy l)) ++ [(TableEntry.mk (spec_l4Copy n_) v)]) ++ (List.drop i (spec_l6Copy l))) : List TableEntry))) ?_
            intro hq24
            refine WX.run ttOk rfl ?_
            refine WX.cases 57 rfl (fun h13 => ?_) (fun h13 => ?_)
            · skip
              have h13d := (B.nt h13)
              refine WX.run ttOk rfl ?_
              refine WX.callF 130 (fun _ _ h => GoT.ow_rd h) (fun _ f hf => GoT.fak f hf) rfl rfl rfl rfl rfl (fun _ => rfl) rfl (fun w G bs hI hΓ => f174 w n (by omega) l pl cl (hΓ.get 0 rfl) hokl) (fun _ => rfl) (fun _ => rfl) ?_
              rintro ⟨p55, c42⟩ hq25
              have q12 := len_l6Copy l
              refine WX.run ttOk rfl ?_
              have hP19 : spec_PutEntry l n_ v = (spec_l6Copy l, false) := by simp only [spec_PutEntry, h1, hX2, h13, cond_true, cond_false]
              refine WX.ret ttOk rfl ?_
              intro w1 G bs hI hΓ
              rw [hP19]
              exact Post.of [131] (p55, c42) hI hΓ rfl rfl rfl (GoT.okm (α := List TableEntry) (by omega) hq25)
            · skip
              have h13d := (B.nf h13)
              refine WX.run ttOk rfl ?_
              have hP20 : spec_PutEntry l n_ v = (((List.take i (spec_l6Copy l)) ++ [(TableEntry.mk (spec_l4Copy n_) v)]) ++ (List.drop i (spec_l6Copy l)), true) := by simp only [spec_PutEntry, h1, hX2, h13, cond_true, cond_false]
              refine WX.ret ttOk rfl ?_
              intro w1 G bs hI hΓ
              rw [hP20]
              exact Post.of [129] (p54, c41) hI hΓ rfl rfl rfl (okl_mk (by first | assumption | omega | (simp only [List.length_append, List.length_cons, List.length_nil, List.length_set, List.length_map, List.length_take, List.length_drop]; omega) | (simp; omega)) (fun a ha => GoT.okm (show (n + 2) ≤ (n + 3) by omega) ((all_app (fun a ha => GoT.okm (show (n + 1) ≤ (n + 2) by omega) ((all_app (fun a ha => GoT.okm (show n ≤ (n + 1) by omega) ((fun a ha => (okl hq1).2 a (List.mem_of_mem_take ha)) a ha)) (fun a ha => GoT.okm (by omega) ((all_cons (α := TableEntry) (And.intro hq19 hokv) (fun a ha => by cases ha)) a ha))) a ha)) (fun a ha => GoT.okm (by omega) ((fun a ha => (okl hq1).2 a (List.mem_of_mem_drop ha)) a ha))) a ha)) : GoT.ok (n + 3) ((((List.take i (spec_l6Copy l)) ++ [(TableEntry.mk (spec_l4Copy n_) v)]) ++ (List.drop i (spec_l6Copy l))) : List TableEntry))
      · skip
        refine TS.op 5 rfl (by kernel_rfl) ?_
        refine WX.run ttOk rfl ?_
        refine WX.back0 ?_
        refine TX.all2 0 6 (by kernel_rfl) ?_ ?_
        · skip
          refine TS.op 0 rfl (by kernel_rfl) ?_
          refine WX.bld ttOk rfl rfl rfl rfl rfl rfl rfl ?_
          intro p56
          refine WX.run ttOk rfl ?_
          refine WX.back0 ?_
          refine TX.all2 4 6 (by kernel_rfl) ?_ ?_
          · skip
            refine TS.op 4 rfl (by kernel_rfl) ?_
            refine WX.free 132 (MF.ol [] ([] : List TableEntry)) rfl ?_
            refine WX.appPre 43 503 i ((List.take i (spec_l6Copy l)) : List TableEntry).length ttOk rfl rfl rfl rfl rfl rfl rfl rfl rfl rfl rfl rfl rfl hone2 (show i ≤ ((spec_l6Copy l)).length from (by omega)) (by have z_ := (show i ≤ ((spec_l6Copy l)).length from (by omega)); first | (simp; done) | (simp only [List.length_append, List.length_cons, List.length_nil, List.length_take, List.length_drop, List.length_set]; omega) | (simp; omega)) (by first | assumption | omega | (simp only [List.length_append, List.length_cons, List.length_nil, List.length_set, List.length_map, List.length_take, List.length_drop]; omega) | (simp; omega)) (by first | assumption | omega | (simp only [List.length_append, List.length_cons, List.length_nil, List.length_set, List.length_map, List.length_take, List.length_drop]; omega) | (simp; omega)) (fun _ _ => rfl) ?_
            intro p57 c43
            refine WX.turn [94] 133 rfl (fun h hs => ol_split i (show i ≤ ((spec_l6Copy l)).length from (by omega)) hs) (gs := [MF.ol (List.take (i * 2) xs3) (List.take i (spec_l6Copy l)), MF.ol (List.drop (i * 2) xs3) (List.drop i (spec_l6Copy l))]) rfl ?_
            refine WX.turn [132, 133] 135 rfl (fun h hs => ol_app hs) (gs := [MF.ol ([] ++ (List.take (i * 2) xs3)) ((List.take i (spec_l6Copy l)) : List TableEntry)]) rfl ?_
            refine WX.run ttOk rfl ?_
            refine WX.back0 ?_
            refine TX.tail [6, 7, 11, 12] rfl rfl (by kernel_rfl) ?_
            refine WX.bld ttOk rfl rfl rfl rfl rfl rfl rfl ?_
            intro p58
            refine WX.turn [93] 136 rfl (fun h hs => ol_one (α := TableEntry) (a := (TableEntry.mk (spec_l4Copy n_) v)) (x := ((p39, c30), ())) hs) (gs := [MF.ol [.slice p39 (((spec_l4Copy n_).parts).length) c30, .int .i64 (v)] ([(TableEntry.mk (spec_l4Copy n_) v)] : List TableEntry)]) rfl ?_
            have r18 : -9223372036854775808 ≤ v ∧ v ≤ 9223372036854775807 := hokv
            refine WX.know (fun G hΓ => (hΓ.get 136 rfl : OwL _ _ _).rd.one) ?_
            intro ho10
            refine WX.appR1 43 49 (((List.take i (spec_l6Copy l)) ++ [(TableEntry.mk (spec_l4Copy n_) v)]) : List TableEntry).length ttOk rfl rfl rfl rfl rfl rfl rfl rfl rfl rfl rfl rfl rfl ho10 (by first | (simp; done) | omega | (simp only [List.length_append, List.length_cons, List.length_nil, List.length_take, List.length_drop, List.length_set]; omega) | (simp; omega)) (by first | assumption | omega | (simp only [List.length_append, List.length_cons, List.length_nil, List.length_set, List.length_map, List.length_take, List.length_drop]; omega) | (simp; omega)) (by first | assumption | omega | (simp only [List.length_append, List.length_cons, List.length_nil, List.length_set, List.length_map, List.length_take, List.length_drop]; omega) | (simp; omega)) (fun _ _ => rfl) ?_
            intro p59 c44
            refine WX.turn [135, 136] 137 rfl (fun h hs => ol_app hs) (gs := [MF.ol (([] ++ (List.take (i * 2) xs3)) ++ [.slice p39 (((spec_l4Copy n_).parts).length) c30, .int .i64 (v)]) (((List.take i (spec_l6Copy l)) ++ [(TableEntry.mk (spec_l4Copy n_) v)]) : List TableEntry)]) rfl ?_
            refine WX.appSuf 43 503 i ((((List.take i (spec_l6Copy l)) ++ [(TableEntry.mk (spec_l4Copy n_) v)]) ++ (List.drop i (spec_l6Copy l))) : List TableEntry).length ttOk rfl rfl rfl rfl rfl rfl rfl rfl rfl rfl rfl rfl rfl hone2 (show i ≤ ((spec_l6Copy l)).length from (by omega)) (by have z_ := (show i ≤ ((spec_l6Copy l)).length from (by omega)); first | (simp; done) | (simp only [List.length_append, List.length_cons, List.length_nil, List.length_take, List.length_drop, List.length_set]; omega) | (simp; omega)) (by first | assumption | omega | (simp only [List.length_append, List.length_cons, List.length_nil, List.length_set, List.length_map, List.length_take, List.length_drop]; omega) | (simp; omega)) (by first | assumption | omega | (simp only [List.length_append, List.length_cons, List.length_nil, List.length_set, List.length_map, List.length_take, List.length_drop]; omega) | (simp; omega)) (fun _ _ => rfl) ?_
            intro p60 c45
            refine WX.turn [134] 138 rfl (fun h hs => ol_drop (show i ≤ i by omega) (show i ≤ ((spec_l6Copy l)).length from (by omega)) hs) (gs := [MF.ol (List.drop (i * 2) xs3) (List.drop i (spec_l6Copy l))]) rfl ?_
            refine WX.turn [137, 138] 139 rfl (fun h hs => ol_app hs) (gs := [MF.ol ((([] ++ (List.take (i * 2) xs3)) ++ [.slice p39 (((spec_l4Copy n_).parts).length) c30, .int .i64 (v)]) ++ (List.drop (i * 2) xs3)) ((((List.take i (spec_l6Copy l)) ++ [(TableEntry.mk (spec_l4Copy n_) v)]) ++ (List.drop i (spec_l6Copy l))) : List TableEntry)]) rfl ?_
            refine WX.run ttOk rfl ?_
            refine WX.seal 43 139 140 rfl rfl rfl rfl rfl ?_
            refine WX.callV rfl rfl rfl rfl rfl (fun _ => rfl) rfl (fun w G bs hI hΓ => f178 w (n + 3) (by omega) (((List.take i (spec_l6Copy l)) ++ [(TableEntry.mk (spec_l4Copy n_) v)]) ++ (List.drop i (spec_l6Copy l))) p60 c45 (hΓ.get 140 rfl) (okl_mk (by first | assumption | omega | (simp only [List.length_append, List.length_cons, List.length_nil, List.length_set, List.length_map, List.length_take, List.length_drop]; omega) | (simp; omega)) (fun a ha => GoT.okm (show (n + 2) ≤ (n + 3) by omega) ((all_app (fun a ha => GoT.okm (show (n + 1) ≤ (n + 2) by omega) ((all_app (fun a ha => GoT.okm (show n ≤ (n + 1) by omega) ((fun a ha => (okl hq1).2 a (List.mem_of_mem_take ha)) a ha)) (fun a ha => GoT.okm (by omega) ((all_cons (α := TableEntry) (And.intro hq19 hokv) (fun a ha => by cases ha)) a ha))) a ha)) (fun a ha => GoT.okm (by omega) ((fun a ha => (okl hq1).2 a (List.mem_of_mem_drop ha)) a ha))) a ha)) : GoT.ok (n + 3) ((((List.take i (spec_l6Copy l)) ++ [(TableEntry.mk (spec_l4Copy n_) v)]) ++ (List.drop i (spec_l6Copy l))) : List TableEntry))) ?_
            intro hq26
            refine WX.run ttOk rfl ?_
            refine WX.cases 57 rfl (fun h14 => ?_) (fun h14 => ?_)
            · skip
              have h14d := (B.nt h14)
              refine WX.run ttOk rfl ?_
              refine WX.callF 142 (fun _ _ h => GoT.ow_rd h) (fun _ f hf => GoT.fak f hf) rfl rfl rfl rfl rfl (fun _ => rfl) rfl (fun w G bs hI hΓ => f174 w n (by omega) l pl cl (hΓ.get 0 rfl) hokl) (fun _ => rfl) (fun _ => rfl) ?_
              rintro ⟨p61, c46⟩ hq27
              have q13 := len_l6Copy l
              refine WX.run ttOk rfl ?_
              have hP21 : spec_PutEntry l n_ v = (spec_l6Copy l, false) := by simp only [spec_PutEntry, h1, hX2, h14, cond_true, cond_false]
              refine WX.ret ttOk rfl ?_
              intro w1 G bs hI hΓ
              rw [hP21]
              exact Post.of [143] (p61, c46) hI hΓ rfl rfl rfl (GoT.okm (α := List TableEntry) (by omega) hq27)
            · skip
              have h14d := (B.nf h14)
              refine WX.run ttOk rfl ?_
              have hP22 : spec_PutEntry l n_ v = (((List.take i (spec_l6Copy l)) ++ [(TableEntry.mk (spec_l4Copy n_) v)]) ++ (List.drop i (spec_l6Copy l)), true) := by simp only [spec_PutEntry, h1, hX2, h14, cond_true, cond_false]
              refine WX.ret ttOk rfl ?_
              intro w1 G bs hI hΓ
              rw [hP22]
              exact Post.of [141] (p60, c45) hI hΓ rfl rfl rfl (okl_mk (by first | assumption | omega | (simp only [List.length_append, List.length_cons, List.length_nil, List.length_set, List.length_map, List.length_take, List.length_drop]; omega) | (simp; omega)) (fun a ha => GoT.okm (show (n + 2) ≤ (n + 3) by omega) ((all_app (fun a ha => GoT.okm (show (n + 1) ≤ (n + 2) by omega) ((all_app (fun a ha => GoT.okm (show n ≤ (n + 1) by omega) ((fun a ha => (okl hq1).2 a (List.mem_of_mem_take ha)) a ha)) (fun a ha => GoT.okm (by omega) ((all_cons (α := TableEntry) (And.intro hq19 hokv) (fun a ha => by cases ha)) a ha))) a ha)) (fun a ha => GoT.okm (by omega) ((fun a ha => (okl hq1).2 a (List.mem_of_mem_drop ha)) a ha))) a ha)) : GoT.ok (n + 3) ((((List.take i (spec_l6Copy l)) ++ [(TableEntry.mk (spec_l4Copy n_) v)]) ++ (List.drop i (spec_l6Copy l))) : List TableEntry))
          · skip
            refine TS.op 6 rfl (by kernel_rfl) ?_
            refine WX.bld ttOk rfl rfl rfl rfl rfl rfl rfl ?_
            intro p62
            refine WX.run ttOk rfl ?_
            refine WX.back0 ?_
            refine TX.tail [4, 7, 11, 12] rfl rfl (by kernel_rfl) ?_
            refine WX.free 144 (MF.ol [] ([] : List TableEntry)) rfl ?_
            refine WX.appPre 43 503 i ((List.take i (spec_l6Copy l)) : List TableEntry).length ttOk rfl rfl rfl rfl rfl rfl rfl rfl rfl rfl rfl rfl rfl hone2 (show i ≤ ((spec_l6Copy l)).length from (by omega)) (by have z_ := (show i ≤ ((spec_l6Copy l)).length from (by omega)); first | (simp; done) | (simp only [List.length_append, List.length_cons, List.length_nil, List.length_take, List.length_drop, List.length_set]; omega) | (simp; omega)) (by first | assumption | omega | (simp only [List.length_append, List.length_cons, List.length_nil, List.length_set, List.length_map, List.length_take, List.length_drop]; omega) | (simp; omega)) (by first | assumption | omega | (simp only [List.length_append, List.length_cons, List.length_nil, List.length_set, List.length_map, List.length_take, List.length_drop]; omega) | (simp; omega)) (fun _ _ => rfl) ?_
            intro p63 c47
            refine WX.turn [94] 145 rfl (fun h hs => ol_split i (show i ≤ ((spec_l6Copy l)).length from (by omega)) hs) (gs := [MF.ol (List.take (i * 2) xs3) (List.take i (spec_l6Copy l)), MF.ol (List.drop (i * 2) xs3) (List.drop i (spec_l6Copy l))]) rfl ?_
            refine WX.turn [144, 145] 147 rfl (fun h hs => ol_app hs) (gs := [MF.ol ([] ++ (List.take (i * 2) xs3)) ((List.take i (spec_l6Copy l)) : List TableEntry)]) rfl ?_
            refine WX.turn [93] 148 rfl (fun h hs => ol_one (α := TableEntry) (a := (TableEntry.mk (spec_l4Copy n_) v)) (x := ((p39, c30), ())) hs) (gs := [MF.ol [.slice p39 (((spec_l4Copy n_).parts).length) c30, .int .i64 (v)] ([(TableEntry.mk (spec_l4Copy n_) v)] : List TableEntry)]) rfl ?_
            have r19 : -9223372036854775808 ≤ v ∧ v ≤ 9223372036854775807 := hokv
            refine WX.know (fun G hΓ => (hΓ.get 148 rfl : OwL _ _ _).rd.one) ?_
            intro ho11
            refine WX.appR1 43 49 (((List.take i (spec_l6Copy l)) ++ [(TableEntry.mk (spec_l4Copy n_) v)]) : List TableEntry).length ttOk rfl rfl rfl rfl rfl rfl rfl rfl rfl rfl rfl rfl rfl ho11 (by first | (simp; done) | omega | (simp only [List.length_append, List.length_cons, List.length_nil, List.length_take, List.length_drop, List.length_set]; omega) | (simp; omega)) (by first | assumption | omega | (simp only [List.length_append, List.length_cons, List.length_nil, List.length_set, List.length_map, List.length_take, List.length_drop]; omega) | (simp; omega)) (by first | assumption | omega | (simp only [List.length_append, List.length_cons, List.length_nil, List.length_set, List.length_map, List.length_take, List.length_drop]; omega) | (simp; omega)) (fun _ _ => rfl) ?_
            intro p64 c48
            refine WX.turn [147, 148] 149 rfl (fun h hs => ol_app hs) (gs := [MF.ol (([] ++ (List.take (i * 2) xs3)) ++ [.slice p39 (((spec_l4Copy n_).parts).length) c30, .int .i64 (v)]) (((List.take i (spec_l6Copy l)) ++ [(TableEntry.mk (spec_l4Copy n_) v)]) : List TableEntry)]) rfl ?_
            refine WX.appSuf 43 503 i ((((List.take i (spec_l6Copy l)) ++ [(TableEntry.mk (spec_l4Copy n_) v)]) ++ (List.drop i (spec_l6Copy l))) : List TableEntry).length ttOk rfl rfl rfl rfl rfl rfl rfl rfl rfl rfl rfl rfl rfl hone2 (show i ≤ ((spec_l6Copy l)).length from (by omega)) (by have z_ := (show i ≤ ((spec_l6Copy l)).length from (by omega)); first | (simp; done) | (simp only [List.length_append, List.length_cons, List.length_nil, List.length_take, List.length_drop, List.length_set]; omega) | (simp; omega)) (by first | assumption | omega | (simp only [List.length_append, List.length_cons, List.length_nil, List.length_set, List.length_map, List.length_take, List.length_drop]; omega) | (simp; omega)) (by first | assumption | omega | (simp only [List.length_append, List.length_cons, List.length_nil, List.length_set, List.length_map, List.length_take, List.length_drop]; omega) | (simp; omega)) (fun _ _ => rfl) ?_
            intro p65 c49
            refine WX.turn [146] 150 rfl (fun h hs => ol_drop (show i ≤ i by omega) (show i ≤ ((spec_l6Copy l)).length from (by omega)) hs) (gs := [MF.ol (List.drop (i * 2) xs3) (List.drop i (spec_l6Copy l))]) rfl ?_
            refine WX.turn [149, 150] 151 rfl (fun h hs => ol_app hs) (gs := [MF.ol ((([] ++ (List.take (i * 2) xs3)) ++ [.slice p39 (((spec_l4Copy n_).parts).length) c30, .int .i64 (v)]) ++ (List.drop (i * 2) xs3)) ((((List.take i (spec_l6Copy l)) ++ [(TableEntry.mk (spec_l4Copy n_) v)]) ++ (List.drop i (spec_l6Copy l))) : List TableEntry)]) rfl ?_
            refine WX.run ttOk rfl ?_
            refine WX.seal 43 151 152 rfl rfl rfl rfl rfl ?_
            refine WX.callV rfl rfl rfl rfl rfl (fun _ => rfl) rfl (fun w G bs hI hΓ => f178 w (n + 3) (by omega) (((List.take i (spec_l6Copy l)) ++ [(TableEntry.mk (spec_l4Copy n_) v)]) ++ (List.drop i (spec_l6Copy l))) p65 c49 (hΓ.get 152 rfl) (okl_mk (by first | assumption | omega | (simp only [List.length_append, List.length_cons, List.length_nil, List.length_set, List.length_map, List.length_take, List.length_drop]; omega) | (simp; omega)) (fun a ha => GoT.okm (show (n + 2) ≤ (n + 3) by omega) ((all_app (fun a ha => GoT.okm (show (n + 1) ≤ (n + 2) by omega) ((all_app (fun a ha => GoT.okm (show n ≤ (n + 1) by omega) ((fun a ha => (okl hq1).2 a (List.mem_of_mem_take ha)) a ha)) (fun a ha => GoT.okm (by omega) ((all_cons (α := TableEntry) (And.intro hq19 hokv) (fun a ha => by cases ha)) a ha))) a ha)) (fun a ha => GoT.okm (by omega) ((fun a ha => (okl hq1).2 a (List.mem_of_mem_drop ha)) a ha))) a ha)) : GoT.ok (n + 3) ((((List.take i (spec_l6Copy l)) ++ [(TableEntry.mk (spec_l4Copy n_) v)]) ++ (List.drop i (spec_l6Copy l))) : List TableEntry))) ?_
            intro hq28
            refine WX.run ttOk rfl ?_
            refine WX.cases 57 rfl (fun h15 => ?_) (fun h15 => ?_)
            · skip
              have h15d := (B.nt h15)
              refine WX.run ttOk rfl ?_
              refine WX.callF 154 (fun _ _ h => GoT.ow_rd h) (fun _ f hf => GoT.fak f hf) rfl rfl rfl rfl rfl (fun _ => rfl) rfl (fun w G bs hI hΓ => f174 w n (by omega) l pl cl (hΓ.get 0 rfl) hokl) (fun _ => rfl) (fun _ => rfl) ?_
              rintro ⟨p66, c50⟩ hq29
              have q14 := len_l6Copy l
              refine WX.run ttOk rfl ?_
              have hP23 : spec_PutEntry l n_ v = (spec_l6Copy l, false) := by simp only [spec_PutEntry, h1, hX2, h15, cond_true, cond_false]
              refine WX.ret ttOk rfl ?_
              intro w1 G bs hI hΓ
              rw [hP23]
              exact Post.of [155] (p66, c50) hI hΓ rfl rfl rfl (GoT.okm (α := List TableEntry) (by omega) hq29)
            · skip
              have h15d := (B.nf h15)
              refine WX.run ttOk rfl ?_
              have hP24 : spec_PutEntry l n_ v = (((List.take i (spec_l6Copy l)) ++ [(TableEntry.mk (spec_l4Copy n_) v)]) ++ (List.drop i (spec_l6Copy l)), true) := by simp only [spec_PutEntry, h1, hX2, h15, cond_true, cond_false]
              refine WX.ret ttOk rfl ?_
              intro w1 G bs hI hΓ
              rw [hP24]
              exact Post.of [153] (p65, c49) hI hΓ rfl rfl rfl (okl_mk (by first | assumption | omega | (simp only [List.length_append, List.length_cons, List.length_nil, List.length_set, List.length_map, List.length_take, List.length_drop]; omega) | (simp; omega)) (fun a ha => GoT.okm (show (n + 2) ≤ (n + 3) by omega) ((all_app (fun a ha => GoT.okm (show (n + 1) ≤ (n + 2) by omega) ((all_app (fun a ha => GoT.okm (show n ≤ (n + 1) by omega) ((fun a ha => (okl hq1).2 a (List.mem_of_mem_take ha)) a ha)) (fun a ha => GoT.okm (by omega) ((all_cons (α := TableEntry) (And.intro hq19 hokv) (fun a ha => by cases ha)) a ha))) a ha)) (fun a ha => GoT.okm (by omega) ((fun a ha => (okl hq1).2 a (List.mem_of_mem_drop ha)) a ha))) a ha)) : GoT.ok (n + 3) ((((List.take i (spec_l6Copy l)) ++ [(TableEntry.mk (spec_l4Copy n_) v)]) ++ (List.drop i (spec_l6Copy l))) : List TableEntry))
        · skip
          refine TS.op 6 rfl (by kernel_rfl) ?_
          refine WX.bld ttOk rfl rfl rfl rfl rfl rfl rfl ?_
          intro p67
          refine WX.run ttOk rfl ?_
          refine WX.back0 ?_
          refine TX.tail [0, 4, 7, 11, 12] rfl rfl (by kernel_rfl) ?_
          refine WX.bld ttOk rfl rfl rfl rfl rfl rfl rfl ?_
          intro p68
          refine WX.free 156 (MF.ol [] ([] : List TableEntry)) rfl ?_
          refine WX.appPre 43 503 i ((List.take i (spec_l6Copy l)) : List TableEntry).length ttOk rfl rfl rfl rfl rfl rfl rfl rfl rfl rfl rfl rfl rfl hone2 (show i ≤ ((spec_l6Copy l)).length from (by omega)) (by have z_ := (show i ≤ ((spec_l6Copy l)).length from (by omega)); first | (simp; done) | (simp only [List.length_append, List.length_cons, List.length_nil, List.length_take, List.length_drop, List.length_set]; omega) | (simp; omega)) (by first | assumption | omega | (simp only [List.length_append, List.length_cons, List.length_nil, List.length_set, List.length_map, List.length_take, List.length_drop]; omega) | (simp; omega)) (by first | assumption | omega | (simp only [List.length_append, List.length_cons, List.length_nil, List.length_set, List.length_map, List.length_take, List.length_drop]; omega) | (simp; omega)) (fun _ _ => rfl) ?_
          intro p69 c51
          refine WX.turn [94] 157 rfl (fun h hs => ol_split i (show i ≤ ((spec_l6Copy l)).length from (by omega)) hs) (gs := [MF.ol (List.take (i * 2) xs3) (List.take i (spec_l6Copy l)), MF.ol (List.drop (i * 2) xs3) (List.drop i (spec_l6Copy l))]) rfl ?_
          refine WX.turn [156, 157] 159 rfl (fun h hs => ol_app hs) (gs := [MF.ol ([] ++ (List.take (i * 2) xs3)) ((List.take i (spec_l6Copy l)) : List TableEntry)]) rfl ?_
          refine WX.turn [93] 160 rfl (fun h hs => ol_one (α := TableEntry) (a := (TableEntry.mk (spec_l4Copy n_) v)) (x := ((p39, c30), ())) hs) (gs := [MF.ol [.slice p39 (((spec_l4Copy n_).parts).length) c30, .int .i64 (v)] ([(TableEntry.mk (spec_l4Copy n_) v)] : List TableEntry)]) rfl ?_
          have r20 : -9223372036854775808 ≤ v ∧ v ≤ 9223372036854775807 := hokv
          refine WX.know (fun G hΓ => (hΓ.get 160 rfl : OwL _ _ _).rd.one) ?_
          intro ho12
          refine WX.appR1 43 49 (((List.take i (spec_l6Copy l)) ++ [(TableEntry.mk (spec_l4Copy n_) v)]) : List TableEntry).length ttOk rfl rfl rfl rfl rfl rfl rfl rfl rfl rfl rfl rfl rfl ho12 (by first | (simp; done) | omega | (simp only [List.length_append, List.length_cons, List.length_nil, List.length_take, List.length_drop, List.length_set]; omega) | (simp; omega)) (by first | assumption | omega | (simp only [List.length_append, List.length_cons, List.length_nil, List.length_set, List.length_map, List.length_take, List.length_drop]; omega) | (simp; omega)) (by first | assumption | omega | (simp only [List.length_append, List.length_cons, List.length_nil, List.length_set, List.length_map, List.length_take, List.length_drop]; omega) | (simp; omega)) (fun _ _ => rfl) ?_
          intro p70 c52
          refine WX.turn [159, 160] 161 rfl (fun h hs => ol_app hs) (gs := [MF.ol (([] ++ (List.take (i * 2) xs3)) ++ [.slice p39 (((spec_l4Copy n_).parts).length) c30, .int .i64 (v)]) (((List.take i (spec_l6Copy l)) ++ [(TableEntry.mk (spec_l4Copy n_) v)]) : List TableEntry)]) rfl ?_
          refine WX.appSuf 43 503 i ((((List.take i (spec_l6Copy l)) ++ [(TableEntry.mk (spec_l4Copy n_) v)]) ++ (List.drop i (spec_l6Copy l))) : List TableEntry).length ttOk rfl rfl rfl rfl rfl rfl rfl rfl rfl rfl rfl rfl rfl hone2 (show i ≤ ((spec_l6Copy l)).length from (by omega)) (by have z_ := (show i ≤ ((spec_l6Copy l)).length from (by omega)); first | (simp; done) | (simp only [List.length_append, List.length_cons, List.length_nil, List.length_take, List.length_drop, List.length_set]; omega) | (simp; omega)) (by first | assumption | omega | (simp only [List.length_append, List.length_cons, List.length_nil, List.length_set, List.length_map, List.length_take, List.length_drop]; omega) | (simp; omega)) (by first | assumption | omega | (simp only [List.length_append, List.length_cons, List.length_nil, List.length_set, List.length_map, List.length_take, List.length_drop]; omega) | (simp; omega)) (fun _ _ => rfl) ?_
          intro p71 c53
          refine WX.turn [158] 162 rfl (fun h hs => ol_drop (show i ≤ i by omega) (show i ≤ ((spec_l6Copy l)).length from (by omega)) hs) (gs := [MF.ol (List.drop (i * 2) xs3) (List.drop i (spec_l6Copy l))]) rfl ?_
          refine WX.turn [161, 162] 163 rfl (fun h hs => ol_app hs) (gs := [MF.ol ((([] ++ (List.take (i * 2) xs3)) ++ [.slice p39 (((spec_l4Copy n_).parts).length) c30, .int .i64 (v)]) ++ (List.drop (i * 2) xs3)) ((((List.take i (spec_l6Copy l)) ++ [(TableEntry.mk (spec_l4Copy n_) v)]) ++ (List.drop i (spec_l6Copy l))) : List TableEntry)]) rfl ?_
          refine WX.run ttOk rfl ?_
          refine WX.seal 43 163 164 rfl rfl rfl rfl rfl ?_
          refine WX.callV rfl rfl rfl rfl rfl (fun _ => rfl) rfl (fun w G bs hI hΓ => f178 w (n + 3) (by omega) (((List.take i (spec_l6Copy l)) ++ [(TableEntry.mk (spec_l4Copy n_) v)]) ++ (List.drop i (spec_l6Copy l))) p71 c53 (hΓ.get 164 rfl) (okl_mk (by first | assumption | omega | (simp only [List.length_append, List.length_cons, List.length_nil, List.length_set, List.length_map, List.length_take, List.length_drop]; omega) | (simp; omega)) (fun a ha => GoT.okm (show (n + 2) ≤ (n + 3) by omega) ((all_app (fun a ha => GoT.okm (show (n + 1) ≤ (n + 2) by omega) ((all_app (fun a ha => GoT.okm (show n ≤ (n + 1) by omega) ((fun a ha => (okl hq1).2 a (List.mem_of_mem_take ha)) a ha)) (fun a ha => GoT.okm (by omega) ((all_cons (α := TableEntry) (And.intro hq19 hokv) (fun a ha => by cases ha)) a ha))) a ha)) (fun a ha => GoT.okm (by omega) ((fun a ha => (okl hq1).2 a (List.mem_of_mem_drop ha)) a ha))) a ha)) : GoT.ok (n + 3) ((((List.take i (spec_l6Copy l)) ++ [(TableEntry.mk (spec_l4Copy n_) v)]) ++ (List.drop i (spec_l6Copy l))) : List TableEntry))) ?_
          intro hq30
          refine WX.run ttOk rfl ?_
          refine WX.cases 57 rfl (fun h16 => ?_) (fun h16 => ?_)
          · skip
            have h16d := (B.nt h16)
            refine WX.run ttOk rfl ?_
            refine WX.callF 166 (fun _ _ h => GoT.ow_rd h) (fun _ f hf => GoT.fak f hf) rfl rfl rfl rfl rfl (fun _ => rfl) rfl (fun w G bs hI hΓ => f174 w n (by omega) l pl cl (hΓ.get 0 rfl) hokl) (fun _ => rfl) (fun _ => rfl) ?_
            rintro ⟨p72, c54⟩ hq31
            have q15 := len_l6Copy l
            refine WX.run ttOk rfl ?_
            have hP25 : spec_PutEntry l n_ v = (spec_l6Copy l, false) := by simp only [spec_PutEntry, h1, hX2, h16, cond_true, cond_false]
            refine WX.ret ttOk rfl ?_
            intro w1 G bs hI hΓ
            rw [hP25]
            exact Post.of [167] (p72, c54) hI hΓ rfl rfl rfl (GoT.okm (α := List TableEntry) (by omega) hq31)
          · skip
            have h16d := (B.nf h16)
            refine WX.run ttOk rfl ?_
            have hP26 : spec_PutEntry l n_ v = (((List.take i (spec_l6Copy l)) ++ [(TableEntry.mk (spec_l4Copy n_) v)]) ++ (List.drop i (spec_l6Copy l)), true) := by simp only [spec_PutEntry, h1, hX2, h16, cond_true, cond_false]
            refine WX.ret ttOk rfl ?_
            intro w1 G bs hI hΓ
            rw [hP26]
            exact Post.of [165] (p71, c53) hI hΓ rfl rfl rfl (okl_mk (by first | assumption | omega | (simp only [List.length_append, List.length_cons, List.length_nil, List.length_set, List.length_map, List.length_take, List.length_drop]; omega) | (simp; omega)) (fun a ha => GoT.okm (show (n + 2) ≤ (n + 3) by omega) ((all_app (fun a ha => GoT.okm (show (n + 1) ≤ (n + 2) by omega) ((all_app (fun a ha => GoT.okm (show n ≤ (n + 1) by omega) ((fun a ha => (okl hq1).2 a (List.mem_of_mem_take ha)) a ha)) (fun a ha => GoT.okm (by omega) ((all_cons (α := TableEntry) (And.intro hq19 hokv) (fun a ha => by cases ha)) a ha))) a ha)) (fun a ha => GoT.okm (by omega) ((fun a ha => (okl hq1).2 a (List.mem_of_mem_drop ha)) a ha))) a ha)) : GoT.ok (n + 3) ((((List.take i (spec_l6Copy l)) ++ [(TableEntry.mk (spec_l4Copy n_) v)]) ++ (List.drop i (spec_l6Copy l))) : List TableEntry))
end Go.Proofs.YtfffongneoegbaaGreat

namespace Go.Stp
set_option linter.unusedVariables false
set_option linter.unusedSimpArgs false
def impl_copyMember_L1 : List Publication → (List Publication) → (List Publication)
  | [], out => ((out) : List Publication)
  | e1 :: rest_, out =>
    impl_copyMember_L1 rest_ (((out ++ [(Publication.mk (impl_copyName e1.publisher) e1.seq e1.content)])) : List Publication)
def impl_copyMember (m : Member) : Member :=
  match impl_copyMember_L1 m.publications ([] : List Publication) with
    | out =>
      (Member.mk (impl_copyName m.name) (StateVector.mk (impl_copyTable m.vector.entries)) out)
def spec_l28Copy_L1 : List Publication → (List Publication) → (List Publication)
  | [], out => ((out) : List Publication)
  | e1 :: rest_, out =>
    spec_l28Copy_L1 rest_ (((out ++ [(Publication.mk (spec_l4Copy e1.publisher) e1.seq e1.content)])) : List Publication)
def spec_l28Copy (m : Member) : Member :=
  match spec_l28Copy_L1 m.publications ([] : List Publication) with
    | out =>
      (Member.mk (spec_l4Copy m.name) (StateVector.mk (spec_l6Copy m.vector.entries)) out)
theorem cML : ∀ (l o : List Publication), impl_copyMember_L1 l o = o ++ l
  | [], o => by simp [impl_copyMember_L1]
  | x :: l, o => by
    simp only [impl_copyMember_L1]
    rw [cML l]
    simp [impl_copyName]
theorem cM_impl (m : Member) : impl_copyMember m = m := by simp [impl_copyMember, cML, cT_impl, impl_copyName]
theorem cMS : ∀ (l o : List Publication), spec_l28Copy_L1 l o = o ++ l
  | [], o => by simp [spec_l28Copy_L1]
  | x :: l, o => by
    simp only [spec_l28Copy_L1]
    rw [cMS l]
    simp [spec_l4Copy]
theorem cM_spec (m : Member) : spec_l28Copy m = m := by simp [spec_l28Copy, cMS, cT_spec, spec_l4Copy]
def impl_AcceptPublication (m : Member) (x_ : Publication) : Member × Bool :=
  bif (x_.seq != IntKind.i64.wrap ((impl_SeqOf m.vector x_.publisher) + 1)) then
    ((impl_copyMember m), false)
  else
    bif (!((impl_PutEntry m.vector.entries x_.publisher x_.seq).2)) then
      ((impl_copyMember m), false)
    else
      bif (!(impl_ValidMember (Member.mk ((impl_copyMember m).name) (StateVector.mk ((impl_PutEntry m.vector.entries x_.publisher x_.seq).1)) ((impl_copyMember m).publications ++ [(Publication.mk (impl_copyName x_.publisher) x_.seq x_.content)])))) then
        ((impl_copyMember m), false)
      else
        ((Member.mk ((impl_copyMember m).name) (StateVector.mk ((impl_PutEntry m.vector.entries x_.publisher x_.seq).1)) ((impl_copyMember m).publications ++ [(Publication.mk (impl_copyName x_.publisher) x_.seq x_.content)])), true)
def spec_AcceptPublication (m : Member) (x_ : Publication) : Member × Bool :=
  bif (x_.seq != IntKind.i64.wrap ((spec_SeqOf m.vector x_.publisher) + 1)) then
    ((spec_l28Copy m), false)
  else
    bif (!((spec_PutEntry m.vector.entries x_.publisher x_.seq).2)) then
      ((spec_l28Copy m), false)
    else
      bif (!(spec_ValidMember (Member.mk ((spec_l28Copy m).name) (StateVector.mk ((spec_PutEntry m.vector.entries x_.publisher x_.seq).1)) ((spec_l28Copy m).publications ++ [(Publication.mk (spec_l4Copy x_.publisher) x_.seq x_.content)])))) then
        ((spec_l28Copy m), false)
      else
        ((Member.mk ((spec_l28Copy m).name) (StateVector.mk ((spec_PutEntry m.vector.entries x_.publisher x_.seq).1)) ((spec_l28Copy m).publications ++ [(Publication.mk (spec_l4Copy x_.publisher) x_.seq x_.content)])), true)
inductive ApShape (m : Member) (x_ : Publication) : Member → Prop
  | same : ApShape m x_ m
  | put (l : List TableEntry) (h : PutShape m.vector.entries x_.publisher x_.seq l) : ApShape m x_ ⟨m.name, ⟨l⟩, m.publications ++ [x_]⟩
theorem ApShape.lenN {m r : Member} {x_ : Publication} (h : ApShape m x_ r) : r.name.parts.length = m.name.parts.length := by cases h <;> rfl
theorem ApShape.lenE {m r : Member} {x_ : Publication} (h : ApShape m x_ r) : r.vector.entries.length ≤ m.vector.entries.length + 1 := by
  cases h with
  | same => omega
  | put l h => exact h.len
theorem ApShape.lenP {m r : Member} {x_ : Publication} (h : ApShape m x_ r) : r.publications.length ≤ m.publications.length + 1 := by
  cases h with
  | same => omega
  | put l h => simp
theorem ApShape.elsN {m r : Member} {x_ : Publication} {k : Nat} (h : ApShape m x_ r) (hm : ∀ a ∈ m.name.parts, GoT.ok k a) (_ : GoT.ok k x_) : ∀ a ∈ r.name.parts, GoT.ok k a := by cases h <;> exact hm
theorem ApShape.elsE {m r : Member} {x_ : Publication} {k : Nat} (h : ApShape m x_ r) (hm : ∀ a ∈ m.vector.entries, GoT.ok k a) (hx : GoT.ok k x_) : ∀ a ∈ r.vector.entries, GoT.ok k a := by
  cases h with
  | same => exact hm
  | put l h => exact h.els hm (ok_Publication hx).1 (ok_Publication hx).2.1
theorem ApShape.elsP {m r : Member} {x_ : Publication} {k : Nat} (h : ApShape m x_ r) (hm : ∀ a ∈ m.publications, GoT.ok k a) (hx : GoT.ok k x_) : ∀ a ∈ r.publications, GoT.ok k a := by
  cases h with
  | same => exact hm
  | put l h => exact fun a ha => (List.mem_append.1 ha).elim (hm a) (fun ha => by obtain rfl := List.mem_singleton.1 ha; exact hx)
theorem ap_bif {P : Member → Prop} {c : Bool} {a b : Member × Bool} (h1 : P a.1) (h2 : P b.1) : P (bif c then a else b).1 := by
  cases c
  · exact h2
  · exact h1
theorem ap_impl (m : Member) (x_ : Publication) : ApShape m x_ (impl_AcceptPublication m x_).1 := by
  unfold impl_AcceptPublication
  rw [cM_impl]
  exact ap_bif .same (ap_bif .same (ap_bif .same (.put _ (put_impl _ _ _))))
theorem ap_spec (m : Member) (x_ : Publication) : ApShape m x_ (spec_AcceptPublication m x_).1 := by
  unfold spec_AcceptPublication
  rw [cM_spec]
  exact ap_bif .same (ap_bif .same (ap_bif .same (.put _ (put_spec _ _ _))))
def impl_Publish (m : Member) (b : (List UInt8)) : Member × Bool :=
  (((impl_AcceptPublication m (Publication.mk m.name (IntKind.i64.wrap ((impl_SeqOf m.vector m.name) + 1)) b)).1), ((impl_AcceptPublication m (Publication.mk m.name (IntKind.i64.wrap ((impl_SeqOf m.vector m.name) + 1)) b)).2))
def spec_Publish (m : Member) (b : (List UInt8)) : Member × Bool :=
  (((spec_AcceptPublication m (Publication.mk m.name (IntKind.i64.wrap ((spec_SeqOf m.vector m.name) + 1)) b)).1), ((spec_AcceptPublication m (Publication.mk m.name (IntKind.i64.wrap ((spec_SeqOf m.vector m.name) + 1)) b)).2))
end Go.Stp

