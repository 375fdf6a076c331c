/-
  What the proof of one law needs: rules of the program logic, functions as Lean functions, contracts. No condition but what each says. Written by a program (pack.py) out of my own texts.
-/
import Derived.Test.YtdimfabadjfkiaaKFnVecs5
namespace Go.Proofs.Ytdimfabadjfkiaa
open Go.Stp
set_option linter.unusedVariables false
set_option linter.unusedSimpArgs false
theorem f76 (w : World) (n : Nat) (hn : n + 0 ≤ 9) (e_ : TableEntry) (K0 : Option Addr) (M0 : Nat) (N0 : RdSl (hp w) K0 M0 e_.name.parts) (hoke_ : GoT.ok n e_) :
  Does Try.prog 76 #[.agg #[.slice K0 ((e_.name.parts).length) M0, .int .i64 (e_.value)]] w emp (fun (rv : Value) (_ : World) => rv = .bool (impl_copyTable_c1 e_) ∧ True) := by
 refine WX.enter (tt := tt) (Γ := [(0, MF.rs .stb K0 M0 e_.name.parts)]) Try.func76 rfl (by kernel_rfl) rfl (allS_cons rfl N0 allS_nil) ?_
 refine R0 ?_
 have hP1 : impl_copyTable_c1 e_ = true := by simp only [impl_copyTable_c1, ct, cf]
 exact R3 hP1
theorem f75 (w : World) (n : Nat) (hn : n + 0 ≤ 9) (l : (List TableEntry)) (pl : Option Addr) (cl : Nat) (N0 : RdSl (hp w) pl cl l) (keepg : FuncId) (keepc : List Value) (keepq : TableEntry → Bool) (keepf : ∀ w1, Kp emp w w1 → ∀ (e0 : TableEntry) (x0 : GoT.X TableEntry), GoT.ok n e0 → All (hp w1) (GoT.fa .der e0 x0) → Does Try.prog keepg ([Value.agg ⟨GoT.sh e0 x0⟩] ++ keepc).toArray w1 emp (fun rv _ => rv = .bool (keepq e0) ∧ True)) (hokl : GoT.ok n l) :
  Does Try.prog 75 #[.slice pl ((l).length) cl, .func (.func keepg) #[] keepc.toArray] w emp (Post w emp (fun x : GoT.X ((List TableEntry)) => (GoT.sh ((impl_keepTable l keepq) : (List TableEntry)) x).headD undef) (fun x => GoT.oa ((impl_keepTable l keepq) : (List TableEntry)) x) (GoT.ok n ((impl_keepTable l keepq) : (List TableEntry)))) := by
 have hbP := bd_pos n
 have hbB := bd_big (n := n) (by omega)
 refine WX.enter (tt := tt) (Γ := [(0, MF.rs .stb pl cl l)]) Try.func75 rfl (by kernel_rfl) rfl (allS_cons rfl N0 allS_nil) ?_
 refine R0 ?_
 refine WX.bld ttOk rfl rfl rfl rfl rfl rfl rfl ?_
 intro p1
 refine R0 ?_
 refine WX.free 1 (MF.ol [] ([] : List TableEntry)) rfl ?_
 have r1 : (l).length ≤ bd n := (okl hokl).1
 refine WX.loop (ι := (Option Addr) × Nat × (List Value) × (List TableEntry) × Nat) ⟨fun | (pout, cout, xsout, out, i) => (i ≤ (l).length) ∧ (∀ z_ ∈ out, GoT.ok n z_) ∧ (out.length ≤ i) ∧ (impl_keepTable_L1 keepq l ([] : List TableEntry) = impl_keepTable_L1 keepq ((l).drop i) out), fun | (pout, cout, xsout, out, i) => (l).length - i, fun | (pout, cout, xsout, out, i) => [(5, .v (.slice pout ((out).length) cout)), (11, .v (.int .i64 (((i : Nat) : Int)))), (10, .v (.int .i64 ((((l).length : Nat) : Int)))), (9, .v (.slice pl ((l).length) cl)), (1, .v (.func (.func keepg) #[] keepc.toArray))], fun | (pout, cout, xsout, out, i) => [], fun | (pout, cout, xsout, out, i) => [(8, ⟨2, pout, (out).length, cout, xsout⟩)], fun | (pout, cout, xsout, out, i) => [(0, MF.rs .stb pl cl l), (1, MF.ol xsout (out : List TableEntry))]⟩ (p1, 0, [], ([] : List TableEntry), 0) ⟨(Nat.zero_le _), (fun a ha => by cases ha), (by simp), rfl⟩
  (.cons rfl (.cons rfl (.cons rfl (.cons rfl (.cons rfl (.nil)))))) .nil (.cons rfl (.nil)) [0, 1] rfl ?_
 rintro ⟨pout, cout, xsout, out, i⟩ hpre
 have hpre_ : (i ≤ (l).length) ∧ (∀ z_ ∈ out, GoT.ok n z_) ∧ (out.length ≤ i) ∧ (impl_keepTable_L1 keepq l ([] : List TableEntry) = impl_keepTable_L1 keepq ((l).drop i) out) := hpre
 clear hpre
 obtain ⟨v1, v2, v3, v4⟩ := hpre_
 refine R0 ?_
 refine WX.cases 12 rfl (fun h1 => ?_) (fun h1 => ?_)
 ·skip
  have h1d := B.dt h1
  have e1i : i < (l).length := (by omega)
  obtain ⟨e1, e1h⟩ : ∃ e1, (l)[i]? = some e1 := ⟨_, List.getElem?_eq_getElem e1i⟩
  have ok1 : GoT.ok n e1 := (okl hokl).2 _ (List.mem_of_getElem? e1h)
  refine R0 ?_
  refine WX.idx 0 i ttOk rfl rfl rfl rfl rfl rfl rfl rfl rfl rfl e1i ?_
  rintro ad1 rfl
  refine WX.ldE 0 2 e1 ttOk rfl rfl rfl rfl rfl rfl rfl rfl e1h (fun _ => rfl) (fun _ => rfl) ?_
  rintro ⟨⟨p2, c1⟩, ⟨⟩⟩
  refine R0 ?_
  refine WX.callV rfl rfl rfl rfl rfl (fun _ => rfl) rfl (fun w G bs hI hΓ => keepf w hI.keep e1 ((p2, c1), ()) ok1 (All.cons (hΓ.get 2 rfl : RdSl _ _ _ _) All.nil)) ?_
  intro hq1
  refine R0 ?_
  refine WX.cases 17 rfl (fun h2 => ?_) (fun h2 => ?_)
  ·skip
   refine R0 ?_
   refine WX.draw [8, 9] mixed ?_
   intro bs G0 hΓ0
   refine DX.takes (fuel := 5) ttOk [(0, true), (1, true), (2, false), (4, true), (5, false)] (by kernel_rfl) rfl ?_
   refine DX.callF 3 3 (fun _ _ h => GoT.ow_rd h) (fun _ f hf => GoT.fak f hf) rfl (by kernel_rfl) rfl rfl rfl rfl rfl rfl (fun _ => rfl) rfl (fun w G bs hI hΓ => f53 w n (by omega) e1.name p2 c1 (hΓ.get 2 rfl) ((ok_TableEntry ok1).1)) (fun _ => rfl) (fun _ => rfl) ?_
   rintro ⟨p3, c2⟩ hq2
   refine DX.takes (fuel := 3) ttOk [(6, true)] (by kernel_rfl) rfl ?_
   refine DX.tail2 [7, 8, 9] rfl rfl (by kernel_rfl) ?_
   refine WX.bld ttOk rfl rfl rfl rfl rfl rfl rfl ?_
   intro p4
   refine WX.turn [4] 5 rfl (fun h hs => ol_one (α := TableEntry) (a := (TableEntry.mk (impl_copyName e1.name) e1.value)) (x := ((p3, c2), ())) hs) (gs := [MF.ol [.slice p3 (((impl_copyName e1.name).parts).length) c2, .int .i64 (e1.value)] ([(TableEntry.mk (impl_copyName e1.name) e1.value)] : List TableEntry)]) rfl ?_
   have r2 : -9223372036854775808 ≤ e1.value ∧ e1.value ≤ 9223372036854775807 := (ok_TableEntry ok1).2
   refine WX.know (fun G hΓ => (hΓ.get 5 rfl : OwL _ _ _).rd.one) ?_
   intro ho1
   refine WX.appR1 8 25 ((out ++ [(TableEntry.mk (impl_copyName e1.name) e1.value)]) : List TableEntry).length ttOk rfl rfl rfl rfl rfl rfl rfl rfl rfl rfl rfl rfl rfl ho1 (by simp) (by simp; omega) (by simp; omega) (fun _ _ => rfl) ?_
   intro p5 c3
   refine WX.turn [1, 5] 6 rfl (fun h hs => ol_app hs) (gs := [MF.ol (xsout ++ [.slice p3 (((impl_copyName e1.name).parts).length) c2, .int .i64 (e1.value)]) ((out ++ [(TableEntry.mk (impl_copyName e1.name) e1.value)]) : List TableEntry)]) rfl ?_
   refine R0 ?_
   refine WX.see rfl rfl rfl (fun _ hΓ => looks_arith rfl rfl rfl rfl (by unfold I64; first | omega | (simp only [List.length_take] at *; omega))) ?_
   refine R0 ?_
   refine WX.turn [6] 1 rfl (fun _ h => h) rfl ?_
   exact WX.iter (p5, c3, (xsout ++ [.slice p3 (((impl_copyName e1.name).parts).length) c2, .int .i64 (e1.value)]), ((out ++ [(TableEntry.mk (impl_copyName e1.name) e1.value)]) : List TableEntry), i + 1) ⟨(by omega), (all_app v2 (all_cons (α := TableEntry) (And.intro hq2 (ok_TableEntry ok1).2) (fun a ha => by cases ha))), (by first | assumption | omega | (simp; omega)), (by rw [v4, drop_get e1h]; simp only [impl_keepTable_L1, h2, ct, cf])⟩ (by first | (dsimp only; omega) | omega) (.cons rfl (.cons rfl (.cons rfl (.cons rfl (.cons rfl (.nil)))))) .nil (.cons rfl (.nil)) [0, 1] rfl
  ·skip
   refine R0 ?_
   refine WX.see rfl rfl rfl (fun _ hΓ => looks_arith rfl rfl rfl rfl (by unfold I64; first | omega | (simp only [List.length_take] at *; omega))) ?_
   refine R0 ?_
   exact WX.iter (pout, cout, xsout, (out : List TableEntry), i + 1) ⟨(by omega), v2, (by first | assumption | omega | (simp; omega)), (by rw [v4, drop_get e1h]; simp only [impl_keepTable_L1, h2, ct, cf])⟩ (by first | (dsimp only; omega) | omega) (.cons rfl (.cons rfl (.cons rfl (.cons rfl (.cons rfl (.nil)))))) .nil (.cons rfl (.nil)) [0, 1] rfl
 ·skip
  have h1d := B.df h1
  refine R0 ?_
  have hX1 : impl_keepTable_L1 keepq l ([] : List TableEntry) = ((out) : List TableEntry) := by rw [v4, List.drop_eq_nil_of_le (show (l).length ≤ i by omega)]; simp only [impl_keepTable_L1, ct, cf]
  refine WX.seal 8 1 7 rfl rfl rfl rfl rfl ?_
  have hP1 : impl_keepTable l keepq = out := by simp only [impl_keepTable, hX1, ct, cf]
  refine R1 ?_
  intro w1 G bs hI hΓ
  rw [hP1]
  exact Post.of [8] (pout, cout) hI hΓ rfl rfl rfl (okl_mk (by omega) v2 : GoT.ok n (out : List TableEntry))
theorem f47 (w : World) (n : Nat) (hn : n + 0 ≤ 9) (l : (List TableEntry)) (pl : Option Addr) (cl : Nat) (N0 : RdSl (hp w) pl cl l) (hokl : GoT.ok n l) :
  Does Try.prog 47 #[.slice pl ((l).length) cl] w emp (Post w emp (fun x : GoT.X ((List TableEntry)) => (GoT.sh ((impl_copyTable l) : (List TableEntry)) x).headD undef) (fun x => GoT.oa ((impl_copyTable l) : (List TableEntry)) x) (GoT.ok n ((impl_copyTable l) : (List TableEntry)))) := by
 have hbP := bd_pos n
 have hbB := bd_big (n := n) (by omega)
 refine WX.enter (tt := tt) (Γ := [(0, MF.rs .stb pl cl l)]) Try.func47 rfl (by kernel_rfl) rfl (allS_cons rfl N0 allS_nil) ?_
 refine R0 ?_
 refine WX.callF 1 (fun _ _ h => GoT.ow_rd h) (fun _ f hf => GoT.fak f hf) rfl rfl rfl rfl rfl (fun _ => rfl) rfl (fun w G bs hI hΓ => f75 w n (by omega) l pl cl (hΓ.get 0 rfl) 76 [] (fun e0_ => (impl_copyTable_c1 e0_)) (fun w1_ hb_ e0_ x0_ hk0_ hx0_ => f76 w1_ n (by omega) e0_ x0_.1.1 x0_.1.2 (hx0_ _ List.mem_cons_self) hk0_) hokl) (fun _ => rfl) (fun _ => rfl) ?_
 rintro ⟨p1, c1⟩ hq1
 refine R0 ?_
 have hP1 : impl_copyTable l = (impl_keepTable l (fun e0_ => (impl_copyTable_c1 e0_))) := by simp only [impl_copyTable, ct, cf]
 refine R1 ?_
 intro w1 G bs hI hΓ
 rw [hP1]
 exact Post.of [2] (p1, c1) hI hΓ rfl rfl rfl hq1
theorem f49 (w : World) (n : Nat) (hn : n + 0 ≤ 9) (l : (List TableEntry)) (pl : Option Addr) (cl : Nat) (N0 : RdSl (hp w) pl cl l) (hokl : GoT.ok n l) :
  Does Try.prog 49 #[.slice pl ((l).length) cl] w emp (Post w emp (fun x : GoT.X ((List TableEntry)) => (GoT.sh ((spec_l6Copy l) : (List TableEntry)) x).headD undef) (fun x => GoT.oa ((spec_l6Copy l) : (List TableEntry)) x) (GoT.ok n ((spec_l6Copy l) : (List TableEntry)))) := by
 have hbP := bd_pos n
 have hbB := bd_big (n := n) (by omega)
 refine WX.enter (tt := tt) (Γ := [(0, MF.rs .stb pl cl l)]) Try.func49 rfl (by kernel_rfl) rfl (allS_cons rfl N0 allS_nil) ?_
 refine R0 ?_
 refine WX.bld ttOk rfl rfl rfl rfl rfl rfl rfl ?_
 intro p1
 refine R0 ?_
 refine WX.free 1 (MF.ol [] ([] : List TableEntry)) rfl ?_
 have r1 : (l).length ≤ bd n := (okl hokl).1
 refine WX.loop (ι := (Option Addr) × Nat × (List Value) × (List TableEntry) × Nat) ⟨fun | (pout, cout, xsout, out, i) => (i ≤ (l).length) ∧ (∀ z_ ∈ out, GoT.ok n z_) ∧ (out.length ≤ i) ∧ (spec_l6Copy_L1 l ([] : List TableEntry) = spec_l6Copy_L1 ((l).drop i) out), fun | (pout, cout, xsout, out, i) => (l).length - i, fun | (pout, cout, xsout, out, i) => [(3, .v (.slice pout ((out).length) cout)), (4, .v (.int .i64 (((i : Nat) : Int)))), (0, .v (.slice pl ((l).length) cl))], fun | (pout, cout, xsout, out, i) => [], fun | (pout, cout, xsout, out, i) => [(6, ⟨2, pout, (out).length, cout, xsout⟩)], fun | (pout, cout, xsout, out, i) => [(0, MF.rs .stb pl cl l), (1, MF.ol xsout (out : List TableEntry))]⟩ (p1, 0, [], ([] : List TableEntry), 0) ⟨(Nat.zero_le _), (fun a ha => by cases ha), (by simp), rfl⟩
  (.cons rfl (.cons rfl (.cons rfl (.nil)))) .nil (.cons rfl (.nil)) [0, 1] rfl ?_
 rintro ⟨pout, cout, xsout, out, i⟩ hpre
 have hpre_ : (i ≤ (l).length) ∧ (∀ z_ ∈ out, GoT.ok n z_) ∧ (out.length ≤ i) ∧ (spec_l6Copy_L1 l ([] : List TableEntry) = spec_l6Copy_L1 ((l).drop i) out) := hpre
 clear hpre
 obtain ⟨v1, v2, v3, v4⟩ := hpre_
 refine R0 ?_
 refine WX.cases 10 rfl (fun h1 => ?_) (fun h1 => ?_)
 ·skip
  have h1d := B.dt h1
  have e1i : i < (l).length := (by omega)
  obtain ⟨e1, e1h⟩ : ∃ e1, (l)[i]? = some e1 := ⟨_, List.getElem?_eq_getElem e1i⟩
  have ok1 : GoT.ok n e1 := (okl hokl).2 _ (List.mem_of_getElem? e1h)
  refine R0 ?_
  refine WX.idx 0 i ttOk rfl rfl rfl rfl rfl rfl rfl rfl rfl rfl e1i ?_
  rintro ad1 rfl
  refine R0 ?_
  refine WX.ldE 0 2 e1 ttOk rfl rfl rfl rfl rfl rfl rfl rfl e1h (fun _ => rfl) (fun _ => rfl) ?_
  rintro ⟨⟨p2, c1⟩, ⟨⟩⟩
  refine WX.callF 3 (fun _ _ h => GoT.ow_rd h) (fun _ f hf => GoT.fak f hf) rfl rfl rfl rfl rfl (fun _ => rfl) rfl (fun w G bs hI hΓ => f54 w n (by omega) e1.name p2 c1 (hΓ.get 2 rfl) ((ok_TableEntry ok1).1)) (fun _ => rfl) (fun _ => rfl) ?_
  rintro ⟨p3, c2⟩ hq1
  refine R0 ?_
  refine WX.draw [9, 10] mixed ?_
  intro bs G0 hΓ0
  refine DX.takes (fuel := 7) ttOk [(0, true), (1, false), (2, true), (3, true)] (by kernel_rfl) rfl ?_
  refine DX.idx 4 0 i ttOk hΓ0 (by kernel_rfl) rfl rfl rfl rfl rfl rfl rfl rfl rfl rfl rfl e1i ?_
  rintro ad2 ⟨⟩
  refine DX.takes (fuel := 5) ttOk [(5, true)] (by kernel_rfl) rfl ?_
  refine DX.ldE 6 0 5 e1 ttOk hΓ0 (by kernel_rfl) rfl rfl rfl rfl rfl rfl rfl rfl e1h (fun _ => rfl) (fun _ => rfl) ?_
  rintro ⟨⟨p4, c3⟩, ⟨⟩⟩
  refine DX.takes (fuel := 3) ttOk [(7, true)] (by kernel_rfl) rfl ?_
  refine DX.tail2 [8, 9, 10] rfl rfl (by kernel_rfl) ?_
  refine WX.bld ttOk rfl rfl rfl rfl rfl rfl rfl ?_
  intro p5
  refine WX.turn [4] 6 rfl (fun h hs => ol_one (α := TableEntry) (a := (TableEntry.mk (spec_l4Copy e1.name) e1.value)) (x := ((p3, c2), ())) hs) (gs := [MF.ol [.slice p3 (((spec_l4Copy e1.name).parts).length) c2, .int .i64 (e1.value)] ([(TableEntry.mk (spec_l4Copy e1.name) e1.value)] : List TableEntry)]) rfl ?_
  have r2 : -9223372036854775808 ≤ e1.value ∧ e1.value ≤ 9223372036854775807 := (ok_TableEntry ok1).2
  refine WX.know (fun G hΓ => (hΓ.get 6 rfl : OwL _ _ _).rd.one) ?_
  intro ho1
  refine WX.appR1 6 27 ((out ++ [(TableEntry.mk (spec_l4Copy e1.name) e1.value)]) : List TableEntry).length ttOk rfl rfl rfl rfl rfl rfl rfl rfl rfl rfl rfl rfl rfl ho1 (by simp) (by simp; omega) (by simp; omega) (fun _ _ => rfl) ?_
  intro p6 c4
  refine WX.turn [1, 6] 7 rfl (fun h hs => ol_app hs) (gs := [MF.ol (xsout ++ [.slice p3 (((spec_l4Copy e1.name).parts).length) c2, .int .i64 (e1.value)]) ((out ++ [(TableEntry.mk (spec_l4Copy e1.name) e1.value)]) : List TableEntry)]) rfl ?_
  refine R0 ?_
  refine WX.see rfl rfl rfl (fun _ hΓ => looks_arith rfl rfl rfl rfl (by unfold I64; first | omega | (simp only [List.length_take] at *; omega))) ?_
  refine R0 ?_
  refine WX.turn [7] 1 rfl (fun _ h => h) rfl ?_
  exact WX.iter (p6, c4, (xsout ++ [.slice p3 (((spec_l4Copy e1.name).parts).length) c2, .int .i64 (e1.value)]), ((out ++ [(TableEntry.mk (spec_l4Copy e1.name) e1.value)]) : List TableEntry), i + 1) ⟨(by omega), (all_app v2 (all_cons (α := TableEntry) (And.intro hq1 (ok_TableEntry ok1).2) (fun a ha => by cases ha))), (by first | assumption | omega | (simp; omega)), (by rw [v4, drop_get e1h]; simp only [spec_l6Copy_L1, ct, cf])⟩ (by first | (dsimp only; omega) | omega) (.cons rfl (.cons rfl (.cons rfl (.nil)))) .nil (.cons rfl (.nil)) [0, 1] rfl
 ·skip
  have h1d := B.df h1
  refine R0 ?_
  have hX1 : spec_l6Copy_L1 l ([] : List TableEntry) = ((out) : List TableEntry) := by rw [v4, List.drop_eq_nil_of_le (show (l).length ≤ i by omega)]; simp only [spec_l6Copy_L1, ct, cf]
  refine WX.seal 6 1 8 rfl rfl rfl rfl rfl ?_
  have hP1 : spec_l6Copy l = out := by simp only [spec_l6Copy, hX1, ct, cf]
  refine R1 ?_
  intro w1 G bs hI hΓ
  rw [hP1]
  exact Post.of [9] (pout, cout) hI hΓ rfl rfl rfl (okl_mk (by omega) v2 : GoT.ok n (out : List TableEntry))
theorem f79 (w : World) (n : Nat) (hn : n + 0 ≤ 9) (e_ : TableEntry) (K0 : Option Addr) (M0 : Nat) (N0 : RdSl (hp w) K0 M0 e_.name.parts) (n_ : Name) (bn_ : Addr) (hn_ : RdSl (hp w) (some bn_) 1 [n_]) (hoke_ : GoT.ok n e_) (hokn_ : GoT.ok n n_) :
  Does Try.prog 79 #[.agg #[.slice K0 ((e_.name.parts).length) M0, .int .i64 (e_.value)], .pointer (some bn_)] w emp (fun (rv : Value) (_ : World) => rv = .bool (impl_PutEntry_c1 n_ e_) ∧ True) := by
 have hbP := bd_pos n
 have hbB := bd_big (n := n) (by omega)
 refine WX.enter (tt := tt) (Γ := [(0, MF.rs .stb K0 M0 e_.name.parts), (1, MF.rs .stb (some bn_) 1 ([n_]))]) Try.func79 rfl (by kernel_rfl) rfl (allS_cons rfl N0 (allS_cons rfl hn_ allS_nil)) ?_
 have n_h : ([n_] : List Name)[0]? = some n_ := rfl
 refine WX.slot 1 (y := .e (some bn_) 0 1 0) rfl (fun _ => cap_eq) ?_
 refine R0 ?_
 refine WX.ldE 1 2 n_ ttOk rfl rfl rfl rfl rfl rfl rfl rfl n_h (fun _ => rfl) (fun _ => rfl) ?_
 rintro ⟨p1, c1⟩
 refine WX.callV rfl rfl rfl rfl rfl (fun _ => rfl) rfl (fun w G bs hI hΓ => f80 w n (by omega) e_.name K0 M0 (hΓ.get 0 rfl) n_ p1 c1 (hΓ.get 2 rfl) ((ok_TableEntry hoke_).1) hokn_) ?_
 intro hq1
 refine R0 ?_
 have hP1 : impl_PutEntry_c1 n_ e_ = (decide ((impl_CompareNames e_.name n_) > 0)) := by simp only [impl_PutEntry_c1, ct, cf]
 exact R3 hP1
theorem f48 (w : World) (n : Nat) (hn : n + 1 ≤ 9) (l : (List TableEntry)) (pl : Option Addr) (cl : Nat) (N0 : RdSl (hp w) pl cl l) (n_ : Name) (K1 : Option Addr) (M1 : Nat) (N1 : RdSl (hp w) K1 M1 n_.parts) (v : Int) (hokl : GoT.ok n l) (hokn_ : GoT.ok n n_) (hokv : GoT.ok n v) :
  Does Try.prog 48 #[.slice pl ((l).length) cl, .agg #[.slice K1 ((n_.parts).length) M1], .int .i64 (v)] w emp (Post w emp (fun x : GoT.X ((List TableEntry)) => .tuple #[(GoT.sh ((impl_PutEntry l n_ v).1 : (List TableEntry)) x).headD undef, .bool ((impl_PutEntry l n_ v).2)]) (fun x => GoT.oa ((impl_PutEntry l n_ v).1 : (List TableEntry)) x) (GoT.ok (n + 1) ((impl_PutEntry l n_ v).1 : (List TableEntry)))) := by
 have hbP := bd_pos n
 have hbS0 : bd (n + 1) = 4 * bd (n) := bd_succ (n := n) (by omega)
 have hbB := bd_big (n := (n + 1)) (by omega)
 have hbM := bd_mono (show n ≤ n + 1 by omega)
 refine WX.enter (tt := tt) (Γ := [(0, MF.rs .stb pl cl l), (1, MF.rs .stb K1 M1 n_.parts)]) Try.func48 rfl (by kernel_rfl) rfl (allS_cons rfl N0 (allS_cons rfl N1 allS_nil)) ?_
 refine R0 ?_
 refine WX.callF 2 (fun _ _ h => GoT.ow_rd h) (fun _ f hf => GoT.fak f hf) rfl rfl rfl rfl rfl (fun _ => rfl) rfl (fun w G bs hI hΓ => f47 w n (by omega) l pl cl (hΓ.get 0 rfl) hokl) (fun _ => rfl) (fun _ => rfl) ?_
 rintro ⟨p1, c1⟩ hq1
 have q1 := len_copyTable l
 refine R0 ?_
 refine WX.callV rfl rfl rfl rfl rfl (fun _ => rfl) rfl (fun w G bs hI hΓ => f77 w n (by omega) l pl cl (hΓ.get 0 rfl) n_ K1 M1 (hΓ.get 1 rfl) hokl hokn_) ?_
 intro hq2
 have q2 := lt_indexOfName l n_
 refine R0 ?_
 refine WX.cases 16 rfl (fun h1 => ?_) (fun h1 => ?_)
 ·skip
  have h1d := B.dt h1
  refine R0 ?_
  have r1 : (l).length ≤ bd n := (okl hokl).1
  have r2 : -9223372036854775808 ≤ (impl_indexOfName l n_) ∧ (impl_indexOfName l n_) ≤ 9223372036854775807 := hq2
  refine WX.slot 18 (y := .v (.int .i64 ((((impl_indexOfName l n_)).toNat : Nat) : Int))) rfl (fun _ => congrArg (Value.int .i64) (show (impl_indexOfName l n_) = ((((impl_indexOfName l n_)).toNat : Nat) : Int) from by omega)) ?_
  refine WX.opn (kk := 2) 501 3 4 rfl rfl rfl ?_
  intro xs1 hx1
  have hr1 : ((impl_indexOfName l n_)).toNat < ((impl_copyTable l)).length := (by first | assumption | omega)
  refine WX.idxR 501 (((impl_indexOfName l n_)).toNat) ttOk rfl rfl rfl rfl rfl rfl rfl rfl rfl hr1 ?_
  rintro ad1 rfl
  refine R0 ?_
  have e1i : ((impl_indexOfName l n_)).toNat < ((impl_copyTable l)).length := (by first | assumption | omega)
  obtain ⟨e1, e1h⟩ : ∃ e1, ((impl_copyTable l))[((impl_indexOfName l n_)).toNat]? = some e1 := ⟨_, List.getElem?_eq_getElem e1i⟩
  have ok1 : GoT.ok n e1 := (okl hq1).2 _ (List.mem_of_getElem? e1h)
  refine WX.opnE (α := TableEntry) (e := e1) 501 4 5 (((impl_indexOfName l n_)).toNat) rfl rfl rfl e1h (fun _ => rfl) (fun _ _ _ => rfl) (fun _ _ _ => rfl) ?_
  rintro A1 B1 ⟨⟨p2, c2⟩, ⟨⟩⟩ hA1 hB1
  refine WX.stA 501 ttOk rfl rfl rfl rfl rfl rfl rfl rfl rfl rfl rfl rfl rfl rfl hA1 hr1 rfl rfl rfl rfl (by simp) rfl ?_
  refine R0 ?_
  refine WX.turn [6, 7, 8] 9 rfl (fun h hs => cl_elem (α := TableEntry) (e := (TableEntry.mk e1.name v)) (x := ((p2, c2), ())) e1i hs) (gs := [MF.ol (A1 ++ [.slice p2 ((e1.name.parts).length) c2, .int .i64 (v)] ++ B1) ((impl_copyTable l).set (((impl_indexOfName l n_)).toNat) (TableEntry.mk e1.name v))]) rfl ?_
  refine WX.seal 501 9 10 rfl rfl (show ((impl_copyTable l)).length = (((impl_copyTable l).set (((impl_indexOfName l n_)).toNat) (TableEntry.mk e1.name v))).length from by first | (simp; done) | (simp; omega)) rfl rfl ?_
  refine WX.slot 37 (y := .v (.slice (some ad1) (((impl_copyTable l).set (((impl_indexOfName l n_)).toNat) (TableEntry.mk e1.name v))).length c1)) rfl (fun _ => by show (Value.slice (some ad1) (((impl_copyTable l)).length) c1 : Value) = Value.slice (some ad1) (((impl_copyTable l).set (((impl_indexOfName l n_)).toNat) (TableEntry.mk e1.name v))).length c1; rw [(show ((impl_copyTable l)).length = (((impl_copyTable l).set (((impl_indexOfName l n_)).toNat) (TableEntry.mk e1.name v))).length from by first | (simp; done) | (simp; omega))]) ?_
  refine WX.slot 17 (y := .v (.slice (some ad1) (((impl_copyTable l).set (((impl_indexOfName l n_)).toNat) (TableEntry.mk e1.name v))).length c1)) rfl (fun _ => by show (Value.slice (some ad1) (((impl_copyTable l)).length) c1 : Value) = Value.slice (some ad1) (((impl_copyTable l).set (((impl_indexOfName l n_)).toNat) (TableEntry.mk e1.name v))).length c1; rw [(show ((impl_copyTable l)).length = (((impl_copyTable l).set (((impl_indexOfName l n_)).toNat) (TableEntry.mk e1.name v))).length from by first | (simp; done) | (simp; omega))]) ?_
  refine WX.slot 8 (y := .v (.slice (some ad1) (((impl_copyTable l).set (((impl_indexOfName l n_)).toNat) (TableEntry.mk e1.name v))).length c1)) rfl (fun _ => by show (Value.slice (some ad1) (((impl_copyTable l)).length) c1 : Value) = Value.slice (some ad1) (((impl_copyTable l).set (((impl_indexOfName l n_)).toNat) (TableEntry.mk e1.name v))).length c1; rw [(show ((impl_copyTable l)).length = (((impl_copyTable l).set (((impl_indexOfName l n_)).toNat) (TableEntry.mk e1.name v))).length from by first | (simp; done) | (simp; omega))]) ?_
  refine WX.slot 11 (y := .v (.slice (some ad1) (((impl_copyTable l).set (((impl_indexOfName l n_)).toNat) (TableEntry.mk e1.name v))).length c1)) rfl (fun _ => by show (Value.slice (some ad1) (((impl_copyTable l)).length) c1 : Value) = Value.slice (some ad1) (((impl_copyTable l).set (((impl_indexOfName l n_)).toNat) (TableEntry.mk e1.name v))).length c1; rw [(show ((impl_copyTable l)).length = (((impl_copyTable l).set (((impl_indexOfName l n_)).toNat) (TableEntry.mk e1.name v))).length from by first | (simp; done) | (simp; omega))]) ?_
  have r3 : -9223372036854775808 ≤ v ∧ v ≤ 9223372036854775807 := hokv
  have r4 : (impl_copyTable l).length ≤ bd n := (okl hq1).1
  refine WX.callV rfl rfl rfl rfl rfl (fun _ => rfl) rfl (fun w G bs hI hΓ => f61 w n (by omega) ((impl_copyTable l).set (((impl_indexOfName l n_)).toNat) (TableEntry.mk e1.name v)) (some ad1) c1 (hΓ.get 10 rfl) (okl_mk (by simp; omega) (all_set (okl hq1).2 (show GoT.ok n ((TableEntry.mk e1.name v) : TableEntry) from (And.intro (ok_TableEntry ok1).1 hokv))) : GoT.ok n (((impl_copyTable l).set (((impl_indexOfName l n_)).toNat) (TableEntry.mk e1.name v)) : List TableEntry))) ?_
  intro hq3
  refine R0 ?_
  refine WX.cases 39 rfl (fun h2 => ?_) (fun h2 => ?_)
  ·skip
   have h2d := (B.nt h2)
   refine R0 ?_
   refine WX.callF 12 (fun _ _ h => GoT.ow_rd h) (fun _ f hf => GoT.fak f hf) rfl rfl rfl rfl rfl (fun _ => rfl) rfl (fun w G bs hI hΓ => f47 w n (by omega) l pl cl (hΓ.get 0 rfl) hokl) (fun _ => rfl) (fun _ => rfl) ?_
   rintro ⟨p3, c3⟩ hq4
   have q3 := len_copyTable l
   refine R0 ?_
   have hP1 : impl_PutEntry l n_ v = (impl_copyTable l, false) := by simp only [impl_PutEntry, h1, e1h, h2, ct, cf]
   refine R1 ?_
   intro w1 G bs hI hΓ
   rw [hP1]
   exact Post.of [13] (p3, c3) hI hΓ rfl rfl rfl (GoT.okm (α := List TableEntry) (by omega) hq4)
  ·skip
   have h2d := (B.nf h2)
   refine R0 ?_
   have hP2 : impl_PutEntry l n_ v = ((impl_copyTable l).set (((impl_indexOfName l n_)).toNat) (TableEntry.mk e1.name v), true) := by simp only [impl_PutEntry, h1, e1h, h2, ct, cf]
   refine R1 ?_
   intro w1 G bs hI hΓ
   rw [hP2]
   exact Post.of [11] ((some ad1), c1) hI hΓ rfl rfl rfl (okl_mk (by simp; omega) (fun a ha => GoT.okm (by omega) ((all_set (okl hq1).2 (show GoT.ok n ((TableEntry.mk e1.name v) : TableEntry) from (And.intro (ok_TableEntry ok1).1 hokv))) a ha)) : GoT.ok (n + 1) (((impl_copyTable l).set (((impl_indexOfName l n_)).toNat) (TableEntry.mk e1.name v)) : List TableEntry))
 ·skip
  have h1d := B.df h1
  refine R0 ?_
  refine WX.callV rfl rfl rfl rfl rfl (fun _ => rfl) rfl (fun w G bs hI hΓ => f78 w n (by omega) l pl cl (hΓ.get 0 rfl) 79 [Value.pointer (some ⟨bs 4, 0, none⟩)] (fun e0_ => (impl_PutEntry_c1 n_ e0_)) (fun w1_ hb_ e0_ x0_ hk0_ hx0_ => f79 w1_ n (by omega) e0_ x0_.1.1 x0_.1.2 (hx0_ _ List.mem_cons_self) n_ ⟨bs 4, 0, none⟩ ((rd_box (α := Name) (a := n_) (x := (K1, M1)) (hI.loc 4 _ rfl).1 (All.cons (hΓ.get 1 rfl : RdSl _ _ _ _) All.nil)).mono (kp_le hb_)) hk0_ hokn_) hokl) ?_
  intro hq5
  have q4 := ltI_slices_IndexFunc_TableEntry l (fun e0_ => (impl_PutEntry_c1 n_ e0_))
  refine R0 ?_
  refine WX.cases 26 rfl (fun h3 => ?_) (fun h3 => ?_)
  ·skip
   have h3d := B.dt h3
   refine R0 ?_
   refine WX.callF 14 (fun _ _ h => GoT.ow_rd h) (fun _ f hf => GoT.fak f hf) rfl rfl rfl rfl rfl (fun _ => rfl) rfl (fun w G bs hI hΓ => f53 w n (by omega) n_ K1 M1 (hΓ.get 1 rfl) hokn_) (fun _ => rfl) (fun _ => rfl) ?_
   rintro ⟨p4, c4⟩ hq6
   refine R0 ?_
   refine WX.bld ttOk rfl rfl rfl rfl rfl rfl rfl ?_
   intro p5
   refine WX.turn [15] 16 rfl (fun h hs => ol_one (α := TableEntry) (a := (TableEntry.mk (impl_copyName n_) v)) (x := ((p4, c4), ())) hs) (gs := [MF.ol [.slice p4 (((impl_copyName n_).parts).length) c4, .int .i64 (v)] ([(TableEntry.mk (impl_copyName n_) v)] : List TableEntry)]) rfl ?_
   refine WX.seal 35 16 17 rfl rfl rfl rfl rfl ?_
   have r5 : (l).length ≤ bd n := (okl hokl).1
   have r6 : -9223372036854775808 ≤ v ∧ v ≤ 9223372036854775807 := hokv
   refine WX.callN [3, 18] 19 rfl (fun _ _ h => GoT.ow_rd h) (fun _ f hf => GoT.fak f hf) rfl rfl rfl rfl rfl (fun _ => rfl) rfl (fun w G bs H hI hHG hH hs hΓ => f81 w n (by omega) (impl_copyTable l) p1 c1 (((l).length : Nat) : Int) ([(TableEntry.mk (impl_copyName n_) v)]) p5 1 H hH hs ⟨by omega, by omega⟩ (by simp) hq1 (show I64 (((l).length : Nat) : Int) from (by unfold I64; omega)) (okl_mk (by simp; omega) (all_cons (α := TableEntry) (And.intro hq6 hokv) (fun a ha => by cases ha)) : GoT.ok n ([(TableEntry.mk (impl_copyName n_) v)] : List TableEntry))) (fun _ => rfl) (fun _ => rfl) ?_
   rintro ⟨p6, c5⟩ hq7
   have q5 := len_slices_Insert_TableEntry (impl_copyTable l) (((l).length : Nat) : Int) ([(TableEntry.mk (impl_copyName n_) v)])
   refine R0 ?_
   refine WX.callV rfl rfl rfl rfl rfl (fun _ => rfl) rfl (fun w G bs hI hΓ => f61 w (n + 1) (by omega) (slices_Insert_TableEntry (impl_copyTable l) (((l).length : Nat) : Int) ([(TableEntry.mk (impl_copyName n_) v)])) p6 c5 (hΓ.get 19 rfl) hq7) ?_
   intro hq8
   refine R0 ?_
   refine WX.cases 39 rfl (fun h4 => ?_) (fun h4 => ?_)
   ·skip
    have h4d := (B.nt h4)
    refine R0 ?_
    refine WX.callF 21 (fun _ _ h => GoT.ow_rd h) (fun _ f hf => GoT.fak f hf) rfl rfl rfl rfl rfl (fun _ => rfl) rfl (fun w G bs hI hΓ => f47 w n (by omega) l pl cl (hΓ.get 0 rfl) hokl) (fun _ => rfl) (fun _ => rfl) ?_
    rintro ⟨p7, c6⟩ hq9
    have q6 := len_copyTable l
    refine R0 ?_
    have hP3 : impl_PutEntry l n_ v = (impl_copyTable l, false) := by simp only [impl_PutEntry, h1, h3, h4, ct, cf]
    refine R1 ?_
    intro w1 G bs hI hΓ
    rw [hP3]
    exact Post.of [22] (p7, c6) hI hΓ rfl rfl rfl (GoT.okm (α := List TableEntry) (by omega) hq9)
   ·skip
    have h4d := (B.nf h4)
    refine R0 ?_
    have hP4 : impl_PutEntry l n_ v = (slices_Insert_TableEntry (impl_copyTable l) (((l).length : Nat) : Int) ([(TableEntry.mk (impl_copyName n_) v)]), true) := by simp only [impl_PutEntry, h1, h3, h4, ct, cf]
    refine R1 ?_
    intro w1 G bs hI hΓ
    rw [hP4]
    exact Post.of [20] (p6, c5) hI hΓ rfl rfl rfl hq7
  ·skip
   have h3d := B.df h3
   refine R0 ?_
   refine WX.callF 23 (fun _ _ h => GoT.ow_rd h) (fun _ f hf => GoT.fak f hf) rfl rfl rfl rfl rfl (fun _ => rfl) rfl (fun w G bs hI hΓ => f53 w n (by omega) n_ K1 M1 (hΓ.get 1 rfl) hokn_) (fun _ => rfl) (fun _ => rfl) ?_
   rintro ⟨p8, c7⟩ hq10
   refine R0 ?_
   refine WX.bld ttOk rfl rfl rfl rfl rfl rfl rfl ?_
   intro p9
   refine WX.turn [24] 25 rfl (fun h hs => ol_one (α := TableEntry) (a := (TableEntry.mk (impl_copyName n_) v)) (x := ((p8, c7), ())) hs) (gs := [MF.ol [.slice p8 (((impl_copyName n_).parts).length) c7, .int .i64 (v)] ([(TableEntry.mk (impl_copyName n_) v)] : List TableEntry)]) rfl ?_
   refine WX.seal 35 25 26 rfl rfl rfl rfl rfl ?_
   have r7 : -9223372036854775808 ≤ v ∧ v ≤ 9223372036854775807 := hokv
   refine WX.callN [3, 27] 28 rfl (fun _ _ h => GoT.ow_rd h) (fun _ f hf => GoT.fak f hf) rfl rfl rfl rfl rfl (fun _ => rfl) rfl (fun w G bs H hI hHG hH hs hΓ => f81 w n (by omega) (impl_copyTable l) p1 c1 (slices_IndexFunc_TableEntry l (fun e0_ => (impl_PutEntry_c1 n_ e0_))) ([(TableEntry.mk (impl_copyName n_) v)]) p9 1 H hH hs ⟨by omega, by omega⟩ (by simp) hq1 hq5 (okl_mk (by simp; omega) (all_cons (α := TableEntry) (And.intro hq10 hokv) (fun a ha => by cases ha)) : GoT.ok n ([(TableEntry.mk (impl_copyName n_) v)] : List TableEntry))) (fun _ => rfl) (fun _ => rfl) ?_
   rintro ⟨p10, c8⟩ hq11
   have q7 := len_slices_Insert_TableEntry (impl_copyTable l) (slices_IndexFunc_TableEntry l (fun e0_ => (impl_PutEntry_c1 n_ e0_))) ([(TableEntry.mk (impl_copyName n_) v)])
   refine R0 ?_
   refine WX.callV rfl rfl rfl rfl rfl (fun _ => rfl) rfl (fun w G bs hI hΓ => f61 w (n + 1) (by omega) (slices_Insert_TableEntry (impl_copyTable l) (slices_IndexFunc_TableEntry l (fun e0_ => (impl_PutEntry_c1 n_ e0_))) ([(TableEntry.mk (impl_copyName n_) v)])) p10 c8 (hΓ.get 28 rfl) hq11) ?_
   intro hq12
   refine R0 ?_
   refine WX.cases 39 rfl (fun h5 => ?_) (fun h5 => ?_)
   ·skip
    have h5d := (B.nt h5)
    refine R0 ?_
    refine WX.callF 30 (fun _ _ h => GoT.ow_rd h) (fun _ f hf => GoT.fak f hf) rfl rfl rfl rfl rfl (fun _ => rfl) rfl (fun w G bs hI hΓ => f47 w n (by omega) l pl cl (hΓ.get 0 rfl) hokl) (fun _ => rfl) (fun _ => rfl) ?_
    rintro ⟨p11, c9⟩ hq13
    have q8 := len_copyTable l
    refine R0 ?_
    have hP5 : impl_PutEntry l n_ v = (impl_copyTable l, false) := by simp only [impl_PutEntry, h1, h3, h5, ct, cf]
    refine R1 ?_
    intro w1 G bs hI hΓ
    rw [hP5]
    exact Post.of [31] (p11, c9) hI hΓ rfl rfl rfl (GoT.okm (α := List TableEntry) (by omega) hq13)
   ·skip
    have h5d := (B.nf h5)
    refine R0 ?_
    have hP6 : impl_PutEntry l n_ v = (slices_Insert_TableEntry (impl_copyTable l) (slices_IndexFunc_TableEntry l (fun e0_ => (impl_PutEntry_c1 n_ e0_))) ([(TableEntry.mk (impl_copyName n_) v)]), true) := by simp only [impl_PutEntry, h1, h3, h5, ct, cf]
    refine R1 ?_
    intro w1 G bs hI hΓ
    rw [hP6]
    exact Post.of [29] (p10, c8) hI hΓ rfl rfl rfl hq11
theorem f50 (w : World) (n : Nat) (hn : n + 3 ≤ 9) (l : (List TableEntry)) (pl : Option Addr) (cl : Nat) (N0 : RdSl (hp w) pl cl l) (n_ : Name) (K1 : Option Addr) (M1 : Nat) (N1 : RdSl (hp w) K1 M1 n_.parts) (v : Int) (hokl : GoT.ok n l) (hokn_ : GoT.ok n n_) (hokv : GoT.ok n v) :
  Does Try.prog 50 #[.slice pl ((l).length) cl, .agg #[.slice K1 ((n_.parts).length) M1], .int .i64 (v)] w emp (Post w emp (fun x : GoT.X ((List TableEntry)) => .tuple #[(GoT.sh ((spec_PutEntry l n_ v).1 : (List TableEntry)) x).headD undef, .bool ((spec_PutEntry l n_ v).2)]) (fun x => GoT.oa ((spec_PutEntry l n_ v).1 : (List TableEntry)) x) (GoT.ok (n + 3) ((spec_PutEntry l n_ v).1 : (List TableEntry)))) := by
 have hbP := bd_pos n
 have hbS0 : bd (n + 1) = 4 * bd (n) := bd_succ (n := n) (by omega)
 have hbS1 : bd (n + 2) = 4 * bd (n + 1) := bd_succ (n := n + 1) (by omega)
 have hbS2 : bd (n + 3) = 4 * bd (n + 2) := bd_succ (n := n + 2) (by omega)
 have hbB := bd_big (n := (n + 3)) (by omega)
 have hbM := bd_mono (show n ≤ n + 3 by omega)
 refine WX.enter (tt := tt) (Γ := [(0, MF.rs .stb pl cl l), (1, MF.rs .stb K1 M1 n_.parts)]) Try.func50 rfl (by kernel_rfl) rfl (allS_cons rfl N0 (allS_cons rfl N1 allS_nil)) ?_
 refine R0 ?_
 refine WX.callF 2 (fun _ _ h => GoT.ow_rd h) (fun _ f hf => GoT.fak f hf) rfl rfl rfl rfl rfl (fun _ => rfl) rfl (fun w G bs hI hΓ => f49 w n (by omega) l pl cl (hΓ.get 0 rfl) hokl) (fun _ => rfl) (fun _ => rfl) ?_
 rintro ⟨p1, c1⟩ hq1
 have q1 := len_l6Copy l
 refine R0 ?_
 refine WX.callV rfl rfl rfl rfl rfl (fun _ => rfl) rfl (fun w G bs hI hΓ => f82 w n (by omega) l pl cl (hΓ.get 0 rfl) n_ K1 M1 (hΓ.get 1 rfl) hokl hokn_) ?_
 intro hq2
 have q2 := lt_l6Find l n_
 refine R0 ?_
 refine WX.cases 17 rfl (fun h1 => ?_) (fun h1 => ?_)
 ·skip
  have h1d := B.dt h1
  refine R0 ?_
  have r1 : (l).length ≤ bd n := (okl hokl).1
  have r2 : -9223372036854775808 ≤ (spec_l6Find l n_) ∧ (spec_l6Find l n_) ≤ 9223372036854775807 := hq2
  refine WX.slot 19 (y := .v (.int .i64 ((((spec_l6Find l n_)).toNat : Nat) : Int))) rfl (fun _ => congrArg (Value.int .i64) (show (spec_l6Find l n_) = ((((spec_l6Find l n_)).toNat : Nat) : Int) from by omega)) ?_
  refine WX.opn (kk := 2) 501 3 4 rfl rfl rfl ?_
  intro xs1 hx1
  have hr1 : ((spec_l6Find l n_)).toNat < ((spec_l6Copy l)).length := (by first | assumption | omega)
  refine WX.idxR 501 (((spec_l6Find l n_)).toNat) ttOk rfl rfl rfl rfl rfl rfl rfl rfl rfl hr1 ?_
  rintro ad1 rfl
  refine R0 ?_
  have e1i : ((spec_l6Find l n_)).toNat < ((spec_l6Copy l)).length := (by first | assumption | omega)
  obtain ⟨e1, e1h⟩ : ∃ e1, ((spec_l6Copy l))[((spec_l6Find l n_)).toNat]? = some e1 := ⟨_, List.getElem?_eq_getElem e1i⟩
  have ok1 : GoT.ok n e1 := (okl hq1).2 _ (List.mem_of_getElem? e1h)
  refine WX.opnE (α := TableEntry) (e := e1) 501 4 5 (((spec_l6Find l n_)).toNat) rfl rfl rfl e1h (fun _ => rfl) (fun _ _ _ => rfl) (fun _ _ _ => rfl) ?_
  rintro A1 B1 ⟨⟨p2, c2⟩, ⟨⟩⟩ hA1 hB1
  refine WX.stA 501 ttOk rfl rfl rfl rfl rfl rfl rfl rfl rfl rfl rfl rfl rfl rfl hA1 hr1 rfl rfl rfl rfl (by simp) rfl ?_
  refine R0 ?_
  refine WX.turn [6, 7, 8] 9 rfl (fun h hs => cl_elem (α := TableEntry) (e := (TableEntry.mk e1.name v)) (x := ((p2, c2), ())) e1i hs) (gs := [MF.ol (A1 ++ [.slice p2 ((e1.name.parts).length) c2, .int .i64 (v)] ++ B1) ((spec_l6Copy l).set (((spec_l6Find l n_)).toNat) (TableEntry.mk e1.name v))]) rfl ?_
  refine WX.seal 501 9 10 rfl rfl (show ((spec_l6Copy l)).length = (((spec_l6Copy l).set (((spec_l6Find l n_)).toNat) (TableEntry.mk e1.name v))).length from by first | (simp; done) | (simp; omega)) rfl rfl ?_
  refine WX.slot 55 (y := .v (.slice (some ad1) (((spec_l6Copy l).set (((spec_l6Find l n_)).toNat) (TableEntry.mk e1.name v))).length c1)) rfl (fun _ => by show (Value.slice (some ad1) (((spec_l6Copy l)).length) c1 : Value) = Value.slice (some ad1) (((spec_l6Copy l).set (((spec_l6Find l n_)).toNat) (TableEntry.mk e1.name v))).length c1; rw [(show ((spec_l6Copy l)).length = (((spec_l6Copy l).set (((spec_l6Find l n_)).toNat) (TableEntry.mk e1.name v))).length from by first | (simp; done) | (simp; omega))]) ?_
  refine WX.slot 18 (y := .v (.slice (some ad1) (((spec_l6Copy l).set (((spec_l6Find l n_)).toNat) (TableEntry.mk e1.name v))).length c1)) rfl (fun _ => by show (Value.slice (some ad1) (((spec_l6Copy l)).length) c1 : Value) = Value.slice (some ad1) (((spec_l6Copy l).set (((spec_l6Find l n_)).toNat) (TableEntry.mk e1.name v))).length c1; rw [(show ((spec_l6Copy l)).length = (((spec_l6Copy l).set (((spec_l6Find l n_)).toNat) (TableEntry.mk e1.name v))).length from by first | (simp; done) | (simp; omega))]) ?_
  refine WX.slot 8 (y := .v (.slice (some ad1) (((spec_l6Copy l).set (((spec_l6Find l n_)).toNat) (TableEntry.mk e1.name v))).length c1)) rfl (fun _ => by show (Value.slice (some ad1) (((spec_l6Copy l)).length) c1 : Value) = Value.slice (some ad1) (((spec_l6Copy l).set (((spec_l6Find l n_)).toNat) (TableEntry.mk e1.name v))).length c1; rw [(show ((spec_l6Copy l)).length = (((spec_l6Copy l).set (((spec_l6Find l n_)).toNat) (TableEntry.mk e1.name v))).length from by first | (simp; done) | (simp; omega))]) ?_
  refine WX.slot 12 (y := .v (.slice (some ad1) (((spec_l6Copy l).set (((spec_l6Find l n_)).toNat) (TableEntry.mk e1.name v))).length c1)) rfl (fun _ => by show (Value.slice (some ad1) (((spec_l6Copy l)).length) c1 : Value) = Value.slice (some ad1) (((spec_l6Copy l).set (((spec_l6Find l n_)).toNat) (TableEntry.mk e1.name v))).length c1; rw [(show ((spec_l6Copy l)).length = (((spec_l6Copy l).set (((spec_l6Find l n_)).toNat) (TableEntry.mk e1.name v))).length from by first | (simp; done) | (simp; omega))]) ?_
  have r3 : -9223372036854775808 ≤ v ∧ v ≤ 9223372036854775807 := hokv
  have r4 : (spec_l6Copy l).length ≤ bd n := (okl hq1).1
  refine WX.callV rfl rfl rfl rfl rfl (fun _ => rfl) rfl (fun w G bs hI hΓ => f65 w n (by omega) ((spec_l6Copy l).set (((spec_l6Find l n_)).toNat) (TableEntry.mk e1.name v)) (some ad1) c1 (hΓ.get 10 rfl) (okl_mk (by simp; omega) (all_set (okl hq1).2 (show GoT.ok n ((TableEntry.mk e1.name v) : TableEntry) from (And.intro (ok_TableEntry ok1).1 hokv))) : GoT.ok n (((spec_l6Copy l).set (((spec_l6Find l n_)).toNat) (TableEntry.mk e1.name v)) : List TableEntry))) ?_
  intro hq3
  refine R0 ?_
  refine WX.cases 57 rfl (fun h2 => ?_) (fun h2 => ?_)
  ·skip
   have h2d := (B.nt h2)
   refine R0 ?_
   refine WX.callF 12 (fun _ _ h => GoT.ow_rd h) (fun _ f hf => GoT.fak f hf) rfl rfl rfl rfl rfl (fun _ => rfl) rfl (fun w G bs hI hΓ => f49 w n (by omega) l pl cl (hΓ.get 0 rfl) hokl) (fun _ => rfl) (fun _ => rfl) ?_
   rintro ⟨p3, c3⟩ hq4
   have q3 := len_l6Copy l
   refine R0 ?_
   have hP1 : spec_PutEntry l n_ v = (spec_l6Copy l, false) := by simp only [spec_PutEntry, h1, e1h, h2, ct, cf]
   refine R1 ?_
   intro w1 G bs hI hΓ
   rw [hP1]
   exact Post.of [13] (p3, c3) hI hΓ rfl rfl rfl (GoT.okm (α := List TableEntry) (by omega) hq4)
  ·skip
   have h2d := (B.nf h2)
   refine R0 ?_
   have hP2 : spec_PutEntry l n_ v = ((spec_l6Copy l).set (((spec_l6Find l n_)).toNat) (TableEntry.mk e1.name v), true) := by simp only [spec_PutEntry, h1, e1h, h2, ct, cf]
   refine R1 ?_
   intro w1 G bs hI hΓ
   rw [hP2]
   exact Post.of [11] ((some ad1), c1) hI hΓ rfl rfl rfl (okl_mk (by simp; omega) (fun a ha => GoT.okm (by omega) ((all_set (okl hq1).2 (show GoT.ok n ((TableEntry.mk e1.name v) : TableEntry) from (And.intro (ok_TableEntry ok1).1 hokv))) a ha)) : GoT.ok (n + 3) (((spec_l6Copy l).set (((spec_l6Find l n_)).toNat) (TableEntry.mk e1.name v)) : List TableEntry))
 ·skip
  have h1d := B.df h1
  refine R0 ?_
  have hL0 : (spec_l6Copy l).length ≤ bd n := (okl hq1).1
  refine WX.loop (ι := Nat) ⟨fun i => (i ≤ (spec_l6Copy l).length) ∧ (spec_PutEntry_L1 l n_ 0 = spec_PutEntry_L1 l n_ i), fun i => (spec_l6Copy l).length - i, fun i => [(9, .v (.int .i64 (((i : Nat) : Int)))), (8, .v (.slice p1 (((spec_l6Copy l)).length) c1)), (4, .p 4 0), (0, .v (.slice pl ((l).length) cl)), (2, .v (.int .i64 (v)))], fun i => [(4, ⟨41, [.slice K1 ((n_.parts).length) M1]⟩)], fun i => [], fun i => [(0, MF.rs .stb pl cl l), (1, MF.rs .stb K1 M1 n_.parts), (3, MF.os p1 c1 (spec_l6Copy l))]⟩ 0 ⟨(Nat.zero_le _), rfl⟩
   (.cons rfl (.cons rfl (.cons rfl (.cons rfl (.cons rfl (.nil)))))) (.cons rfl (.nil)) .nil [0, 1, 3] rfl ?_
  rintro i hpre
  have hpre_ : (i ≤ (spec_l6Copy l).length) ∧ (spec_PutEntry_L1 l n_ 0 = spec_PutEntry_L1 l n_ i) := hpre
  clear hpre
  obtain ⟨v1, v2⟩ := hpre_
  refine R0 ?_
  refine WX.der 14 (MF.rs .der p1 c1 (spec_l6Copy l)) rfl (fun _ hΓ => (hΓ.get 3 rfl : OwSl _ _ _ _).rd) ?_
  refine WX.draw [] mixed ?_
  intro bs G0 hΓ0
  refine DX.takes (fuel := 9) ttOk [(0, true), (1, true), (2, true), (3, true), (4, true)] (by kernel_rfl) rfl ?_
  refine DX.cases 27 rfl (fun h3 => ?_) (fun h3 => ?_)
  ·skip
   have h3d := B.dt h3
   refine DX.takes (fuel := 7) ttOk [(5, true), (6, true)] (by kernel_rfl) rfl ?_
   have e2i : i < ((spec_l6Copy l)).length := (by first | assumption | omega)
   obtain ⟨e2, e2h⟩ : ∃ e2, ((spec_l6Copy l))[i]? = some e2 := ⟨_, List.getElem?_eq_getElem e2i⟩
   have ok2 : GoT.ok n e2 := (okl hq1).2 _ (List.mem_of_getElem? e2h)
   refine DX.idx 7 14 i ttOk hΓ0 (by kernel_rfl) rfl rfl rfl rfl rfl rfl rfl rfl rfl rfl rfl e2i ?_
   rintro ad2 rfl
   refine DX.takes (fuel := 5) ttOk [(8, true)] (by kernel_rfl) rfl ?_
   refine DX.ldE 9 14 15 e2 ttOk hΓ0 (by kernel_rfl) rfl rfl rfl rfl rfl rfl rfl rfl e2h (fun _ => rfl) (fun _ => rfl) ?_
   rintro ⟨⟨p4, c4⟩, ⟨⟩⟩
   refine DX.takes (fuel := 3) ttOk [(10, false)] (by kernel_rfl) rfl ?_
   refine DX.callV 11 rfl (by kernel_rfl) rfl rfl rfl rfl rfl rfl (fun _ => rfl) rfl (fun w G bs hI hΓ => f83 w n (by omega) e2.name p4 c4 (hΓ.get 15 rfl) n_ K1 M1 (hΓ.get 1 rfl) ((ok_TableEntry ok2).1) hokn_) ?_
   intro hq5
   refine DX.takes (fuel := 0) ttOk [(12, true), (13, true)] (by kernel_rfl) rfl ?_
   refine DX.tail2 [] rfl rfl (by kernel_rfl) ?_
   refine R0 ?_
   refine WX.cases 36 rfl (fun h4 => ?_) (fun h4 => ?_)
   ·skip
    have h4d := B.dt h4
    refine R0 ?_
    refine WX.see rfl rfl rfl (fun _ hΓ => looks_arith rfl rfl rfl rfl (by unfold I64; first | omega | (simp only [List.length_take] at *; omega))) ?_
    refine R0 ?_
    exact WX.iter (i + 1) ⟨(by omega), (by rw [v2]; rw [spec_PutEntry_L1]; simp only [h3, h3d, e2h, h4, h4d, ct, cf, ↓reduceIte, Bool.false_eq_true])⟩ (by first | (dsimp only; omega) | omega) (.cons rfl (.cons rfl (.cons rfl (.cons rfl (.cons rfl (.nil)))))) (.cons rfl (.nil)) .nil [0, 1, 3] rfl
   ·skip
    have h4d := B.df h4
    refine R0 ?_
    have hX1 : spec_PutEntry_L1 l n_ 0 = i := by rw [v2]; rw [spec_PutEntry_L1]; simp only [h3, h3d, e2h, h4, h4d, ct, cf, ↓reduceIte, Bool.false_eq_true]
    refine WX.callF 16 (fun _ _ h => GoT.ow_rd h) (fun _ f hf => GoT.fak f hf) rfl rfl rfl rfl rfl (fun _ => rfl) rfl (fun w G bs hI hΓ => f54 w n (by omega) n_ K1 M1 (hΓ.get 1 rfl) hokn_) (fun _ => rfl) (fun _ => rfl) ?_
    rintro ⟨p5, c5⟩ hq6
    refine R0 ?_
    refine WX.opn (kk := 2) 502 3 18 rfl rfl rfl ?_
    intro xs2 hx2
    refine WX.cap 502 rfl ?_
    intro hcap1
    refine WX.know (fun G hΓ => (hΓ.get 18 rfl : OwL _ _ _).rd.one) ?_
    intro hone1
    refine WX.der 19 (MF.rs .der p5 c5 ((spec_l4Copy n_).parts)) rfl (fun _ hΓ => (hΓ.get 17 rfl : OwSl _ _ _ _).rd) ?_
    refine WX.draw [4, 5, 7, 11, 12] mixed ?_
    intro bs G0 hΓ0
    refine DX.takes (fuel := 11) ttOk [(1, true), (2, true)] (by kernel_rfl) rfl ?_
    have r5 : (l).length ≤ bd n := (okl hokl).1
    have r6 : (spec_l6Copy l).length ≤ bd n := (okl hq1).1
    refine DX.seeP 3 (by kernel_rfl) rfl rfl rfl rfl (looksP_slH i ttOk rfl rfl rfl rfl (by simp) (Nat.le_trans (show i ≤ ((spec_l6Copy l)).length from (by omega)) hcap1)) ?_
    refine DX.takes (fuel := 8) ttOk [(8, true), (9, true)] (by kernel_rfl) rfl ?_
    refine DX.seeP 10 (by kernel_rfl) rfl rfl rfl rfl (looksP_slL i ttOk rfl rfl rfl rfl (by simp) (show i ≤ ((spec_l6Copy l)).length from (by omega))) ?_
    refine DX.toTX ?_
    intro S_
    refine TX.all2 0 5 (by kernel_rfl) ?_ ?_
    ·skip
     refine TS.op 0 rfl (by kernel_rfl) ?_
     refine WX.bld ttOk rfl rfl rfl rfl rfl rfl rfl ?_
     intro p6
     refine R0 ?_
     refine WX.back0 ?_
     refine TX.all2 4 5 (by kernel_rfl) ?_ ?_
     ·skip
      refine TS.op 4 rfl (by kernel_rfl) ?_
      refine WX.free 20 (MF.ol [] ([] : List TableEntry)) rfl ?_
      refine WX.appPre 43 502 i ((List.take i (spec_l6Copy l)) : List TableEntry).length ttOk rfl rfl rfl rfl rfl rfl rfl rfl rfl rfl rfl rfl rfl hone1 (show i ≤ ((spec_l6Copy l)).length from (by omega)) (by have z_ := (show i ≤ ((spec_l6Copy l)).length from (by omega)); first | (simp; done) | (simp only [List.length_append, List.length_cons, List.length_nil, List.length_take, List.length_drop, List.length_set]; omega) | (simp; omega)) (by first | assumption | omega | (simp; omega)) (by first | assumption | omega | (simp; omega)) (fun _ _ => rfl) ?_
      intro p7 c6
      refine WX.turn [18] 21 rfl (fun h hs => ol_split i (show i ≤ ((spec_l6Copy l)).length from (by omega)) hs) (gs := [MF.ol (List.take (i * 2) xs2) (List.take i (spec_l6Copy l)), MF.ol (List.drop (i * 2) xs2) (List.drop i (spec_l6Copy l))]) rfl ?_
      refine WX.turn [20, 21] 23 rfl (fun h hs => ol_app hs) (gs := [MF.ol ([] ++ (List.take (i * 2) xs2)) ((List.take i (spec_l6Copy l)) : List TableEntry)]) rfl ?_
      refine R0 ?_
      refine WX.back0 ?_
      refine TX.tail [5, 6, 7, 11, 12] rfl rfl (by kernel_rfl) ?_
      refine R0 ?_
      refine WX.bld ttOk rfl rfl rfl rfl rfl rfl rfl ?_
      intro p8
      refine WX.turn [17] 24 rfl (fun h hs => ol_one (α := TableEntry) (a := (TableEntry.mk (spec_l4Copy n_) v)) (x := ((p5, c5), ())) hs) (gs := [MF.ol [.slice p5 (((spec_l4Copy n_).parts).length) c5, .int .i64 (v)] ([(TableEntry.mk (spec_l4Copy n_) v)] : List TableEntry)]) rfl ?_
      have r7 : -9223372036854775808 ≤ v ∧ v ≤ 9223372036854775807 := hokv
      refine WX.know (fun G hΓ => (hΓ.get 24 rfl : OwL _ _ _).rd.one) ?_
      intro ho1
      refine WX.appR1 43 49 (((List.take i (spec_l6Copy l)) ++ [(TableEntry.mk (spec_l4Copy n_) v)]) : List TableEntry).length ttOk rfl rfl rfl rfl rfl rfl rfl rfl rfl rfl rfl rfl rfl ho1 (by first | (simp; done) | omega | (simp only [List.length_append, List.length_cons, List.length_nil, List.length_take, List.length_drop, List.length_set]; omega) | (simp; omega)) (by first | assumption | omega | (simp; omega)) (by first | assumption | omega | (simp; omega)) (fun _ _ => rfl) ?_
      intro p9 c7
      refine WX.turn [23, 24] 25 rfl (fun h hs => ol_app hs) (gs := [MF.ol (([] ++ (List.take (i * 2) xs2)) ++ [.slice p5 (((spec_l4Copy n_).parts).length) c5, .int .i64 (v)]) (((List.take i (spec_l6Copy l)) ++ [(TableEntry.mk (spec_l4Copy n_) v)]) : List TableEntry)]) rfl ?_
      refine WX.appSuf 43 502 i ((((List.take i (spec_l6Copy l)) ++ [(TableEntry.mk (spec_l4Copy n_) v)]) ++ (List.drop i (spec_l6Copy l))) : List TableEntry).length ttOk rfl rfl rfl rfl rfl rfl rfl rfl rfl rfl rfl rfl rfl hone1 (show i ≤ ((spec_l6Copy l)).length from (by omega)) (by have z_ := (show i ≤ ((spec_l6Copy l)).length from (by omega)); first | (simp; done) | (simp only [List.length_append, List.length_cons, List.length_nil, List.length_take, List.length_drop, List.length_set]; omega) | (simp; omega)) (by first | assumption | omega | (simp; omega)) (by first | assumption | omega | (simp; omega)) (fun _ _ => rfl) ?_
      intro p10 c8
      refine WX.turn [22] 26 rfl (fun h hs => ol_drop (show i ≤ i by omega) (show i ≤ ((spec_l6Copy l)).length from (by omega)) hs) (gs := [MF.ol (List.drop (i * 2) xs2) (List.drop i (spec_l6Copy l))]) rfl ?_
      refine WX.turn [25, 26] 27 rfl (fun h hs => ol_app hs) (gs := [MF.ol ((([] ++ (List.take (i * 2) xs2)) ++ [.slice p5 (((spec_l4Copy n_).parts).length) c5, .int .i64 (v)]) ++ (List.drop (i * 2) xs2)) ((((List.take i (spec_l6Copy l)) ++ [(TableEntry.mk (spec_l4Copy n_) v)]) ++ (List.drop i (spec_l6Copy l))) : List TableEntry)]) rfl ?_
      refine R0 ?_
      refine WX.seal 43 27 28 rfl rfl rfl rfl rfl ?_
      refine WX.callV rfl rfl rfl rfl rfl (fun _ => rfl) rfl (fun w G bs hI hΓ => f65 w (n + 3) (by omega) (((List.take i (spec_l6Copy l)) ++ [(TableEntry.mk (spec_l4Copy n_) v)]) ++ (List.drop i (spec_l6Copy l))) p10 c8 (hΓ.get 28 rfl) (okl_mk (by first | assumption | omega | (simp; omega)) (fun a ha => GoT.okm (show (n + 2) ≤ (n + 3) by omega) ((all_app (fun a ha => GoT.okm (show (n + 1) ≤ (n + 2) by omega) ((all_app (fun a ha => GoT.okm (show n ≤ (n + 1) by omega) ((fun a ha => (okl hq1).2 a (List.mem_of_mem_take ha)) a ha)) (fun a ha => GoT.okm (by omega) ((all_cons (α := TableEntry) (And.intro hq6 hokv) (fun a ha => by cases ha)) a ha))) a ha)) (fun a ha => GoT.okm (by omega) ((fun a ha => (okl hq1).2 a (List.mem_of_mem_drop ha)) a ha))) a ha)) : GoT.ok (n + 3) ((((List.take i (spec_l6Copy l)) ++ [(TableEntry.mk (spec_l4Copy n_) v)]) ++ (List.drop i (spec_l6Copy l))) : List TableEntry))) ?_
      intro hq7
      refine R0 ?_
      refine WX.cases 57 rfl (fun h5 => ?_) (fun h5 => ?_)
      ·skip
       have h5d := (B.nt h5)
       refine R0 ?_
       refine WX.callF 30 (fun _ _ h => GoT.ow_rd h) (fun _ f hf => GoT.fak f hf) rfl rfl rfl rfl rfl (fun _ => rfl) rfl (fun w G bs hI hΓ => f49 w n (by omega) l pl cl (hΓ.get 0 rfl) hokl) (fun _ => rfl) (fun _ => rfl) ?_
       rintro ⟨p11, c9⟩ hq8
       have q4 := len_l6Copy l
       refine R0 ?_
       have hP3 : spec_PutEntry l n_ v = (spec_l6Copy l, false) := by simp only [spec_PutEntry, h1, hX1, h5, ct, cf]
       refine R1 ?_
       intro w1 G bs hI hΓ
       rw [hP3]
       exact Post.of [31] (p11, c9) hI hΓ rfl rfl rfl (GoT.okm (α := List TableEntry) (by omega) hq8)
      ·skip
       have h5d := (B.nf h5)
       refine R0 ?_
       have hP4 : spec_PutEntry l n_ v = (((List.take i (spec_l6Copy l)) ++ [(TableEntry.mk (spec_l4Copy n_) v)]) ++ (List.drop i (spec_l6Copy l)), true) := by simp only [spec_PutEntry, h1, hX1, h5, ct, cf]
       refine R1 ?_
       intro w1 G bs hI hΓ
       rw [hP4]
       exact Post.of [29] (p10, c8) hI hΓ rfl rfl rfl (okl_mk (by first | assumption | omega | (simp; omega)) (fun a ha => GoT.okm (show (n + 2) ≤ (n + 3) by omega) ((all_app (fun a ha => GoT.okm (show (n + 1) ≤ (n + 2) by omega) ((all_app (fun a ha => GoT.okm (show n ≤ (n + 1) by omega) ((fun a ha => (okl hq1).2 a (List.mem_of_mem_take ha)) a ha)) (fun a ha => GoT.okm (by omega) ((all_cons (α := TableEntry) (And.intro hq6 hokv) (fun a ha => by cases ha)) a ha))) a ha)) (fun a ha => GoT.okm (by omega) ((fun a ha => (okl hq1).2 a (List.mem_of_mem_drop ha)) a ha))) a ha)) : GoT.ok (n + 3) ((((List.take i (spec_l6Copy l)) ++ [(TableEntry.mk (spec_l4Copy n_) v)]) ++ (List.drop i (spec_l6Copy l))) : List TableEntry))
     ·skip
      refine TS.op 5 rfl (by kernel_rfl) ?_
      refine R0 ?_
      refine WX.back0 ?_
      refine TX.all2 4 6 (by kernel_rfl) ?_ ?_
      ·skip
       refine TS.op 4 rfl (by kernel_rfl) ?_
       refine WX.free 32 (MF.ol [] ([] : List TableEntry)) rfl ?_
       refine WX.appPre 43 502 i ((List.take i (spec_l6Copy l)) : List TableEntry).length ttOk rfl rfl rfl rfl rfl rfl rfl rfl rfl rfl rfl rfl rfl hone1 (show i ≤ ((spec_l6Copy l)).length from (by omega)) (by have z_ := (show i ≤ ((spec_l6Copy l)).length from (by omega)); first | (simp; done) | (simp only [List.length_append, List.length_cons, List.length_nil, List.length_take, List.length_drop, List.length_set]; omega) | (simp; omega)) (by first | assumption | omega | (simp; omega)) (by first | assumption | omega | (simp; omega)) (fun _ _ => rfl) ?_
       intro p12 c10
       refine WX.turn [18] 33 rfl (fun h hs => ol_split i (show i ≤ ((spec_l6Copy l)).length from (by omega)) hs) (gs := [MF.ol (List.take (i * 2) xs2) (List.take i (spec_l6Copy l)), MF.ol (List.drop (i * 2) xs2) (List.drop i (spec_l6Copy l))]) rfl ?_
       refine WX.turn [32, 33] 35 rfl (fun h hs => ol_app hs) (gs := [MF.ol ([] ++ (List.take (i * 2) xs2)) ((List.take i (spec_l6Copy l)) : List TableEntry)]) rfl ?_
       refine R0 ?_
       refine WX.back0 ?_
       refine TX.tail [6, 7, 11, 12] rfl rfl (by kernel_rfl) ?_
       refine WX.bld ttOk rfl rfl rfl rfl rfl rfl rfl ?_
       intro p13
       refine WX.turn [17] 36 rfl (fun h hs => ol_one (α := TableEntry) (a := (TableEntry.mk (spec_l4Copy n_) v)) (x := ((p5, c5), ())) hs) (gs := [MF.ol [.slice p5 (((spec_l4Copy n_).parts).length) c5, .int .i64 (v)] ([(TableEntry.mk (spec_l4Copy n_) v)] : List TableEntry)]) rfl ?_
       have r8 : -9223372036854775808 ≤ v ∧ v ≤ 9223372036854775807 := hokv
       refine WX.know (fun G hΓ => (hΓ.get 36 rfl : OwL _ _ _).rd.one) ?_
       intro ho2
       refine WX.appR1 43 49 (((List.take i (spec_l6Copy l)) ++ [(TableEntry.mk (spec_l4Copy n_) v)]) : List TableEntry).length ttOk rfl rfl rfl rfl rfl rfl rfl rfl rfl rfl rfl rfl rfl ho2 (by first | (simp; done) | omega | (simp only [List.length_append, List.length_cons, List.length_nil, List.length_take, List.length_drop, List.length_set]; omega) | (simp; omega)) (by first | assumption | omega | (simp; omega)) (by first | assumption | omega | (simp; omega)) (fun _ _ => rfl) ?_
       intro p14 c11
       refine WX.turn [35, 36] 37 rfl (fun h hs => ol_app hs) (gs := [MF.ol (([] ++ (List.take (i * 2) xs2)) ++ [.slice p5 (((spec_l4Copy n_).parts).length) c5, .int .i64 (v)]) (((List.take i (spec_l6Copy l)) ++ [(TableEntry.mk (spec_l4Copy n_) v)]) : List TableEntry)]) rfl ?_
       refine WX.appSuf 43 502 i ((((List.take i (spec_l6Copy l)) ++ [(TableEntry.mk (spec_l4Copy n_) v)]) ++ (List.drop i (spec_l6Copy l))) : List TableEntry).length ttOk rfl rfl rfl rfl rfl rfl rfl rfl rfl rfl rfl rfl rfl hone1 (show i ≤ ((spec_l6Copy l)).length from (by omega)) (by have z_ := (show i ≤ ((spec_l6Copy l)).length from (by omega)); first | (simp; done) | (simp only [List.length_append, List.length_cons, List.length_nil, List.length_take, List.length_drop, List.length_set]; omega) | (simp; omega)) (by first | assumption | omega | (simp; omega)) (by first | assumption | omega | (simp; omega)) (fun _ _ => rfl) ?_
       intro p15 c12
       refine WX.turn [34] 38 rfl (fun h hs => ol_drop (show i ≤ i by omega) (show i ≤ ((spec_l6Copy l)).length from (by omega)) hs) (gs := [MF.ol (List.drop (i * 2) xs2) (List.drop i (spec_l6Copy l))]) rfl ?_
       refine WX.turn [37, 38] 39 rfl (fun h hs => ol_app hs) (gs := [MF.ol ((([] ++ (List.take (i * 2) xs2)) ++ [.slice p5 (((spec_l4Copy n_).parts).length) c5, .int .i64 (v)]) ++ (List.drop (i * 2) xs2)) ((((List.take i (spec_l6Copy l)) ++ [(TableEntry.mk (spec_l4Copy n_) v)]) ++ (List.drop i (spec_l6Copy l))) : List TableEntry)]) rfl ?_
       refine R0 ?_
       refine WX.seal 43 39 40 rfl rfl rfl rfl rfl ?_
       refine WX.callV rfl rfl rfl rfl rfl (fun _ => rfl) rfl (fun w G bs hI hΓ => f65 w (n + 3) (by omega) (((List.take i (spec_l6Copy l)) ++ [(TableEntry.mk (spec_l4Copy n_) v)]) ++ (List.drop i (spec_l6Copy l))) p15 c12 (hΓ.get 40 rfl) (okl_mk (by first | assumption | omega | (simp; omega)) (fun a ha => GoT.okm (show (n + 2) ≤ (n + 3) by omega) ((all_app (fun a ha => GoT.okm (show (n + 1) ≤ (n + 2) by omega) ((all_app (fun a ha => GoT.okm (show n ≤ (n + 1) by omega) ((fun a ha => (okl hq1).2 a (List.mem_of_mem_take ha)) a ha)) (fun a ha => GoT.okm (by omega) ((all_cons (α := TableEntry) (And.intro hq6 hokv) (fun a ha => by cases ha)) a ha))) a ha)) (fun a ha => GoT.okm (by omega) ((fun a ha => (okl hq1).2 a (List.mem_of_mem_drop ha)) a ha))) a ha)) : GoT.ok (n + 3) ((((List.take i (spec_l6Copy l)) ++ [(TableEntry.mk (spec_l4Copy n_) v)]) ++ (List.drop i (spec_l6Copy l))) : List TableEntry))) ?_
       intro hq9
       refine R0 ?_
       refine WX.cases 57 rfl (fun h6 => ?_) (fun h6 => ?_)
       ·skip
        have h6d := (B.nt h6)
        refine R0 ?_
        refine WX.callF 42 (fun _ _ h => GoT.ow_rd h) (fun _ f hf => GoT.fak f hf) rfl rfl rfl rfl rfl (fun _ => rfl) rfl (fun w G bs hI hΓ => f49 w n (by omega) l pl cl (hΓ.get 0 rfl) hokl) (fun _ => rfl) (fun _ => rfl) ?_
        rintro ⟨p16, c13⟩ hq10
        have q5 := len_l6Copy l
        refine R0 ?_
        have hP5 : spec_PutEntry l n_ v = (spec_l6Copy l, false) := by simp only [spec_PutEntry, h1, hX1, h6, ct, cf]
        refine R1 ?_
        intro w1 G bs hI hΓ
        rw [hP5]
        exact Post.of [43] (p16, c13) hI hΓ rfl rfl rfl (GoT.okm (α := List TableEntry) (by omega) hq10)
       ·skip
        have h6d := (B.nf h6)
        refine R0 ?_
        have hP6 : spec_PutEntry l n_ v = (((List.take i (spec_l6Copy l)) ++ [(TableEntry.mk (spec_l4Copy n_) v)]) ++ (List.drop i (spec_l6Copy l)), true) := by simp only [spec_PutEntry, h1, hX1, h6, ct, cf]
        refine R1 ?_
        intro w1 G bs hI hΓ
        rw [hP6]
        exact Post.of [41] (p15, c12) hI hΓ rfl rfl rfl (okl_mk (by first | assumption | omega | (simp; omega)) (fun a ha => GoT.okm (show (n + 2) ≤ (n + 3) by omega) ((all_app (fun a ha => GoT.okm (show (n + 1) ≤ (n + 2) by omega) ((all_app (fun a ha => GoT.okm (show n ≤ (n + 1) by omega) ((fun a ha => (okl hq1).2 a (List.mem_of_mem_take ha)) a ha)) (fun a ha => GoT.okm (by omega) ((all_cons (α := TableEntry) (And.intro hq6 hokv) (fun a ha => by cases ha)) a ha))) a ha)) (fun a ha => GoT.okm (by omega) ((fun a ha => (okl hq1).2 a (List.mem_of_mem_drop ha)) a ha))) a ha)) : GoT.ok (n + 3) ((((List.take i (spec_l6Copy l)) ++ [(TableEntry.mk (spec_l4Copy n_) v)]) ++ (List.drop i (spec_l6Copy l))) : List TableEntry))
      ·skip
       refine TS.op 6 rfl (by kernel_rfl) ?_
       refine WX.bld ttOk rfl rfl rfl rfl rfl rfl rfl ?_
       intro p17
       refine R0 ?_
       refine WX.back0 ?_
       refine TX.tail [4, 7, 11, 12] rfl rfl (by kernel_rfl) ?_
       refine WX.free 44 (MF.ol [] ([] : List TableEntry)) rfl ?_
       refine WX.appPre 43 502 i ((List.take i (spec_l6Copy l)) : List TableEntry).length ttOk rfl rfl rfl rfl rfl rfl rfl rfl rfl rfl rfl rfl rfl hone1 (show i ≤ ((spec_l6Copy l)).length from (by omega)) (by have z_ := (show i ≤ ((spec_l6Copy l)).length from (by omega)); first | (simp; done) | (simp only [List.length_append, List.length_cons, List.length_nil, List.length_take, List.length_drop, List.length_set]; omega) | (simp; omega)) (by first | assumption | omega | (simp; omega)) (by first | assumption | omega | (simp; omega)) (fun _ _ => rfl) ?_
       intro p18 c14
       refine WX.turn [18] 45 rfl (fun h hs => ol_split i (show i ≤ ((spec_l6Copy l)).length from (by omega)) hs) (gs := [MF.ol (List.take (i * 2) xs2) (List.take i (spec_l6Copy l)), MF.ol (List.drop (i * 2) xs2) (List.drop i (spec_l6Copy l))]) rfl ?_
       refine WX.turn [44, 45] 47 rfl (fun h hs => ol_app hs) (gs := [MF.ol ([] ++ (List.take (i * 2) xs2)) ((List.take i (spec_l6Copy l)) : List TableEntry)]) rfl ?_
       refine WX.turn [17] 48 rfl (fun h hs => ol_one (α := TableEntry) (a := (TableEntry.mk (spec_l4Copy n_) v)) (x := ((p5, c5), ())) hs) (gs := [MF.ol [.slice p5 (((spec_l4Copy n_).parts).length) c5, .int .i64 (v)] ([(TableEntry.mk (spec_l4Copy n_) v)] : List TableEntry)]) rfl ?_
       have r9 : -9223372036854775808 ≤ v ∧ v ≤ 9223372036854775807 := hokv
       refine WX.know (fun G hΓ => (hΓ.get 48 rfl : OwL _ _ _).rd.one) ?_
       intro ho3
       refine WX.appR1 43 49 (((List.take i (spec_l6Copy l)) ++ [(TableEntry.mk (spec_l4Copy n_) v)]) : List TableEntry).length ttOk rfl rfl rfl rfl rfl rfl rfl rfl rfl rfl rfl rfl rfl ho3 (by first | (simp; done) | omega | (simp only [List.length_append, List.length_cons, List.length_nil, List.length_take, List.length_drop, List.length_set]; omega) | (simp; omega)) (by first | assumption | omega | (simp; omega)) (by first | assumption | omega | (simp; omega)) (fun _ _ => rfl) ?_
       intro p19 c15
       refine WX.turn [47, 48] 49 rfl (fun h hs => ol_app hs) (gs := [MF.ol (([] ++ (List.take (i * 2) xs2)) ++ [.slice p5 (((spec_l4Copy n_).parts).length) c5, .int .i64 (v)]) (((List.take i (spec_l6Copy l)) ++ [(TableEntry.mk (spec_l4Copy n_) v)]) : List TableEntry)]) rfl ?_
       refine WX.appSuf 43 502 i ((((List.take i (spec_l6Copy l)) ++ [(TableEntry.mk (spec_l4Copy n_) v)]) ++ (List.drop i (spec_l6Copy l))) : List TableEntry).length ttOk rfl rfl rfl rfl rfl rfl rfl rfl rfl rfl rfl rfl rfl hone1 (show i ≤ ((spec_l6Copy l)).length from (by omega)) (by have z_ := (show i ≤ ((spec_l6Copy l)).length from (by omega)); first | (simp; done) | (simp only [List.length_append, List.length_cons, List.length_nil, List.length_take, List.length_drop, List.length_set]; omega) | (simp; omega)) (by first | assumption | omega | (simp; omega)) (by first | assumption | omega | (simp; omega)) (fun _ _ => rfl) ?_
       intro p20 c16
       refine WX.turn [46] 50 rfl (fun h hs => ol_drop (show i ≤ i by omega) (show i ≤ ((spec_l6Copy l)).length from (by omega)) hs) (gs := [MF.ol (List.drop (i * 2) xs2) (List.drop i (spec_l6Copy l))]) rfl ?_
       refine WX.turn [49, 50] 51 rfl (fun h hs => ol_app hs) (gs := [MF.ol ((([] ++ (List.take (i * 2) xs2)) ++ [.slice p5 (((spec_l4Copy n_).parts).length) c5, .int .i64 (v)]) ++ (List.drop (i * 2) xs2)) ((((List.take i (spec_l6Copy l)) ++ [(TableEntry.mk (spec_l4Copy n_) v)]) ++ (List.drop i (spec_l6Copy l))) : List TableEntry)]) rfl ?_
       refine R0 ?_
       refine WX.seal 43 51 52 rfl rfl rfl rfl rfl ?_
       refine WX.callV rfl rfl rfl rfl rfl (fun _ => rfl) rfl (fun w G bs hI hΓ => f65 w (n + 3) (by omega) (((List.take i (spec_l6Copy l)) ++ [(TableEntry.mk (spec_l4Copy n_) v)]) ++ (List.drop i (spec_l6Copy l))) p20 c16 (hΓ.get 52 rfl) (okl_mk (by first | assumption | omega | (simp; omega)) (fun a ha => GoT.okm (show (n + 2) ≤ (n + 3) by omega) ((all_app (fun a ha => GoT.okm (show (n + 1) ≤ (n + 2) by omega) ((all_app (fun a ha => GoT.okm (show n ≤ (n + 1) by omega) ((fun a ha => (okl hq1).2 a (List.mem_of_mem_take ha)) a ha)) (fun a ha => GoT.okm (by omega) ((all_cons (α := TableEntry) (And.intro hq6 hokv) (fun a ha => by cases ha)) a ha))) a ha)) (fun a ha => GoT.okm (by omega) ((fun a ha => (okl hq1).2 a (List.mem_of_mem_drop ha)) a ha))) a ha)) : GoT.ok (n + 3) ((((List.take i (spec_l6Copy l)) ++ [(TableEntry.mk (spec_l4Copy n_) v)]) ++ (List.drop i (spec_l6Copy l))) : List TableEntry))) ?_
       intro hq11
       refine R0 ?_
       refine WX.cases 57 rfl (fun h7 => ?_) (fun h7 => ?_)
       ·skip
        have h7d := (B.nt h7)
        refine R0 ?_
        refine WX.callF 54 (fun _ _ h => GoT.ow_rd h) (fun _ f hf => GoT.fak f hf) rfl rfl rfl rfl rfl (fun _ => rfl) rfl (fun w G bs hI hΓ => f49 w n (by omega) l pl cl (hΓ.get 0 rfl) hokl) (fun _ => rfl) (fun _ => rfl) ?_
        rintro ⟨p21, c17⟩ hq12
        have q6 := len_l6Copy l
        refine R0 ?_
        have hP7 : spec_PutEntry l n_ v = (spec_l6Copy l, false) := by simp only [spec_PutEntry, h1, hX1, h7, ct, cf]
        refine R1 ?_
        intro w1 G bs hI hΓ
        rw [hP7]
        exact Post.of [55] (p21, c17) hI hΓ rfl rfl rfl (GoT.okm (α := List TableEntry) (by omega) hq12)
       ·skip
        have h7d := (B.nf h7)
        refine R0 ?_
        have hP8 : spec_PutEntry l n_ v = (((List.take i (spec_l6Copy l)) ++ [(TableEntry.mk (spec_l4Copy n_) v)]) ++ (List.drop i (spec_l6Copy l)), true) := by simp only [spec_PutEntry, h1, hX1, h7, ct, cf]
        refine R1 ?_
        intro w1 G bs hI hΓ
        rw [hP8]
        exact Post.of [53] (p20, c16) hI hΓ rfl rfl rfl (okl_mk (by first | assumption | omega | (simp; omega)) (fun a ha => GoT.okm (show (n + 2) ≤ (n + 3) by omega) ((all_app (fun a ha => GoT.okm (show (n + 1) ≤ (n + 2) by omega) ((all_app (fun a ha => GoT.okm (show n ≤ (n + 1) by omega) ((fun a ha => (okl hq1).2 a (List.mem_of_mem_take ha)) a ha)) (fun a ha => GoT.okm (by omega) ((all_cons (α := TableEntry) (And.intro hq6 hokv) (fun a ha => by cases ha)) a ha))) a ha)) (fun a ha => GoT.okm (by omega) ((fun a ha => (okl hq1).2 a (List.mem_of_mem_drop ha)) a ha))) a ha)) : GoT.ok (n + 3) ((((List.take i (spec_l6Copy l)) ++ [(TableEntry.mk (spec_l4Copy n_) v)]) ++ (List.drop i (spec_l6Copy l))) : List TableEntry))
    ·skip
     refine TS.op 5 rfl (by kernel_rfl) ?_
     refine R0 ?_
     refine WX.back0 ?_
     refine TX.all2 0 6 (by kernel_rfl) ?_ ?_
     ·skip
      refine TS.op 0 rfl (by kernel_rfl) ?_
      refine WX.bld ttOk rfl rfl rfl rfl rfl rfl rfl ?_
      intro p22
      refine R0 ?_
      refine WX.back0 ?_
      refine TX.all2 4 6 (by kernel_rfl) ?_ ?_
      ·skip
       refine TS.op 4 rfl (by kernel_rfl) ?_
       refine WX.free 56 (MF.ol [] ([] : List TableEntry)) rfl ?_
       refine WX.appPre 43 502 i ((List.take i (spec_l6Copy l)) : List TableEntry).length ttOk rfl rfl rfl rfl rfl rfl rfl rfl rfl rfl rfl rfl rfl hone1 (show i ≤ ((spec_l6Copy l)).length from (by omega)) (by have z_ := (show i ≤ ((spec_l6Copy l)).length from (by omega)); first | (simp; done) | (simp only [List.length_append, List.length_cons, List.length_nil, List.length_take, List.length_drop, List.length_set]; omega) | (simp; omega)) (by first | assumption | omega | (simp; omega)) (by first | assumption | omega | (simp; omega)) (fun _ _ => rfl) ?_
       intro p23 c18
       refine WX.turn [18] 57 rfl (fun h hs => ol_split i (show i ≤ ((spec_l6Copy l)).length from (by omega)) hs) (gs := [MF.ol (List.take (i * 2) xs2) (List.take i (spec_l6Copy l)), MF.ol (List.drop (i * 2) xs2) (List.drop i (spec_l6Copy l))]) rfl ?_
       refine WX.turn [56, 57] 59 rfl (fun h hs => ol_app hs) (gs := [MF.ol ([] ++ (List.take (i * 2) xs2)) ((List.take i (spec_l6Copy l)) : List TableEntry)]) rfl ?_
       refine R0 ?_
       refine WX.back0 ?_
       refine TX.tail [6, 7, 11, 12] rfl rfl (by kernel_rfl) ?_
       refine WX.bld ttOk rfl rfl rfl rfl rfl rfl rfl ?_
       intro p24
       refine WX.turn [17] 60 rfl (fun h hs => ol_one (α := TableEntry) (a := (TableEntry.mk (spec_l4Copy n_) v)) (x := ((p5, c5), ())) hs) (gs := [MF.ol [.slice p5 (((spec_l4Copy n_).parts).length) c5, .int .i64 (v)] ([(TableEntry.mk (spec_l4Copy n_) v)] : List TableEntry)]) rfl ?_
       have r10 : -9223372036854775808 ≤ v ∧ v ≤ 9223372036854775807 := hokv
       refine WX.know (fun G hΓ => (hΓ.get 60 rfl : OwL _ _ _).rd.one) ?_
       intro ho4
       refine WX.appR1 43 49 (((List.take i (spec_l6Copy l)) ++ [(TableEntry.mk (spec_l4Copy n_) v)]) : List TableEntry).length ttOk rfl rfl rfl rfl rfl rfl rfl rfl rfl rfl rfl rfl rfl ho4 (by first | (simp; done) | omega | (simp only [List.length_append, List.length_cons, List.length_nil, List.length_take, List.length_drop, List.length_set]; omega) | (simp; omega)) (by first | assumption | omega | (simp; omega)) (by first | assumption | omega | (simp; omega)) (fun _ _ => rfl) ?_
       intro p25 c19
       refine WX.turn [59, 60] 61 rfl (fun h hs => ol_app hs) (gs := [MF.ol (([] ++ (List.take (i * 2) xs2)) ++ [.slice p5 (((spec_l4Copy n_).parts).length) c5, .int .i64 (v)]) (((List.take i (spec_l6Copy l)) ++ [(TableEntry.mk (spec_l4Copy n_) v)]) : List TableEntry)]) rfl ?_
       refine WX.appSuf 43 502 i ((((List.take i (spec_l6Copy l)) ++ [(TableEntry.mk (spec_l4Copy n_) v)]) ++ (List.drop i (spec_l6Copy l))) : List TableEntry).length ttOk rfl rfl rfl rfl rfl rfl rfl rfl rfl rfl rfl rfl rfl hone1 (show i ≤ ((spec_l6Copy l)).length from (by omega)) (by have z_ := (show i ≤ ((spec_l6Copy l)).length from (by omega)); first | (simp; done) | (simp only [List.length_append, List.length_cons, List.length_nil, List.length_take, List.length_drop, List.length_set]; omega) | (simp; omega)) (by first | assumption | omega | (simp; omega)) (by first | assumption | omega | (simp; omega)) (fun _ _ => rfl) ?_
       intro p26 c20
       refine WX.turn [58] 62 rfl (fun h hs => ol_drop (show i ≤ i by omega) (show i ≤ ((spec_l6Copy l)).length from (by omega)) hs) (gs := [MF.ol (List.drop (i * 2) xs2) (List.drop i (spec_l6Copy l))]) rfl ?_
       refine WX.turn [61, 62] 63 rfl (fun h hs => ol_app hs) (gs := [MF.ol ((([] ++ (List.take (i * 2) xs2)) ++ [.slice p5 (((spec_l4Copy n_).parts).length) c5, .int .i64 (v)]) ++ (List.drop (i * 2) xs2)) ((((List.take i (spec_l6Copy l)) ++ [(TableEntry.mk (spec_l4Copy n_) v)]) ++ (List.drop i (spec_l6Copy l))) : List TableEntry)]) rfl ?_
       refine R0 ?_
       refine WX.seal 43 63 64 rfl rfl rfl rfl rfl ?_
       refine WX.callV rfl rfl rfl rfl rfl (fun _ => rfl) rfl (fun w G bs hI hΓ => f65 w (n + 3) (by omega) (((List.take i (spec_l6Copy l)) ++ [(TableEntry.mk (spec_l4Copy n_) v)]) ++ (List.drop i (spec_l6Copy l))) p26 c20 (hΓ.get 64 rfl) (okl_mk (by first | assumption | omega | (simp; omega)) (fun a ha => GoT.okm (show (n + 2) ≤ (n + 3) by omega) ((all_app (fun a ha => GoT.okm (show (n + 1) ≤ (n + 2) by omega) ((all_app (fun a ha => GoT.okm (show n ≤ (n + 1) by omega) ((fun a ha => (okl hq1).2 a (List.mem_of_mem_take ha)) a ha)) (fun a ha => GoT.okm (by omega) ((all_cons (α := TableEntry) (And.intro hq6 hokv) (fun a ha => by cases ha)) a ha))) a ha)) (fun a ha => GoT.okm (by omega) ((fun a ha => (okl hq1).2 a (List.mem_of_mem_drop ha)) a ha))) a ha)) : GoT.ok (n + 3) ((((List.take i (spec_l6Copy l)) ++ [(TableEntry.mk (spec_l4Copy n_) v)]) ++ (List.drop i (spec_l6Copy l))) : List TableEntry))) ?_
       intro hq13
       refine R0 ?_
       refine WX.cases 57 rfl (fun h8 => ?_) (fun h8 => ?_)
       ·skip
        have h8d := (B.nt h8)
        refine R0 ?_
        refine WX.callF 66 (fun _ _ h => GoT.ow_rd h) (fun _ f hf => GoT.fak f hf) rfl rfl rfl rfl rfl (fun _ => rfl) rfl (fun w G bs hI hΓ => f49 w n (by omega) l pl cl (hΓ.get 0 rfl) hokl) (fun _ => rfl) (fun _ => rfl) ?_
        rintro ⟨p27, c21⟩ hq14
        have q7 := len_l6Copy l
        refine R0 ?_
        have hP9 : spec_PutEntry l n_ v = (spec_l6Copy l, false) := by simp only [spec_PutEntry, h1, hX1, h8, ct, cf]
        refine R1 ?_
        intro w1 G bs hI hΓ
        rw [hP9]
        exact Post.of [67] (p27, c21) hI hΓ rfl rfl rfl (GoT.okm (α := List TableEntry) (by omega) hq14)
       ·skip
        have h8d := (B.nf h8)
        refine R0 ?_
        have hP10 : spec_PutEntry l n_ v = (((List.take i (spec_l6Copy l)) ++ [(TableEntry.mk (spec_l4Copy n_) v)]) ++ (List.drop i (spec_l6Copy l)), true) := by simp only [spec_PutEntry, h1, hX1, h8, ct, cf]
        refine R1 ?_
        intro w1 G bs hI hΓ
        rw [hP10]
        exact Post.of [65] (p26, c20) hI hΓ rfl rfl rfl (okl_mk (by first | assumption | omega | (simp; omega)) (fun a ha => GoT.okm (show (n + 2) ≤ (n + 3) by omega) ((all_app (fun a ha => GoT.okm (show (n + 1) ≤ (n + 2) by omega) ((all_app (fun a ha => GoT.okm (show n ≤ (n + 1) by omega) ((fun a ha => (okl hq1).2 a (List.mem_of_mem_take ha)) a ha)) (fun a ha => GoT.okm (by omega) ((all_cons (α := TableEntry) (And.intro hq6 hokv) (fun a ha => by cases ha)) a ha))) a ha)) (fun a ha => GoT.okm (by omega) ((fun a ha => (okl hq1).2 a (List.mem_of_mem_drop ha)) a ha))) a ha)) : GoT.ok (n + 3) ((((List.take i (spec_l6Copy l)) ++ [(TableEntry.mk (spec_l4Copy n_) v)]) ++ (List.drop i (spec_l6Copy l))) : List TableEntry))
      ·skip
       refine TS.op 6 rfl (by kernel_rfl) ?_
       refine WX.bld ttOk rfl rfl rfl rfl rfl rfl rfl ?_
       intro p28
       refine R0 ?_
       refine WX.back0 ?_
       refine TX.tail [4, 7, 11, 12] rfl rfl (by kernel_rfl) ?_
       refine WX.free 68 (MF.ol [] ([] : List TableEntry)) rfl ?_
       refine WX.appPre 43 502 i ((List.take i (spec_l6Copy l)) : List TableEntry).length ttOk rfl rfl rfl rfl rfl rfl rfl rfl rfl rfl rfl rfl rfl hone1 (show i ≤ ((spec_l6Copy l)).length from (by omega)) (by have z_ := (show i ≤ ((spec_l6Copy l)).length from (by omega)); first | (simp; done) | (simp only [List.length_append, List.length_cons, List.length_nil, List.length_take, List.length_drop, List.length_set]; omega) | (simp; omega)) (by first | assumption | omega | (simp; omega)) (by first | assumption | omega | (simp; omega)) (fun _ _ => rfl) ?_
       intro p29 c22
       refine WX.turn [18] 69 rfl (fun h hs => ol_split i (show i ≤ ((spec_l6Copy l)).length from (by omega)) hs) (gs := [MF.ol (List.take (i * 2) xs2) (List.take i (spec_l6Copy l)), MF.ol (List.drop (i * 2) xs2) (List.drop i (spec_l6Copy l))]) rfl ?_
       refine WX.turn [68, 69] 71 rfl (fun h hs => ol_app hs) (gs := [MF.ol ([] ++ (List.take (i * 2) xs2)) ((List.take i (spec_l6Copy l)) : List TableEntry)]) rfl ?_
       refine WX.turn [17] 72 rfl (fun h hs => ol_one (α := TableEntry) (a := (TableEntry.mk (spec_l4Copy n_) v)) (x := ((p5, c5), ())) hs) (gs := [MF.ol [.slice p5 (((spec_l4Copy n_).parts).length) c5, .int .i64 (v)] ([(TableEntry.mk (spec_l4Copy n_) v)] : List TableEntry)]) rfl ?_
       have r11 : -9223372036854775808 ≤ v ∧ v ≤ 9223372036854775807 := hokv
       refine WX.know (fun G hΓ => (hΓ.get 72 rfl : OwL _ _ _).rd.one) ?_
       intro ho5
       refine WX.appR1 43 49 (((List.take i (spec_l6Copy l)) ++ [(TableEntry.mk (spec_l4Copy n_) v)]) : List TableEntry).length ttOk rfl rfl rfl rfl rfl rfl rfl rfl rfl rfl rfl rfl rfl ho5 (by first | (simp; done) | omega | (simp only [List.length_append, List.length_cons, List.length_nil, List.length_take, List.length_drop, List.length_set]; omega) | (simp; omega)) (by first | assumption | omega | (simp; omega)) (by first | assumption | omega | (simp; omega)) (fun _ _ => rfl) ?_
       intro p30 c23
       refine WX.turn [71, 72] 73 rfl (fun h hs => ol_app hs) (gs := [MF.ol (([] ++ (List.take (i * 2) xs2)) ++ [.slice p5 (((spec_l4Copy n_).parts).length) c5, .int .i64 (v)]) (((List.take i (spec_l6Copy l)) ++ [(TableEntry.mk (spec_l4Copy n_) v)]) : List TableEntry)]) rfl ?_
       refine WX.appSuf 43 502 i ((((List.take i (spec_l6Copy l)) ++ [(TableEntry.mk (spec_l4Copy n_) v)]) ++ (List.drop i (spec_l6Copy l))) : List TableEntry).length ttOk rfl rfl rfl rfl rfl rfl rfl rfl rfl rfl rfl rfl rfl hone1 (show i ≤ ((spec_l6Copy l)).length from (by omega)) (by have z_ := (show i ≤ ((spec_l6Copy l)).length from (by omega)); first | (simp; done) | (simp only [List.length_append, List.length_cons, List.length_nil, List.length_take, List.length_drop, List.length_set]; omega) | (simp; omega)) (by first | assumption | omega | (simp; omega)) (by first | assumption | omega | (simp; omega)) (fun _ _ => rfl) ?_
       intro p31 c24
       refine WX.turn [70] 74 rfl (fun h hs => ol_drop (show i ≤ i by omega) (show i ≤ ((spec_l6Copy l)).length from (by omega)) hs) (gs := [MF.ol (List.drop (i * 2) xs2) (List.drop i (spec_l6Copy l))]) rfl ?_
       refine WX.turn [73, 74] 75 rfl (fun h hs => ol_app hs) (gs := [MF.ol ((([] ++ (List.take (i * 2) xs2)) ++ [.slice p5 (((spec_l4Copy n_).parts).length) c5, .int .i64 (v)]) ++ (List.drop (i * 2) xs2)) ((((List.take i (spec_l6Copy l)) ++ [(TableEntry.mk (spec_l4Copy n_) v)]) ++ (List.drop i (spec_l6Copy l))) : List TableEntry)]) rfl ?_
       refine R0 ?_
       refine WX.seal 43 75 76 rfl rfl rfl rfl rfl ?_
       refine WX.callV rfl rfl rfl rfl rfl (fun _ => rfl) rfl (fun w G bs hI hΓ => f65 w (n + 3) (by omega) (((List.take i (spec_l6Copy l)) ++ [(TableEntry.mk (spec_l4Copy n_) v)]) ++ (List.drop i (spec_l6Copy l))) p31 c24 (hΓ.get 76 rfl) (okl_mk (by first | assumption | omega | (simp; omega)) (fun a ha => GoT.okm (show (n + 2) ≤ (n + 3) by omega) ((all_app (fun a ha => GoT.okm (show (n + 1) ≤ (n + 2) by omega) ((all_app (fun a ha => GoT.okm (show n ≤ (n + 1) by omega) ((fun a ha => (okl hq1).2 a (List.mem_of_mem_take ha)) a ha)) (fun a ha => GoT.okm (by omega) ((all_cons (α := TableEntry) (And.intro hq6 hokv) (fun a ha => by cases ha)) a ha))) a ha)) (fun a ha => GoT.okm (by omega) ((fun a ha => (okl hq1).2 a (List.mem_of_mem_drop ha)) a ha))) a ha)) : GoT.ok (n + 3) ((((List.take i (spec_l6Copy l)) ++ [(TableEntry.mk (spec_l4Copy n_) v)]) ++ (List.drop i (spec_l6Copy l))) : List TableEntry))) ?_
       intro hq15
       refine R0 ?_
       refine WX.cases 57 rfl (fun h9 => ?_) (fun h9 => ?_)
       ·skip
        have h9d := (B.nt h9)
        refine R0 ?_
        refine WX.callF 78 (fun _ _ h => GoT.ow_rd h) (fun _ f hf => GoT.fak f hf) rfl rfl rfl rfl rfl (fun _ => rfl) rfl (fun w G bs hI hΓ => f49 w n (by omega) l pl cl (hΓ.get 0 rfl) hokl) (fun _ => rfl) (fun _ => rfl) ?_
        rintro ⟨p32, c25⟩ hq16
        have q8 := len_l6Copy l
        refine R0 ?_
        have hP11 : spec_PutEntry l n_ v = (spec_l6Copy l, false) := by simp only [spec_PutEntry, h1, hX1, h9, ct, cf]
        refine R1 ?_
        intro w1 G bs hI hΓ
        rw [hP11]
        exact Post.of [79] (p32, c25) hI hΓ rfl rfl rfl (GoT.okm (α := List TableEntry) (by omega) hq16)
       ·skip
        have h9d := (B.nf h9)
        refine R0 ?_
        have hP12 : spec_PutEntry l n_ v = (((List.take i (spec_l6Copy l)) ++ [(TableEntry.mk (spec_l4Copy n_) v)]) ++ (List.drop i (spec_l6Copy l)), true) := by simp only [spec_PutEntry, h1, hX1, h9, ct, cf]
        refine R1 ?_
        intro w1 G bs hI hΓ
        rw [hP12]
        exact Post.of [77] (p31, c24) hI hΓ rfl rfl rfl (okl_mk (by first | assumption | omega | (simp; omega)) (fun a ha => GoT.okm (show (n + 2) ≤ (n + 3) by omega) ((all_app (fun a ha => GoT.okm (show (n + 1) ≤ (n + 2) by omega) ((all_app (fun a ha => GoT.okm (show n ≤ (n + 1) by omega) ((fun a ha => (okl hq1).2 a (List.mem_of_mem_take ha)) a ha)) (fun a ha => GoT.okm (by omega) ((all_cons (α := TableEntry) (And.intro hq6 hokv) (fun a ha => by cases ha)) a ha))) a ha)) (fun a ha => GoT.okm (by omega) ((fun a ha => (okl hq1).2 a (List.mem_of_mem_drop ha)) a ha))) a ha)) : GoT.ok (n + 3) ((((List.take i (spec_l6Copy l)) ++ [(TableEntry.mk (spec_l4Copy n_) v)]) ++ (List.drop i (spec_l6Copy l))) : List TableEntry))
     ·skip
      refine TS.op 6 rfl (by kernel_rfl) ?_
      refine WX.bld ttOk rfl rfl rfl rfl rfl rfl rfl ?_
      intro p33
      refine R0 ?_
      refine WX.back0 ?_
      refine TX.tail [0, 4, 7, 11, 12] rfl rfl (by kernel_rfl) ?_
      refine WX.bld ttOk rfl rfl rfl rfl rfl rfl rfl ?_
      intro p34
      refine WX.free 80 (MF.ol [] ([] : List TableEntry)) rfl ?_
      refine WX.appPre 43 502 i ((List.take i (spec_l6Copy l)) : List TableEntry).length ttOk rfl rfl rfl rfl rfl rfl rfl rfl rfl rfl rfl rfl rfl hone1 (show i ≤ ((spec_l6Copy l)).length from (by omega)) (by have z_ := (show i ≤ ((spec_l6Copy l)).length from (by omega)); first | (simp; done) | (simp only [List.length_append, List.length_cons, List.length_nil, List.length_take, List.length_drop, List.length_set]; omega) | (simp; omega)) (by first | assumption | omega | (simp; omega)) (by first | assumption | omega | (simp; omega)) (fun _ _ => rfl) ?_
      intro p35 c26
      refine WX.turn [18] 81 rfl (fun h hs => ol_split i (show i ≤ ((spec_l6Copy l)).length from (by omega)) hs) (gs := [MF.ol (List.take (i * 2) xs2) (List.take i (spec_l6Copy l)), MF.ol (List.drop (i * 2) xs2) (List.drop i (spec_l6Copy l))]) rfl ?_
      refine WX.turn [80, 81] 83 rfl (fun h hs => ol_app hs) (gs := [MF.ol ([] ++ (List.take (i * 2) xs2)) ((List.take i (spec_l6Copy l)) : List TableEntry)]) rfl ?_
      refine WX.turn [17] 84 rfl (fun h hs => ol_one (α := TableEntry) (a := (TableEntry.mk (spec_l4Copy n_) v)) (x := ((p5, c5), ())) hs) (gs := [MF.ol [.slice p5 (((spec_l4Copy n_).parts).length) c5, .int .i64 (v)] ([(TableEntry.mk (spec_l4Copy n_) v)] : List TableEntry)]) rfl ?_
      have r12 : -9223372036854775808 ≤ v ∧ v ≤ 9223372036854775807 := hokv
      refine WX.know (fun G hΓ => (hΓ.get 84 rfl : OwL _ _ _).rd.one) ?_
      intro ho6
      refine WX.appR1 43 49 (((List.take i (spec_l6Copy l)) ++ [(TableEntry.mk (spec_l4Copy n_) v)]) : List TableEntry).length ttOk rfl rfl rfl rfl rfl rfl rfl rfl rfl rfl rfl rfl rfl ho6 (by first | (simp; done) | omega | (simp only [List.length_append, List.length_cons, List.length_nil, List.length_take, List.length_drop, List.length_set]; omega) | (simp; omega)) (by first | assumption | omega | (simp; omega)) (by first | assumption | omega | (simp; omega)) (fun _ _ => rfl) ?_
      intro p36 c27
      refine WX.turn [83, 84] 85 rfl (fun h hs => ol_app hs) (gs := [MF.ol (([] ++ (List.take (i * 2) xs2)) ++ [.slice p5 (((spec_l4Copy n_).parts).length) c5, .int .i64 (v)]) (((List.take i (spec_l6Copy l)) ++ [(TableEntry.mk (spec_l4Copy n_) v)]) : List TableEntry)]) rfl ?_
      refine WX.appSuf 43 502 i ((((List.take i (spec_l6Copy l)) ++ [(TableEntry.mk (spec_l4Copy n_) v)]) ++ (List.drop i (spec_l6Copy l))) : List TableEntry).length ttOk rfl rfl rfl rfl rfl rfl rfl rfl rfl rfl rfl rfl rfl hone1 (show i ≤ ((spec_l6Copy l)).length from (by omega)) (by have z_ := (show i ≤ ((spec_l6Copy l)).length from (by omega)); first | (simp; done) | (simp only [List.length_append, List.length_cons, List.length_nil, List.length_take, List.length_drop, List.length_set]; omega) | (simp; omega)) (by first | assumption | omega | (simp; omega)) (by first | assumption | omega | (simp; omega)) (fun _ _ => rfl) ?_
      intro p37 c28
      refine WX.turn [82] 86 rfl (fun h hs => ol_drop (show i ≤ i by omega) (show i ≤ ((spec_l6Copy l)).length from (by omega)) hs) (gs := [MF.ol (List.drop (i * 2) xs2) (List.drop i (spec_l6Copy l))]) rfl ?_
      refine WX.turn [85, 86] 87 rfl (fun h hs => ol_app hs) (gs := [MF.ol ((([] ++ (List.take (i * 2) xs2)) ++ [.slice p5 (((spec_l4Copy n_).parts).length) c5, .int .i64 (v)]) ++ (List.drop (i * 2) xs2)) ((((List.take i (spec_l6Copy l)) ++ [(TableEntry.mk (spec_l4Copy n_) v)]) ++ (List.drop i (spec_l6Copy l))) : List TableEntry)]) rfl ?_
      refine R0 ?_
      refine WX.seal 43 87 88 rfl rfl rfl rfl rfl ?_
      refine WX.callV rfl rfl rfl rfl rfl (fun _ => rfl) rfl (fun w G bs hI hΓ => f65 w (n + 3) (by omega) (((List.take i (spec_l6Copy l)) ++ [(TableEntry.mk (spec_l4Copy n_) v)]) ++ (List.drop i (spec_l6Copy l))) p37 c28 (hΓ.get 88 rfl) (okl_mk (by first | assumption | omega | (simp; omega)) (fun a ha => GoT.okm (show (n + 2) ≤ (n + 3) by omega) ((all_app (fun a ha => GoT.okm (show (n + 1) ≤ (n + 2) by omega) ((all_app (fun a ha => GoT.okm (show n ≤ (n + 1) by omega) ((fun a ha => (okl hq1).2 a (List.mem_of_mem_take ha)) a ha)) (fun a ha => GoT.okm (by omega) ((all_cons (α := TableEntry) (And.intro hq6 hokv) (fun a ha => by cases ha)) a ha))) a ha)) (fun a ha => GoT.okm (by omega) ((fun a ha => (okl hq1).2 a (List.mem_of_mem_drop ha)) a ha))) a ha)) : GoT.ok (n + 3) ((((List.take i (spec_l6Copy l)) ++ [(TableEntry.mk (spec_l4Copy n_) v)]) ++ (List.drop i (spec_l6Copy l))) : List TableEntry))) ?_
      intro hq17
      refine R0 ?_
      refine WX.cases 57 rfl (fun h10 => ?_) (fun h10 => ?_)
      ·skip
       have h10d := (B.nt h10)
       refine R0 ?_
       refine WX.callF 90 (fun _ _ h => GoT.ow_rd h) (fun _ f hf => GoT.fak f hf) rfl rfl rfl rfl rfl (fun _ => rfl) rfl (fun w G bs hI hΓ => f49 w n (by omega) l pl cl (hΓ.get 0 rfl) hokl) (fun _ => rfl) (fun _ => rfl) ?_
       rintro ⟨p38, c29⟩ hq18
       have q9 := len_l6Copy l
       refine R0 ?_
       have hP13 : spec_PutEntry l n_ v = (spec_l6Copy l, false) := by simp only [spec_PutEntry, h1, hX1, h10, ct, cf]
       refine R1 ?_
       intro w1 G bs hI hΓ
       rw [hP13]
       exact Post.of [91] (p38, c29) hI hΓ rfl rfl rfl (GoT.okm (α := List TableEntry) (by omega) hq18)
      ·skip
       have h10d := (B.nf h10)
       refine R0 ?_
       have hP14 : spec_PutEntry l n_ v = (((List.take i (spec_l6Copy l)) ++ [(TableEntry.mk (spec_l4Copy n_) v)]) ++ (List.drop i (spec_l6Copy l)), true) := by simp only [spec_PutEntry, h1, hX1, h10, ct, cf]
       refine R1 ?_
       intro w1 G bs hI hΓ
       rw [hP14]
       exact Post.of [89] (p37, c28) hI hΓ rfl rfl rfl (okl_mk (by first | assumption | omega | (simp; omega)) (fun a ha => GoT.okm (show (n + 2) ≤ (n + 3) by omega) ((all_app (fun a ha => GoT.okm (show (n + 1) ≤ (n + 2) by omega) ((all_app (fun a ha => GoT.okm (show n ≤ (n + 1) by omega) ((fun a ha => (okl hq1).2 a (List.mem_of_mem_take ha)) a ha)) (fun a ha => GoT.okm (by omega) ((all_cons (α := TableEntry) (And.intro hq6 hokv) (fun a ha => by cases ha)) a ha))) a ha)) (fun a ha => GoT.okm (by omega) ((fun a ha => (okl hq1).2 a (List.mem_of_mem_drop ha)) a ha))) a ha)) : GoT.ok (n + 3) ((((List.take i (spec_l6Copy l)) ++ [(TableEntry.mk (spec_l4Copy n_) v)]) ++ (List.drop i (spec_l6Copy l))) : List TableEntry))
  ·skip
   have h3d := B.df h3
   refine DX.takes (fuel := 0) ttOk [(5, true), (6, true), (7, true), (8, true), (9, true), (10, true), (11, true), (12, true), (13, true)] (by kernel_rfl) rfl ?_
   refine DX.tail2 [] rfl rfl (by kernel_rfl) ?_
   refine R0 ?_
   have hX2 : spec_PutEntry_L1 l n_ 0 = i := by rw [v2]; rw [spec_PutEntry_L1]; simp only [h3, h3d, ct, cf, ↓reduceIte, Bool.false_eq_true]
   refine WX.callF 92 (fun _ _ h => GoT.ow_rd h) (fun _ f hf => GoT.fak f hf) rfl rfl rfl rfl rfl (fun _ => rfl) rfl (fun w G bs hI hΓ => f54 w n (by omega) n_ K1 M1 (hΓ.get 1 rfl) hokn_) (fun _ => rfl) (fun _ => rfl) ?_
   rintro ⟨p39, c30⟩ hq19
   refine R0 ?_
   refine WX.opn (kk := 2) 503 3 94 rfl rfl rfl ?_
   intro xs3 hx3
   refine WX.cap 503 rfl ?_
   intro hcap2
   refine WX.know (fun G hΓ => (hΓ.get 94 rfl : OwL _ _ _).rd.one) ?_
   intro hone2
   refine WX.der 95 (MF.rs .der p39 c30 ((spec_l4Copy n_).parts)) rfl (fun _ hΓ => (hΓ.get 93 rfl : OwSl _ _ _ _).rd) ?_
   refine WX.draw [4, 5, 7, 11, 12] mixed ?_
   intro bs G0 hΓ0
   refine DX.takes (fuel := 11) ttOk [(1, true), (2, true)] (by kernel_rfl) rfl ?_
   have r13 : (l).length ≤ bd n := (okl hokl).1
   have r14 : (spec_l6Copy l).length ≤ bd n := (okl hq1).1
   refine DX.seeP 3 (by kernel_rfl) rfl rfl rfl rfl (looksP_slH i ttOk rfl rfl rfl rfl (by simp) (Nat.le_trans (show i ≤ ((spec_l6Copy l)).length from (by omega)) hcap2)) ?_
   refine DX.takes (fuel := 8) ttOk [(8, true), (9, true)] (by kernel_rfl) rfl ?_
   refine DX.seeP 10 (by kernel_rfl) rfl rfl rfl rfl (looksP_slL i ttOk rfl rfl rfl rfl (by simp) (show i ≤ ((spec_l6Copy l)).length from (by omega))) ?_
   refine DX.toTX ?_
   intro S_
   refine TX.all2 0 5 (by kernel_rfl) ?_ ?_
   ·skip
    refine TS.op 0 rfl (by kernel_rfl) ?_
    refine WX.bld ttOk rfl rfl rfl rfl rfl rfl rfl ?_
    intro p40
    refine R0 ?_
    refine WX.back0 ?_
    refine TX.all2 4 5 (by kernel_rfl) ?_ ?_
    ·skip
     refine TS.op 4 rfl (by kernel_rfl) ?_
     refine WX.free 96 (MF.ol [] ([] : List TableEntry)) rfl ?_
     refine WX.appPre 43 503 i ((List.take i (spec_l6Copy l)) : List TableEntry).length ttOk rfl rfl rfl rfl rfl rfl rfl rfl rfl rfl rfl rfl rfl hone2 (show i ≤ ((spec_l6Copy l)).length from (by omega)) (by have z_ := (show i ≤ ((spec_l6Copy l)).length from (by omega)); first | (simp; done) | (simp only [List.length_append, List.length_cons, List.length_nil, List.length_take, List.length_drop, List.length_set]; omega) | (simp; omega)) (by first | assumption | omega | (simp; omega)) (by first | assumption | omega | (simp; omega)) (fun _ _ => rfl) ?_
     intro p41 c31
     refine WX.turn [94] 97 rfl (fun h hs => ol_split i (show i ≤ ((spec_l6Copy l)).length from (by omega)) hs) (gs := [MF.ol (List.take (i * 2) xs3) (List.take i (spec_l6Copy l)), MF.ol (List.drop (i * 2) xs3) (List.drop i (spec_l6Copy l))]) rfl ?_
     refine WX.turn [96, 97] 99 rfl (fun h hs => ol_app hs) (gs := [MF.ol ([] ++ (List.take (i * 2) xs3)) ((List.take i (spec_l6Copy l)) : List TableEntry)]) rfl ?_
     refine R0 ?_
     refine WX.back0 ?_
     refine TX.tail [5, 6, 7, 11, 12] rfl rfl (by kernel_rfl) ?_
     refine R0 ?_
     refine WX.bld ttOk rfl rfl rfl rfl rfl rfl rfl ?_
     intro p42
     refine WX.turn [93] 100 rfl (fun h hs => ol_one (α := TableEntry) (a := (TableEntry.mk (spec_l4Copy n_) v)) (x := ((p39, c30), ())) hs) (gs := [MF.ol [.slice p39 (((spec_l4Copy n_).parts).length) c30, .int .i64 (v)] ([(TableEntry.mk (spec_l4Copy n_) v)] : List TableEntry)]) rfl ?_
     have r15 : -9223372036854775808 ≤ v ∧ v ≤ 9223372036854775807 := hokv
     refine WX.know (fun G hΓ => (hΓ.get 100 rfl : OwL _ _ _).rd.one) ?_
     intro ho7
     refine WX.appR1 43 49 (((List.take i (spec_l6Copy l)) ++ [(TableEntry.mk (spec_l4Copy n_) v)]) : List TableEntry).length ttOk rfl rfl rfl rfl rfl rfl rfl rfl rfl rfl rfl rfl rfl ho7 (by first | (simp; done) | omega | (simp only [List.length_append, List.length_cons, List.length_nil, List.length_take, List.length_drop, List.length_set]; omega) | (simp; omega)) (by first | assumption | omega | (simp; omega)) (by first | assumption | omega | (simp; omega)) (fun _ _ => rfl) ?_
     intro p43 c32
     refine WX.turn [99, 100] 101 rfl (fun h hs => ol_app hs) (gs := [MF.ol (([] ++ (List.take (i * 2) xs3)) ++ [.slice p39 (((spec_l4Copy n_).parts).length) c30, .int .i64 (v)]) (((List.take i (spec_l6Copy l)) ++ [(TableEntry.mk (spec_l4Copy n_) v)]) : List TableEntry)]) rfl ?_
     refine WX.appSuf 43 503 i ((((List.take i (spec_l6Copy l)) ++ [(TableEntry.mk (spec_l4Copy n_) v)]) ++ (List.drop i (spec_l6Copy l))) : List TableEntry).length ttOk rfl rfl rfl rfl rfl rfl rfl rfl rfl rfl rfl rfl rfl hone2 (show i ≤ ((spec_l6Copy l)).length from (by omega)) (by have z_ := (show i ≤ ((spec_l6Copy l)).length from (by omega)); first | (simp; done) | (simp only [List.length_append, List.length_cons, List.length_nil, List.length_take, List.length_drop, List.length_set]; omega) | (simp; omega)) (by first | assumption | omega | (simp; omega)) (by first | assumption | omega | (simp; omega)) (fun _ _ => rfl) ?_
     intro p44 c33
     refine WX.turn [98] 102 rfl (fun h hs => ol_drop (show i ≤ i by omega) (show i ≤ ((spec_l6Copy l)).length from (by omega)) hs) (gs := [MF.ol (List.drop (i * 2) xs3) (List.drop i (spec_l6Copy l))]) rfl ?_
     refine WX.turn [101, 102] 103 rfl (fun h hs => ol_app hs) (gs := [MF.ol ((([] ++ (List.take (i * 2) xs3)) ++ [.slice p39 (((spec_l4Copy n_).parts).length) c30, .int .i64 (v)]) ++ (List.drop (i * 2) xs3)) ((((List.take i (spec_l6Copy l)) ++ [(TableEntry.mk (spec_l4Copy n_) v)]) ++ (List.drop i (spec_l6Copy l))) : List TableEntry)]) rfl ?_
     refine R0 ?_
     refine WX.seal 43 103 104 rfl rfl rfl rfl rfl ?_
     refine WX.callV rfl rfl rfl rfl rfl (fun _ => rfl) rfl (fun w G bs hI hΓ => f65 w (n + 3) (by omega) (((List.take i (spec_l6Copy l)) ++ [(TableEntry.mk (spec_l4Copy n_) v)]) ++ (List.drop i (spec_l6Copy l))) p44 c33 (hΓ.get 104 rfl) (okl_mk (by first | assumption | omega | (simp; omega)) (fun a ha => GoT.okm (show (n + 2) ≤ (n + 3) by omega) ((all_app (fun a ha => GoT.okm (show (n + 1) ≤ (n + 2) by omega) ((all_app (fun a ha => GoT.okm (show n ≤ (n + 1) by omega) ((fun a ha => (okl hq1).2 a (List.mem_of_mem_take ha)) a ha)) (fun a ha => GoT.okm (by omega) ((all_cons (α := TableEntry) (And.intro hq19 hokv) (fun a ha => by cases ha)) a ha))) a ha)) (fun a ha => GoT.okm (by omega) ((fun a ha => (okl hq1).2 a (List.mem_of_mem_drop ha)) a ha))) a ha)) : GoT.ok (n + 3) ((((List.take i (spec_l6Copy l)) ++ [(TableEntry.mk (spec_l4Copy n_) v)]) ++ (List.drop i (spec_l6Copy l))) : List TableEntry))) ?_
     intro hq20
     refine R0 ?_
     refine WX.cases 57 rfl (fun h11 => ?_) (fun h11 => ?_)
     ·skip
      have h11d := (B.nt h11)
      refine R0 ?_
      refine WX.callF 106 (fun _ _ h => GoT.ow_rd h) (fun _ f hf => GoT.fak f hf) rfl rfl rfl rfl rfl (fun _ => rfl) rfl (fun w G bs hI hΓ => f49 w n (by omega) l pl cl (hΓ.get 0 rfl) hokl) (fun _ => rfl) (fun _ => rfl) ?_
      rintro ⟨p45, c34⟩ hq21
      have q10 := len_l6Copy l
      refine R0 ?_
      have hP15 : spec_PutEntry l n_ v = (spec_l6Copy l, false) := by simp only [spec_PutEntry, h1, hX2, h11, ct, cf]
      refine R1 ?_
      intro w1 G bs hI hΓ
      rw [hP15]
      exact Post.of [107] (p45, c34) hI hΓ rfl rfl rfl (GoT.okm (α := List TableEntry) (by omega) hq21)
     ·skip
      have h11d := (B.nf h11)
      refine R0 ?_
      have hP16 : spec_PutEntry l n_ v = (((List.take i (spec_l6Copy l)) ++ [(TableEntry.mk (spec_l4Copy n_) v)]) ++ (List.drop i (spec_l6Copy l)), true) := by simp only [spec_PutEntry, h1, hX2, h11, ct, cf]
      refine R1 ?_
      intro w1 G bs hI hΓ
      rw [hP16]
      exact Post.of [105] (p44, c33) hI hΓ rfl rfl rfl (okl_mk (by first | assumption | omega | (simp; omega)) (fun a ha => GoT.okm (show (n + 2) ≤ (n + 3) by omega) ((all_app (fun a ha => GoT.okm (show (n + 1) ≤ (n + 2) by omega) ((all_app (fun a ha => GoT.okm (show n ≤ (n + 1) by omega) ((fun a ha => (okl hq1).2 a (List.mem_of_mem_take ha)) a ha)) (fun a ha => GoT.okm (by omega) ((all_cons (α := TableEntry) (And.intro hq19 hokv) (fun a ha => by cases ha)) a ha))) a ha)) (fun a ha => GoT.okm (by omega) ((fun a ha => (okl hq1).2 a (List.mem_of_mem_drop ha)) a ha))) a ha)) : GoT.ok (n + 3) ((((List.take i (spec_l6Copy l)) ++ [(TableEntry.mk (spec_l4Copy n_) v)]) ++ (List.drop i (spec_l6Copy l))) : List TableEntry))
    ·skip
     refine TS.op 5 rfl (by kernel_rfl) ?_
     refine R0 ?_
     refine WX.back0 ?_
     refine TX.all2 4 6 (by kernel_rfl) ?_ ?_
     ·skip
      refine TS.op 4 rfl (by kernel_rfl) ?_
      refine WX.free 108 (MF.ol [] ([] : List TableEntry)) rfl ?_
      refine WX.appPre 43 503 i ((List.take i (spec_l6Copy l)) : List TableEntry).length ttOk rfl rfl rfl rfl rfl rfl rfl rfl rfl rfl rfl rfl rfl hone2 (show i ≤ ((spec_l6Copy l)).length from (by omega)) (by have z_ := (show i ≤ ((spec_l6Copy l)).length from (by omega)); first | (simp; done) | (simp only [List.length_append, List.length_cons, List.length_nil, List.length_take, List.length_drop, List.length_set]; omega) | (simp; omega)) (by first | assumption | omega | (simp; omega)) (by first | assumption | omega | (simp; omega)) (fun _ _ => rfl) ?_
      intro p46 c35
      refine WX.turn [94] 109 rfl (fun h hs => ol_split i (show i ≤ ((spec_l6Copy l)).length from (by omega)) hs) (gs := [MF.ol (List.take (i * 2) xs3) (List.take i (spec_l6Copy l)), MF.ol (List.drop (i * 2) xs3) (List.drop i (spec_l6Copy l))]) rfl ?_
      refine WX.turn [108, 109] 111 rfl (fun h hs => ol_app hs) (gs := [MF.ol ([] ++ (List.take (i * 2) xs3)) ((List.take i (spec_l6Copy l)) : List TableEntry)]) rfl ?_
      refine R0 ?_
      refine WX.back0 ?_
      refine TX.tail [6, 7, 11, 12] rfl rfl (by kernel_rfl) ?_
      refine WX.bld ttOk rfl rfl rfl rfl rfl rfl rfl ?_
      intro p47
      refine WX.turn [93] 112 rfl (fun h hs => ol_one (α := TableEntry) (a := (TableEntry.mk (spec_l4Copy n_) v)) (x := ((p39, c30), ())) hs) (gs := [MF.ol [.slice p39 (((spec_l4Copy n_).parts).length) c30, .int .i64 (v)] ([(TableEntry.mk (spec_l4Copy n_) v)] : List TableEntry)]) rfl ?_
      have r16 : -9223372036854775808 ≤ v ∧ v ≤ 9223372036854775807 := hokv
      refine WX.know (fun G hΓ => (hΓ.get 112 rfl : OwL _ _ _).rd.one) ?_
      intro ho8
      refine WX.appR1 43 49 (((List.take i (spec_l6Copy l)) ++ [(TableEntry.mk (spec_l4Copy n_) v)]) : List TableEntry).length ttOk rfl rfl rfl rfl rfl rfl rfl rfl rfl rfl rfl rfl rfl ho8 (by first | (simp; done) | omega | (simp only [List.length_append, List.length_cons, List.length_nil, List.length_take, List.length_drop, List.length_set]; omega) | (simp; omega)) (by first | assumption | omega | (simp; omega)) (by first | assumption | omega | (simp; omega)) (fun _ _ => rfl) ?_
      intro p48 c36
      refine WX.turn [111, 112] 113 rfl (fun h hs => ol_app hs) (gs := [MF.ol (([] ++ (List.take (i * 2) xs3)) ++ [.slice p39 (((spec_l4Copy n_).parts).length) c30, .int .i64 (v)]) (((List.take i (spec_l6Copy l)) ++ [(TableEntry.mk (spec_l4Copy n_) v)]) : List TableEntry)]) rfl ?_
      refine WX.appSuf 43 503 i ((((List.take i (spec_l6Copy l)) ++ [(TableEntry.mk (spec_l4Copy n_) v)]) ++ (List.drop i (spec_l6Copy l))) : List TableEntry).length ttOk rfl rfl rfl rfl rfl rfl rfl rfl rfl rfl rfl rfl rfl hone2 (show i ≤ ((spec_l6Copy l)).length from (by omega)) (by have z_ := (show i ≤ ((spec_l6Copy l)).length from (by omega)); first | (simp; done) | (simp only [List.length_append, List.length_cons, List.length_nil, List.length_take, List.length_drop, List.length_set]; omega) | (simp; omega)) (by first | assumption | omega | (simp; omega)) (by first | assumption | omega | (simp; omega)) (fun _ _ => rfl) ?_
      intro p49 c37
      refine WX.turn [110] 114 rfl (fun h hs => ol_drop (show i ≤ i by omega) (show i ≤ ((spec_l6Copy l)).length from (by omega)) hs) (gs := [MF.ol (List.drop (i * 2) xs3) (List.drop i (spec_l6Copy l))]) rfl ?_
      refine WX.turn [113, 114] 115 rfl (fun h hs => ol_app hs) (gs := [MF.ol ((([] ++ (List.take (i * 2) xs3)) ++ [.slice p39 (((spec_l4Copy n_).parts).length) c30, .int .i64 (v)]) ++ (List.drop (i * 2) xs3)) ((((List.take i (spec_l6Copy l)) ++ [(TableEntry.mk (spec_l4Copy n_) v)]) ++ (List.drop i (spec_l6Copy l))) : List TableEntry)]) rfl ?_
      refine R0 ?_
      refine WX.seal 43 115 116 rfl rfl rfl rfl rfl ?_
      refine WX.callV rfl rfl rfl rfl rfl (fun _ => rfl) rfl (fun w G bs hI hΓ => f65 w (n + 3) (by omega) (((List.take i (spec_l6Copy l)) ++ [(TableEntry.mk (spec_l4Copy n_) v)]) ++ (List.drop i (spec_l6Copy l))) p49 c37 (hΓ.get 116 rfl) (okl_mk (by first | assumption | omega | (simp; omega)) (fun a ha => GoT.okm (show (n + 2) ≤ (n + 3) by omega) ((all_app (fun a ha => GoT.okm (show (n + 1) ≤ (n + 2) by omega) ((all_app (fun a ha => GoT.okm (show n ≤ (n + 1) by omega) ((fun a ha => (okl hq1).2 a (List.mem_of_mem_take ha)) a ha)) (fun a ha => GoT.okm (by omega) ((all_cons (α := TableEntry) (And.intro hq19 hokv) (fun a ha => by cases ha)) a ha))) a ha)) (fun a ha => GoT.okm (by omega) ((fun a ha => (okl hq1).2 a (List.mem_of_mem_drop ha)) a ha))) a ha)) : GoT.ok (n + 3) ((((List.take i (spec_l6Copy l)) ++ [(TableEntry.mk (spec_l4Copy n_) v)]) ++ (List.drop i (spec_l6Copy l))) : List TableEntry))) ?_
      intro hq22
      refine R0 ?_
      refine WX.cases 57 rfl (fun h12 => ?_) (fun h12 => ?_)
      ·skip
       have h12d := (B.nt h12)
       refine R0 ?_
       refine WX.callF 118 (fun _ _ h => GoT.ow_rd h) (fun _ f hf => GoT.fak f hf) rfl rfl rfl rfl rfl (fun _ => rfl) rfl (fun w G bs hI hΓ => f49 w n (by omega) l pl cl (hΓ.get 0 rfl) hokl) (fun _ => rfl) (fun _ => rfl) ?_
       rintro ⟨p50, c38⟩ hq23
       have q11 := len_l6Copy l
       refine R0 ?_
       have hP17 : spec_PutEntry l n_ v = (spec_l6Copy l, false) := by simp only [spec_PutEntry, h1, hX2, h12, ct, cf]
       refine R1 ?_
       intro w1 G bs hI hΓ
       rw [hP17]
       exact Post.of [119] (p50, c38) hI hΓ rfl rfl rfl (GoT.okm (α := List TableEntry) (by omega) hq23)
      ·skip
       have h12d := (B.nf h12)
       refine R0 ?_
       have hP18 : spec_PutEntry l n_ v = (((List.take i (spec_l6Copy l)) ++ [(TableEntry.mk (spec_l4Copy n_) v)]) ++ (List.drop i (spec_l6Copy l)), true) := by simp only [spec_PutEntry, h1, hX2, h12, ct, cf]
       refine R1 ?_
       intro w1 G bs hI hΓ
       rw [hP18]
       exact Post.of [117] (p49, c37) hI hΓ rfl rfl rfl (okl_mk (by first | assumption | omega | (simp; omega)) (fun a ha => GoT.okm (show (n + 2) ≤ (n + 3) by omega) ((all_app (fun a ha => GoT.okm (show (n + 1) ≤ (n + 2) by omega) ((all_app (fun a ha => GoT.okm (show n ≤ (n + 1) by omega) ((fun a ha => (okl hq1).2 a (List.mem_of_mem_take ha)) a ha)) (fun a ha => GoT.okm (by omega) ((all_cons (α := TableEntry) (And.intro hq19 hokv) (fun a ha => by cases ha)) a ha))) a ha)) (fun a ha => GoT.okm (by omega) ((fun a ha => (okl hq1).2 a (List.mem_of_mem_drop ha)) a ha))) a ha)) : GoT.ok (n + 3) ((((List.take i (spec_l6Copy l)) ++ [(TableEntry.mk (spec_l4Copy n_) v)]) ++ (List.drop i (spec_l6Copy l))) : List TableEntry))
     ·skip
      refine TS.op 6 rfl (by kernel_rfl) ?_
      refine WX.bld ttOk rfl rfl rfl rfl rfl rfl rfl ?_
      intro p51
      refine R0 ?_
      refine WX.back0 ?_
      refine TX.tail [4, 7, 11, 12] rfl rfl (by kernel_rfl) ?_
      refine WX.free 120 (MF.ol [] ([] : List TableEntry)) rfl ?_
      refine WX.appPre 43 503 i ((List.take i (spec_l6Copy l)) : List TableEntry).length ttOk rfl rfl rfl rfl rfl rfl rfl rfl rfl rfl rfl rfl rfl hone2 (show i ≤ ((spec_l6Copy l)).length from (by omega)) (by have z_ := (show i ≤ ((spec_l6Copy l)).length from (by omega)); first | (simp; done) | (simp only [List.length_append, List.length_cons, List.length_nil, List.length_take, List.length_drop, List.length_set]; omega) | (simp; omega)) (by first | assumption | omega | (simp; omega)) (by first | assumption | omega | (simp; omega)) (fun _ _ => rfl) ?_
      intro p52 c39
      refine WX.turn [94] 121 rfl (fun h hs => ol_split i (show i ≤ ((spec_l6Copy l)).length from (by omega)) hs) (gs := [MF.ol (List.take (i * 2) xs3) (List.take i (spec_l6Copy l)), MF.ol (List.drop (i * 2) xs3) (List.drop i (spec_l6Copy l))]) rfl ?_
      refine WX.turn [120, 121] 123 rfl (fun h hs => ol_app hs) (gs := [MF.ol ([] ++ (List.take (i * 2) xs3)) ((List.take i (spec_l6Copy l)) : List TableEntry)]) rfl ?_
      refine WX.turn [93] 124 rfl (fun h hs => ol_one (α := TableEntry) (a := (TableEntry.mk (spec_l4Copy n_) v)) (x := ((p39, c30), ())) hs) (gs := [MF.ol [.slice p39 (((spec_l4Copy n_).parts).length) c30, .int .i64 (v)] ([(TableEntry.mk (spec_l4Copy n_) v)] : List TableEntry)]) rfl ?_
      have r17 : -9223372036854775808 ≤ v ∧ v ≤ 9223372036854775807 := hokv
      refine WX.know (fun G hΓ => (hΓ.get 124 rfl : OwL _ _ _).rd.one) ?_
      intro ho9
      refine WX.appR1 43 49 (((List.take i (spec_l6Copy l)) ++ [(TableEntry.mk (spec_l4Copy n_) v)]) : List TableEntry).length ttOk rfl rfl rfl rfl rfl rfl rfl rfl rfl rfl rfl rfl rfl ho9 (by first | (simp; done) | omega | (simp only [List.length_append, List.length_cons, List.length_nil, List.length_take, List.length_drop, List.length_set]; omega) | (simp; omega)) (by first | assumption | omega | (simp; omega)) (by first | assumption | omega | (simp; omega)) (fun _ _ => rfl) ?_
      intro p53 c40
      refine WX.turn [123, 124] 125 rfl (fun h hs => ol_app hs) (gs := [MF.ol (([] ++ (List.take (i * 2) xs3)) ++ [.slice p39 (((spec_l4Copy n_).parts).length) c30, .int .i64 (v)]) (((List.take i (spec_l6Copy l)) ++ [(TableEntry.mk (spec_l4Copy n_) v)]) : List TableEntry)]) rfl ?_
      refine WX.appSuf 43 503 i ((((List.take i (spec_l6Copy l)) ++ [(TableEntry.mk (spec_l4Copy n_) v)]) ++ (List.drop i (spec_l6Copy l))) : List TableEntry).length ttOk rfl rfl rfl rfl rfl rfl rfl rfl rfl rfl rfl rfl rfl hone2 (show i ≤ ((spec_l6Copy l)).length from (by omega)) (by have z_ := (show i ≤ ((spec_l6Copy l)).length from (by omega)); first | (simp; done) | (simp only [List.length_append, List.length_cons, List.length_nil, List.length_take, List.length_drop, List.length_set]; omega) | (simp; omega)) (by first | assumption | omega | (simp; omega)) (by first | assumption | omega | (simp; omega)) (fun _ _ => rfl) ?_
      intro p54 c41
      refine WX.turn [122] 126 rfl (fun h hs => ol_drop (show i ≤ i by omega) (show i ≤ ((spec_l6Copy l)).length from (by omega)) hs) (gs := [MF.ol (List.drop (i * 2) xs3) (List.drop i (spec_l6Copy l))]) rfl ?_
      refine WX.turn [125, 126] 127 rfl (fun h hs => ol_app hs) (gs := [MF.ol ((([] ++ (List.take (i * 2) xs3)) ++ [.slice p39 (((spec_l4Copy n_).parts).length) c30, .int .i64 (v)]) ++ (List.drop (i * 2) xs3)) ((((List.take i (spec_l6Copy l)) ++ [(TableEntry.mk (spec_l4Copy n_) v)]) ++ (List.drop i (spec_l6Copy l))) : List TableEntry)]) rfl ?_
      refine R0 ?_
      refine WX.seal 43 127 128 rfl rfl rfl rfl rfl ?_
      refine WX.callV rfl rfl rfl rfl rfl (fun _ => rfl) rfl (fun w G bs hI hΓ => f65 w (n + 3) (by omega) (((List.take i (spec_l6Copy l)) ++ [(TableEntry.mk (spec_l4Copy n_) v)]) ++ (List.drop i (spec_l6Copy l))) p54 c41 (hΓ.get 128 rfl) (okl_mk (by first | assumption | omega | (simp; omega)) (fun a ha => GoT.okm (show (n + 2) ≤ (n + 3) by omega) ((all_app (fun a ha => GoT.okm (show (n + 1) ≤ (n + 2) by omega) ((all_app (fun a ha => GoT.okm (show n ≤ (n + 1) by omega) ((fun a ha => (okl hq1).2 a (List.mem_of_mem_take ha)) a ha)) (fun a ha => GoT.okm (by omega) ((all_cons (α := TableEntry) (And.intro hq19 hokv) (fun a ha => by cases ha)) a ha))) a ha)) (fun a ha => GoT.okm (by omega) ((fun a ha => (okl hq1).2 a (List.mem_of_mem_drop ha)) a ha))) a ha)) : GoT.ok (n + 3) ((((List.take i (spec_l6Copy l)) ++ [(TableEntry.mk (spec_l4Copy n_) v)]) ++ (List.drop i (spec_l6Copy l))) : List TableEntry))) ?_
      intro hq24
      refine R0 ?_
      refine WX.cases 57 rfl (fun h13 => ?_) (fun h13 => ?_)
      ·skip
       have h13d := (B.nt h13)
       refine R0 ?_
       refine WX.callF 130 (fun _ _ h => GoT.ow_rd h) (fun _ f hf => GoT.fak f hf) rfl rfl rfl rfl rfl (fun _ => rfl) rfl (fun w G bs hI hΓ => f49 w n (by omega) l pl cl (hΓ.get 0 rfl) hokl) (fun _ => rfl) (fun _ => rfl) ?_
       rintro ⟨p55, c42⟩ hq25
       have q12 := len_l6Copy l
       refine R0 ?_
       have hP19 : spec_PutEntry l n_ v = (spec_l6Copy l, false) := by simp only [spec_PutEntry, h1, hX2, h13, ct, cf]
       refine R1 ?_
       intro w1 G bs hI hΓ
       rw [hP19]
       exact Post.of [131] (p55, c42) hI hΓ rfl rfl rfl (GoT.okm (α := List TableEntry) (by omega) hq25)
      ·skip
       have h13d := (B.nf h13)
       refine R0 ?_
       have hP20 : spec_PutEntry l n_ v = (((List.take i (spec_l6Copy l)) ++ [(TableEntry.mk (spec_l4Copy n_) v)]) ++ (List.drop i (spec_l6Copy l)), true) := by simp only [spec_PutEntry, h1, hX2, h13, ct, cf]
       refine R1 ?_
       intro w1 G bs hI hΓ
       rw [hP20]
       exact Post.of [129] (p54, c41) hI hΓ rfl rfl rfl (okl_mk (by first | assumption | omega | (simp; omega)) (fun a ha => GoT.okm (show (n + 2) ≤ (n + 3) by omega) ((all_app (fun a ha => GoT.okm (show (n + 1) ≤ (n + 2) by omega) ((all_app (fun a ha => GoT.okm (show n ≤ (n + 1) by omega) ((fun a ha => (okl hq1).2 a (List.mem_of_mem_take ha)) a ha)) (fun a ha => GoT.okm (by omega) ((all_cons (α := TableEntry) (And.intro hq19 hokv) (fun a ha => by cases ha)) a ha))) a ha)) (fun a ha => GoT.okm (by omega) ((fun a ha => (okl hq1).2 a (List.mem_of_mem_drop ha)) a ha))) a ha)) : GoT.ok (n + 3) ((((List.take i (spec_l6Copy l)) ++ [(TableEntry.mk (spec_l4Copy n_) v)]) ++ (List.drop i (spec_l6Copy l))) : List TableEntry))
   ·skip
    refine TS.op 5 rfl (by kernel_rfl) ?_
    refine R0 ?_
    refine WX.back0 ?_
    refine TX.all2 0 6 (by kernel_rfl) ?_ ?_
    ·skip
     refine TS.op 0 rfl (by kernel_rfl) ?_
     refine WX.bld ttOk rfl rfl rfl rfl rfl rfl rfl ?_
     intro p56
     refine R0 ?_
     refine WX.back0 ?_
     refine TX.all2 4 6 (by kernel_rfl) ?_ ?_
     ·skip
      refine TS.op 4 rfl (by kernel_rfl) ?_
      refine WX.free 132 (MF.ol [] ([] : List TableEntry)) rfl ?_
      refine WX.appPre 43 503 i ((List.take i (spec_l6Copy l)) : List TableEntry).length ttOk rfl rfl rfl rfl rfl rfl rfl rfl rfl rfl rfl rfl rfl hone2 (show i ≤ ((spec_l6Copy l)).length from (by omega)) (by have z_ := (show i ≤ ((spec_l6Copy l)).length from (by omega)); first | (simp; done) | (simp only [List.length_append, List.length_cons, List.length_nil, List.length_take, List.length_drop, List.length_set]; omega) | (simp; omega)) (by first | assumption | omega | (simp; omega)) (by first | assumption | omega | (simp; omega)) (fun _ _ => rfl) ?_
      intro p57 c43
      refine WX.turn [94] 133 rfl (fun h hs => ol_split i (show i ≤ ((spec_l6Copy l)).length from (by omega)) hs) (gs := [MF.ol (List.take (i * 2) xs3) (List.take i (spec_l6Copy l)), MF.ol (List.drop (i * 2) xs3) (List.drop i (spec_l6Copy l))]) rfl ?_
      refine WX.turn [132, 133] 135 rfl (fun h hs => ol_app hs) (gs := [MF.ol ([] ++ (List.take (i * 2) xs3)) ((List.take i (spec_l6Copy l)) : List TableEntry)]) rfl ?_
      refine R0 ?_
      refine WX.back0 ?_
      refine TX.tail [6, 7, 11, 12] rfl rfl (by kernel_rfl) ?_
      refine WX.bld ttOk rfl rfl rfl rfl rfl rfl rfl ?_
      intro p58
      refine WX.turn [93] 136 rfl (fun h hs => ol_one (α := TableEntry) (a := (TableEntry.mk (spec_l4Copy n_) v)) (x := ((p39, c30), ())) hs) (gs := [MF.ol [.slice p39 (((spec_l4Copy n_).parts).length) c30, .int .i64 (v)] ([(TableEntry.mk (spec_l4Copy n_) v)] : List TableEntry)]) rfl ?_
      have r18 : -9223372036854775808 ≤ v ∧ v ≤ 9223372036854775807 := hokv
      refine WX.know (fun G hΓ => (hΓ.get 136 rfl : OwL _ _ _).rd.one) ?_
      intro ho10
      refine WX.appR1 43 49 (((List.take i (spec_l6Copy l)) ++ [(TableEntry.mk (spec_l4Copy n_) v)]) : List TableEntry).length ttOk rfl rfl rfl rfl rfl rfl rfl rfl rfl rfl rfl rfl rfl ho10 (by first | (simp; done) | omega | (simp only [List.length_append, List.length_cons, List.length_nil, List.length_take, List.length_drop, List.length_set]; omega) | (simp; omega)) (by first | assumption | omega | (simp; omega)) (by first | assumption | omega | (simp; omega)) (fun _ _ => rfl) ?_
      intro p59 c44
      refine WX.turn [135, 136] 137 rfl (fun h hs => ol_app hs) (gs := [MF.ol (([] ++ (List.take (i * 2) xs3)) ++ [.slice p39 (((spec_l4Copy n_).parts).length) c30, .int .i64 (v)]) (((List.take i (spec_l6Copy l)) ++ [(TableEntry.mk (spec_l4Copy n_) v)]) : List TableEntry)]) rfl ?_
      refine WX.appSuf 43 503 i ((((List.take i (spec_l6Copy l)) ++ [(TableEntry.mk (spec_l4Copy n_) v)]) ++ (List.drop i (spec_l6Copy l))) : List TableEntry).length ttOk rfl rfl rfl rfl rfl rfl rfl rfl rfl rfl rfl rfl rfl hone2 (show i ≤ ((spec_l6Copy l)).length from (by omega)) (by have z_ := (show i ≤ ((spec_l6Copy l)).length from (by omega)); first | (simp; done) | (simp only [List.length_append, List.length_cons, List.length_nil, List.length_take, List.length_drop, List.length_set]; omega) | (simp; omega)) (by first | assumption | omega | (simp; omega)) (by first | assumption | omega | (simp; omega)) (fun _ _ => rfl) ?_
      intro p60 c45
      refine WX.turn [134] 138 rfl (fun h hs => ol_drop (show i ≤ i by omega) (show i ≤ ((spec_l6Copy l)).length from (by omega)) hs) (gs := [MF.ol (List.drop (i * 2) xs3) (List.drop i (spec_l6Copy l))]) rfl ?_
      refine WX.turn [137, 138] 139 rfl (fun h hs => ol_app hs) (gs := [MF.ol ((([] ++ (List.take (i * 2) xs3)) ++ [.slice p39 (((spec_l4Copy n_).parts).length) c30, .int .i64 (v)]) ++ (List.drop (i * 2) xs3)) ((((List.take i (spec_l6Copy l)) ++ [(TableEntry.mk (spec_l4Copy n_) v)]) ++ (List.drop i (spec_l6Copy l))) : List TableEntry)]) rfl ?_
      refine R0 ?_
      refine WX.seal 43 139 140 rfl rfl rfl rfl rfl ?_
      refine WX.callV rfl rfl rfl rfl rfl (fun _ => rfl) rfl (fun w G bs hI hΓ => f65 w (n + 3) (by omega) (((List.take i (spec_l6Copy l)) ++ [(TableEntry.mk (spec_l4Copy n_) v)]) ++ (List.drop i (spec_l6Copy l))) p60 c45 (hΓ.get 140 rfl) (okl_mk (by first | assumption | omega | (simp; omega)) (fun a ha => GoT.okm (show (n + 2) ≤ (n + 3) by omega) ((all_app (fun a ha => GoT.okm (show (n + 1) ≤ (n + 2) by omega) ((all_app (fun a ha => GoT.okm (show n ≤ (n + 1) by omega) ((fun a ha => (okl hq1).2 a (List.mem_of_mem_take ha)) a ha)) (fun a ha => GoT.okm (by omega) ((all_cons (α := TableEntry) (And.intro hq19 hokv) (fun a ha => by cases ha)) a ha))) a ha)) (fun a ha => GoT.okm (by omega) ((fun a ha => (okl hq1).2 a (List.mem_of_mem_drop ha)) a ha))) a ha)) : GoT.ok (n + 3) ((((List.take i (spec_l6Copy l)) ++ [(TableEntry.mk (spec_l4Copy n_) v)]) ++ (List.drop i (spec_l6Copy l))) : List TableEntry))) ?_
      intro hq26
      refine R0 ?_
      refine WX.cases 57 rfl (fun h14 => ?_) (fun h14 => ?_)
      ·skip
       have h14d := (B.nt h14)
       refine R0 ?_
       refine WX.callF 142 (fun _ _ h => GoT.ow_rd h) (fun _ f hf => GoT.fak f hf) rfl rfl rfl rfl rfl (fun _ => rfl) rfl (fun w G bs hI hΓ => f49 w n (by omega) l pl cl (hΓ.get 0 rfl) hokl) (fun _ => rfl) (fun _ => rfl) ?_
       rintro ⟨p61, c46⟩ hq27
       have q13 := len_l6Copy l
       refine R0 ?_
       have hP21 : spec_PutEntry l n_ v = (spec_l6Copy l, false) := by simp only [spec_PutEntry, h1, hX2, h14, ct, cf]
       refine R1 ?_
       intro w1 G bs hI hΓ
       rw [hP21]
       exact Post.of [143] (p61, c46) hI hΓ rfl rfl rfl (GoT.okm (α := List TableEntry) (by omega) hq27)
      ·skip
       have h14d := (B.nf h14)
       refine R0 ?_
       have hP22 : spec_PutEntry l n_ v = (((List.take i (spec_l6Copy l)) ++ [(TableEntry.mk (spec_l4Copy n_) v)]) ++ (List.drop i (spec_l6Copy l)), true) := by simp only [spec_PutEntry, h1, hX2, h14, ct, cf]
       refine R1 ?_
       intro w1 G bs hI hΓ
       rw [hP22]
       exact Post.of [141] (p60, c45) hI hΓ rfl rfl rfl (okl_mk (by first | assumption | omega | (simp; omega)) (fun a ha => GoT.okm (show (n + 2) ≤ (n + 3) by omega) ((all_app (fun a ha => GoT.okm (show (n + 1) ≤ (n + 2) by omega) ((all_app (fun a ha => GoT.okm (show n ≤ (n + 1) by omega) ((fun a ha => (okl hq1).2 a (List.mem_of_mem_take ha)) a ha)) (fun a ha => GoT.okm (by omega) ((all_cons (α := TableEntry) (And.intro hq19 hokv) (fun a ha => by cases ha)) a ha))) a ha)) (fun a ha => GoT.okm (by omega) ((fun a ha => (okl hq1).2 a (List.mem_of_mem_drop ha)) a ha))) a ha)) : GoT.ok (n + 3) ((((List.take i (spec_l6Copy l)) ++ [(TableEntry.mk (spec_l4Copy n_) v)]) ++ (List.drop i (spec_l6Copy l))) : List TableEntry))
     ·skip
      refine TS.op 6 rfl (by kernel_rfl) ?_
      refine WX.bld ttOk rfl rfl rfl rfl rfl rfl rfl ?_
      intro p62
      refine R0 ?_
      refine WX.back0 ?_
      refine TX.tail [4, 7, 11, 12] rfl rfl (by kernel_rfl) ?_
      refine WX.free 144 (MF.ol [] ([] : List TableEntry)) rfl ?_
      refine WX.appPre 43 503 i ((List.take i (spec_l6Copy l)) : List TableEntry).length ttOk rfl rfl rfl rfl rfl rfl rfl rfl rfl rfl rfl rfl rfl hone2 (show i ≤ ((spec_l6Copy l)).length from (by omega)) (by have z_ := (show i ≤ ((spec_l6Copy l)).length from (by omega)); first | (simp; done) | (simp only [List.length_append, List.length_cons, List.length_nil, List.length_take, List.length_drop, List.length_set]; omega) | (simp; omega)) (by first | assumption | omega | (simp; omega)) (by first | assumption | omega | (simp; omega)) (fun _ _ => rfl) ?_
      intro p63 c47
      refine WX.turn [94] 145 rfl (fun h hs => ol_split i (show i ≤ ((spec_l6Copy l)).length from (by omega)) hs) (gs := [MF.ol (List.take (i * 2) xs3) (List.take i (spec_l6Copy l)), MF.ol (List.drop (i * 2) xs3) (List.drop i (spec_l6Copy l))]) rfl ?_
      refine WX.turn [144, 145] 147 rfl (fun h hs => ol_app hs) (gs := [MF.ol ([] ++ (List.take (i * 2) xs3)) ((List.take i (spec_l6Copy l)) : List TableEntry)]) rfl ?_
      refine WX.turn [93] 148 rfl (fun h hs => ol_one (α := TableEntry) (a := (TableEntry.mk (spec_l4Copy n_) v)) (x := ((p39, c30), ())) hs) (gs := [MF.ol [.slice p39 (((spec_l4Copy n_).parts).length) c30, .int .i64 (v)] ([(TableEntry.mk (spec_l4Copy n_) v)] : List TableEntry)]) rfl ?_
      have r19 : -9223372036854775808 ≤ v ∧ v ≤ 9223372036854775807 := hokv
      refine WX.know (fun G hΓ => (hΓ.get 148 rfl : OwL _ _ _).rd.one) ?_
      intro ho11
      refine WX.appR1 43 49 (((List.take i (spec_l6Copy l)) ++ [(TableEntry.mk (spec_l4Copy n_) v)]) : List TableEntry).length ttOk rfl rfl rfl rfl rfl rfl rfl rfl rfl rfl rfl rfl rfl ho11 (by first | (simp; done) | omega | (simp only [List.length_append, List.length_cons, List.length_nil, List.length_take, List.length_drop, List.length_set]; omega) | (simp; omega)) (by first | assumption | omega | (simp; omega)) (by first | assumption | omega | (simp; omega)) (fun _ _ => rfl) ?_
      intro p64 c48
      refine WX.turn [147, 148] 149 rfl (fun h hs => ol_app hs) (gs := [MF.ol (([] ++ (List.take (i * 2) xs3)) ++ [.slice p39 (((spec_l4Copy n_).parts).length) c30, .int .i64 (v)]) (((List.take i (spec_l6Copy l)) ++ [(TableEntry.mk (spec_l4Copy n_) v)]) : List TableEntry)]) rfl ?_
      refine WX.appSuf 43 503 i ((((List.take i (spec_l6Copy l)) ++ [(TableEntry.mk (spec_l4Copy n_) v)]) ++ (List.drop i (spec_l6Copy l))) : List TableEntry).length ttOk rfl rfl rfl rfl rfl rfl rfl rfl rfl rfl rfl rfl rfl hone2 (show i ≤ ((spec_l6Copy l)).length from (by omega)) (by have z_ := (show i ≤ ((spec_l6Copy l)).length from (by omega)); first | (simp; done) | (simp only [List.length_append, List.length_cons, List.length_nil, List.length_take, List.length_drop, List.length_set]; omega) | (simp; omega)) (by first | assumption | omega | (simp; omega)) (by first | assumption | omega | (simp; omega)) (fun _ _ => rfl) ?_
      intro p65 c49
      refine WX.turn [146] 150 rfl (fun h hs => ol_drop (show i ≤ i by omega) (show i ≤ ((spec_l6Copy l)).length from (by omega)) hs) (gs := [MF.ol (List.drop (i * 2) xs3) (List.drop i (spec_l6Copy l))]) rfl ?_
      refine WX.turn [149, 150] 151 rfl (fun h hs => ol_app hs) (gs := [MF.ol ((([] ++ (List.take (i * 2) xs3)) ++ [.slice p39 (((spec_l4Copy n_).parts).length) c30, .int .i64 (v)]) ++ (List.drop (i * 2) xs3)) ((((List.take i (spec_l6Copy l)) ++ [(TableEntry.mk (spec_l4Copy n_) v)]) ++ (List.drop i (spec_l6Copy l))) : List TableEntry)]) rfl ?_
      refine R0 ?_
      refine WX.seal 43 151 152 rfl rfl rfl rfl rfl ?_
      refine WX.callV rfl rfl rfl rfl rfl (fun _ => rfl) rfl (fun w G bs hI hΓ => f65 w (n + 3) (by omega) (((List.take i (spec_l6Copy l)) ++ [(TableEntry.mk (spec_l4Copy n_) v)]) ++ (List.drop i (spec_l6Copy l))) p65 c49 (hΓ.get 152 rfl) (okl_mk (by first | assumption | omega | (simp; omega)) (fun a ha => GoT.okm (show (n + 2) ≤ (n + 3) by omega) ((all_app (fun a ha => GoT.okm (show (n + 1) ≤ (n + 2) by omega) ((all_app (fun a ha => GoT.okm (show n ≤ (n + 1) by omega) ((fun a ha => (okl hq1).2 a (List.mem_of_mem_take ha)) a ha)) (fun a ha => GoT.okm (by omega) ((all_cons (α := TableEntry) (And.intro hq19 hokv) (fun a ha => by cases ha)) a ha))) a ha)) (fun a ha => GoT.okm (by omega) ((fun a ha => (okl hq1).2 a (List.mem_of_mem_drop ha)) a ha))) a ha)) : GoT.ok (n + 3) ((((List.take i (spec_l6Copy l)) ++ [(TableEntry.mk (spec_l4Copy n_) v)]) ++ (List.drop i (spec_l6Copy l))) : List TableEntry))) ?_
      intro hq28
      refine R0 ?_
      refine WX.cases 57 rfl (fun h15 => ?_) (fun h15 => ?_)
      ·skip
       have h15d := (B.nt h15)
       refine R0 ?_
       refine WX.callF 154 (fun _ _ h => GoT.ow_rd h) (fun _ f hf => GoT.fak f hf) rfl rfl rfl rfl rfl (fun _ => rfl) rfl (fun w G bs hI hΓ => f49 w n (by omega) l pl cl (hΓ.get 0 rfl) hokl) (fun _ => rfl) (fun _ => rfl) ?_
       rintro ⟨p66, c50⟩ hq29
       have q14 := len_l6Copy l
       refine R0 ?_
       have hP23 : spec_PutEntry l n_ v = (spec_l6Copy l, false) := by simp only [spec_PutEntry, h1, hX2, h15, ct, cf]
       refine R1 ?_
       intro w1 G bs hI hΓ
       rw [hP23]
       exact Post.of [155] (p66, c50) hI hΓ rfl rfl rfl (GoT.okm (α := List TableEntry) (by omega) hq29)
      ·skip
       have h15d := (B.nf h15)
       refine R0 ?_
       have hP24 : spec_PutEntry l n_ v = (((List.take i (spec_l6Copy l)) ++ [(TableEntry.mk (spec_l4Copy n_) v)]) ++ (List.drop i (spec_l6Copy l)), true) := by simp only [spec_PutEntry, h1, hX2, h15, ct, cf]
       refine R1 ?_
       intro w1 G bs hI hΓ
       rw [hP24]
       exact Post.of [153] (p65, c49) hI hΓ rfl rfl rfl (okl_mk (by first | assumption | omega | (simp; omega)) (fun a ha => GoT.okm (show (n + 2) ≤ (n + 3) by omega) ((all_app (fun a ha => GoT.okm (show (n + 1) ≤ (n + 2) by omega) ((all_app (fun a ha => GoT.okm (show n ≤ (n + 1) by omega) ((fun a ha => (okl hq1).2 a (List.mem_of_mem_take ha)) a ha)) (fun a ha => GoT.okm (by omega) ((all_cons (α := TableEntry) (And.intro hq19 hokv) (fun a ha => by cases ha)) a ha))) a ha)) (fun a ha => GoT.okm (by omega) ((fun a ha => (okl hq1).2 a (List.mem_of_mem_drop ha)) a ha))) a ha)) : GoT.ok (n + 3) ((((List.take i (spec_l6Copy l)) ++ [(TableEntry.mk (spec_l4Copy n_) v)]) ++ (List.drop i (spec_l6Copy l))) : List TableEntry))
    ·skip
     refine TS.op 6 rfl (by kernel_rfl) ?_
     refine WX.bld ttOk rfl rfl rfl rfl rfl rfl rfl ?_
     intro p67
     refine R0 ?_
     refine WX.back0 ?_
     refine TX.tail [0, 4, 7, 11, 12] rfl rfl (by kernel_rfl) ?_
     refine WX.bld ttOk rfl rfl rfl rfl rfl rfl rfl ?_
     intro p68
     refine WX.free 156 (MF.ol [] ([] : List TableEntry)) rfl ?_
     refine WX.appPre 43 503 i ((List.take i (spec_l6Copy l)) : List TableEntry).length ttOk rfl rfl rfl rfl rfl rfl rfl rfl rfl rfl rfl rfl rfl hone2 (show i ≤ ((spec_l6Copy l)).length from (by omega)) (by have z_ := (show i ≤ ((spec_l6Copy l)).length from (by omega)); first | (simp; done) | (simp only [List.length_append, List.length_cons, List.length_nil, List.length_take, List.length_drop, List.length_set]; omega) | (simp; omega)) (by first | assumption | omega | (simp; omega)) (by first | assumption | omega | (simp; omega)) (fun _ _ => rfl) ?_
     intro p69 c51
     refine WX.turn [94] 157 rfl (fun h hs => ol_split i (show i ≤ ((spec_l6Copy l)).length from (by omega)) hs) (gs := [MF.ol (List.take (i * 2) xs3) (List.take i (spec_l6Copy l)), MF.ol (List.drop (i * 2) xs3) (List.drop i (spec_l6Copy l))]) rfl ?_
     refine WX.turn [156, 157] 159 rfl (fun h hs => ol_app hs) (gs := [MF.ol ([] ++ (List.take (i * 2) xs3)) ((List.take i (spec_l6Copy l)) : List TableEntry)]) rfl ?_
     refine WX.turn [93] 160 rfl (fun h hs => ol_one (α := TableEntry) (a := (TableEntry.mk (spec_l4Copy n_) v)) (x := ((p39, c30), ())) hs) (gs := [MF.ol [.slice p39 (((spec_l4Copy n_).parts).length) c30, .int .i64 (v)] ([(TableEntry.mk (spec_l4Copy n_) v)] : List TableEntry)]) rfl ?_
     have r20 : -9223372036854775808 ≤ v ∧ v ≤ 9223372036854775807 := hokv
     refine WX.know (fun G hΓ => (hΓ.get 160 rfl : OwL _ _ _).rd.one) ?_
     intro ho12
     refine WX.appR1 43 49 (((List.take i (spec_l6Copy l)) ++ [(TableEntry.mk (spec_l4Copy n_) v)]) : List TableEntry).length ttOk rfl rfl rfl rfl rfl rfl rfl rfl rfl rfl rfl rfl rfl ho12 (by first | (simp; done) | omega | (simp only [List.length_append, List.length_cons, List.length_nil, List.length_take, List.length_drop, List.length_set]; omega) | (simp; omega)) (by first | assumption | omega | (simp; omega)) (by first | assumption | omega | (simp; omega)) (fun _ _ => rfl) ?_
     intro p70 c52
     refine WX.turn [159, 160] 161 rfl (fun h hs => ol_app hs) (gs := [MF.ol (([] ++ (List.take (i * 2) xs3)) ++ [.slice p39 (((spec_l4Copy n_).parts).length) c30, .int .i64 (v)]) (((List.take i (spec_l6Copy l)) ++ [(TableEntry.mk (spec_l4Copy n_) v)]) : List TableEntry)]) rfl ?_
     refine WX.appSuf 43 503 i ((((List.take i (spec_l6Copy l)) ++ [(TableEntry.mk (spec_l4Copy n_) v)]) ++ (List.drop i (spec_l6Copy l))) : List TableEntry).length ttOk rfl rfl rfl rfl rfl rfl rfl rfl rfl rfl rfl rfl rfl hone2 (show i ≤ ((spec_l6Copy l)).length from (by omega)) (by have z_ := (show i ≤ ((spec_l6Copy l)).length from (by omega)); first | (simp; done) | (simp only [List.length_append, List.length_cons, List.length_nil, List.length_take, List.length_drop, List.length_set]; omega) | (simp; omega)) (by first | assumption | omega | (simp; omega)) (by first | assumption | omega | (simp; omega)) (fun _ _ => rfl) ?_
     intro p71 c53
     refine WX.turn [158] 162 rfl (fun h hs => ol_drop (show i ≤ i by omega) (show i ≤ ((spec_l6Copy l)).length from (by omega)) hs) (gs := [MF.ol (List.drop (i * 2) xs3) (List.drop i (spec_l6Copy l))]) rfl ?_
     refine WX.turn [161, 162] 163 rfl (fun h hs => ol_app hs) (gs := [MF.ol ((([] ++ (List.take (i * 2) xs3)) ++ [.slice p39 (((spec_l4Copy n_).parts).length) c30, .int .i64 (v)]) ++ (List.drop (i * 2) xs3)) ((((List.take i (spec_l6Copy l)) ++ [(TableEntry.mk (spec_l4Copy n_) v)]) ++ (List.drop i (spec_l6Copy l))) : List TableEntry)]) rfl ?_
     refine R0 ?_
     refine WX.seal 43 163 164 rfl rfl rfl rfl rfl ?_
     refine WX.callV rfl rfl rfl rfl rfl (fun _ => rfl) rfl (fun w G bs hI hΓ => f65 w (n + 3) (by omega) (((List.take i (spec_l6Copy l)) ++ [(TableEntry.mk (spec_l4Copy n_) v)]) ++ (List.drop i (spec_l6Copy l))) p71 c53 (hΓ.get 164 rfl) (okl_mk (by first | assumption | omega | (simp; omega)) (fun a ha => GoT.okm (show (n + 2) ≤ (n + 3) by omega) ((all_app (fun a ha => GoT.okm (show (n + 1) ≤ (n + 2) by omega) ((all_app (fun a ha => GoT.okm (show n ≤ (n + 1) by omega) ((fun a ha => (okl hq1).2 a (List.mem_of_mem_take ha)) a ha)) (fun a ha => GoT.okm (by omega) ((all_cons (α := TableEntry) (And.intro hq19 hokv) (fun a ha => by cases ha)) a ha))) a ha)) (fun a ha => GoT.okm (by omega) ((fun a ha => (okl hq1).2 a (List.mem_of_mem_drop ha)) a ha))) a ha)) : GoT.ok (n + 3) ((((List.take i (spec_l6Copy l)) ++ [(TableEntry.mk (spec_l4Copy n_) v)]) ++ (List.drop i (spec_l6Copy l))) : List TableEntry))) ?_
     intro hq30
     refine R0 ?_
     refine WX.cases 57 rfl (fun h16 => ?_) (fun h16 => ?_)
     ·skip
      have h16d := (B.nt h16)
      refine R0 ?_
      refine WX.callF 166 (fun _ _ h => GoT.ow_rd h) (fun _ f hf => GoT.fak f hf) rfl rfl rfl rfl rfl (fun _ => rfl) rfl (fun w G bs hI hΓ => f49 w n (by omega) l pl cl (hΓ.get 0 rfl) hokl) (fun _ => rfl) (fun _ => rfl) ?_
      rintro ⟨p72, c54⟩ hq31
      have q15 := len_l6Copy l
      refine R0 ?_
      have hP25 : spec_PutEntry l n_ v = (spec_l6Copy l, false) := by simp only [spec_PutEntry, h1, hX2, h16, ct, cf]
      refine R1 ?_
      intro w1 G bs hI hΓ
      rw [hP25]
      exact Post.of [167] (p72, c54) hI hΓ rfl rfl rfl (GoT.okm (α := List TableEntry) (by omega) hq31)
     ·skip
      have h16d := (B.nf h16)
      refine R0 ?_
      have hP26 : spec_PutEntry l n_ v = (((List.take i (spec_l6Copy l)) ++ [(TableEntry.mk (spec_l4Copy n_) v)]) ++ (List.drop i (spec_l6Copy l)), true) := by simp only [spec_PutEntry, h1, hX2, h16, ct, cf]
      refine R1 ?_
      intro w1 G bs hI hΓ
      rw [hP26]
      exact Post.of [165] (p71, c53) hI hΓ rfl rfl rfl (okl_mk (by first | assumption | omega | (simp; omega)) (fun a ha => GoT.okm (show (n + 2) ≤ (n + 3) by omega) ((all_app (fun a ha => GoT.okm (show (n + 1) ≤ (n + 2) by omega) ((all_app (fun a ha => GoT.okm (show n ≤ (n + 1) by omega) ((fun a ha => (okl hq1).2 a (List.mem_of_mem_take ha)) a ha)) (fun a ha => GoT.okm (by omega) ((all_cons (α := TableEntry) (And.intro hq19 hokv) (fun a ha => by cases ha)) a ha))) a ha)) (fun a ha => GoT.okm (by omega) ((fun a ha => (okl hq1).2 a (List.mem_of_mem_drop ha)) a ha))) a ha)) : GoT.ok (n + 3) ((((List.take i (spec_l6Copy l)) ++ [(TableEntry.mk (spec_l4Copy n_) v)]) ++ (List.drop i (spec_l6Copy l))) : List TableEntry))
end Go.Proofs.Ytdimfabadjfkiaa

namespace Go.Stp
set_option linter.unusedVariables false
set_option linter.unusedSimpArgs false
def impl_JoinVectors_L1 : List TableEntry → (List TableEntry) → (List TableEntry)
  | [], out => ((out) : List TableEntry)
  | e1 :: rest_, out =>
    bif decide (e1.value > (impl_SeqOf (StateVector.mk out) e1.name)) then
      impl_JoinVectors_L1 rest_ (((impl_PutEntry out e1.name e1.value).1) : List TableEntry)
    else
      impl_JoinVectors_L1 rest_ ((out) : List TableEntry)
def impl_JoinVectors (a : StateVector) (b : StateVector) : StateVector :=
  match impl_JoinVectors_L1 b.entries ((impl_copyTable a.entries) : List TableEntry) with
    | out =>
      (StateVector.mk out)
def spec_JoinVectors_L1 : List TableEntry → (List TableEntry) → (List TableEntry)
  | [], l => ((l) : List TableEntry)
  | e1 :: rest_, l =>
    bif decide (e1.value > (spec_SeqOf (StateVector.mk l) e1.name)) then
      spec_JoinVectors_L1 rest_ (((spec_PutEntry l e1.name e1.value).1) : List TableEntry)
    else
      spec_JoinVectors_L1 rest_ ((l) : List TableEntry)
def spec_JoinVectors (a : StateVector) (b : StateVector) : StateVector :=
  match spec_JoinVectors_L1 b.entries ((spec_l6Copy a.entries) : List TableEntry) with
    | l =>
      (StateVector.mk l)
end Go.Stp

namespace Go.Proofs.Ytdimfabadjfkiaa
open Go.Stp
set_option linter.unusedVariables false
set_option linter.unusedSimpArgs false
theorem f19 (w : World) (n : Nat) (hn : n + 2 ≤ 9) (a : StateVector) (pa : Option Addr) (ca : Nat) (N0 : RdSl (hp w) pa ca a.entries) (b : StateVector) (pb : Option Addr) (cb : Nat) (N1 : RdSl (hp w) pb cb b.entries) (hoka : GoT.ok n a) (hokb : GoT.ok n b) :
  Does Try.prog 19 #[.agg #[.slice pa ((a.entries).length) ca], .agg #[.slice pb ((b.entries).length) cb]] w emp (Post w emp (fun x : GoT.X (StateVector) => .agg ⟨GoT.sh ((impl_JoinVectors a b) : StateVector) x⟩) (fun x => GoT.oa ((impl_JoinVectors a b) : StateVector) x) (GoT.ok (n + 1) ((impl_JoinVectors a b) : StateVector))) := by
 have hbP := bd_pos n
 have hbS0 : bd (n + 1) = 4 * bd (n) := bd_succ (n := n) (by omega)
 have hbS1 : bd (n + 2) = 4 * bd (n + 1) := bd_succ (n := n + 1) (by omega)
 have hbB := bd_big (n := (n + 2)) (by omega)
 have hbM := bd_mono (show n ≤ n + 2 by omega)
 refine WX.enter (tt := tt) (Γ := [(0, MF.rs .stb pa ca a.entries), (1, MF.rs .stb pb cb b.entries)]) Try.func19 rfl (by kernel_rfl) rfl (allS_cons rfl N0 (allS_cons rfl N1 allS_nil)) ?_
 refine R0 ?_
 refine WX.callF 2 (fun _ _ h => GoT.ow_rd h) (fun _ f hf => GoT.fak f hf) rfl rfl rfl rfl rfl (fun _ => rfl) rfl (fun w G bs hI hΓ => f47 w n (by omega) a.entries pa ca (hΓ.get 0 rfl) (ok_StateVector hoka)) (fun _ => rfl) (fun _ => rfl) ?_
 rintro ⟨p1, c1⟩ hq1
 have q1 := len_copyTable a.entries
 refine R0 ?_
 have r1 : (b.entries).length ≤ bd n := (okl (ok_StateVector hokb)).1
 have hA0 : a.entries.length ≤ bd n := (okl (ok_StateVector hoka)).1
 refine WX.loop (ι := Nat × (Option Addr) × Nat × (List TableEntry)) ⟨fun | (i, pout, cout, out) => (i ≤ (b.entries).length) ∧ (out.length ≤ bd (n + 1) ∧ ∀ z_ ∈ out, GoT.ok (n + 1) z_) ∧ (out.length ≤ i + ((impl_copyTable a.entries)).length) ∧ (impl_JoinVectors_L1 b.entries ((impl_copyTable a.entries) : List TableEntry) = impl_JoinVectors_L1 ((b.entries).drop i) out), fun | (i, pout, cout, out) => (b.entries).length - i, fun | (i, pout, cout, out) => [(15, .v (.int .i64 (((i : Nat) : Int)))), (14, .v (.int .i64 ((((b.entries).length : Nat) : Int)))), (13, .v (.slice pb ((b.entries).length) cb)), (5, .p 5 0), (4, .p 4 0)], fun | (i, pout, cout, out) => [(5, ⟨30, [.slice pout ((out).length) cout]⟩), (4, ⟨30, [.slice none (0) 0]⟩)], fun | (i, pout, cout, out) => [], fun | (i, pout, cout, out) => [(0, MF.rs .stb pa ca a.entries), (1, MF.rs .stb pb cb b.entries), (3, MF.os pout cout out)]⟩ (0, p1, c1, ((impl_copyTable a.entries) : List TableEntry)) ⟨(Nat.zero_le _), (GoT.okm (α := List TableEntry) (by omega) hq1), (by simp), rfl⟩
  (.cons rfl (.cons rfl (.cons rfl (.cons rfl (.cons rfl (.nil)))))) (.cons rfl (.cons rfl (.nil))) .nil [0, 1, 3] rfl ?_
 rintro ⟨i, pout, cout, out⟩ hpre
 have hpre_ : (i ≤ (b.entries).length) ∧ (out.length ≤ bd (n + 1) ∧ ∀ z_ ∈ out, GoT.ok (n + 1) z_) ∧ (out.length ≤ i + ((impl_copyTable a.entries)).length) ∧ (impl_JoinVectors_L1 b.entries ((impl_copyTable a.entries) : List TableEntry) = impl_JoinVectors_L1 ((b.entries).drop i) out) := hpre
 clear hpre
 obtain ⟨v1, v2, v3, v4⟩ := hpre_
 have v2L := v2.1
 refine R0 ?_
 refine WX.cases 16 rfl (fun h1 => ?_) (fun h1 => ?_)
 ·skip
  have h1d := B.dt h1
  have e1i : i < (b.entries).length := (by omega)
  obtain ⟨e1, e1h⟩ : ∃ e1, (b.entries)[i]? = some e1 := ⟨_, List.getElem?_eq_getElem e1i⟩
  have ok1 : GoT.ok n e1 := (okl (ok_StateVector hokb)).2 _ (List.mem_of_getElem? e1h)
  refine R0 ?_
  refine WX.idx 1 i ttOk rfl rfl rfl rfl rfl rfl rfl rfl rfl rfl e1i ?_
  rintro ad1 rfl
  refine WX.ldE 1 4 e1 ttOk rfl rfl rfl rfl rfl rfl rfl rfl e1h (fun _ => rfl) (fun _ => rfl) ?_
  rintro ⟨⟨p2, c2⟩, ⟨⟩⟩
  refine R0 ?_
  refine WX.der 5 (MF.rs .der pout cout out) rfl (fun _ hΓ => (hΓ.get 3 rfl : OwSl _ _ _ _).rd) ?_
  refine WX.draw [] mixed ?_
  intro bs G0 hΓ0
  refine DX.takes (fuel := 2) ttOk [(0, true), (1, false), (2, false), (3, true), (4, false)] (by kernel_rfl) rfl ?_
  refine DX.callV 5 rfl (by kernel_rfl) rfl rfl rfl rfl rfl rfl (fun _ => rfl) rfl (fun w G bs hI hΓ => f28 w (n + 1) (by omega) (StateVector.mk out) pout cout (hΓ.get 5 rfl) e1.name p2 c2 (hΓ.get 4 rfl) (okl_of v2) (GoT.okm (α := List Str) (by omega) (ok_Name (ok_TableEntry ok1).1))) ?_
  intro hq2
  refine DX.takes (fuel := 0) ttOk [(6, true)] (by kernel_rfl) rfl ?_
  refine DX.tail2 [] rfl rfl (by kernel_rfl) ?_
  refine R0 ?_
  refine WX.cases 25 rfl (fun h2 => ?_) (fun h2 => ?_)
  ·skip
   have h2d := B.dt h2
   refine R0 ?_
   refine WX.callF 6 (fun _ _ h => GoT.ow_rd h) (fun _ f hf => GoT.fak f hf) rfl rfl rfl rfl rfl (fun _ => rfl) rfl (fun w G bs hI hΓ => f48 w (n + 1) (by omega) out pout cout (hΓ.get 5 rfl) e1.name p2 c2 (hΓ.get 4 rfl) e1.value (okl_of v2) (GoT.okm (α := List Str) (by omega) (ok_Name (ok_TableEntry ok1).1)) ((ok_TableEntry ok1).2)) (fun _ => rfl) (fun _ => rfl) ?_
   rintro ⟨p3, c3⟩ hq3
   have q2 := (put_impl out e1.name e1.value).len
   have hfx1 := (put_impl out e1.name e1.value).els (k := (n + 1)) v2.2 (GoT.okm (α := List Str) (by omega) (ok_Name (ok_TableEntry ok1).1)) (ok_TableEntry ok1).2
   refine R0 ?_
   refine WX.see rfl rfl rfl (fun _ hΓ => looks_arith rfl rfl rfl rfl (by unfold I64; first | omega | (simp only [List.length_take] at *; omega))) ?_
   refine R0 ?_
   refine WX.turn [7] 3 rfl (fun _ h => h) rfl ?_
   have r2 : -9223372036854775808 ≤ e1.value ∧ e1.value ≤ 9223372036854775807 := (ok_TableEntry ok1).2
   have r3 : ((impl_PutEntry out e1.name e1.value).1).length ≤ bd (n + 2) := (okl hq3).1
   exact WX.iter (i + 1, p3, c3, (impl_PutEntry out e1.name e1.value).1) ⟨(by omega), (okl_mk (by omega) hfx1 : GoT.ok (n + 1) ((impl_PutEntry out e1.name e1.value).1 : List TableEntry)), (by first | assumption | omega | (simp; omega)), (by rw [v4, drop_get e1h]; simp only [impl_JoinVectors_L1, h2, ct, cf])⟩ (by first | (dsimp only; omega) | omega) (.cons rfl (.cons rfl (.cons rfl (.cons rfl (.cons rfl (.nil)))))) (.cons rfl (.cons rfl (.nil))) .nil [0, 1, 3] rfl
  ·skip
   have h2d := B.df h2
   refine R0 ?_
   refine WX.see rfl rfl rfl (fun _ hΓ => looks_arith rfl rfl rfl rfl (by unfold I64; first | omega | (simp only [List.length_take] at *; omega))) ?_
   refine R0 ?_
   exact WX.iter (i + 1, pout, cout, out) ⟨(by omega), (okl_of v2), (by first | assumption | omega | (simp; omega)), (by rw [v4, drop_get e1h]; simp only [impl_JoinVectors_L1, h2, ct, cf])⟩ (by first | (dsimp only; omega) | omega) (.cons rfl (.cons rfl (.cons rfl (.cons rfl (.cons rfl (.nil)))))) (.cons rfl (.cons rfl (.nil))) .nil [0, 1, 3] rfl
 ·skip
  have h1d := B.df h1
  refine R0 ?_
  have hX1 : impl_JoinVectors_L1 b.entries ((impl_copyTable a.entries) : List TableEntry) = ((out) : List TableEntry) := by rw [v4, List.drop_eq_nil_of_le (show (b.entries).length ≤ i by omega)]; simp only [impl_JoinVectors_L1, ct, cf]
  have hP1 : impl_JoinVectors a b = (StateVector.mk out) := by simp only [impl_JoinVectors, hX1, ct, cf]
  refine R1 ?_
  intro w1 G bs hI hΓ
  rw [hP1]
  exact Post.of [3] (pout, cout) hI hΓ rfl rfl rfl (okl_of v2)
theorem f20 (w : World) (n : Nat) (hn : n + 4 ≤ 9) (a : StateVector) (pa : Option Addr) (ca : Nat) (N0 : RdSl (hp w) pa ca a.entries) (b : StateVector) (pb : Option Addr) (cb : Nat) (N1 : RdSl (hp w) pb cb b.entries) (hoka : GoT.ok n a) (hokb : GoT.ok n b) :
  Does Try.prog 20 #[.agg #[.slice pa ((a.entries).length) ca], .agg #[.slice pb ((b.entries).length) cb]] w emp (Post w emp (fun x : GoT.X (StateVector) => .agg ⟨GoT.sh ((spec_JoinVectors a b) : StateVector) x⟩) (fun x => GoT.oa ((spec_JoinVectors a b) : StateVector) x) (GoT.ok (n + 1) ((spec_JoinVectors a b) : StateVector))) := by
 have hbP := bd_pos n
 have hbS0 : bd (n + 1) = 4 * bd (n) := bd_succ (n := n) (by omega)
 have hbS1 : bd (n + 2) = 4 * bd (n + 1) := bd_succ (n := n + 1) (by omega)
 have hbS2 : bd (n + 3) = 4 * bd (n + 2) := bd_succ (n := n + 2) (by omega)
 have hbS3 : bd (n + 4) = 4 * bd (n + 3) := bd_succ (n := n + 3) (by omega)
 have hbB := bd_big (n := (n + 4)) (by omega)
 have hbM := bd_mono (show n ≤ n + 4 by omega)
 refine WX.enter (tt := tt) (Γ := [(0, MF.rs .stb pa ca a.entries), (1, MF.rs .stb pb cb b.entries)]) Try.func20 rfl (by kernel_rfl) rfl (allS_cons rfl N0 (allS_cons rfl N1 allS_nil)) ?_
 refine R0 ?_
 refine WX.callF 2 (fun _ _ h => GoT.ow_rd h) (fun _ f hf => GoT.fak f hf) rfl rfl rfl rfl rfl (fun _ => rfl) rfl (fun w G bs hI hΓ => f49 w n (by omega) a.entries pa ca (hΓ.get 0 rfl) (ok_StateVector hoka)) (fun _ => rfl) (fun _ => rfl) ?_
 rintro ⟨p1, c1⟩ hq1
 have q1 := len_l6Copy a.entries
 refine R0 ?_
 have r1 : (b.entries).length ≤ bd n := (okl (ok_StateVector hokb)).1
 have hA0 : a.entries.length ≤ bd n := (okl (ok_StateVector hoka)).1
 refine WX.loop (ι := (Option Addr) × Nat × (List TableEntry) × Nat) ⟨fun | (pl, cl, l, i) => (i ≤ (b.entries).length) ∧ (l.length ≤ bd (n + 1) ∧ ∀ z_ ∈ l, GoT.ok (n + 1) z_) ∧ (l.length ≤ i + ((spec_l6Copy a.entries)).length) ∧ (spec_JoinVectors_L1 b.entries ((spec_l6Copy a.entries) : List TableEntry) = spec_JoinVectors_L1 ((b.entries).drop i) l), fun | (pl, cl, l, i) => (b.entries).length - i, fun | (pl, cl, l, i) => [(5, .v (.slice pl ((l).length) cl)), (6, .v (.int .i64 (((i : Nat) : Int)))), (4, .p 4 0), (3, .p 3 0)], fun | (pl, cl, l, i) => [(4, ⟨30, [.slice none (0) 0]⟩), (3, ⟨30, [.slice pb ((b.entries).length) cb]⟩)], fun | (pl, cl, l, i) => [], fun | (pl, cl, l, i) => [(0, MF.rs .stb pa ca a.entries), (1, MF.rs .stb pb cb b.entries), (3, MF.os pl cl l)]⟩ (p1, c1, ((spec_l6Copy a.entries) : List TableEntry), 0) ⟨(Nat.zero_le _), (GoT.okm (α := List TableEntry) (by omega) hq1), (by simp), rfl⟩
  (.cons rfl (.cons rfl (.cons rfl (.cons rfl (.nil))))) (.cons rfl (.cons rfl (.nil))) .nil [0, 1, 3] rfl ?_
 rintro ⟨pl, cl, l, i⟩ hpre
 have hpre_ : (i ≤ (b.entries).length) ∧ (l.length ≤ bd (n + 1) ∧ ∀ z_ ∈ l, GoT.ok (n + 1) z_) ∧ (l.length ≤ i + ((spec_l6Copy a.entries)).length) ∧ (spec_JoinVectors_L1 b.entries ((spec_l6Copy a.entries) : List TableEntry) = spec_JoinVectors_L1 ((b.entries).drop i) l) := hpre
 clear hpre
 obtain ⟨v1, v2, v3, v4⟩ := hpre_
 have v2L := v2.1
 refine R0 ?_
 refine WX.cases 16 rfl (fun h1 => ?_) (fun h1 => ?_)
 ·skip
  have h1d := B.dt h1
  have e1i : i < (b.entries).length := (by omega)
  obtain ⟨e1, e1h⟩ : ∃ e1, (b.entries)[i]? = some e1 := ⟨_, List.getElem?_eq_getElem e1i⟩
  have ok1 : GoT.ok n e1 := (okl (ok_StateVector hokb)).2 _ (List.mem_of_getElem? e1h)
  refine R0 ?_
  refine WX.der 4 (MF.rs .der pl cl l) rfl (fun _ hΓ => (hΓ.get 3 rfl : OwSl _ _ _ _).rd) ?_
  refine WX.draw [] mixed ?_
  intro bs G0 hΓ0
  refine DX.takes (fuel := 13) ttOk [(0, true), (1, false), (2, true)] (by kernel_rfl) rfl ?_
  refine DX.idx 3 1 i ttOk hΓ0 (by kernel_rfl) rfl rfl rfl rfl rfl rfl rfl rfl rfl rfl rfl e1i ?_
  rintro ad1 rfl
  refine DX.takes (fuel := 11) ttOk [(4, true)] (by kernel_rfl) rfl ?_
  refine DX.ldE 5 1 5 e1 ttOk hΓ0 (by kernel_rfl) rfl rfl rfl rfl rfl rfl rfl rfl e1h (fun _ => rfl) (fun _ => rfl) ?_
  rintro ⟨⟨p2, c2⟩, ⟨⟩⟩
  refine DX.takes (fuel := 5) ttOk [(6, true), (7, true), (8, true), (9, false), (10, true)] (by kernel_rfl) rfl ?_
  refine DX.idx 11 1 i ttOk hΓ0 (by kernel_rfl) rfl rfl rfl rfl rfl rfl rfl rfl rfl rfl rfl e1i ?_
  rintro ad2 ⟨⟩
  refine DX.takes (fuel := 3) ttOk [(12, true)] (by kernel_rfl) rfl ?_
  refine DX.ldE 13 1 6 e1 ttOk hΓ0 (by kernel_rfl) rfl rfl rfl rfl rfl rfl rfl rfl e1h (fun _ => rfl) (fun _ => rfl) ?_
  rintro ⟨⟨p3, c3⟩, ⟨⟩⟩
  refine DX.callV 14 rfl (by kernel_rfl) rfl rfl rfl rfl rfl rfl (fun _ => rfl) rfl (fun w G bs hI hΓ => f29 w (n + 1) (by omega) (StateVector.mk l) pl cl (hΓ.get 4 rfl) e1.name p3 c3 (hΓ.get 6 rfl) (okl_of v2) (GoT.okm (α := List Str) (by omega) (ok_Name (ok_TableEntry ok1).1))) ?_
  intro hq2
  refine DX.takes (fuel := 0) ttOk [(15, true)] (by kernel_rfl) rfl ?_
  refine DX.tail2 [] rfl rfl (by kernel_rfl) ?_
  refine R0 ?_
  refine WX.cases 34 rfl (fun h2 => ?_) (fun h2 => ?_)
  ·skip
   have h2d := B.dt h2
   refine R0 ?_
   refine WX.draw [] mixed ?_
   intro bs G0 hΓ0
   refine DX.takes (fuel := 15) ttOk [(0, true), (1, true), (2, false), (3, true)] (by kernel_rfl) rfl ?_
   refine DX.idx 4 1 i ttOk hΓ0 (by kernel_rfl) rfl rfl rfl rfl rfl rfl rfl rfl rfl rfl rfl e1i ?_
   rintro ad3 ⟨⟩
   refine DX.takes (fuel := 13) ttOk [(5, true)] (by kernel_rfl) rfl ?_
   refine DX.ldE 6 1 7 e1 ttOk hΓ0 (by kernel_rfl) rfl rfl rfl rfl rfl rfl rfl rfl e1h (fun _ => rfl) (fun _ => rfl) ?_
   rintro ⟨⟨p4, c4⟩, ⟨⟩⟩
   refine DX.takes (fuel := 9) ttOk [(7, true), (8, false), (9, true)] (by kernel_rfl) rfl ?_
   refine DX.idx 10 1 i ttOk hΓ0 (by kernel_rfl) rfl rfl rfl rfl rfl rfl rfl rfl rfl rfl rfl e1i ?_
   rintro ad4 ⟨⟩
   refine DX.takes (fuel := 7) ttOk [(11, true)] (by kernel_rfl) rfl ?_
   refine DX.ldE 12 1 8 e1 ttOk hΓ0 (by kernel_rfl) rfl rfl rfl rfl rfl rfl rfl rfl e1h (fun _ => rfl) (fun _ => rfl) ?_
   rintro ⟨⟨p5, c5⟩, ⟨⟩⟩
   refine DX.callF 13 9 (fun _ _ h => GoT.ow_rd h) (fun _ f hf => GoT.fak f hf) rfl (by kernel_rfl) rfl rfl rfl rfl rfl rfl (fun _ => rfl) rfl (fun w G bs hI hΓ => f50 w (n + 1) (by omega) l pl cl (hΓ.get 4 rfl) e1.name p4 c4 (hΓ.get 7 rfl) e1.value (okl_of v2) (GoT.okm (α := List Str) (by omega) (ok_Name (ok_TableEntry ok1).1)) ((ok_TableEntry ok1).2)) (fun _ => rfl) (fun _ => rfl) ?_
   rintro ⟨p6, c6⟩ hq3
   have q2 := (put_spec l e1.name e1.value).len
   have hfx1 := (put_spec l e1.name e1.value).els (k := (n + 1)) v2.2 (GoT.okm (α := List Str) (by omega) (ok_Name (ok_TableEntry ok1).1)) (ok_TableEntry ok1).2
   refine DX.takes (fuel := 0) ttOk [(14, true), (15, true), (16, true), (17, true), (18, true)] (by kernel_rfl) rfl ?_
   refine DX.tail2 [] rfl rfl (by kernel_rfl) ?_
   refine R0 ?_
   refine WX.see rfl rfl rfl (fun _ hΓ => looks_arith rfl rfl rfl rfl (by unfold I64; first | omega | (simp only [List.length_take] at *; omega))) ?_
   refine R0 ?_
   refine WX.turn [10] 3 rfl (fun _ h => h) rfl ?_
   have r2 : -9223372036854775808 ≤ e1.value ∧ e1.value ≤ 9223372036854775807 := (ok_TableEntry ok1).2
   have r3 : ((spec_PutEntry l e1.name e1.value).1).length ≤ bd (n + 4) := (okl hq3).1
   exact WX.iter (p6, c6, (spec_PutEntry l e1.name e1.value).1, i + 1) ⟨(by omega), (okl_mk (by omega) hfx1 : GoT.ok (n + 1) ((spec_PutEntry l e1.name e1.value).1 : List TableEntry)), (by first | assumption | omega | (simp; omega)), (by rw [v4, drop_get e1h]; simp only [spec_JoinVectors_L1, h2, ct, cf])⟩ (by first | (dsimp only; omega) | omega) (.cons rfl (.cons rfl (.cons rfl (.cons rfl (.nil))))) (.cons rfl (.cons rfl (.nil))) .nil [0, 1, 3] rfl
  ·skip
   have h2d := B.df h2
   refine R0 ?_
   refine WX.see rfl rfl rfl (fun _ hΓ => looks_arith rfl rfl rfl rfl (by unfold I64; first | omega | (simp only [List.length_take] at *; omega))) ?_
   refine R0 ?_
   exact WX.iter (pl, cl, l, i + 1) ⟨(by omega), (okl_of v2), (by first | assumption | omega | (simp; omega)), (by rw [v4, drop_get e1h]; simp only [spec_JoinVectors_L1, h2, ct, cf])⟩ (by first | (dsimp only; omega) | omega) (.cons rfl (.cons rfl (.cons rfl (.cons rfl (.nil))))) (.cons rfl (.cons rfl (.nil))) .nil [0, 1, 3] rfl
 ·skip
  have h1d := B.df h1
  refine R0 ?_
  have hX1 : spec_JoinVectors_L1 b.entries ((spec_l6Copy a.entries) : List TableEntry) = ((l) : List TableEntry) := by rw [v4, List.drop_eq_nil_of_le (show (b.entries).length ≤ i by omega)]; simp only [spec_JoinVectors_L1, ct, cf]
  have hP1 : spec_JoinVectors a b = (StateVector.mk l) := by simp only [spec_JoinVectors, hX1, ct, cf]
  refine R1 ?_
  intro w1 G bs hI hΓ
  rw [hP1]
  exact Post.of [3] (pl, cl) hI hΓ rfl rfl rfl (okl_of v2)
end Go.Proofs.Ytdimfabadjfkiaa

namespace Go.Stp
set_option linter.unusedVariables false
set_option linter.unusedSimpArgs false
def impl_VectorSum_L1 : List TableEntry → Int → Int
  | [], sum_ => sum_
  | e1 :: rest_, sum_ =>
    impl_VectorSum_L1 rest_ (IntKind.i64.wrap (sum_ + e1.value))
def impl_VectorSum (v : StateVector) : Int :=
  match impl_VectorSum_L1 v.entries 0 with
    | sum_ =>
      sum_
def spec_VectorSum_L1 : List TableEntry → Int → Int
  | [], n_ => n_
  | e1 :: rest_, n_ =>
    spec_VectorSum_L1 rest_ (IntKind.i64.wrap (n_ + e1.value))
def spec_VectorSum (v : StateVector) : Int :=
  match spec_VectorSum_L1 v.entries 0 with
    | n_ =>
      n_
end Go.Stp

namespace Go.Proofs.Ytdimfabadjfkiaa
open Go.Stp
set_option linter.unusedVariables false
set_option linter.unusedSimpArgs false
theorem f30 (w : World) (n : Nat) (hn : n + 0 ≤ 9) (v : StateVector) (pv : Option Addr) (cv : Nat) (N0 : RdSl (hp w) pv cv v.entries) (hokv : GoT.ok n v) :
  Does Try.prog 30 #[.agg #[.slice pv ((v.entries).length) cv]] w emp (fun (rv : Value) (_ : World) => rv = .int .i64 ((impl_VectorSum v)) ∧ GoT.ok n ((impl_VectorSum v) : Int)) := by
 have hbP := bd_pos n
 have hbB := bd_big (n := n) (by omega)
 refine WX.enter (tt := tt) (Γ := [(0, MF.rs .stb pv cv v.entries)]) Try.func30 rfl (by kernel_rfl) rfl (allS_cons rfl N0 allS_nil) ?_
 refine R0 ?_
 have r1 : (v.entries).length ≤ bd n := (okl (ok_StateVector hokv)).1
 refine WX.loop (ι := Int × Nat) ⟨fun | (sum_, i) => (i ≤ (v.entries).length) ∧ (-9223372036854775808 ≤ sum_ ∧ sum_ ≤ 9223372036854775807) ∧ (impl_VectorSum_L1 v.entries 0 = impl_VectorSum_L1 ((v.entries).drop i) sum_), fun | (sum_, i) => (v.entries).length - i, fun | (sum_, i) => [(3, .v (.int .i64 (sum_))), (9, .v (.int .i64 (((i : Nat) : Int)))), (8, .v (.int .i64 ((((v.entries).length : Nat) : Int)))), (7, .v (.slice pv ((v.entries).length) cv))], fun | (sum_, i) => [], fun | (sum_, i) => [], fun | (sum_, i) => [(0, MF.rs .stb pv cv v.entries)]⟩ (0, 0) ⟨(Nat.zero_le _), (by first | assumption | omega), rfl⟩
  (.cons rfl (.cons rfl (.cons rfl (.cons rfl (.nil))))) .nil .nil [0] rfl ?_
 rintro ⟨sum_, i⟩ hpre
 have hpre_ : (i ≤ (v.entries).length) ∧ (-9223372036854775808 ≤ sum_ ∧ sum_ ≤ 9223372036854775807) ∧ (impl_VectorSum_L1 v.entries 0 = impl_VectorSum_L1 ((v.entries).drop i) sum_) := hpre
 clear hpre
 obtain ⟨v1, v2, v3⟩ := hpre_
 refine R0 ?_
 refine WX.cases 10 rfl (fun h1 => ?_) (fun h1 => ?_)
 ·skip
  have h1d := B.dt h1
  have e1i : i < (v.entries).length := (by omega)
  obtain ⟨e1, e1h⟩ : ∃ e1, (v.entries)[i]? = some e1 := ⟨_, List.getElem?_eq_getElem e1i⟩
  have ok1 : GoT.ok n e1 := (okl (ok_StateVector hokv)).2 _ (List.mem_of_getElem? e1h)
  refine R0 ?_
  refine WX.idx 0 i ttOk rfl rfl rfl rfl rfl rfl rfl rfl rfl rfl e1i ?_
  rintro ad1 rfl
  refine WX.ldE 0 1 e1 ttOk rfl rfl rfl rfl rfl rfl rfl rfl e1h (fun _ => rfl) (fun _ => rfl) ?_
  rintro ⟨⟨p1, c1⟩, ⟨⟩⟩
  refine R0 ?_
  refine WX.see rfl rfl rfl (fun _ hΓ => looks_wrap rfl rfl rfl rfl) ?_
  refine R0 ?_
  refine WX.see rfl rfl rfl (fun _ hΓ => looks_arith rfl rfl rfl rfl (by unfold I64; first | omega | (simp only [List.length_take] at *; omega))) ?_
  refine R0 ?_
  exact WX.iter (IntKind.i64.wrap (sum_ + e1.value), i + 1) ⟨(by omega), (i64_wrap _), (by rw [v3, drop_get e1h]; simp only [impl_VectorSum_L1, ct, cf])⟩ (by first | (dsimp only; omega) | omega) (.cons rfl (.cons rfl (.cons rfl (.cons rfl (.nil))))) .nil .nil [0] rfl
 ·skip
  have h1d := B.df h1
  refine R0 ?_
  have hX1 : impl_VectorSum_L1 v.entries 0 = sum_ := by rw [v3, List.drop_eq_nil_of_le (show (v.entries).length ≤ i by omega)]; simp only [impl_VectorSum_L1, ct, cf]
  have hP1 : impl_VectorSum v = sum_ := by simp only [impl_VectorSum, hX1, ct, cf]
  refine R1 ?_
  intro w1 G bs hI hΓ
  rw [hP1]
  exact ⟨rfl, v2⟩
theorem f31 (w : World) (n : Nat) (hn : n + 0 ≤ 9) (v : StateVector) (pv : Option Addr) (cv : Nat) (N0 : RdSl (hp w) pv cv v.entries) (hokv : GoT.ok n v) :
  Does Try.prog 31 #[.agg #[.slice pv ((v.entries).length) cv]] w emp (fun (rv : Value) (_ : World) => rv = .int .i64 ((spec_VectorSum v)) ∧ GoT.ok n ((spec_VectorSum v) : Int)) := by
 have hbP := bd_pos n
 have hbB := bd_big (n := n) (by omega)
 refine WX.enter (tt := tt) (Γ := [(0, MF.rs .stb pv cv v.entries)]) Try.func31 rfl (by kernel_rfl) rfl (allS_cons rfl N0 allS_nil) ?_
 refine R0 ?_
 have r1 : (v.entries).length ≤ bd n := (okl (ok_StateVector hokv)).1
 refine WX.loop (ι := Int × Nat) ⟨fun | (n_, i) => (i ≤ (v.entries).length) ∧ (-9223372036854775808 ≤ n_ ∧ n_ ≤ 9223372036854775807) ∧ (spec_VectorSum_L1 v.entries 0 = spec_VectorSum_L1 ((v.entries).drop i) n_), fun | (n_, i) => (v.entries).length - i, fun | (n_, i) => [(3, .v (.int .i64 (n_))), (4, .v (.int .i64 (((i : Nat) : Int)))), (1, .p 1 0)], fun | (n_, i) => [(1, ⟨30, [.slice pv ((v.entries).length) cv]⟩)], fun | (n_, i) => [], fun | (n_, i) => [(0, MF.rs .stb pv cv v.entries)]⟩ (0, 0) ⟨(Nat.zero_le _), (by first | assumption | omega), rfl⟩
  (.cons rfl (.cons rfl (.cons rfl (.nil)))) (.cons rfl (.nil)) .nil [0] rfl ?_
 rintro ⟨n_, i⟩ hpre
 have hpre_ : (i ≤ (v.entries).length) ∧ (-9223372036854775808 ≤ n_ ∧ n_ ≤ 9223372036854775807) ∧ (spec_VectorSum_L1 v.entries 0 = spec_VectorSum_L1 ((v.entries).drop i) n_) := hpre
 clear hpre
 obtain ⟨v1, v2, v3⟩ := hpre_
 refine R0 ?_
 refine WX.cases 9 rfl (fun h1 => ?_) (fun h1 => ?_)
 ·skip
  have h1d := B.dt h1
  have e1i : i < (v.entries).length := (by omega)
  obtain ⟨e1, e1h⟩ : ∃ e1, (v.entries)[i]? = some e1 := ⟨_, List.getElem?_eq_getElem e1i⟩
  have ok1 : GoT.ok n e1 := (okl (ok_StateVector hokv)).2 _ (List.mem_of_getElem? e1h)
  refine R0 ?_
  refine WX.idx 0 i ttOk rfl rfl rfl rfl rfl rfl rfl rfl rfl rfl e1i ?_
  rintro ad1 rfl
  refine R0 ?_
  refine WX.ldE 0 1 e1 ttOk rfl rfl rfl rfl rfl rfl rfl rfl e1h (fun _ => rfl) (fun _ => rfl) ?_
  rintro ⟨⟨p1, c1⟩, ⟨⟩⟩
  refine WX.see rfl rfl rfl (fun _ hΓ => looks_wrap rfl rfl rfl rfl) ?_
  refine R0 ?_
  refine WX.see rfl rfl rfl (fun _ hΓ => looks_arith rfl rfl rfl rfl (by unfold I64; first | omega | (simp only [List.length_take] at *; omega))) ?_
  refine R0 ?_
  exact WX.iter (IntKind.i64.wrap (n_ + e1.value), i + 1) ⟨(by omega), (i64_wrap _), (by rw [v3, drop_get e1h]; simp only [spec_VectorSum_L1, ct, cf])⟩ (by first | (dsimp only; omega) | omega) (.cons rfl (.cons rfl (.cons rfl (.nil)))) (.cons rfl (.nil)) .nil [0] rfl
 ·skip
  have h1d := B.df h1
  refine R0 ?_
  have hX1 : spec_VectorSum_L1 v.entries 0 = n_ := by rw [v3, List.drop_eq_nil_of_le (show (v.entries).length ≤ i by omega)]; simp only [spec_VectorSum_L1, ct, cf]
  have hP1 : spec_VectorSum v = n_ := by simp only [spec_VectorSum, hX1, ct, cf]
  refine R1 ?_
  intro w1 G bs hI hΓ
  rw [hP1]
  exact ⟨rfl, v2⟩
end Go.Proofs.Ytdimfabadjfkiaa

namespace Go.Stp
set_option linter.unusedVariables false
set_option linter.unusedSimpArgs false
def spec_l27Draw_L1 (c_b : (List UInt8)) (i : Int) (v : List TableEntry) (u999_i : Int) (u999_h : Int) : Int × (List TableEntry) × Int × Int :=
  if i > 0 then
    match spec_l1Str c_b u999_i u999_h ([(⟨#[47, 97]⟩ : Str), (⟨#[47, 98]⟩ : Str), (⟨#[47, 110, 101, 119, 115]⟩ : Str), (⟨#[47, 97, 47, 98]⟩ : Str), (⟨#[47, 99]⟩ : Str)]) with
      | (u4, u5, u6) =>
        match spec_l1Below c_b u5 u6 5 with
          | (u7, u8, u9) =>
            spec_l27Draw_L1 c_b (i - 1) (((spec_PutEntry v (spec_l4Of u4) (1 + u7)).1) : List TableEntry) u8 u9
  else
    (i, ((v) : List TableEntry), u999_i, u999_h)
termination_by i.toNat
decreasing_by all_goals (simp_wf; omega)
def spec_l27Draw (c_b : (List UInt8)) (c_i : Int) (c_h : Int) : StateVector × Int × Int :=
  match spec_l1Below c_b c_i c_h 5 with
    | (u1, u2, u3) =>
      match spec_l27Draw_L1 c_b u1 (([] : List TableEntry) : List TableEntry) u2 u3 with
        | (i, v, u999_i, u999_h) =>
          ((StateVector.mk v), u999_i, u999_h)
theorem l27DrawL (b : List UInt8) : ∀ (m : Nat) (i : Int) (v : List TableEntry) (a h : Int), i.toNat = m → v.length + m ≤ 4 → (spec_l27Draw_L1 b i v a h).2.1.length ≤ 4
  | 0, i, v, a, h, hm, hl => by
    rw [spec_l27Draw_L1, if_neg (by omega)]
    exact hl
  | m + 1, i, v, a, h, hm, hl => by
    rw [spec_l27Draw_L1, if_pos (by omega)]
    rcases spec_l1Str b a h ([(⟨#[47, 97]⟩ : Str), (⟨#[47, 98]⟩ : Str), (⟨#[47, 110, 101, 119, 115]⟩ : Str), (⟨#[47, 97, 47, 98]⟩ : Str), (⟨#[47, 99]⟩ : Str)]) with ⟨x, j, k⟩
    dsimp only
    rcases spec_l1Below b j k 5 with ⟨y, j2, k2⟩
    dsimp only
    have := (put_spec v (spec_l4Of x) (1 + y)).len
    exact l27DrawL b m _ _ _ _ (by omega) (by omega)
theorem l27Draw_len (b : List UInt8) (i h : Int) : (spec_l27Draw b i h).1.entries.length ≤ 4 := by
  unfold spec_l27Draw
  have h1 := l1Below_rng b i h 5
  rcases e : spec_l1Below b i h 5 with ⟨x, j, k⟩
  rw [e] at h1
  dsimp only at h1 ⊢
  exact l27DrawL b _ x [] j k rfl (by simp; omega)
def spec_DrawVecs (code : (List UInt8)) : StateVector × StateVector × StateVector :=
  match spec_l1New code with
    | (u1, u2) =>
      match spec_l27Draw code u1 u2 with
        | (u3, u4, u5) =>
          match spec_l27Draw code u4 u5 with
            | (u6, u7, u8) =>
              match spec_l27Draw code u7 u8 with
                | (u9, u10, u11) =>
                  (u3, u6, u9)
def spec_l27Any (c_b : (List UInt8)) (c_i : Int) (c_h : Int) : StateVector × Int × Int :=
  match spec_l27Draw c_b c_i c_h with
    | (u1, u2, u3) =>
      match spec_l1Below c_b u2 u3 10 with
        | (u4, u5, u6) =>
          bif (u4 == 0) then
            match spec_l4Any c_b u5 u6 with
              | (u7, u8, u9) =>
                match spec_l1Int c_b u8 u9 ([0, 1, 1000, 1001, (-1)]) with
                  | (u10, u11, u12) =>
                    ((StateVector.mk (u1.entries ++ [(TableEntry.mk u7 u10)])), u11, u12)
          else
            bif (u4 == 1) then
              ((StateVector.mk (u1.entries ++ (spec_l6Copy u1.entries))), u5, u6)
            else
              (u1, u5, u6)
theorem l27Any_len (b : List UInt8) (i h : Int) : (spec_l27Any b i h).1.entries.length ≤ 8 := by
  unfold spec_l27Any
  have h1 := l27Draw_len b i h
  rcases e : spec_l27Draw b i h with ⟨x, j, k⟩
  rw [e] at h1
  dsimp only at h1 ⊢
  rcases spec_l1Below b j k 10 with ⟨x2, j2, k2⟩
  dsimp only
  cases (x2 == 0)
  · simp only [cond_false]
    cases (x2 == 1)
    · simp only [cond_false]; omega
    · simp only [cond_true, List.length_append, len_l6Copy]; omega
  · simp only [cond_true]
    rcases spec_l4Any b j2 k2 with ⟨x3, j3, k3⟩
    dsimp only
    rcases spec_l1Int b j3 k3 [0, 1, 1000, 1001, (-1)] with ⟨x4, j4, k4⟩
    simp only [List.length_append, List.length_cons, List.length_nil]
    omega
def spec_l27Two (code : (List UInt8)) : StateVector × StateVector :=
  match spec_l1New code with
    | (u1, u2) =>
      match spec_l27Any code u1 u2 with
        | (u3, u4, u5) =>
          match spec_l27Any code u4 u5 with
            | (u6, u7, u8) =>
              (u3, u6)
def spec_DrawJoinVectors (code : (List UInt8)) : StateVector × StateVector :=
  (((spec_l27Two code).1), ((spec_l27Two code).2))
def spec_DrawVectorLeq (code : (List UInt8)) : StateVector × StateVector :=
  bif (Int.tmod (((code).length : Nat) : Int) 2 == 0) then
    (((spec_l27Two code).1), (spec_JoinVectors ((spec_l27Two code).1) ((spec_l27Two code).2)))
  else
    (((spec_l27Two code).1), ((spec_l27Two code).2))
def spec_DrawNewerThan (code : (List UInt8)) : StateVector × StateVector :=
  (((spec_l27Two code).1), ((spec_l27Two code).2))
def spec_DrawEncodeVector (code : (List UInt8)) : StateVector :=
  match spec_l1New code with
    | (u1, u2) =>
      match spec_l27Any code u1 u2 with
        | (u3, u4, u5) =>
          u3
def spec_DrawDecodeVector (code : (List UInt8)) : (List UInt8) :=
  match spec_l1New code with
    | (u1, u2) =>
      match spec_l27Draw code u1 u2 with
        | (u3, u4, u5) =>
          match spec_l1Bent code u4 u5 (spec_EncodeVector u3) with
            | (u6, u7, u8) =>
              u6
def spec_DrawSeqOf (code : (List UInt8)) : StateVector × Name :=
  match spec_l1New code with
    | (u1, u2) =>
      match spec_l27Any code u1 u2 with
        | (u3, u4, u5) =>
          match spec_l1Str code u4 u5 ([(⟨#[47, 97]⟩ : Str), (⟨#[47, 98]⟩ : Str), (⟨#[47, 122, 122]⟩ : Str)]) with
            | (u6, u7, u8) =>
              (u3, (spec_l4Of u6))
def impl_VectorLeq_c1 (a : StateVector) (b : StateVector) (e_ : TableEntry) : Bool :=
  (decide ((impl_SeqOf a e_.name) > (impl_SeqOf b e_.name)))
def impl_VectorLeq (a : StateVector) (b : StateVector) : Bool :=
  (!(slices_ContainsFunc_TableEntry a.entries (fun e0_ => (impl_VectorLeq_c1 a b e0_))))
def spec_VectorLeq_L1 (a : StateVector) (b : StateVector) : List TableEntry → Option (Bool)
  | [] => none
  | e1 :: rest_ =>
    bif decide ((spec_SeqOf a e1.name) > (spec_SeqOf b e1.name)) then
      (some false)
    else
      spec_VectorLeq_L1 a b rest_
def spec_VectorLeq (a : StateVector) (b : StateVector) : Bool :=
  match spec_VectorLeq_L1 a b a.entries with
    | some r_ => r_
    | none =>
      true
def laws_sameTexts_L1 (b : (List Str)) : List Str → Nat → Option (Bool)
  | [], i => none
  | e1 :: rest_, i =>
    match (b)[i]? with
      | none => default
      | some e2 =>
        bif (!((e1).toList == (e2).toList)) then
          (some false)
        else
          laws_sameTexts_L1 b rest_ (i + 1)
def laws_sameTexts (a : (List Str)) (b : (List Str)) : Bool :=
  bif ((((a).length : Nat) : Int) != (((b).length : Nat) : Int)) then
    false
  else
    match laws_sameTexts_L1 b a 0 with
      | some r_ => r_
      | none =>
        true
def laws_sameName (a : Name) (b : Name) : Bool :=
  (laws_sameTexts a.parts b.parts)
def laws_sameRows_L1 (b : (List TableEntry)) : List TableEntry → Nat → Option (Bool)
  | [], i => none
  | e1 :: rest_, i =>
    match (b)[i]? with
      | none => default
      | some e2 =>
        bif (e1.value != e2.value) then
          (some false)
        else
          bif (!(laws_sameName e1.name e2.name)) then
            (some false)
          else
            laws_sameRows_L1 b rest_ (i + 1)
def laws_sameRows (a : (List TableEntry)) (b : (List TableEntry)) : Bool :=
  bif ((((a).length : Nat) : Int) != (((b).length : Nat) : Int)) then
    false
  else
    match laws_sameRows_L1 b a 0 with
      | some r_ => r_
      | none =>
        true
def laws_same_L1 (b : (List UInt8)) : List UInt8 → Nat → Option (Bool)
  | [], i => none
  | e1 :: rest_, i =>
    match (b)[i]? with
      | none => default
      | some e2 =>
        bif (((e1).toNat : Int) != ((e2).toNat : Int)) then
          (some false)
        else
          laws_same_L1 b rest_ (i + 1)
def laws_same (a : (List UInt8)) (b : (List UInt8)) : Bool :=
  bif ((((a).length : Nat) : Int) != (((b).length : Nat) : Int)) then
    false
  else
    match laws_same_L1 b a 0 with
      | some r_ => r_
      | none =>
        true
end Go.Stp

