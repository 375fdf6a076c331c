/-
  That functions of the program compute what the Lean functions do. No condition but what each says. Written by a program (gen2.py).
-/
import Derived.Test.YtcipekdocckfgaaC13
import Derived.Test.YtcipekdocckfgaaP14
import Derived.Test.YtcipekdocckfgaaPend
namespace Go.Proofs.Ytcipekdocckfgaa
open Go.Stp
set_option linter.unusedVariables false
set_option linter.unusedSimpArgs false
theorem f68 (w : World) (n : Nat) (hn : n + 0 ≤ 9) (x_ : DataP) (px_Name : Option Addr) (cx_Name : Nat) (hpx_Name : RdSl (hp w) px_Name cx_Name x_.name.parts) (px_Content : Option Addr) (cx_Content : Nat) (hpx_Content : RdSl (hp w) px_Content cx_Content x_.content) (px_KeyName : Option Addr) (cx_KeyName : Nat) (hpx_KeyName : RdSl (hp w) px_KeyName cx_KeyName x_.keyName.parts) (r : Record) (br : Addr) (hr : RdSl (hp w) (some br) 1 [r]) (hokx_ : GoT.ok n x_) (hokr : GoT.ok n r) :
    Does Try.prog 68 #[.agg #[.slice px_Name ((x_.name.parts).length) cx_Name, .slice px_Content ((x_.content).length) cx_Content, .slice px_KeyName ((x_.keyName.parts).length) cx_KeyName, .int .i64 (x_.freshUntil), .int .i64 (x_.signature)], .pointer (some br)] w emp (fun (rv : Value) (_ : World) => rv = .bool (impl_Replay_c1 r x_) ∧ True) := by
  have hbP := bd_pos n
  have hbB := bd_big (n := n) (by omega)
  refine WX.enter (tt := tt) (Γ := [(0, MF.rs .stb px_Name cx_Name x_.name.parts), (1, MF.rs .stb px_Content cx_Content x_.content), (2, MF.rs .stb px_KeyName cx_KeyName x_.keyName.parts), (3, MF.rs .stb (some br) 1 ([r]))]) Try.func68 rfl (by kernel_rfl) rfl (allS_cons rfl hpx_Name (allS_cons rfl hpx_Content (allS_cons rfl hpx_KeyName (allS_cons rfl hr allS_nil)))) ?_
  have rh : ([r] : List Record)[0]? = some r := rfl
  refine WX.slot 1 (y := .e (some br) 0 6 0) rfl (fun _ => cap_eq) ?_
  refine WX.run ttOk rfl ?_
  refine WX.ldE 3 4 r ttOk rfl rfl rfl rfl rfl rfl rfl rfl rh (fun _ => rfl) (fun _ => rfl) ?_
  rintro ⟨⟨⟩, ⟨⟨p1, c1⟩, ⟨p2, c2⟩, ⟨p3, c3⟩, ⟨⟩, ⟨⟩⟩⟩
  refine WX.callV rfl rfl rfl rfl rfl (fun _ => rfl) rfl (fun w G bs hI hΓ => f69 w n (by omega) x_.name px_Name cx_Name (hΓ.get 0 rfl) r.data.name p1 c1 (hΓ.get 4 rfl) ((ok_DataP hokx_).1) ((ok_DataP (ok_Record hokr).2).1)) ?_
  intro hq1
  refine WX.run ttOk rfl ?_
  have hP1 : impl_Replay_c1 r x_ = (impl_EqualNames x_.name r.data.name) := by simp only [impl_Replay_c1, cond_true, cond_false]
  refine WX.ret ttOk rfl ?_
  intro w1 G bs hI hΓ
  rw [hP1]
  exact ⟨rfl, trivial⟩
theorem f15 (w : World) (n : Nat) (hn : n + 0 ≤ 9) (l : (List Record)) (pl : Option Addr) (cl : Nat) (hpl : RdSl (hp w) pl cl l) (hokl : GoT.ok n l) :
    Does Try.prog 15 #[.slice pl ((l).length) cl] w emp (Post w emp (fun x : GoT.X ((List DataP)) => (GoT.sh ((impl_Replay l) : (List DataP)) x).headD undef) (fun x => GoT.oa ((impl_Replay l) : (List DataP)) x) (GoT.ok n ((impl_Replay l) : (List DataP)))) := by
  have hbP := bd_pos n
  have hbB := bd_big (n := n) (by omega)
  refine WX.enter (tt := tt) (Γ := [(0, MF.rs .stb pl cl l)]) Try.func15 rfl (by kernel_rfl) rfl (allS_cons rfl hpl allS_nil) ?_
  refine WX.run ttOk rfl ?_
  refine WX.bld ttOk rfl rfl rfl rfl rfl rfl rfl ?_
  intro p1
  refine WX.run ttOk rfl ?_
  refine WX.free 1 (MF.ol [] ([] : List DataP)) rfl ?_
  refine WX.seal 6 1 2 rfl rfl rfl rfl rfl ?_
  have r1 : (l).length ≤ bd n := (okl hokl).1
  refine WX.loop (ι := (Option Addr) × Nat × (List DataP) × Nat) ⟨fun | (pout, cout, out, i) => (i ≤ (l).length) ∧ (out.length ≤ bd n ∧ ∀ z_ ∈ out, GoT.ok n z_) ∧ (out.length ≤ i) ∧ (impl_Replay_L1 l ([] : List DataP) = impl_Replay_L1 ((l).drop i) out), fun | (pout, cout, out, i) => (l).length - i, fun | (pout, cout, out, i) => [(3, .v (.slice pout ((out).length) cout)), (9, .v (.int .i64 (((i : Nat) : Int)))), (8, .v (.int .i64 ((((l).length : Nat) : Int)))), (7, .v (.slice pl ((l).length) cl))], fun | (pout, cout, out, i) => [], fun | (pout, cout, out, i) => [], fun | (pout, cout, out, i) => [(0, MF.rs .stb pl cl l), (3, MF.os pout cout out)]⟩ (p1, 0, ([] : List DataP), 0) ⟨(Nat.zero_le _), (okl_mk (Nat.zero_le _) (fun a ha => by cases ha) : GoT.ok n ([] : List DataP)), (by simp), rfl⟩
    (.cons rfl (.cons rfl (.cons rfl (.cons rfl (.nil))))) .nil .nil [0, 3] rfl ?_
  rintro ⟨pout, cout, out, i⟩ hpre
  have hpre_ : (i ≤ (l).length) ∧ (out.length ≤ bd n ∧ ∀ z_ ∈ out, GoT.ok n z_) ∧ (out.length ≤ i) ∧ (impl_Replay_L1 l ([] : List DataP) = impl_Replay_L1 ((l).drop i) out) := hpre
  clear hpre
  obtain ⟨v1, v2, v3, v4⟩ := hpre_
  have v2L := v2.1
  refine WX.run ttOk rfl ?_
  refine WX.cases 10 rfl (fun h1 => ?_) (fun h1 => ?_)
  · skip
    have h1d := B.dt h1
    have e1i : i < (l).length := (by omega)
    obtain ⟨e1, e1h⟩ : ∃ e1, (l)[i]? = some e1 := ⟨_, List.getElem?_eq_getElem e1i⟩
    have ok1 : GoT.ok n e1 := (okl hokl).2 _ (List.mem_of_getElem? e1h)
    refine WX.run ttOk rfl ?_
    refine WX.idx 0 i ttOk rfl rfl rfl rfl rfl rfl rfl rfl rfl rfl e1i ?_
    rintro ad1 rfl
    refine WX.ldE 0 4 e1 ttOk rfl rfl rfl rfl rfl rfl rfl rfl e1h (fun _ => rfl) (fun _ => rfl) ?_
    rintro ⟨⟨⟩, ⟨⟨p2, c1⟩, ⟨p3, c2⟩, ⟨p4, c3⟩, ⟨⟩, ⟨⟩⟩⟩
    refine WX.run ttOk rfl ?_
    refine WX.cases 16 rfl (fun h2 => ?_) (fun h2 => ?_)
    · skip
      have h2d := B.nt' h2
      refine WX.run ttOk rfl ?_
      refine WX.cases 20 rfl (fun h3 => ?_) (fun h3 => ?_)
      · skip
        have h3d := B.nt' h3
        refine WX.run ttOk rfl ?_
        refine WX.see rfl rfl rfl (fun _ hΓ => looks_arith rfl rfl rfl rfl (by unfold I64; omega)) ?_
        refine WX.run ttOk rfl ?_
        exact WX.iter (pout, cout, out, i + 1) ⟨(by omega), (okl_of v2), (by first | assumption | omega | (simp only [List.length_append, List.length_cons, List.length_nil, List.length_set, List.length_map, List.length_take, List.length_drop]; omega) | (simp; omega)), (by rw [v4, drop_get e1h]; simp only [impl_Replay_L1, h2, h3, cond_true, cond_false])⟩ (by dsimp only; omega) (.cons rfl (.cons rfl (.cons rfl (.cons rfl (.nil))))) .nil .nil [0, 3] rfl
      · skip
        have h3d := B.nf' h3
        refine WX.run ttOk rfl ?_
        refine WX.callN [3] 7 rfl (fun _ _ h => GoT.ow_rd h) (fun _ f hf => GoT.fak f hf) rfl rfl rfl rfl rfl (fun _ => rfl) rfl (fun w G bs H hI hHG hH hs hΓ => f67 w n (by omega) H hH out pout cout 68 [Value.pointer (some ⟨bs 5, 0, none⟩)] (fun e0_ => (impl_Replay_c1 e1 e0_)) (fun w1_ hb_ e0_ x0_ hk0_ hx0_ => f68 w1_ n (by omega) e0_ x0_.1.1 x0_.1.2 (hx0_ _ List.mem_cons_self) x0_.2.1.1 x0_.2.1.2 (hx0_ (MF.rs .der x0_.2.1.1 x0_.2.1.2 e0_.content) (by simp [GoT.fa])) x0_.2.2.1.1 x0_.2.2.1.2 (hx0_ (MF.rs .der x0_.2.2.1.1 x0_.2.2.1.2 e0_.keyName.parts) (by simp [GoT.fa])) e1 ⟨bs 5, 0, none⟩ (rd_boxH (α := Record) (a := e1) (x := ((), ((p2, c1), (p3, c2), (p4, c3), (), ()))) hI rfl hHG (All.cons (hΓ.get 4 rfl : RdSl _ _ _ _) (All.cons (hΓ.get 5 rfl : RdSl _ _ _ _) (All.cons (hΓ.get 6 rfl : RdSl _ _ _ _) All.nil))) hb_) hk0_ ok1) hs (okl_of v2)) (fun _ => rfl) (fun _ => rfl) ?_
        rintro ⟨p5, c4⟩ hq1
        have q1 := len_slices_DeleteFunc_Data out (fun e0_ => (impl_Replay_c1 e1 e0_))
        refine WX.run ttOk rfl ?_
        refine WX.cases 26 rfl (fun h4 => ?_) (fun h4 => ?_)
        · skip
          have h4d := B.et h4
          refine WX.run ttOk rfl ?_
          refine WX.callF 9 (fun _ _ h => GoT.ow_rd h) (fun _ f hf => GoT.fak f hf) rfl rfl rfl rfl rfl (fun _ => rfl) rfl (fun w G bs hI hΓ => f70 w n (by omega) e1.data p2 c1 (hΓ.get 4 rfl) p3 c2 (hΓ.get 5 rfl) p4 c3 (hΓ.get 6 rfl) ((ok_Record ok1).2)) (fun _ => rfl) (fun _ => rfl) ?_
          rintro ⟨⟨p6, c5⟩, ⟨p7, c6⟩, ⟨p8, c7⟩, ⟨⟩, ⟨⟩⟩ hq2
          refine WX.bld ttOk rfl rfl rfl rfl rfl rfl rfl ?_
          intro p9
          refine WX.opn (kk := 5) 501 8 15 rfl rfl rfl ?_
          intro xs1 hx1
          refine WX.turn [12, 13, 14] 16 rfl (fun h hs => ol_one (α := DataP) (a := (impl_copyData e1.data)) (x := ((p6, c5), (p7, c6), (p8, c7), (), ())) hs) (gs := [MF.ol [.slice p6 (((impl_copyData e1.data).name.parts).length) c5, .slice p7 (((impl_copyData e1.data).content).length) c6, .slice p8 (((impl_copyData e1.data).keyName.parts).length) c7, .int .i64 ((impl_copyData e1.data).freshUntil), .int .i64 ((impl_copyData e1.data).signature)] ([(impl_copyData e1.data)] : List DataP)]) rfl ?_
          have r2 : (slices_DeleteFunc_Data out (fun e0_ => (impl_Replay_c1 e1 e0_))).length ≤ bd n := (okl hq1).1
          refine WX.appR1 501 31 (((slices_DeleteFunc_Data out (fun e0_ => (impl_Replay_c1 e1 e0_))) ++ [(impl_copyData e1.data)]) : List DataP).length ttOk rfl rfl rfl rfl rfl rfl rfl rfl rfl rfl rfl rfl rfl (by simp [Value.oneCell']) (by simp) (by simp; omega) (by simp; omega) (fun _ _ => rfl) ?_
          intro p10 c8
          refine WX.turn [15, 16] 17 rfl (fun h hs => ol_app hs) (gs := [MF.ol (xs1 ++ [.slice p6 (((impl_copyData e1.data).name.parts).length) c5, .slice p7 (((impl_copyData e1.data).content).length) c6, .slice p8 (((impl_copyData e1.data).keyName.parts).length) c7, .int .i64 ((impl_copyData e1.data).freshUntil), .int .i64 ((impl_copyData e1.data).signature)]) (((slices_DeleteFunc_Data out (fun e0_ => (impl_Replay_c1 e1 e0_))) ++ [(impl_copyData e1.data)]) : List DataP)]) rfl ?_
          refine WX.run ttOk rfl ?_
          refine WX.see rfl rfl rfl (fun _ hΓ => looks_arith rfl rfl rfl rfl (by unfold I64; omega)) ?_
          refine WX.run ttOk rfl ?_
          refine WX.seal 501 17 18 rfl rfl rfl rfl rfl ?_
          refine WX.turn [19] 3 rfl (fun _ h => h) rfl ?_
          exact WX.iter (p10, c8, ((slices_DeleteFunc_Data out (fun e0_ => (impl_Replay_c1 e1 e0_))) ++ [(impl_copyData e1.data)]), i + 1) ⟨(by omega), (okl_mk (by simp; omega) (all_app (okl hq1).2 (all_cons (α := DataP) hq2 (fun a ha => by cases ha))) : GoT.ok n (((slices_DeleteFunc_Data out (fun e0_ => (impl_Replay_c1 e1 e0_))) ++ [(impl_copyData e1.data)]) : List DataP)), (by first | assumption | omega | (simp only [List.length_append, List.length_cons, List.length_nil, List.length_set, List.length_map, List.length_take, List.length_drop]; omega) | (simp; omega)), (by rw [v4, drop_get e1h]; simp only [impl_Replay_L1, h2, h3, h4, cond_true, cond_false])⟩ (by dsimp only; omega) (.cons rfl (.cons rfl (.cons rfl (.cons rfl (.nil))))) .nil .nil [0, 3] rfl
        · skip
          have h4d := B.ef h4
          refine WX.run ttOk rfl ?_
          refine WX.see rfl rfl rfl (fun _ hΓ => looks_arith rfl rfl rfl rfl (by unfold I64; omega)) ?_
          refine WX.run ttOk rfl ?_
          refine WX.turn [8] 3 rfl (fun _ h => h) rfl ?_
          exact WX.iter (p5, c4, (slices_DeleteFunc_Data out (fun e0_ => (impl_Replay_c1 e1 e0_))), i + 1) ⟨(by omega), hq1, (by first | assumption | omega | (simp only [List.length_append, List.length_cons, List.length_nil, List.length_set, List.length_map, List.length_take, List.length_drop]; omega) | (simp; omega)), (by rw [v4, drop_get e1h]; simp only [impl_Replay_L1, h2, h3, h4, cond_true, cond_false])⟩ (by dsimp only; omega) (.cons rfl (.cons rfl (.cons rfl (.cons rfl (.nil))))) .nil .nil [0, 3] rfl
    · skip
      have h2d := B.nf' h2
      refine WX.run ttOk rfl ?_
      refine WX.callN [3] 20 rfl (fun _ _ h => GoT.ow_rd h) (fun _ f hf => GoT.fak f hf) rfl rfl rfl rfl rfl (fun _ => rfl) rfl (fun w G bs H hI hHG hH hs hΓ => f67 w n (by omega) H hH out pout cout 68 [Value.pointer (some ⟨bs 5, 0, none⟩)] (fun e0_ => (impl_Replay_c1 e1 e0_)) (fun w1_ hb_ e0_ x0_ hk0_ hx0_ => f68 w1_ n (by omega) e0_ x0_.1.1 x0_.1.2 (hx0_ _ List.mem_cons_self) x0_.2.1.1 x0_.2.1.2 (hx0_ (MF.rs .der x0_.2.1.1 x0_.2.1.2 e0_.content) (by simp [GoT.fa])) x0_.2.2.1.1 x0_.2.2.1.2 (hx0_ (MF.rs .der x0_.2.2.1.1 x0_.2.2.1.2 e0_.keyName.parts) (by simp [GoT.fa])) e1 ⟨bs 5, 0, none⟩ (rd_boxH (α := Record) (a := e1) (x := ((), ((p2, c1), (p3, c2), (p4, c3), (), ()))) hI rfl hHG (All.cons (hΓ.get 4 rfl : RdSl _ _ _ _) (All.cons (hΓ.get 5 rfl : RdSl _ _ _ _) (All.cons (hΓ.get 6 rfl : RdSl _ _ _ _) All.nil))) hb_) hk0_ ok1) hs (okl_of v2)) (fun _ => rfl) (fun _ => rfl) ?_
      rintro ⟨p11, c9⟩ hq3
      have q2 := len_slices_DeleteFunc_Data out (fun e0_ => (impl_Replay_c1 e1 e0_))
      refine WX.run ttOk rfl ?_
      refine WX.cases 26 rfl (fun h5 => ?_) (fun h5 => ?_)
      · skip
        have h5d := B.et h5
        refine WX.run ttOk rfl ?_
        refine WX.callF 22 (fun _ _ h => GoT.ow_rd h) (fun _ f hf => GoT.fak f hf) rfl rfl rfl rfl rfl (fun _ => rfl) rfl (fun w G bs hI hΓ => f70 w n (by omega) e1.data p2 c1 (hΓ.get 4 rfl) p3 c2 (hΓ.get 5 rfl) p4 c3 (hΓ.get 6 rfl) ((ok_Record ok1).2)) (fun _ => rfl) (fun _ => rfl) ?_
        rintro ⟨⟨p12, c10⟩, ⟨p13, c11⟩, ⟨p14, c12⟩, ⟨⟩, ⟨⟩⟩ hq4
        refine WX.bld ttOk rfl rfl rfl rfl rfl rfl rfl ?_
        intro p15
        refine WX.opn (kk := 5) 502 21 28 rfl rfl rfl ?_
        intro xs2 hx2
        refine WX.turn [25, 26, 27] 29 rfl (fun h hs => ol_one (α := DataP) (a := (impl_copyData e1.data)) (x := ((p12, c10), (p13, c11), (p14, c12), (), ())) hs) (gs := [MF.ol [.slice p12 (((impl_copyData e1.data).name.parts).length) c10, .slice p13 (((impl_copyData e1.data).content).length) c11, .slice p14 (((impl_copyData e1.data).keyName.parts).length) c12, .int .i64 ((impl_copyData e1.data).freshUntil), .int .i64 ((impl_copyData e1.data).signature)] ([(impl_copyData e1.data)] : List DataP)]) rfl ?_
        have r3 : (slices_DeleteFunc_Data out (fun e0_ => (impl_Replay_c1 e1 e0_))).length ≤ bd n := (okl hq3).1
        refine WX.appR1 502 31 (((slices_DeleteFunc_Data out (fun e0_ => (impl_Replay_c1 e1 e0_))) ++ [(impl_copyData e1.data)]) : List DataP).length ttOk rfl rfl rfl rfl rfl rfl rfl rfl rfl rfl rfl rfl rfl (by simp [Value.oneCell']) (by simp) (by simp; omega) (by simp; omega) (fun _ _ => rfl) ?_
        intro p16 c13
        refine WX.turn [28, 29] 30 rfl (fun h hs => ol_app hs) (gs := [MF.ol (xs2 ++ [.slice p12 (((impl_copyData e1.data).name.parts).length) c10, .slice p13 (((impl_copyData e1.data).content).length) c11, .slice p14 (((impl_copyData e1.data).keyName.parts).length) c12, .int .i64 ((impl_copyData e1.data).freshUntil), .int .i64 ((impl_copyData e1.data).signature)]) (((slices_DeleteFunc_Data out (fun e0_ => (impl_Replay_c1 e1 e0_))) ++ [(impl_copyData e1.data)]) : List DataP)]) rfl ?_
        refine WX.run ttOk rfl ?_
        refine WX.see rfl rfl rfl (fun _ hΓ => looks_arith rfl rfl rfl rfl (by unfold I64; omega)) ?_
        refine WX.run ttOk rfl ?_
        refine WX.seal 502 30 31 rfl rfl rfl rfl rfl ?_
        refine WX.turn [32] 3 rfl (fun _ h => h) rfl ?_
        exact WX.iter (p16, c13, ((slices_DeleteFunc_Data out (fun e0_ => (impl_Replay_c1 e1 e0_))) ++ [(impl_copyData e1.data)]), i + 1) ⟨(by omega), (okl_mk (by simp; omega) (all_app (okl hq3).2 (all_cons (α := DataP) hq4 (fun a ha => by cases ha))) : GoT.ok n (((slices_DeleteFunc_Data out (fun e0_ => (impl_Replay_c1 e1 e0_))) ++ [(impl_copyData e1.data)]) : List DataP)), (by first | assumption | omega | (simp only [List.length_append, List.length_cons, List.length_nil, List.length_set, List.length_map, List.length_take, List.length_drop]; omega) | (simp; omega)), (by rw [v4, drop_get e1h]; simp only [impl_Replay_L1, h2, h5, cond_true, cond_false])⟩ (by dsimp only; omega) (.cons rfl (.cons rfl (.cons rfl (.cons rfl (.nil))))) .nil .nil [0, 3] rfl
      · skip
        have h5d := B.ef h5
        refine WX.run ttOk rfl ?_
        refine WX.see rfl rfl rfl (fun _ hΓ => looks_arith rfl rfl rfl rfl (by unfold I64; omega)) ?_
        refine WX.run ttOk rfl ?_
        refine WX.turn [21] 3 rfl (fun _ h => h) rfl ?_
        exact WX.iter (p11, c9, (slices_DeleteFunc_Data out (fun e0_ => (impl_Replay_c1 e1 e0_))), i + 1) ⟨(by omega), hq3, (by first | assumption | omega | (simp only [List.length_append, List.length_cons, List.length_nil, List.length_set, List.length_map, List.length_take, List.length_drop]; omega) | (simp; omega)), (by rw [v4, drop_get e1h]; simp only [impl_Replay_L1, h2, h5, cond_true, cond_false])⟩ (by dsimp only; omega) (.cons rfl (.cons rfl (.cons rfl (.cons rfl (.nil))))) .nil .nil [0, 3] rfl
  · skip
    have h1d := B.df h1
    refine WX.run ttOk rfl ?_
    have hX1 : impl_Replay_L1 l ([] : List DataP) = ((out) : List DataP) := by rw [v4, List.drop_eq_nil_of_le (show (l).length ≤ i by omega)]; simp only [impl_Replay_L1, cond_true, cond_false]
    have hP1 : impl_Replay l = out := by simp only [impl_Replay, hX1, cond_true, cond_false]
    refine WX.ret ttOk rfl ?_
    intro w1 G bs hI hΓ
    rw [hP1]
    exact Post.of [3] (pout, cout) hI hΓ rfl rfl rfl (okl_of v2)
theorem f65 (w : World) (n : Nat) (hn : n + 0 ≤ 9) (l : (List DataP)) (pl : Option Addr) (cl : Nat) (hpl : RdSl (hp w) pl cl l) (n_ : Name) (pn_ : Option Addr) (cn_ : Nat) (hpn_ : RdSl (hp w) pn_ cn_ n_.parts) (hokl : GoT.ok n l) (hokn_ : GoT.ok n n_) :
    Does Try.prog 65 #[.slice pl ((l).length) cl, .agg #[.slice pn_ ((n_.parts).length) cn_]] w emp (fun (rv : Value) (_ : World) => rv = .int .i64 ((spec_l16Find l n_)) ∧ GoT.ok n ((spec_l16Find l n_) : Int)) := by
  have hbP := bd_pos n
  have hbB := bd_big (n := n) (by omega)
  refine WX.enter (tt := tt) (Γ := [(0, MF.rs .stb pl cl l), (1, MF.rs .stb pn_ cn_ n_.parts)]) Try.func65 rfl (by kernel_rfl) rfl (allS_cons rfl hpl (allS_cons rfl hpn_ allS_nil)) ?_
  refine WX.run ttOk rfl ?_
  have r1 : (l).length ≤ bd n := (okl hokl).1
  refine WX.loop (ι := Nat) ⟨fun i => (i ≤ (l).length) ∧ (spec_l16Find_L1 n_ l 0 = spec_l16Find_L1 n_ ((l).drop i) i), fun i => (l).length - i, fun i => [(5, .v (.int .i64 (((i : Nat) : Int)))), (3, .p 3 0), (0, .v (.slice pl ((l).length) cl))], fun i => [(3, ⟨62, [.slice pn_ ((n_.parts).length) cn_]⟩)], fun i => [], fun i => [(0, MF.rs .stb pl cl l), (1, MF.rs .stb pn_ cn_ n_.parts)]⟩ 0 ⟨(Nat.zero_le _), rfl⟩
    (.cons rfl (.cons rfl (.cons rfl (.nil)))) (.cons rfl (.nil)) .nil [0, 1] rfl ?_
  rintro i hpre
  have hpre_ : (i ≤ (l).length) ∧ (spec_l16Find_L1 n_ l 0 = spec_l16Find_L1 n_ ((l).drop i) i) := hpre
  clear hpre
  obtain ⟨v1, v2⟩ := hpre_
  refine WX.run ttOk rfl ?_
  refine WX.cases 9 rfl (fun h1 => ?_) (fun h1 => ?_)
  · skip
    have h1d := B.dt h1
    have e1i : i < (l).length := (by omega)
    obtain ⟨e1, e1h⟩ : ∃ e1, (l)[i]? = some e1 := ⟨_, List.getElem?_eq_getElem e1i⟩
    have ok1 : GoT.ok n e1 := (okl hokl).2 _ (List.mem_of_getElem? e1h)
    refine WX.run ttOk rfl ?_
    refine WX.draw [] mixed ?_
    intro bs G0 hΓ0
    refine DX.takes (fuel := 5) ttOk [(0, true), (1, true)] (by kernel_rfl) rfl ?_
    refine DX.idx 2 0 i ttOk hΓ0 (by kernel_rfl) rfl rfl rfl rfl rfl rfl rfl rfl rfl rfl rfl e1i ?_
    rintro ad1 rfl
    refine DX.takes (fuel := 3) ttOk [(3, true)] (by kernel_rfl) rfl ?_
    refine DX.ldE 4 0 2 e1 ttOk hΓ0 (by kernel_rfl) rfl rfl rfl rfl rfl rfl rfl rfl e1h (fun _ => rfl) (fun _ => rfl) ?_
    rintro ⟨⟨p1, c1⟩, ⟨p2, c2⟩, ⟨p3, c3⟩, ⟨⟩, ⟨⟩⟩
    refine DX.takes (fuel := 1) ttOk [(5, false)] (by kernel_rfl) rfl ?_
    refine DX.callV 6 rfl (by kernel_rfl) rfl rfl rfl rfl rfl rfl (fun _ => rfl) rfl (fun w G bs hI hΓ => f102 w n (by omega) e1.name p1 c1 (hΓ.get 2 rfl) n_ pn_ cn_ (hΓ.get 1 rfl) ((ok_DataP ok1).1) hokn_) ?_
    intro hq1
    refine DX.tail [] rfl rfl (by kernel_rfl) ?_
    refine WX.run ttOk rfl ?_
    refine WX.cases 18 rfl (fun h2 => ?_) (fun h2 => ?_)
    · skip
      refine WX.run ttOk rfl ?_
      have hP1 : spec_l16Find_L1 n_ l 0 = (some ((i : Nat) : Int)) := by rw [v2, drop_get e1h]; simp only [spec_l16Find_L1, h2, cond_true, cond_false]
      have hP2 : spec_l16Find l n_ = ((i : Nat) : Int) := by simp only [spec_l16Find, hP1, cond_true, cond_false]
      refine WX.ret ttOk rfl ?_
      intro w1 G bs hI hΓ
      rw [hP2]
      exact ⟨rfl, (show I64 ((i : Nat) : Int) from (by unfold I64; omega))⟩
    · skip
      refine WX.run ttOk rfl ?_
      refine WX.see rfl rfl rfl (fun _ hΓ => looks_arith rfl rfl rfl rfl (by unfold I64; omega)) ?_
      refine WX.run ttOk rfl ?_
      exact WX.iter (i + 1) ⟨(by omega), (by rw [v2, drop_get e1h]; simp only [spec_l16Find_L1, h2, cond_true, cond_false])⟩ (by dsimp only; omega) (.cons rfl (.cons rfl (.cons rfl (.nil)))) (.cons rfl (.nil)) .nil [0, 1] rfl
  · skip
    have h1d := B.df h1
    refine WX.run ttOk rfl ?_
    have hX1 : spec_l16Find_L1 n_ l 0 = none := by rw [v2, List.drop_eq_nil_of_le (show (l).length ≤ i by omega)]; simp only [spec_l16Find_L1, cond_true, cond_false]
    have hP3 : spec_l16Find l n_ = (-1) := by simp only [spec_l16Find, hX1, cond_true, cond_false]
    refine WX.ret ttOk rfl ?_
    intro w1 G bs hI hΓ
    rw [hP3]
    exact ⟨rfl, (show I64 (-1) from (by unfold I64; omega))⟩
theorem lt_l16L (n_ : Name) : ∀ (l : List DataP) (i : Nat) (j : Int), spec_l16Find_L1 n_ l i = some j → j < ((i + l.length : Nat) : Int)
  | [], i, j, h => by cases h
  | x :: l, i, j, h => by
    simp only [spec_l16Find_L1] at h
    cases hx : spec_EqualNames x.name n_
    · rw [hx, cond_false] at h
      have := lt_l16L n_ l (i + 1) j h
      simp only [List.length_cons]; omega
    · rw [hx, cond_true] at h
      cases h
      simp only [List.length_cons]; omega
theorem lt_l16Find (l : List DataP) (n_ : Name) : spec_l16Find l n_ < ((l.length : Nat) : Int) := by
  unfold spec_l16Find
  cases h : spec_l16Find_L1 n_ l 0 with
  | none => show (-1 : Int) < _; omega
  | some j => have := lt_l16L n_ l 0 j h; show j < _; omega
theorem f13 (w : World) (n : Nat) (hn : n + 0 ≤ 9) (l : (List Record)) (pl : Option Addr) (cl : Nat) (hpl : RdSl (hp w) pl cl l) (hokl : GoT.ok n l) :
    Does Try.prog 13 #[.slice pl ((l).length) cl] w emp (Post w emp (fun x : GoT.X ((List DataP)) => (GoT.sh ((spec_Replay l) : (List DataP)) x).headD undef) (fun x => GoT.oa ((spec_Replay l) : (List DataP)) x) (GoT.ok n ((spec_Replay l) : (List DataP)))) := by
  have hbP := bd_pos n
  have hbB := bd_big (n := n) (by omega)
  refine WX.enter (tt := tt) (Γ := [(0, MF.rs .stb pl cl l)]) Try.func13 rfl (by kernel_rfl) rfl (allS_cons rfl hpl allS_nil) ?_
  refine WX.run ttOk rfl ?_
  refine WX.bld ttOk rfl rfl rfl rfl rfl rfl rfl ?_
  intro p1
  refine WX.run ttOk rfl ?_
  refine WX.free 1 (MF.ol [] ([] : List DataP)) rfl ?_
  refine WX.seal 7 1 2 rfl rfl rfl rfl rfl ?_
  have r1 : (l).length ≤ bd n := (okl hokl).1
  refine WX.loop (ι := (Option Addr) × Nat × (List DataP) × Nat) ⟨fun | (pout, cout, out, i) => (i ≤ (l).length) ∧ (out.length ≤ bd n ∧ ∀ z_ ∈ out, GoT.ok n z_) ∧ (out.length ≤ i) ∧ (spec_Replay_L1 l ([] : List DataP) = spec_Replay_L1 ((l).drop i) out), fun | (pout, cout, out, i) => (l).length - i, fun | (pout, cout, out, i) => [(3, .v (.slice pout ((out).length) cout)), (4, .v (.int .i64 (((i : Nat) : Int)))), (0, .v (.slice pl ((l).length) cl))], fun | (pout, cout, out, i) => [], fun | (pout, cout, out, i) => [], fun | (pout, cout, out, i) => [(0, MF.rs .stb pl cl l), (3, MF.os pout cout out)]⟩ (p1, 0, ([] : List DataP), 0) ⟨(Nat.zero_le _), (okl_mk (Nat.zero_le _) (fun a ha => by cases ha) : GoT.ok n ([] : List DataP)), (by simp), rfl⟩
    (.cons rfl (.cons rfl (.cons rfl (.nil)))) .nil .nil [0, 3] rfl ?_
  rintro ⟨pout, cout, out, i⟩ hpre
  have hpre_ : (i ≤ (l).length) ∧ (out.length ≤ bd n ∧ ∀ z_ ∈ out, GoT.ok n z_) ∧ (out.length ≤ i) ∧ (spec_Replay_L1 l ([] : List DataP) = spec_Replay_L1 ((l).drop i) out) := hpre
  clear hpre
  obtain ⟨v1, v2, v3, v4⟩ := hpre_
  have v2L := v2.1
  refine WX.run ttOk rfl ?_
  refine WX.cases 11 rfl (fun h1 => ?_) (fun h1 => ?_)
  · skip
    have h1d := B.dt h1
    have e1i : i < (l).length := (by omega)
    obtain ⟨e1, e1h⟩ : ∃ e1, (l)[i]? = some e1 := ⟨_, List.getElem?_eq_getElem e1i⟩
    have ok1 : GoT.ok n e1 := (okl hokl).2 _ (List.mem_of_getElem? e1h)
    refine WX.run ttOk rfl ?_
    refine WX.idx 0 i ttOk rfl rfl rfl rfl rfl rfl rfl rfl rfl rfl e1i ?_
    rintro ad1 rfl
    refine WX.run ttOk rfl ?_
    refine WX.ldE 0 4 e1 ttOk rfl rfl rfl rfl rfl rfl rfl rfl e1h (fun _ => rfl) (fun _ => rfl) ?_
    rintro ⟨⟨⟩, ⟨⟨p2, c1⟩, ⟨p3, c2⟩, ⟨p4, c3⟩, ⟨⟩, ⟨⟩⟩⟩
    refine WX.run ttOk rfl ?_
    refine WX.cases 20 rfl (fun h2 => ?_) (fun h2 => ?_)
    · skip
      have h2d := B.nt' h2
      refine WX.run ttOk rfl ?_
      refine WX.idx 0 i ttOk rfl rfl rfl rfl rfl rfl rfl rfl rfl rfl e1i ?_
      rintro ad2 ⟨⟩
      refine WX.run ttOk rfl ?_
      refine WX.ldE 0 7 e1 ttOk rfl rfl rfl rfl rfl rfl rfl rfl e1h (fun _ => rfl) (fun _ => rfl) ?_
      rintro ⟨⟨⟩, ⟨⟨p5, c4⟩, ⟨p6, c5⟩, ⟨p7, c6⟩, ⟨⟩, ⟨⟩⟩⟩
      refine WX.run ttOk rfl ?_
      refine WX.cases 27 rfl (fun h3 => ?_) (fun h3 => ?_)
      · skip
        have h3d := B.nt' h3
        refine WX.run ttOk rfl ?_
        refine WX.see rfl rfl rfl (fun _ hΓ => looks_arith rfl rfl rfl rfl (by unfold I64; omega)) ?_
        refine WX.run ttOk rfl ?_
        exact WX.iter (pout, cout, out, i + 1) ⟨(by omega), (okl_of v2), (by first | assumption | omega | (simp only [List.length_append, List.length_cons, List.length_nil, List.length_set, List.length_map, List.length_take, List.length_drop]; omega) | (simp; omega)), (by rw [v4, drop_get e1h]; simp only [spec_Replay_L1, h2, h3, cond_true, cond_false])⟩ (by dsimp only; omega) (.cons rfl (.cons rfl (.cons rfl (.nil)))) .nil .nil [0, 3] rfl
      · skip
        have h3d := B.nf' h3
        refine WX.run ttOk rfl ?_
        refine WX.idx 0 i ttOk rfl rfl rfl rfl rfl rfl rfl rfl rfl rfl e1i ?_
        rintro ad3 ⟨⟩
        refine WX.run ttOk rfl ?_
        refine WX.ldE 0 10 e1 ttOk rfl rfl rfl rfl rfl rfl rfl rfl e1h (fun _ => rfl) (fun _ => rfl) ?_
        rintro ⟨⟨⟩, ⟨⟨p8, c7⟩, ⟨p9, c8⟩, ⟨p10, c9⟩, ⟨⟩, ⟨⟩⟩⟩
        refine WX.der 13 (MF.rs .der pout cout out) rfl (fun _ hΓ => (hΓ.get 3 rfl : OwSl _ _ _ _).rd) ?_
        refine WX.callV rfl rfl rfl rfl rfl (fun _ => rfl) rfl (fun w G bs hI hΓ => f65 w n (by omega) out pout cout (hΓ.get 13 rfl) e1.data.name p8 c7 (hΓ.get 10 rfl) (okl_of v2) ((ok_DataP (ok_Record ok1).2).1)) ?_
        intro hq1
        have q1 := lt_l16Find out e1.data.name
        refine WX.run ttOk rfl ?_
        refine WX.cases 37 rfl (fun h4 => ?_) (fun h4 => ?_)
        · skip
          have h4d := B.dt h4
          refine WX.run ttOk rfl ?_
          refine WX.opn (kk := 5) 501 3 14 rfl rfl rfl ?_
          intro xs1 hx1
          refine WX.cap 501 rfl ?_
          intro hcap1
          refine WX.know (fun G hΓ => (hΓ.get 14 rfl : OwL _ _ _).rd.one) ?_
          intro hone1
          refine WX.draw [0, 4, 9, 10] mixed ?_
          intro bs G0 hΓ0
          refine DX.takes (fuel := 9) ttOk [(1, true), (2, true)] (by kernel_rfl) rfl ?_
          have r2 : -9223372036854775808 ≤ (spec_l16Find out e1.data.name) ∧ (spec_l16Find out e1.data.name) ≤ 9223372036854775807 := hq1
          refine DX.seeP 3 (by kernel_rfl) rfl rfl rfl rfl (looksP_slH (Int.toNat (spec_l16Find out e1.data.name)) ttOk rfl rfl rfl rfl (show (spec_l16Find out e1.data.name) = (((Int.toNat (spec_l16Find out e1.data.name)) : Nat) : Int) from (by omega)) (Nat.le_trans (show (Int.toNat (spec_l16Find out e1.data.name)) ≤ (out).length from (by omega)) hcap1)) ?_
          refine DX.takes (fuel := 6) ttOk [(5, true), (6, true)] (by kernel_rfl) rfl ?_
          refine DX.seeP 7 (by kernel_rfl) rfl rfl rfl rfl (looksP_arith rfl rfl rfl rfl (by unfold I64; omega)) ?_
          refine DX.seeP 8 (by kernel_rfl) rfl rfl rfl rfl (looksP_slL (Int.toNat ((spec_l16Find out e1.data.name) + 1)) ttOk rfl rfl rfl rfl (show (spec_l16Find out e1.data.name) + 1 = (((Int.toNat ((spec_l16Find out e1.data.name) + 1)) : Nat) : Int) from (by omega)) (show (Int.toNat ((spec_l16Find out e1.data.name) + 1)) ≤ (out).length from (by omega))) ?_
          refine DX.tail [0, 4, 9, 10] rfl rfl (by kernel_rfl) ?_
          refine WX.bld ttOk rfl rfl rfl rfl rfl rfl rfl ?_
          intro p11
          refine WX.free 15 (MF.ol [] ([] : List DataP)) rfl ?_
          refine WX.appPre 38 501 (Int.toNat (spec_l16Find out e1.data.name)) ((List.take (Int.toNat (spec_l16Find out e1.data.name)) out) : List DataP).length ttOk rfl rfl rfl rfl rfl rfl rfl rfl rfl rfl rfl rfl rfl hone1 (show (Int.toNat (spec_l16Find out e1.data.name)) ≤ (out).length from (by omega)) (by have z_ := (show (Int.toNat (spec_l16Find out e1.data.name)) ≤ (out).length from (by omega)); first | (simp; done) | (simp only [List.length_append, List.length_cons, List.length_nil, List.length_take, List.length_drop, List.length_set]; omega) | (simp; omega)) (by first | assumption | omega | (simp only [List.length_append, List.length_cons, List.length_nil, List.length_set, List.length_map, List.length_take, List.length_drop]; omega) | (simp; omega)) (by first | assumption | omega | (simp only [List.length_append, List.length_cons, List.length_nil, List.length_set, List.length_map, List.length_take, List.length_drop]; omega) | (simp; omega)) (fun _ _ => rfl) ?_
          intro p12 c10
          refine WX.turn [14] 16 rfl (fun h hs => ol_split (Int.toNat (spec_l16Find out e1.data.name)) (show (Int.toNat (spec_l16Find out e1.data.name)) ≤ (out).length from (by omega)) hs) (gs := [MF.ol (List.take ((Int.toNat (spec_l16Find out e1.data.name)) * 5) xs1) (List.take (Int.toNat (spec_l16Find out e1.data.name)) out), MF.ol (List.drop ((Int.toNat (spec_l16Find out e1.data.name)) * 5) xs1) (List.drop (Int.toNat (spec_l16Find out e1.data.name)) out)]) rfl ?_
          refine WX.turn [15, 16] 18 rfl (fun h hs => ol_app hs) (gs := [MF.ol ([] ++ (List.take ((Int.toNat (spec_l16Find out e1.data.name)) * 5) xs1)) ((List.take (Int.toNat (spec_l16Find out e1.data.name)) out) : List DataP)]) rfl ?_
          refine WX.appSuf 38 501 (Int.toNat ((spec_l16Find out e1.data.name) + 1)) (((List.take (Int.toNat (spec_l16Find out e1.data.name)) out) ++ (List.drop (Int.toNat ((spec_l16Find out e1.data.name) + 1)) out)) : List DataP).length ttOk rfl rfl rfl rfl rfl rfl rfl rfl rfl rfl rfl rfl rfl hone1 (show (Int.toNat ((spec_l16Find out e1.data.name) + 1)) ≤ (out).length from (by omega)) (by have z_ := (show (Int.toNat ((spec_l16Find out e1.data.name) + 1)) ≤ (out).length from (by omega)); first | (simp; done) | (simp only [List.length_append, List.length_cons, List.length_nil, List.length_take, List.length_drop, List.length_set]; omega) | (simp; omega)) (by first | assumption | omega | (simp only [List.length_append, List.length_cons, List.length_nil, List.length_set, List.length_map, List.length_take, List.length_drop]; omega) | (simp; omega)) (by first | assumption | omega | (simp only [List.length_append, List.length_cons, List.length_nil, List.length_set, List.length_map, List.length_take, List.length_drop]; omega) | (simp; omega)) (fun _ _ => rfl) ?_
          intro p13 c11
          refine WX.turn [17] 19 rfl (fun h hs => ol_drop (show (Int.toNat (spec_l16Find out e1.data.name)) ≤ (Int.toNat ((spec_l16Find out e1.data.name) + 1)) by omega) (show (Int.toNat ((spec_l16Find out e1.data.name) + 1)) ≤ (out).length from (by omega)) hs) (gs := [MF.ol (List.drop ((Int.toNat ((spec_l16Find out e1.data.name) + 1)) * 5) xs1) (List.drop (Int.toNat ((spec_l16Find out e1.data.name) + 1)) out)]) rfl ?_
          refine WX.turn [18, 19] 20 rfl (fun h hs => ol_app hs) (gs := [MF.ol (([] ++ (List.take ((Int.toNat (spec_l16Find out e1.data.name)) * 5) xs1)) ++ (List.drop ((Int.toNat ((spec_l16Find out e1.data.name) + 1)) * 5) xs1)) (((List.take (Int.toNat (spec_l16Find out e1.data.name)) out) ++ (List.drop (Int.toNat ((spec_l16Find out e1.data.name) + 1)) out)) : List DataP)]) rfl ?_
          refine WX.run ttOk rfl ?_
          refine WX.idx 0 i ttOk rfl rfl rfl rfl rfl rfl rfl rfl rfl rfl e1i ?_
          rintro ad4 ⟨⟩
          refine WX.run ttOk rfl ?_
          refine WX.ldE 0 21 e1 ttOk rfl rfl rfl rfl rfl rfl rfl rfl e1h (fun _ => rfl) (fun _ => rfl) ?_
          rintro ⟨⟨⟩, ⟨⟨p14, c12⟩, ⟨p15, c13⟩, ⟨p16, c14⟩, ⟨⟩, ⟨⟩⟩⟩
          refine WX.run ttOk rfl ?_
          refine WX.cases 53 rfl (fun h5 => ?_) (fun h5 => ?_)
          · skip
            have h5d := B.et h5
            refine WX.run ttOk rfl ?_
            refine WX.idx 0 i ttOk rfl rfl rfl rfl rfl rfl rfl rfl rfl rfl e1i ?_
            rintro ad5 ⟨⟩
            refine WX.run ttOk rfl ?_
            refine WX.ldE 0 24 e1 ttOk rfl rfl rfl rfl rfl rfl rfl rfl e1h (fun _ => rfl) (fun _ => rfl) ?_
            rintro ⟨⟨⟩, ⟨⟨p17, c15⟩, ⟨p18, c16⟩, ⟨p19, c17⟩, ⟨⟩, ⟨⟩⟩⟩
            refine WX.callF 27 (fun _ _ h => GoT.ow_rd h) (fun _ f hf => GoT.fak f hf) rfl rfl rfl rfl rfl (fun _ => rfl) rfl (fun w G bs hI hΓ => f66 w n (by omega) e1.data p17 c15 (hΓ.get 24 rfl) p18 c16 (hΓ.get 25 rfl) p19 c17 (hΓ.get 26 rfl) ((ok_Record ok1).2)) (fun _ => rfl) (fun _ => rfl) ?_
            rintro ⟨⟨p20, c18⟩, ⟨p21, c19⟩, ⟨p22, c20⟩, ⟨⟩, ⟨⟩⟩ hq2
            refine WX.run ttOk rfl ?_
            refine WX.bld ttOk rfl rfl rfl rfl rfl rfl rfl ?_
            intro p23
            refine WX.turn [30, 31, 32] 33 rfl (fun h hs => ol_one (α := DataP) (a := (spec_l8Copy e1.data)) (x := ((p20, c18), (p21, c19), (p22, c20), (), ())) hs) (gs := [MF.ol [.slice p20 (((spec_l8Copy e1.data).name.parts).length) c18, .slice p21 (((spec_l8Copy e1.data).content).length) c19, .slice p22 (((spec_l8Copy e1.data).keyName.parts).length) c20, .int .i64 ((spec_l8Copy e1.data).freshUntil), .int .i64 ((spec_l8Copy e1.data).signature)] ([(spec_l8Copy e1.data)] : List DataP)]) rfl ?_
            refine WX.appR1 38 62 ((((List.take (Int.toNat (spec_l16Find out e1.data.name)) out) ++ (List.drop (Int.toNat ((spec_l16Find out e1.data.name) + 1)) out)) ++ [(spec_l8Copy e1.data)]) : List DataP).length ttOk rfl rfl rfl rfl rfl rfl rfl rfl rfl rfl rfl rfl rfl (by simp [Value.oneCell']) (by first | (simp; done) | omega | (simp only [List.length_append, List.length_cons, List.length_nil, List.length_take, List.length_drop, List.length_set]; omega) | (simp; omega)) (by first | assumption | omega | (simp only [List.length_append, List.length_cons, List.length_nil, List.length_set, List.length_map, List.length_take, List.length_drop]; omega) | (simp; omega)) (by first | assumption | omega | (simp only [List.length_append, List.length_cons, List.length_nil, List.length_set, List.length_map, List.length_take, List.length_drop]; omega) | (simp; omega)) (fun _ _ => rfl) ?_
            intro p24 c21
            refine WX.turn [20, 33] 34 rfl (fun h hs => ol_app hs) (gs := [MF.ol ((([] ++ (List.take ((Int.toNat (spec_l16Find out e1.data.name)) * 5) xs1)) ++ (List.drop ((Int.toNat ((spec_l16Find out e1.data.name) + 1)) * 5) xs1)) ++ [.slice p20 (((spec_l8Copy e1.data).name.parts).length) c18, .slice p21 (((spec_l8Copy e1.data).content).length) c19, .slice p22 (((spec_l8Copy e1.data).keyName.parts).length) c20, .int .i64 ((spec_l8Copy e1.data).freshUntil), .int .i64 ((spec_l8Copy e1.data).signature)]) ((((List.take (Int.toNat (spec_l16Find out e1.data.name)) out) ++ (List.drop (Int.toNat ((spec_l16Find out e1.data.name) + 1)) out)) ++ [(spec_l8Copy e1.data)]) : List DataP)]) rfl ?_
            refine WX.run ttOk rfl ?_
            refine WX.see rfl rfl rfl (fun _ hΓ => looks_arith rfl rfl rfl rfl (by unfold I64; omega)) ?_
            refine WX.run ttOk rfl ?_
            refine WX.seal 38 34 35 rfl rfl rfl rfl rfl ?_
            refine WX.turn [36] 3 rfl (fun _ h => h) rfl ?_
            exact WX.iter (p24, c21, (((List.take (Int.toNat (spec_l16Find out e1.data.name)) out) ++ (List.drop (Int.toNat ((spec_l16Find out e1.data.name) + 1)) out)) ++ [(spec_l8Copy e1.data)]), i + 1) ⟨(by omega), (okl_mk (by first | assumption | omega | (simp only [List.length_append, List.length_cons, List.length_nil, List.length_set, List.length_map, List.length_take, List.length_drop]; omega) | (simp; omega)) (all_app (all_app (fun a ha => v2.2 a (List.mem_of_mem_take ha)) (fun a ha => v2.2 a (List.mem_of_mem_drop ha))) (all_cons (α := DataP) hq2 (fun a ha => by cases ha))) : GoT.ok n ((((List.take (Int.toNat (spec_l16Find out e1.data.name)) out) ++ (List.drop (Int.toNat ((spec_l16Find out e1.data.name) + 1)) out)) ++ [(spec_l8Copy e1.data)]) : List DataP)), (by first | assumption | omega | (simp only [List.length_append, List.length_cons, List.length_nil, List.length_set, List.length_map, List.length_take, List.length_drop]; omega) | (simp; omega)), (by rw [v4, drop_get e1h]; simp only [spec_Replay_L1, h2, h3, h4, h5, cond_true, cond_false])⟩ (by dsimp only; omega) (.cons rfl (.cons rfl (.cons rfl (.nil)))) .nil .nil [0, 3] rfl
          · skip
            have h5d := B.ef h5
            refine WX.run ttOk rfl ?_
            refine WX.see rfl rfl rfl (fun _ hΓ => looks_arith rfl rfl rfl rfl (by unfold I64; omega)) ?_
            refine WX.run ttOk rfl ?_
            refine WX.seal 38 20 37 rfl rfl rfl rfl rfl ?_
            refine WX.turn [38] 3 rfl (fun _ h => h) rfl ?_
            exact WX.iter (p13, c11, ((List.take (Int.toNat (spec_l16Find out e1.data.name)) out) ++ (List.drop (Int.toNat ((spec_l16Find out e1.data.name) + 1)) out)), i + 1) ⟨(by omega), (okl_mk (by first | assumption | omega | (simp only [List.length_append, List.length_cons, List.length_nil, List.length_set, List.length_map, List.length_take, List.length_drop]; omega) | (simp; omega)) (all_app (fun a ha => v2.2 a (List.mem_of_mem_take ha)) (fun a ha => v2.2 a (List.mem_of_mem_drop ha))) : GoT.ok n (((List.take (Int.toNat (spec_l16Find out e1.data.name)) out) ++ (List.drop (Int.toNat ((spec_l16Find out e1.data.name) + 1)) out)) : List DataP)), (by first | assumption | omega | (simp only [List.length_append, List.length_cons, List.length_nil, List.length_set, List.length_map, List.length_take, List.length_drop]; omega) | (simp; omega)), (by rw [v4, drop_get e1h]; simp only [spec_Replay_L1, h2, h3, h4, h5, cond_true, cond_false])⟩ (by dsimp only; omega) (.cons rfl (.cons rfl (.cons rfl (.nil)))) .nil .nil [0, 3] rfl
        · skip
          have h4d := B.df h4
          refine WX.run ttOk rfl ?_
          refine WX.idx 0 i ttOk rfl rfl rfl rfl rfl rfl rfl rfl rfl rfl e1i ?_
          rintro ad6 ⟨⟩
          refine WX.run ttOk rfl ?_
          refine WX.ldE 0 39 e1 ttOk rfl rfl rfl rfl rfl rfl rfl rfl e1h (fun _ => rfl) (fun _ => rfl) ?_
          rintro ⟨⟨⟩, ⟨⟨p25, c22⟩, ⟨p26, c23⟩, ⟨p27, c24⟩, ⟨⟩, ⟨⟩⟩⟩
          refine WX.run ttOk rfl ?_
          refine WX.cases 53 rfl (fun h6 => ?_) (fun h6 => ?_)
          · skip
            have h6d := B.et h6
            refine WX.run ttOk rfl ?_
            refine WX.idx 0 i ttOk rfl rfl rfl rfl rfl rfl rfl rfl rfl rfl e1i ?_
            rintro ad7 ⟨⟩
            refine WX.run ttOk rfl ?_
            refine WX.ldE 0 42 e1 ttOk rfl rfl rfl rfl rfl rfl rfl rfl e1h (fun _ => rfl) (fun _ => rfl) ?_
            rintro ⟨⟨⟩, ⟨⟨p28, c25⟩, ⟨p29, c26⟩, ⟨p30, c27⟩, ⟨⟩, ⟨⟩⟩⟩
            refine WX.callF 45 (fun _ _ h => GoT.ow_rd h) (fun _ f hf => GoT.fak f hf) rfl rfl rfl rfl rfl (fun _ => rfl) rfl (fun w G bs hI hΓ => f66 w n (by omega) e1.data p28 c25 (hΓ.get 42 rfl) p29 c26 (hΓ.get 43 rfl) p30 c27 (hΓ.get 44 rfl) ((ok_Record ok1).2)) (fun _ => rfl) (fun _ => rfl) ?_
            rintro ⟨⟨p31, c28⟩, ⟨p32, c29⟩, ⟨p33, c30⟩, ⟨⟩, ⟨⟩⟩ hq3
            refine WX.run ttOk rfl ?_
            refine WX.bld ttOk rfl rfl rfl rfl rfl rfl rfl ?_
            intro p34
            refine WX.opn (kk := 5) 502 3 51 rfl rfl rfl ?_
            intro xs2 hx2
            refine WX.turn [48, 49, 50] 52 rfl (fun h hs => ol_one (α := DataP) (a := (spec_l8Copy e1.data)) (x := ((p31, c28), (p32, c29), (p33, c30), (), ())) hs) (gs := [MF.ol [.slice p31 (((spec_l8Copy e1.data).name.parts).length) c28, .slice p32 (((spec_l8Copy e1.data).content).length) c29, .slice p33 (((spec_l8Copy e1.data).keyName.parts).length) c30, .int .i64 ((spec_l8Copy e1.data).freshUntil), .int .i64 ((spec_l8Copy e1.data).signature)] ([(spec_l8Copy e1.data)] : List DataP)]) rfl ?_
            refine WX.appR1 502 62 ((out ++ [(spec_l8Copy e1.data)]) : List DataP).length ttOk rfl rfl rfl rfl rfl rfl rfl rfl rfl rfl rfl rfl rfl (by simp [Value.oneCell']) (by simp) (by simp; omega) (by simp; omega) (fun _ _ => rfl) ?_
            intro p35 c31
            refine WX.turn [51, 52] 53 rfl (fun h hs => ol_app hs) (gs := [MF.ol (xs2 ++ [.slice p31 (((spec_l8Copy e1.data).name.parts).length) c28, .slice p32 (((spec_l8Copy e1.data).content).length) c29, .slice p33 (((spec_l8Copy e1.data).keyName.parts).length) c30, .int .i64 ((spec_l8Copy e1.data).freshUntil), .int .i64 ((spec_l8Copy e1.data).signature)]) ((out ++ [(spec_l8Copy e1.data)]) : List DataP)]) rfl ?_
            refine WX.run ttOk rfl ?_
            refine WX.see rfl rfl rfl (fun _ hΓ => looks_arith rfl rfl rfl rfl (by unfold I64; omega)) ?_
            refine WX.run ttOk rfl ?_
            refine WX.seal 502 53 54 rfl rfl rfl rfl rfl ?_
            refine WX.turn [55] 3 rfl (fun _ h => h) rfl ?_
            exact WX.iter (p35, c31, (out ++ [(spec_l8Copy e1.data)]), i + 1) ⟨(by omega), (okl_mk (by simp; omega) (all_app v2.2 (all_cons (α := DataP) hq3 (fun a ha => by cases ha))) : GoT.ok n ((out ++ [(spec_l8Copy e1.data)]) : List DataP)), (by first | assumption | omega | (simp only [List.length_append, List.length_cons, List.length_nil, List.length_set, List.length_map, List.length_take, List.length_drop]; omega) | (simp; omega)), (by rw [v4, drop_get e1h]; simp only [spec_Replay_L1, h2, h3, h4, h6, cond_true, cond_false])⟩ (by dsimp only; omega) (.cons rfl (.cons rfl (.cons rfl (.nil)))) .nil .nil [0, 3] rfl
          · skip
            have h6d := B.ef h6
            refine WX.run ttOk rfl ?_
            refine WX.see rfl rfl rfl (fun _ hΓ => looks_arith rfl rfl rfl rfl (by unfold I64; omega)) ?_
            refine WX.run ttOk rfl ?_
            exact WX.iter (pout, cout, out, i + 1) ⟨(by omega), (okl_of v2), (by first | assumption | omega | (simp only [List.length_append, List.length_cons, List.length_nil, List.length_set, List.length_map, List.length_take, List.length_drop]; omega) | (simp; omega)), (by rw [v4, drop_get e1h]; simp only [spec_Replay_L1, h2, h3, h4, h6, cond_true, cond_false])⟩ (by dsimp only; omega) (.cons rfl (.cons rfl (.cons rfl (.nil)))) .nil .nil [0, 3] rfl
    · skip
      have h2d := B.nf' h2
      refine WX.run ttOk rfl ?_
      refine WX.idx 0 i ttOk rfl rfl rfl rfl rfl rfl rfl rfl rfl rfl e1i ?_
      rintro ad8 ⟨⟩
      refine WX.run ttOk rfl ?_
      refine WX.ldE 0 56 e1 ttOk rfl rfl rfl rfl rfl rfl rfl rfl e1h (fun _ => rfl) (fun _ => rfl) ?_
      rintro ⟨⟨⟩, ⟨⟨p36, c32⟩, ⟨p37, c33⟩, ⟨p38, c34⟩, ⟨⟩, ⟨⟩⟩⟩
      refine WX.der 59 (MF.rs .der pout cout out) rfl (fun _ hΓ => (hΓ.get 3 rfl : OwSl _ _ _ _).rd) ?_
      refine WX.callV rfl rfl rfl rfl rfl (fun _ => rfl) rfl (fun w G bs hI hΓ => f65 w n (by omega) out pout cout (hΓ.get 59 rfl) e1.data.name p36 c32 (hΓ.get 56 rfl) (okl_of v2) ((ok_DataP (ok_Record ok1).2).1)) ?_
      intro hq4
      have q2 := lt_l16Find out e1.data.name
      refine WX.run ttOk rfl ?_
      refine WX.cases 37 rfl (fun h7 => ?_) (fun h7 => ?_)
      · skip
        have h7d := B.dt h7
        refine WX.run ttOk rfl ?_
        refine WX.opn (kk := 5) 503 3 60 rfl rfl rfl ?_
        intro xs3 hx3
        refine WX.cap 503 rfl ?_
        intro hcap2
        refine WX.know (fun G hΓ => (hΓ.get 60 rfl : OwL _ _ _).rd.one) ?_
        intro hone2
        refine WX.draw [0, 4, 9, 10] mixed ?_
        intro bs G0 hΓ0
        refine DX.takes (fuel := 9) ttOk [(1, true), (2, true)] (by kernel_rfl) rfl ?_
        have r3 : -9223372036854775808 ≤ (spec_l16Find out e1.data.name) ∧ (spec_l16Find out e1.data.name) ≤ 9223372036854775807 := hq4
        refine DX.seeP 3 (by kernel_rfl) rfl rfl rfl rfl (looksP_slH (Int.toNat (spec_l16Find out e1.data.name)) ttOk rfl rfl rfl rfl (show (spec_l16Find out e1.data.name) = (((Int.toNat (spec_l16Find out e1.data.name)) : Nat) : Int) from (by omega)) (Nat.le_trans (show (Int.toNat (spec_l16Find out e1.data.name)) ≤ (out).length from (by omega)) hcap2)) ?_
        refine DX.takes (fuel := 6) ttOk [(5, true), (6, true)] (by kernel_rfl) rfl ?_
        refine DX.seeP 7 (by kernel_rfl) rfl rfl rfl rfl (looksP_arith rfl rfl rfl rfl (by unfold I64; omega)) ?_
        refine DX.seeP 8 (by kernel_rfl) rfl rfl rfl rfl (looksP_slL (Int.toNat ((spec_l16Find out e1.data.name) + 1)) ttOk rfl rfl rfl rfl (show (spec_l16Find out e1.data.name) + 1 = (((Int.toNat ((spec_l16Find out e1.data.name) + 1)) : Nat) : Int) from (by omega)) (show (Int.toNat ((spec_l16Find out e1.data.name) + 1)) ≤ (out).length from (by omega))) ?_
        refine DX.tail [0, 4, 9, 10] rfl rfl (by kernel_rfl) ?_
        refine WX.bld ttOk rfl rfl rfl rfl rfl rfl rfl ?_
        intro p39
        refine WX.free 61 (MF.ol [] ([] : List DataP)) rfl ?_
        refine WX.appPre 38 503 (Int.toNat (spec_l16Find out e1.data.name)) ((List.take (Int.toNat (spec_l16Find out e1.data.name)) out) : List DataP).length ttOk rfl rfl rfl rfl rfl rfl rfl rfl rfl rfl rfl rfl rfl hone2 (show (Int.toNat (spec_l16Find out e1.data.name)) ≤ (out).length from (by omega)) (by have z_ := (show (Int.toNat (spec_l16Find out e1.data.name)) ≤ (out).length from (by omega)); first | (simp; done) | (simp only [List.length_append, List.length_cons, List.length_nil, List.length_take, List.length_drop, List.length_set]; omega) | (simp; omega)) (by first | assumption | omega | (simp only [List.length_append, List.length_cons, List.length_nil, List.length_set, List.length_map, List.length_take, List.length_drop]; omega) | (simp; omega)) (by first | assumption | omega | (simp only [List.length_append, List.length_cons, List.length_nil, List.length_set, List.length_map, List.length_take, List.length_drop]; omega) | (simp; omega)) (fun _ _ => rfl) ?_
        intro p40 c35
        refine WX.turn [60] 62 rfl (fun h hs => ol_split (Int.toNat (spec_l16Find out e1.data.name)) (show (Int.toNat (spec_l16Find out e1.data.name)) ≤ (out).length from (by omega)) hs) (gs := [MF.ol (List.take ((Int.toNat (spec_l16Find out e1.data.name)) * 5) xs3) (List.take (Int.toNat (spec_l16Find out e1.data.name)) out), MF.ol (List.drop ((Int.toNat (spec_l16Find out e1.data.name)) * 5) xs3) (List.drop (Int.toNat (spec_l16Find out e1.data.name)) out)]) rfl ?_
        refine WX.turn [61, 62] 64 rfl (fun h hs => ol_app hs) (gs := [MF.ol ([] ++ (List.take ((Int.toNat (spec_l16Find out e1.data.name)) * 5) xs3)) ((List.take (Int.toNat (spec_l16Find out e1.data.name)) out) : List DataP)]) rfl ?_
        refine WX.appSuf 38 503 (Int.toNat ((spec_l16Find out e1.data.name) + 1)) (((List.take (Int.toNat (spec_l16Find out e1.data.name)) out) ++ (List.drop (Int.toNat ((spec_l16Find out e1.data.name) + 1)) out)) : List DataP).length ttOk rfl rfl rfl rfl rfl rfl rfl rfl rfl rfl rfl rfl rfl hone2 (show (Int.toNat ((spec_l16Find out e1.data.name) + 1)) ≤ (out).length from (by omega)) (by have z_ := (show (Int.toNat ((spec_l16Find out e1.data.name) + 1)) ≤ (out).length from (by omega)); first | (simp; done) | (simp only [List.length_append, List.length_cons, List.length_nil, List.length_take, List.length_drop, List.length_set]; omega) | (simp; omega)) (by first | assumption | omega | (simp only [List.length_append, List.length_cons, List.length_nil, List.length_set, List.length_map, List.length_take, List.length_drop]; omega) | (simp; omega)) (by first | assumption | omega | (simp only [List.length_append, List.length_cons, List.length_nil, List.length_set, List.length_map, List.length_take, List.length_drop]; omega) | (simp; omega)) (fun _ _ => rfl) ?_
        intro p41 c36
        refine WX.turn [63] 65 rfl (fun h hs => ol_drop (show (Int.toNat (spec_l16Find out e1.data.name)) ≤ (Int.toNat ((spec_l16Find out e1.data.name) + 1)) by omega) (show (Int.toNat ((spec_l16Find out e1.data.name) + 1)) ≤ (out).length from (by omega)) hs) (gs := [MF.ol (List.drop ((Int.toNat ((spec_l16Find out e1.data.name) + 1)) * 5) xs3) (List.drop (Int.toNat ((spec_l16Find out e1.data.name) + 1)) out)]) rfl ?_
        refine WX.turn [64, 65] 66 rfl (fun h hs => ol_app hs) (gs := [MF.ol (([] ++ (List.take ((Int.toNat (spec_l16Find out e1.data.name)) * 5) xs3)) ++ (List.drop ((Int.toNat ((spec_l16Find out e1.data.name) + 1)) * 5) xs3)) (((List.take (Int.toNat (spec_l16Find out e1.data.name)) out) ++ (List.drop (Int.toNat ((spec_l16Find out e1.data.name) + 1)) out)) : List DataP)]) rfl ?_
        refine WX.run ttOk rfl ?_
        refine WX.idx 0 i ttOk rfl rfl rfl rfl rfl rfl rfl rfl rfl rfl e1i ?_
        rintro ad9 ⟨⟩
        refine WX.run ttOk rfl ?_
        refine WX.ldE 0 67 e1 ttOk rfl rfl rfl rfl rfl rfl rfl rfl e1h (fun _ => rfl) (fun _ => rfl) ?_
        rintro ⟨⟨⟩, ⟨⟨p42, c37⟩, ⟨p43, c38⟩, ⟨p44, c39⟩, ⟨⟩, ⟨⟩⟩⟩
        refine WX.run ttOk rfl ?_
        refine WX.cases 53 rfl (fun h8 => ?_) (fun h8 => ?_)
        · skip
          have h8d := B.et h8
          refine WX.run ttOk rfl ?_
          refine WX.idx 0 i ttOk rfl rfl rfl rfl rfl rfl rfl rfl rfl rfl e1i ?_
          rintro ad10 ⟨⟩
          refine WX.run ttOk rfl ?_
          refine WX.ldE 0 70 e1 ttOk rfl rfl rfl rfl rfl rfl rfl rfl e1h (fun _ => rfl) (fun _ => rfl) ?_
          rintro ⟨⟨⟩, ⟨⟨p45, c40⟩, ⟨p46, c41⟩, ⟨p47, c42⟩, ⟨⟩, ⟨⟩⟩⟩
          refine WX.callF 73 (fun _ _ h => GoT.ow_rd h) (fun _ f hf => GoT.fak f hf) rfl rfl rfl rfl rfl (fun _ => rfl) rfl (fun w G bs hI hΓ => f66 w n (by omega) e1.data p45 c40 (hΓ.get 70 rfl) p46 c41 (hΓ.get 71 rfl) p47 c42 (hΓ.get 72 rfl) ((ok_Record ok1).2)) (fun _ => rfl) (fun _ => rfl) ?_
          rintro ⟨⟨p48, c43⟩, ⟨p49, c44⟩, ⟨p50, c45⟩, ⟨⟩, ⟨⟩⟩ hq5
          refine WX.run ttOk rfl ?_
          refine WX.bld ttOk rfl rfl rfl rfl rfl rfl rfl ?_
          intro p51
          refine WX.turn [76, 77, 78] 79 rfl (fun h hs => ol_one (α := DataP) (a := (spec_l8Copy e1.data)) (x := ((p48, c43), (p49, c44), (p50, c45), (), ())) hs) (gs := [MF.ol [.slice p48 (((spec_l8Copy e1.data).name.parts).length) c43, .slice p49 (((spec_l8Copy e1.data).content).length) c44, .slice p50 (((spec_l8Copy e1.data).keyName.parts).length) c45, .int .i64 ((spec_l8Copy e1.data).freshUntil), .int .i64 ((spec_l8Copy e1.data).signature)] ([(spec_l8Copy e1.data)] : List DataP)]) rfl ?_
          refine WX.appR1 38 62 ((((List.take (Int.toNat (spec_l16Find out e1.data.name)) out) ++ (List.drop (Int.toNat ((spec_l16Find out e1.data.name) + 1)) out)) ++ [(spec_l8Copy e1.data)]) : List DataP).length ttOk rfl rfl rfl rfl rfl rfl rfl rfl rfl rfl rfl rfl rfl (by simp [Value.oneCell']) (by first | (simp; done) | omega | (simp only [List.length_append, List.length_cons, List.length_nil, List.length_take, List.length_drop, List.length_set]; omega) | (simp; omega)) (by first | assumption | omega | (simp only [List.length_append, List.length_cons, List.length_nil, List.length_set, List.length_map, List.length_take, List.length_drop]; omega) | (simp; omega)) (by first | assumption | omega | (simp only [List.length_append, List.length_cons, List.length_nil, List.length_set, List.length_map, List.length_take, List.length_drop]; omega) | (simp; omega)) (fun _ _ => rfl) ?_
          intro p52 c46
          refine WX.turn [66, 79] 80 rfl (fun h hs => ol_app hs) (gs := [MF.ol ((([] ++ (List.take ((Int.toNat (spec_l16Find out e1.data.name)) * 5) xs3)) ++ (List.drop ((Int.toNat ((spec_l16Find out e1.data.name) + 1)) * 5) xs3)) ++ [.slice p48 (((spec_l8Copy e1.data).name.parts).length) c43, .slice p49 (((spec_l8Copy e1.data).content).length) c44, .slice p50 (((spec_l8Copy e1.data).keyName.parts).length) c45, .int .i64 ((spec_l8Copy e1.data).freshUntil), .int .i64 ((spec_l8Copy e1.data).signature)]) ((((List.take (Int.toNat (spec_l16Find out e1.data.name)) out) ++ (List.drop (Int.toNat ((spec_l16Find out e1.data.name) + 1)) out)) ++ [(spec_l8Copy e1.data)]) : List DataP)]) rfl ?_
          refine WX.run ttOk rfl ?_
          refine WX.see rfl rfl rfl (fun _ hΓ => looks_arith rfl rfl rfl rfl (by unfold I64; omega)) ?_
          refine WX.run ttOk rfl ?_
          refine WX.seal 38 80 81 rfl rfl rfl rfl rfl ?_
          refine WX.turn [82] 3 rfl (fun _ h => h) rfl ?_
          exact WX.iter (p52, c46, (((List.take (Int.toNat (spec_l16Find out e1.data.name)) out) ++ (List.drop (Int.toNat ((spec_l16Find out e1.data.name) + 1)) out)) ++ [(spec_l8Copy e1.data)]), i + 1) ⟨(by omega), (okl_mk (by first | assumption | omega | (simp only [List.length_append, List.length_cons, List.length_nil, List.length_set, List.length_map, List.length_take, List.length_drop]; omega) | (simp; omega)) (all_app (all_app (fun a ha => v2.2 a (List.mem_of_mem_take ha)) (fun a ha => v2.2 a (List.mem_of_mem_drop ha))) (all_cons (α := DataP) hq5 (fun a ha => by cases ha))) : GoT.ok n ((((List.take (Int.toNat (spec_l16Find out e1.data.name)) out) ++ (List.drop (Int.toNat ((spec_l16Find out e1.data.name) + 1)) out)) ++ [(spec_l8Copy e1.data)]) : List DataP)), (by first | assumption | omega | (simp only [List.length_append, List.length_cons, List.length_nil, List.length_set, List.length_map, List.length_take, List.length_drop]; omega) | (simp; omega)), (by rw [v4, drop_get e1h]; simp only [spec_Replay_L1, h2, h7, h8, cond_true, cond_false])⟩ (by dsimp only; omega) (.cons rfl (.cons rfl (.cons rfl (.nil)))) .nil .nil [0, 3] rfl
        · skip
          have h8d := B.ef h8
          refine WX.run ttOk rfl ?_
          refine WX.see rfl rfl rfl (fun _ hΓ => looks_arith rfl rfl rfl rfl (by unfold I64; omega)) ?_
          refine WX.run ttOk rfl ?_
          refine WX.seal 38 66 83 rfl rfl rfl rfl rfl ?_
          refine WX.turn [84] 3 rfl (fun _ h => h) rfl ?_
          exact WX.iter (p41, c36, ((List.take (Int.toNat (spec_l16Find out e1.data.name)) out) ++ (List.drop (Int.toNat ((spec_l16Find out e1.data.name) + 1)) out)), i + 1) ⟨(by omega), (okl_mk (by first | assumption | omega | (simp only [List.length_append, List.length_cons, List.length_nil, List.length_set, List.length_map, List.length_take, List.length_drop]; omega) | (simp; omega)) (all_app (fun a ha => v2.2 a (List.mem_of_mem_take ha)) (fun a ha => v2.2 a (List.mem_of_mem_drop ha))) : GoT.ok n (((List.take (Int.toNat (spec_l16Find out e1.data.name)) out) ++ (List.drop (Int.toNat ((spec_l16Find out e1.data.name) + 1)) out)) : List DataP)), (by first | assumption | omega | (simp only [List.length_append, List.length_cons, List.length_nil, List.length_set, List.length_map, List.length_take, List.length_drop]; omega) | (simp; omega)), (by rw [v4, drop_get e1h]; simp only [spec_Replay_L1, h2, h7, h8, cond_true, cond_false])⟩ (by dsimp only; omega) (.cons rfl (.cons rfl (.cons rfl (.nil)))) .nil .nil [0, 3] rfl
      · skip
        have h7d := B.df h7
        refine WX.run ttOk rfl ?_
        refine WX.idx 0 i ttOk rfl rfl rfl rfl rfl rfl rfl rfl rfl rfl e1i ?_
        rintro ad11 ⟨⟩
        refine WX.run ttOk rfl ?_
        refine WX.ldE 0 85 e1 ttOk rfl rfl rfl rfl rfl rfl rfl rfl e1h (fun _ => rfl) (fun _ => rfl) ?_
        rintro ⟨⟨⟩, ⟨⟨p53, c47⟩, ⟨p54, c48⟩, ⟨p55, c49⟩, ⟨⟩, ⟨⟩⟩⟩
        refine WX.run ttOk rfl ?_
        refine WX.cases 53 rfl (fun h9 => ?_) (fun h9 => ?_)
        · skip
          have h9d := B.et h9
          refine WX.run ttOk rfl ?_
          refine WX.idx 0 i ttOk rfl rfl rfl rfl rfl rfl rfl rfl rfl rfl e1i ?_
          rintro ad12 ⟨⟩
          refine WX.run ttOk rfl ?_
          refine WX.ldE 0 88 e1 ttOk rfl rfl rfl rfl rfl rfl rfl rfl e1h (fun _ => rfl) (fun _ => rfl) ?_
          rintro ⟨⟨⟩, ⟨⟨p56, c50⟩, ⟨p57, c51⟩, ⟨p58, c52⟩, ⟨⟩, ⟨⟩⟩⟩
          refine WX.callF 91 (fun _ _ h => GoT.ow_rd h) (fun _ f hf => GoT.fak f hf) rfl rfl rfl rfl rfl (fun _ => rfl) rfl (fun w G bs hI hΓ => f66 w n (by omega) e1.data p56 c50 (hΓ.get 88 rfl) p57 c51 (hΓ.get 89 rfl) p58 c52 (hΓ.get 90 rfl) ((ok_Record ok1).2)) (fun _ => rfl) (fun _ => rfl) ?_
          rintro ⟨⟨p59, c53⟩, ⟨p60, c54⟩, ⟨p61, c55⟩, ⟨⟩, ⟨⟩⟩ hq6
          refine WX.run ttOk rfl ?_
          refine WX.bld ttOk rfl rfl rfl rfl rfl rfl rfl ?_
          intro p62
          refine WX.opn (kk := 5) 504 3 97 rfl rfl rfl ?_
          intro xs4 hx4
          refine WX.turn [94, 95, 96] 98 rfl (fun h hs => ol_one (α := DataP) (a := (spec_l8Copy e1.data)) (x := ((p59, c53), (p60, c54), (p61, c55), (), ())) hs) (gs := [MF.ol [.slice p59 (((spec_l8Copy e1.data).name.parts).length) c53, .slice p60 (((spec_l8Copy e1.data).content).length) c54, .slice p61 (((spec_l8Copy e1.data).keyName.parts).length) c55, .int .i64 ((spec_l8Copy e1.data).freshUntil), .int .i64 ((spec_l8Copy e1.data).signature)] ([(spec_l8Copy e1.data)] : List DataP)]) rfl ?_
          refine WX.appR1 504 62 ((out ++ [(spec_l8Copy e1.data)]) : List DataP).length ttOk rfl rfl rfl rfl rfl rfl rfl rfl rfl rfl rfl rfl rfl (by simp [Value.oneCell']) (by simp) (by simp; omega) (by simp; omega) (fun _ _ => rfl) ?_
          intro p63 c56
          refine WX.turn [97, 98] 99 rfl (fun h hs => ol_app hs) (gs := [MF.ol (xs4 ++ [.slice p59 (((spec_l8Copy e1.data).name.parts).length) c53, .slice p60 (((spec_l8Copy e1.data).content).length) c54, .slice p61 (((spec_l8Copy e1.data).keyName.parts).length) c55, .int .i64 ((spec_l8Copy e1.data).freshUntil), .int .i64 ((spec_l8Copy e1.data).signature)]) ((out ++ [(spec_l8Copy e1.data)]) : List DataP)]) rfl ?_
          refine WX.run ttOk rfl ?_
          refine WX.see rfl rfl rfl (fun _ hΓ => looks_arith rfl rfl rfl rfl (by unfold I64; omega)) ?_
          refine WX.run ttOk rfl ?_
          refine WX.seal 504 99 100 rfl rfl rfl rfl rfl ?_
          refine WX.turn [101] 3 rfl (fun _ h => h) rfl ?_
          exact WX.iter (p63, c56, (out ++ [(spec_l8Copy e1.data)]), i + 1) ⟨(by omega), (okl_mk (by simp; omega) (all_app v2.2 (all_cons (α := DataP) hq6 (fun a ha => by cases ha))) : GoT.ok n ((out ++ [(spec_l8Copy e1.data)]) : List DataP)), (by first | assumption | omega | (simp only [List.length_append, List.length_cons, List.length_nil, List.length_set, List.length_map, List.length_take, List.length_drop]; omega) | (simp; omega)), (by rw [v4, drop_get e1h]; simp only [spec_Replay_L1, h2, h7, h9, cond_true, cond_false])⟩ (by dsimp only; omega) (.cons rfl (.cons rfl (.cons rfl (.nil)))) .nil .nil [0, 3] rfl
        · skip
          have h9d := B.ef h9
          refine WX.run ttOk rfl ?_
          refine WX.see rfl rfl rfl (fun _ hΓ => looks_arith rfl rfl rfl rfl (by unfold I64; omega)) ?_
          refine WX.run ttOk rfl ?_
          exact WX.iter (pout, cout, out, i + 1) ⟨(by omega), (okl_of v2), (by first | assumption | omega | (simp only [List.length_append, List.length_cons, List.length_nil, List.length_set, List.length_map, List.length_take, List.length_drop]; omega) | (simp; omega)), (by rw [v4, drop_get e1h]; simp only [spec_Replay_L1, h2, h7, h9, cond_true, cond_false])⟩ (by dsimp only; omega) (.cons rfl (.cons rfl (.cons rfl (.nil)))) .nil .nil [0, 3] rfl
  · skip
    have h1d := B.df h1
    refine WX.run ttOk rfl ?_
    have hX1 : spec_Replay_L1 l ([] : List DataP) = ((out) : List DataP) := by rw [v4, List.drop_eq_nil_of_le (show (l).length ≤ i by omega)]; simp only [spec_Replay_L1, cond_true, cond_false]
    have hP1 : spec_Replay l = out := by simp only [spec_Replay, hX1, cond_true, cond_false]
    refine WX.ret ttOk rfl ?_
    intro w1 G bs hI hΓ
    rw [hP1]
    exact Post.of [3] (pout, cout) hI hΓ rfl rfl rfl (okl_of v2)
theorem f24 (w : World) (n : Nat) (hn : n + 1 ≤ 9) (l : Log) (plDurable : Option Addr) (clDurable : Nat) (hplDurable : RdSl (hp w) plDurable clDurable l.durable) (plVolatile : Option Addr) (clVolatile : Nat) (hplVolatile : RdSl (hp w) plVolatile clVolatile l.volatile) (hokl : GoT.ok n l) :
    Does Try.prog 24 #[.agg #[.slice plDurable ((l.durable).length) clDurable, .slice plVolatile ((l.volatile).length) clVolatile]] w emp (Post w emp (fun x : GoT.X ((List DataP)) => (GoT.sh ((impl_LogContents l) : (List DataP)) x).headD undef) (fun x => GoT.oa ((impl_LogContents l) : (List DataP)) x) (GoT.ok (n + 1) ((impl_LogContents l) : (List DataP)))) := by
  have hbP := bd_pos n
  have hbS0 := bd_succ (n := n) (by omega)
  have hbB := bd_big (n := (n + 1)) (by omega)
  have hbM := bd_mono (show n ≤ n + 1 by omega)
  refine WX.enter (tt := tt) (Γ := [(0, MF.rs .stb plDurable clDurable l.durable), (1, MF.rs .stb plVolatile clVolatile l.volatile)]) Try.func24 rfl (by kernel_rfl) rfl (allS_cons rfl hplDurable (allS_cons rfl hplVolatile allS_nil)) ?_
  refine WX.run ttOk rfl ?_
  refine WX.callF 2 (fun _ _ h => GoT.ow_rd h) (fun _ f hf => GoT.fak f hf) rfl rfl rfl rfl rfl (fun _ => rfl) rfl (fun w G bs hI hΓ => f76 w n (by omega) l plDurable clDurable (hΓ.get 0 rfl) plVolatile clVolatile (hΓ.get 1 rfl) hokl) (fun _ => rfl) (fun _ => rfl) ?_
  rintro ⟨p1, c1⟩ hq1
  refine WX.callF 4 (fun _ _ h => GoT.ow_rd h) (fun _ f hf => GoT.fak f hf) rfl rfl rfl rfl rfl (fun _ => rfl) rfl (fun w G bs hI hΓ => f15 w (n + 1) (by omega) (impl_allRecords l) p1 c1 (hΓ.get 2 rfl) hq1) (fun _ => rfl) (fun _ => rfl) ?_
  rintro ⟨p2, c2⟩ hq2
  refine WX.run ttOk rfl ?_
  have hP1 : impl_LogContents l = (impl_Replay (impl_allRecords l)) := by simp only [impl_LogContents, cond_true, cond_false]
  refine WX.ret ttOk rfl ?_
  intro w1 G bs hI hΓ
  rw [hP1]
  exact Post.of [5] (p2, c2) hI hΓ rfl rfl rfl hq2
theorem f22 (w : World) (n : Nat) (hn : n + 1 ≤ 9) (l : Log) (plDurable : Option Addr) (clDurable : Nat) (hplDurable : RdSl (hp w) plDurable clDurable l.durable) (plVolatile : Option Addr) (clVolatile : Nat) (hplVolatile : RdSl (hp w) plVolatile clVolatile l.volatile) (hokl : GoT.ok n l) :
    Does Try.prog 22 #[.agg #[.slice plDurable ((l.durable).length) clDurable, .slice plVolatile ((l.volatile).length) clVolatile]] w emp (Post w emp (fun x : GoT.X ((List DataP)) => (GoT.sh ((spec_LogContents l) : (List DataP)) x).headD undef) (fun x => GoT.oa ((spec_LogContents l) : (List DataP)) x) (GoT.ok (n + 1) ((spec_LogContents l) : (List DataP)))) := by
  have hbP := bd_pos n
  have hbS0 := bd_succ (n := n) (by omega)
  have hbB := bd_big (n := (n + 1)) (by omega)
  have hbM := bd_mono (show n ≤ n + 1 by omega)
  refine WX.enter (tt := tt) (Γ := [(0, MF.rs .stb plDurable clDurable l.durable), (1, MF.rs .stb plVolatile clVolatile l.volatile)]) Try.func22 rfl (by kernel_rfl) rfl (allS_cons rfl hplDurable (allS_cons rfl hplVolatile allS_nil)) ?_
  refine WX.run ttOk rfl ?_
  refine WX.draw [5, 6, 7] mixed ?_
  intro bs G0 hΓ0
  refine DX.takes (fuel := 4) ttOk [(0, true), (1, false), (3, true), (4, false)] (by kernel_rfl) rfl ?_
  refine DX.callF 2 2 (fun _ _ h => GoT.ow_rd h) (fun _ f hf => GoT.fak f hf) rfl (by kernel_rfl) rfl rfl rfl rfl rfl rfl (fun _ => rfl) rfl (fun w G bs hI hΓ => f75 w n (by omega) l.durable plDurable clDurable (hΓ.get 0 rfl) ((ok_Log hokl).1)) (fun _ => rfl) (fun _ => rfl) ?_
  rintro ⟨p1, c1⟩ hq1
  refine DX.tail [5, 6, 7] rfl rfl (by kernel_rfl) ?_
  refine WX.opn (kk := 6) 501 3 4 rfl rfl rfl ?_
  intro xs1 hx1
  have r1 : (l.durable).length ≤ bd n := (okl (ok_Log hokl).1).1
  have r2 : (l.volatile).length ≤ bd n := (okl (ok_Log hokl).2).1
  have r3 : (spec_l29Recs l.durable).length ≤ bd n := (okl hq1).1
  refine WX.appS 501 1 5 (((spec_l29Recs l.durable) ++ l.volatile) : List Record).length ttOk rfl rfl rfl rfl rfl rfl rfl rfl rfl rfl rfl rfl rfl (by simp) (by simp; omega) (by simp; omega) (fun _ _ _ => rfl) ?_
  intro ys1 p2 c2
  refine WX.freeze [4] 6 (MF.rl .stb xs1 ((spec_l29Recs l.durable) : List Record)) rfl rfl (fun h hs => (sep_one hs : OwL _ _ _).rd) ?_
  refine WX.stb2 7 (MF.rl .stb (xs1 ++ ys1) (((spec_l29Recs l.durable) ++ l.volatile) : List Record)) rfl 6 5 rfl rfl rfl rfl (fun G a b => RdL.append (b : RdL _ _ _) (a : RdL _ _ _)) ?_
  refine WX.sealS 501 7 8 rfl rfl rfl rfl rfl ?_
  refine WX.callF 9 (fun _ _ h => GoT.ow_rd h) (fun _ f hf => GoT.fak f hf) rfl rfl rfl rfl rfl (fun _ => rfl) rfl (fun w G bs hI hΓ => f13 w (n + 1) (by omega) ((spec_l29Recs l.durable) ++ l.volatile) p2 c2 (hΓ.get 8 rfl) (okl_mk (by simp; omega) (all_app (fun a ha => GoT.okm (by omega) ((okl hq1).2 a ha)) (fun a ha => GoT.okm (by omega) ((okl (ok_Log hokl).2).2 a ha))) : GoT.ok (n + 1) (((spec_l29Recs l.durable) ++ l.volatile) : List Record))) (fun _ => rfl) (fun _ => rfl) ?_
  rintro ⟨p3, c3⟩ hq2
  refine WX.run ttOk rfl ?_
  have hP1 : spec_LogContents l = (spec_Replay ((spec_l29Recs l.durable) ++ l.volatile)) := by simp only [spec_LogContents, cond_true, cond_false]
  refine WX.ret ttOk rfl ?_
  intro w1 G bs hI hΓ
  rw [hP1]
  exact Post.of [10] (p3, c3) hI hΓ rfl rfl rfl hq2
end Go.Proofs.Ytcipekdocckfgaa
