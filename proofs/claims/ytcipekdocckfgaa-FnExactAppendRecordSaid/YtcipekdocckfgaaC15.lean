/-
  That functions of the program compute what the Lean functions do. No condition but what each says. Written by a program (gen2.py).
-/
import Derived.Test.YtcipekdocckfgaaC14
import Derived.Test.YtcipekdocckfgaaP15
namespace Go.Proofs.Ytcipekdocckfgaa
open Go.Stp
set_option linter.unusedVariables false
set_option linter.unusedSimpArgs false
theorem f33 (w : World) (n : Nat) (hn : n + 1 ≤ 9) (l : Log) (plDurable : Option Addr) (clDurable : Nat) (hplDurable : RdSl (hp w) plDurable clDurable l.durable) (plVolatile : Option Addr) (clVolatile : Nat) (hplVolatile : RdSl (hp w) plVolatile clVolatile l.volatile) (hokl : GoT.ok n l) :
    Does Try.prog 33 #[.agg #[.slice plDurable ((l.durable).length) clDurable, .slice plVolatile ((l.volatile).length) clVolatile]] w emp (Post w emp (fun x : GoT.X (Log) => .agg ⟨GoT.sh ((impl_CompactLog l) : Log) x⟩) (fun x => GoT.oa ((impl_CompactLog l) : Log) x) (GoT.ok (n + 1) ((impl_CompactLog l) : Log))) := by
  have hbP := bd_pos n
  have hbS0 := bd_succ (n := n) (by omega)
  have hbB := bd_big (n := (n + 1)) (by omega)
  have hbM := bd_mono (show n ≤ n + 1 by omega)
  refine WX.enter (tt := tt) (Γ := [(0, MF.rs .stb plDurable clDurable l.durable), (1, MF.rs .stb plVolatile clVolatile l.volatile)]) Try.func33 rfl (by kernel_rfl) rfl (allS_cons rfl hplDurable (allS_cons rfl hplVolatile allS_nil)) ?_
  refine WX.run ttOk rfl ?_
  refine WX.callF 2 (fun _ _ h => GoT.ow_rd h) (fun _ f hf => GoT.fak f hf) rfl rfl rfl rfl rfl (fun _ => rfl) rfl (fun w G bs hI hΓ => f24 w n (by omega) l plDurable clDurable (hΓ.get 0 rfl) plVolatile clVolatile (hΓ.get 1 rfl) hokl) (fun _ => rfl) (fun _ => rfl) ?_
  rintro ⟨p1, c1⟩ hq1
  refine WX.run ttOk rfl ?_
  refine WX.row0 501 6 none rfl ?_
  refine WX.free 4 (MF.ol [] ([] : List Record)) rfl ?_
  refine WX.opn (kk := 5) 502 3 5 rfl rfl rfl ?_
  intro xs1 hx1
  have r1 : (impl_LogContents l).length ≤ bd (n + 1) := (okl hq1).1
  refine WX.loop (ι := Nat × (Option Addr) × Nat × (List Value) × (List Record)) ⟨fun | (i, pout, cout, xsout, out) => (i ≤ ((impl_LogContents l)).length) ∧ (∀ z_ ∈ out, GoT.ok (n + 1) z_) ∧ (out.length ≤ i) ∧ (impl_CompactLog_L1 (impl_LogContents l) ([] : List Record) = impl_CompactLog_L1 (((impl_LogContents l)).drop i) out), fun | (i, pout, cout, xsout, out) => ((impl_LogContents l)).length - i, fun | (i, pout, cout, xsout, out) => [(10, .v (.int .i64 (((i : Nat) : Int)))), (9, .v (.int .i64 (((((impl_LogContents l)).length : Nat) : Int)))), (8, .v (.slice p1 (((impl_LogContents l)).length) c1)), (3, .p 3 0), (2, .p 2 0)], fun | (i, pout, cout, xsout, out) => [(3, ⟨38, [.slice pout ((out).length) cout, .slice none (0) 0]⟩), (2, ⟨38, [.slice none (0) 0, .slice none (0) 0]⟩)], fun | (i, pout, cout, xsout, out) => [(502, ⟨5, p1, ((impl_LogContents l)).length, c1, xs1⟩), (501, ⟨6, pout, (out).length, cout, xsout⟩)], fun | (i, pout, cout, xsout, out) => [(0, MF.rs .stb plDurable clDurable l.durable), (1, MF.rs .stb plVolatile clVolatile l.volatile), (4, MF.ol xsout (out : List Record)), (5, MF.ol (List.drop (i * 5) xs1) ((List.drop i (impl_LogContents l)) : List DataP))]⟩ (0, none, 0, [], ([] : List Record)) ⟨(Nat.zero_le _), (fun a ha => by cases ha), (by simp), rfl⟩
    (.cons rfl (.cons rfl (.cons rfl (.cons rfl (.cons rfl (.nil)))))) (.cons rfl (.cons rfl (.nil))) (.cons rfl (.cons rfl (.nil))) [0, 1, 4, 5] rfl ?_
  rintro ⟨i, pout, cout, xsout, out⟩ hpre
  have hpre_ : (i ≤ ((impl_LogContents l)).length) ∧ (∀ z_ ∈ out, GoT.ok (n + 1) z_) ∧ (out.length ≤ i) ∧ (impl_CompactLog_L1 (impl_LogContents l) ([] : List Record) = impl_CompactLog_L1 (((impl_LogContents l)).drop i) out) := hpre
  clear hpre
  obtain ⟨v1, v2, v3, v4⟩ := hpre_
  refine WX.run ttOk rfl ?_
  refine WX.cases 11 rfl (fun h1 => ?_) (fun h1 => ?_)
  · skip
    have h1d := B.dt h1
    have e1i : i < ((impl_LogContents l)).length := (by omega)
    obtain ⟨e1, e1h⟩ : ∃ e1, ((impl_LogContents l))[i]? = some e1 := ⟨_, List.getElem?_eq_getElem e1i⟩
    have ok1 : GoT.ok (n + 1) e1 := (okl hq1).2 _ (List.mem_of_getElem? e1h)
    refine WX.run ttOk rfl ?_
    have hr1 : i < ((impl_LogContents l)).length := (by first | assumption | omega)
    refine WX.idxR 502 i ttOk rfl rfl rfl rfl rfl rfl rfl rfl rfl hr1 ?_
    rintro ad1 rfl
    refine WX.ldM 502 5 6 e1 ttOk rfl rfl rfl rfl rfl rfl rfl rfl rfl hr1 rfl e1h (fun _ => rfl) (fun _ => rfl) ?_
    rintro ⟨⟨p2, c2⟩, ⟨p3, c3⟩, ⟨p4, c4⟩, ⟨⟩, ⟨⟩⟩ hx2
    refine WX.run ttOk rfl ?_
    refine WX.bld ttOk rfl rfl rfl rfl rfl rfl rfl ?_
    intro p5
    refine WX.turn [9, 10, 11] 13 rfl (fun h hs => ol_one (α := Record) (a := (Record.mk 1 e1)) (x := ((), ((p2, c2), (p3, c3), (p4, c4), (), ()))) hs) (gs := [MF.ol [.int .i64 (1), .slice p2 ((e1.name.parts).length) c2, .slice p3 ((e1.content).length) c3, .slice p4 ((e1.keyName.parts).length) c4, .int .i64 (e1.freshUntil), .int .i64 (e1.signature)] ([(Record.mk 1 e1)] : List Record)]) rfl ?_
    refine WX.appR1 501 18 ((out ++ [(Record.mk 1 e1)]) : List Record).length ttOk rfl rfl rfl rfl rfl rfl rfl rfl rfl rfl rfl rfl rfl (by simp [Value.oneCell']) (by simp) (by simp; omega) (by simp; omega) (fun _ _ => rfl) ?_
    intro p6 c5
    refine WX.turn [4, 13] 14 rfl (fun h hs => ol_app hs) (gs := [MF.ol (xsout ++ [.int .i64 (1), .slice p2 ((e1.name.parts).length) c2, .slice p3 ((e1.content).length) c3, .slice p4 ((e1.keyName.parts).length) c4, .int .i64 (e1.freshUntil), .int .i64 (e1.signature)]) ((out ++ [(Record.mk 1 e1)]) : List Record)]) rfl ?_
    refine WX.run ttOk rfl ?_
    refine WX.see rfl rfl rfl (fun _ hΓ => looks_arith rfl rfl rfl rfl (by unfold I64; omega)) ?_
    refine WX.run ttOk rfl ?_
    refine WX.turn [14] 4 rfl (fun _ h => h) rfl ?_
    refine WX.turn [12] 5 rfl (fun _ h => h) rfl ?_
    exact WX.iter (i + 1, p6, c5, (xsout ++ [.int .i64 (1), .slice p2 ((e1.name.parts).length) c2, .slice p3 ((e1.content).length) c3, .slice p4 ((e1.keyName.parts).length) c4, .int .i64 (e1.freshUntil), .int .i64 (e1.signature)]), ((out ++ [(Record.mk 1 e1)]) : List Record)) ⟨(by omega), (all_app v2 (all_cons (α := Record) (And.intro (show I64 1 from (by unfold I64; omega)) ok1) (fun a ha => by cases ha))), (by first | assumption | omega | (simp only [List.length_append, List.length_cons, List.length_nil, List.length_set, List.length_map, List.length_take, List.length_drop]; omega) | (simp; omega)), (by rw [v4, drop_get e1h]; simp only [impl_CompactLog_L1, cond_true, cond_false])⟩ (by dsimp only; omega) (.cons rfl (.cons rfl (.cons rfl (.cons rfl (.cons rfl (.nil)))))) (.cons rfl (.cons rfl (.nil))) (.cons rfl (.cons rfl (.nil))) [0, 1, 4, 5] rfl
  · skip
    have h1d := B.df h1
    refine WX.run ttOk rfl ?_
    have hX1 : impl_CompactLog_L1 (impl_LogContents l) ([] : List Record) = ((out) : List Record) := by rw [v4, List.drop_eq_nil_of_le (show ((impl_LogContents l)).length ≤ i by omega)]; simp only [impl_CompactLog_L1, cond_true, cond_false]
    refine WX.seal 501 4 15 rfl rfl rfl rfl rfl ?_
    refine WX.free 17 (MF.os none 0 ([] : List Record)) (owSl_nil _ _) ?_
    have hP1 : impl_CompactLog l = (Log.mk out ([])) := by simp only [impl_CompactLog, hX1, cond_true, cond_false]
    refine WX.ret ttOk rfl ?_
    intro w1 G bs hI hΓ
    rw [hP1]
    exact Post.of [16, 17] ((pout, cout), (none, 0)) hI hΓ rfl rfl rfl (And.intro (okl_mk (by omega) v2 : GoT.ok (n + 1) (out : List Record)) (ok_nil (α := Record)))
theorem f32 (w : World) (n : Nat) (hn : n + 1 ≤ 9) (l : Log) (plDurable : Option Addr) (clDurable : Nat) (hplDurable : RdSl (hp w) plDurable clDurable l.durable) (plVolatile : Option Addr) (clVolatile : Nat) (hplVolatile : RdSl (hp w) plVolatile clVolatile l.volatile) (hokl : GoT.ok n l) :
    Does Try.prog 32 #[.agg #[.slice plDurable ((l.durable).length) clDurable, .slice plVolatile ((l.volatile).length) clVolatile]] w emp (Post w emp (fun x : GoT.X (Log) => .agg ⟨GoT.sh ((spec_CompactLog l) : Log) x⟩) (fun x => GoT.oa ((spec_CompactLog l) : Log) x) (GoT.ok (n + 1) ((spec_CompactLog l) : Log))) := by
  have hbP := bd_pos n
  have hbS0 := bd_succ (n := n) (by omega)
  have hbB := bd_big (n := (n + 1)) (by omega)
  have hbM := bd_mono (show n ≤ n + 1 by omega)
  refine WX.enter (tt := tt) (Γ := [(0, MF.rs .stb plDurable clDurable l.durable), (1, MF.rs .stb plVolatile clVolatile l.volatile)]) Try.func32 rfl (by kernel_rfl) rfl (allS_cons rfl hplDurable (allS_cons rfl hplVolatile allS_nil)) ?_
  refine WX.run ttOk rfl ?_
  refine WX.callF 2 (fun _ _ h => GoT.ow_rd h) (fun _ f hf => GoT.fak f hf) rfl rfl rfl rfl rfl (fun _ => rfl) rfl (fun w G bs hI hΓ => f22 w n (by omega) l plDurable clDurable (hΓ.get 0 rfl) plVolatile clVolatile (hΓ.get 1 rfl) hokl) (fun _ => rfl) (fun _ => rfl) ?_
  rintro ⟨p1, c1⟩ hq1
  refine WX.run ttOk rfl ?_
  refine WX.row0 501 6 none rfl ?_
  refine WX.free 4 (MF.ol [] ([] : List Record)) rfl ?_
  refine WX.opn (kk := 5) 502 3 5 rfl rfl rfl ?_
  intro xs1 hx1
  have r1 : (spec_LogContents l).length ≤ bd (n + 1) := (okl hq1).1
  refine WX.loop (ι := Nat × (Option Addr) × Nat × (List Value) × (List Record)) ⟨fun | (i, pout, cout, xsout, out) => (i ≤ ((spec_LogContents l)).length) ∧ (∀ z_ ∈ out, GoT.ok (n + 1) z_) ∧ (out.length ≤ i) ∧ (spec_CompactLog_L1 (spec_LogContents l) ([] : List Record) = spec_CompactLog_L1 (((spec_LogContents l)).drop i) out), fun | (i, pout, cout, xsout, out) => ((spec_LogContents l)).length - i, fun | (i, pout, cout, xsout, out) => [(5, .v (.int .i64 (((i : Nat) : Int)))), (4, .v (.slice p1 (((spec_LogContents l)).length) c1)), (3, .p 3 0), (2, .p 2 0)], fun | (i, pout, cout, xsout, out) => [(3, ⟨38, [.slice pout ((out).length) cout, .slice none (0) 0]⟩), (2, ⟨38, [.slice none (0) 0, .slice none (0) 0]⟩)], fun | (i, pout, cout, xsout, out) => [(502, ⟨5, p1, ((spec_LogContents l)).length, c1, xs1⟩), (501, ⟨6, pout, (out).length, cout, xsout⟩)], fun | (i, pout, cout, xsout, out) => [(0, MF.rs .stb plDurable clDurable l.durable), (1, MF.rs .stb plVolatile clVolatile l.volatile), (4, MF.ol xsout (out : List Record)), (5, MF.ol (List.drop (i * 5) xs1) ((List.drop i (spec_LogContents l)) : List DataP))]⟩ (0, none, 0, [], ([] : List Record)) ⟨(Nat.zero_le _), (fun a ha => by cases ha), (by simp), rfl⟩
    (.cons rfl (.cons rfl (.cons rfl (.cons rfl (.nil))))) (.cons rfl (.cons rfl (.nil))) (.cons rfl (.cons rfl (.nil))) [0, 1, 4, 5] rfl ?_
  rintro ⟨i, pout, cout, xsout, out⟩ hpre
  have hpre_ : (i ≤ ((spec_LogContents l)).length) ∧ (∀ z_ ∈ out, GoT.ok (n + 1) z_) ∧ (out.length ≤ i) ∧ (spec_CompactLog_L1 (spec_LogContents l) ([] : List Record) = spec_CompactLog_L1 (((spec_LogContents l)).drop i) out) := hpre
  clear hpre
  obtain ⟨v1, v2, v3, v4⟩ := hpre_
  refine WX.run ttOk rfl ?_
  refine WX.cases 12 rfl (fun h1 => ?_) (fun h1 => ?_)
  · skip
    have h1d := B.dt h1
    have e1i : i < ((spec_LogContents l)).length := (by omega)
    obtain ⟨e1, e1h⟩ : ∃ e1, ((spec_LogContents l))[i]? = some e1 := ⟨_, List.getElem?_eq_getElem e1i⟩
    have ok1 : GoT.ok (n + 1) e1 := (okl hq1).2 _ (List.mem_of_getElem? e1h)
    refine WX.run ttOk rfl ?_
    refine WX.ptrR 502 rfl (show 0 < ((spec_LogContents l)).length by omega) ?_
    rintro ad1 rfl
    refine WX.takeE (i := i) 502 5 6 e1 rfl rfl e1h (fun _ => rfl) ?_
    rintro ⟨⟨p2, c2⟩, ⟨p3, c3⟩, ⟨p4, c4⟩, ⟨⟩, ⟨⟩⟩ hx2
    refine WX.draw [8, 9, 10] mixed ?_
    intro bs G0 hΓ0
    refine DX.takes (fuel := 7) ttOk [(0, true), (1, false), (2, true), (3, true)] (by kernel_rfl) rfl ?_
    have hr1 : i < ((spec_LogContents l)).length := (by first | assumption | omega)
    refine DX.seeP 4 (by kernel_rfl) rfl rfl rfl rfl (looksP_idx i ttOk rfl rfl rfl rfl rfl hr1) ?_
    refine DX.see 5 (by kernel_rfl) rfl rfl rfl rfl (looks_ldK 502 e1 ((p2, c2), (p3, c3), (p4, c4), (), ()) ttOk rfl rfl rfl rfl rfl hr1 hx2 rfl) ?_
    refine DX.takes (fuel := 4) ttOk [(6, true)] (by kernel_rfl) rfl ?_
    refine DX.tail2 [7, 8, 9, 10] rfl rfl (by kernel_rfl) ?_
    refine WX.bld ttOk rfl rfl rfl rfl rfl rfl rfl ?_
    intro p5
    refine WX.turn [9, 10, 11] 13 rfl (fun h hs => ol_one (α := Record) (a := (Record.mk 1 e1)) (x := ((), ((p2, c2), (p3, c3), (p4, c4), (), ()))) hs) (gs := [MF.ol [.int .i64 (1), .slice p2 ((e1.name.parts).length) c2, .slice p3 ((e1.content).length) c3, .slice p4 ((e1.keyName.parts).length) c4, .int .i64 (e1.freshUntil), .int .i64 (e1.signature)] ([(Record.mk 1 e1)] : List Record)]) rfl ?_
    refine WX.appR1 501 22 ((out ++ [(Record.mk 1 e1)]) : List Record).length ttOk rfl rfl rfl rfl rfl rfl rfl rfl rfl rfl rfl rfl rfl (by simp [Value.oneCell']) (by simp) (by simp; omega) (by simp; omega) (fun _ _ => rfl) ?_
    intro p6 c5
    refine WX.turn [4, 13] 14 rfl (fun h hs => ol_app hs) (gs := [MF.ol (xsout ++ [.int .i64 (1), .slice p2 ((e1.name.parts).length) c2, .slice p3 ((e1.content).length) c3, .slice p4 ((e1.keyName.parts).length) c4, .int .i64 (e1.freshUntil), .int .i64 (e1.signature)]) ((out ++ [(Record.mk 1 e1)]) : List Record)]) rfl ?_
    refine WX.run ttOk rfl ?_
    refine WX.see rfl rfl rfl (fun _ hΓ => looks_arith rfl rfl rfl rfl (by unfold I64; omega)) ?_
    refine WX.run ttOk rfl ?_
    refine WX.turn [14] 4 rfl (fun _ h => h) rfl ?_
    refine WX.turn [12] 5 rfl (fun _ h => h) rfl ?_
    exact WX.iter (i + 1, p6, c5, (xsout ++ [.int .i64 (1), .slice p2 ((e1.name.parts).length) c2, .slice p3 ((e1.content).length) c3, .slice p4 ((e1.keyName.parts).length) c4, .int .i64 (e1.freshUntil), .int .i64 (e1.signature)]), ((out ++ [(Record.mk 1 e1)]) : List Record)) ⟨(by omega), (all_app v2 (all_cons (α := Record) (And.intro (show I64 1 from (by unfold I64; omega)) ok1) (fun a ha => by cases ha))), (by first | assumption | omega | (simp only [List.length_append, List.length_cons, List.length_nil, List.length_set, List.length_map, List.length_take, List.length_drop]; omega) | (simp; omega)), (by rw [v4, drop_get e1h]; simp only [spec_CompactLog_L1, cond_true, cond_false])⟩ (by dsimp only; omega) (.cons rfl (.cons rfl (.cons rfl (.cons rfl (.nil))))) (.cons rfl (.cons rfl (.nil))) (.cons rfl (.cons rfl (.nil))) [0, 1, 4, 5] rfl
  · skip
    have h1d := B.df h1
    refine WX.run ttOk rfl ?_
    have hX1 : spec_CompactLog_L1 (spec_LogContents l) ([] : List Record) = ((out) : List Record) := by rw [v4, List.drop_eq_nil_of_le (show ((spec_LogContents l)).length ≤ i by omega)]; simp only [spec_CompactLog_L1, cond_true, cond_false]
    refine WX.seal 501 4 15 rfl rfl rfl rfl rfl ?_
    refine WX.free 17 (MF.os none 0 ([] : List Record)) (owSl_nil _ _) ?_
    have hP1 : spec_CompactLog l = (Log.mk out ([])) := by simp only [spec_CompactLog, hX1, cond_true, cond_false]
    refine WX.ret ttOk rfl ?_
    intro w1 G bs hI hΓ
    rw [hP1]
    exact Post.of [16, 17] ((pout, cout), (none, 0)) hI hΓ rfl rfl rfl (And.intro (okl_mk (by omega) v2 : GoT.ok (n + 1) (out : List Record)) (ok_nil (α := Record)))
theorem f44 (w : World) (n : Nat) (hn : n + 1 ≤ 9) (s : Repository) (psLogDurable : Option Addr) (csLogDurable : Nat) (hpsLogDurable : RdSl (hp w) psLogDurable csLogDurable s.log.durable) (psLogVolatile : Option Addr) (csLogVolatile : Nat) (hpsLogVolatile : RdSl (hp w) psLogVolatile csLogVolatile s.log.volatile) (n_ : Name) (pn_ : Option Addr) (cn_ : Nat) (hpn_ : RdSl (hp w) pn_ cn_ n_.parts) (hoks : GoT.ok n s) (hokn_ : GoT.ok n n_) :
    Does Try.prog 44 #[.agg #[.slice psLogDurable ((s.log.durable).length) csLogDurable, .slice psLogVolatile ((s.log.volatile).length) csLogVolatile, .int .i64 (s.quota)], .agg #[.slice pn_ ((n_.parts).length) cn_]] w emp (Post w emp (fun x : GoT.X (DataP) => .tuple #[.agg ⟨GoT.sh ((impl_LookupData s n_).1 : DataP) x⟩, .bool ((impl_LookupData s n_).2)]) (fun x => GoT.oa ((impl_LookupData s n_).1 : DataP) x) (GoT.ok (n + 1) ((impl_LookupData s n_).1 : DataP))) := by
  have hbP := bd_pos n
  have hbS0 := bd_succ (n := n) (by omega)
  have hbB := bd_big (n := (n + 1)) (by omega)
  have hbM := bd_mono (show n ≤ n + 1 by omega)
  refine WX.enter (tt := tt) (Γ := [(0, MF.rs .stb psLogDurable csLogDurable s.log.durable), (1, MF.rs .stb psLogVolatile csLogVolatile s.log.volatile), (2, MF.rs .stb pn_ cn_ n_.parts)]) Try.func44 rfl (by kernel_rfl) rfl (allS_cons rfl hpsLogDurable (allS_cons rfl hpsLogVolatile (allS_cons rfl hpn_ allS_nil))) ?_
  refine WX.run ttOk rfl ?_
  refine WX.callF 3 (fun _ _ h => GoT.ow_rd h) (fun _ f hf => GoT.fak f hf) rfl rfl rfl rfl rfl (fun _ => rfl) rfl (fun w G bs hI hΓ => f24 w n (by omega) s.log psLogDurable csLogDurable (hΓ.get 0 rfl) psLogVolatile csLogVolatile (hΓ.get 1 rfl) ((ok_Repository hoks).1)) (fun _ => rfl) (fun _ => rfl) ?_
  rintro ⟨p1, c1⟩ hq1
  refine WX.run ttOk rfl ?_
  refine WX.opn (kk := 5) 501 4 5 rfl rfl rfl ?_
  intro xs1 hx1
  have r1 : (impl_LogContents s.log).length ≤ bd (n + 1) := (okl hq1).1
  refine WX.loop (ι := Nat) ⟨fun i => (i ≤ ((impl_LogContents s.log)).length) ∧ (impl_LookupData_L1 n_ (impl_LogContents s.log) = impl_LookupData_L1 n_ (((impl_LogContents s.log)).drop i)), fun i => ((impl_LogContents s.log)).length - i, fun i => [(12, .v (.int .i64 (((i : Nat) : Int)))), (11, .v (.int .i64 (((((impl_LogContents s.log)).length : Nat) : Int)))), (10, .v (.slice p1 (((impl_LogContents s.log)).length) c1)), (4, .p 4 0), (3, .p 3 0)], fun i => [(4, ⟨65, [.slice none (0) 0, .slice none (0) 0, .slice none (0) 0, .int .i64 (0), .int .i64 (0)]⟩), (3, ⟨62, [.slice pn_ ((n_.parts).length) cn_]⟩)], fun i => [(501, ⟨5, p1, ((impl_LogContents s.log)).length, c1, xs1⟩)], fun i => [(0, MF.rs .stb psLogDurable csLogDurable s.log.durable), (1, MF.rs .stb psLogVolatile csLogVolatile s.log.volatile), (2, MF.rs .stb pn_ cn_ n_.parts), (5, MF.ol (List.drop (i * 5) xs1) ((List.drop i (impl_LogContents s.log)) : List DataP))]⟩ 0 ⟨(Nat.zero_le _), rfl⟩
    (.cons rfl (.cons rfl (.cons rfl (.cons rfl (.cons rfl (.nil)))))) (.cons rfl (.cons rfl (.nil))) (.cons rfl (.nil)) [0, 1, 2, 5] rfl ?_
  rintro i hpre
  have hpre_ : (i ≤ ((impl_LogContents s.log)).length) ∧ (impl_LookupData_L1 n_ (impl_LogContents s.log) = impl_LookupData_L1 n_ (((impl_LogContents s.log)).drop i)) := hpre
  clear hpre
  obtain ⟨v1, v2⟩ := hpre_
  refine WX.run ttOk rfl ?_
  refine WX.cases 13 rfl (fun h1 => ?_) (fun h1 => ?_)
  · skip
    have h1d := B.dt h1
    have e1i : i < ((impl_LogContents s.log)).length := (by omega)
    obtain ⟨e1, e1h⟩ : ∃ e1, ((impl_LogContents s.log))[i]? = some e1 := ⟨_, List.getElem?_eq_getElem e1i⟩
    have ok1 : GoT.ok (n + 1) e1 := (okl hq1).2 _ (List.mem_of_getElem? e1h)
    refine WX.run ttOk rfl ?_
    have hr1 : i < ((impl_LogContents s.log)).length := (by first | assumption | omega)
    refine WX.idxR 501 i ttOk rfl rfl rfl rfl rfl rfl rfl rfl rfl hr1 ?_
    rintro ad1 rfl
    refine WX.ldM 501 5 6 e1 ttOk rfl rfl rfl rfl rfl rfl rfl rfl rfl hr1 rfl e1h (fun _ => rfl) (fun _ => rfl) ?_
    rintro ⟨⟨p2, c2⟩, ⟨p3, c3⟩, ⟨p4, c4⟩, ⟨⟩, ⟨⟩⟩ hx2
    refine WX.run ttOk rfl ?_
    refine WX.callV rfl rfl rfl rfl rfl (fun _ => rfl) rfl (fun w G bs hI hΓ => f69 w (n + 1) (by omega) e1.name p2 c2 (hΓ.get 6 rfl) n_ pn_ cn_ (hΓ.get 2 rfl) ((ok_DataP ok1).1) (GoT.okm (α := List Str) (by omega) (ok_Name hokn_))) ?_
    intro hq2
    refine WX.run ttOk rfl ?_
    refine WX.cases 19 rfl (fun h2 => ?_) (fun h2 => ?_)
    · skip
      refine WX.run ttOk rfl ?_
      have hP1 : impl_LookupData_L1 n_ (impl_LogContents s.log) = (some (e1, true)) := by rw [v2, drop_get e1h]; simp only [impl_LookupData_L1, h2, cond_true, cond_false]
      have hP2 : impl_LookupData s n_ = (e1, true) := by simp only [impl_LookupData, hP1, cond_true, cond_false]
      refine WX.ret ttOk rfl ?_
      intro w1 G bs hI hΓ
      rw [hP2]
      exact Post.of [9, 10, 11] ((p2, c2), (p3, c3), (p4, c4), (), ()) hI hΓ rfl rfl rfl ok1
    · skip
      refine WX.run ttOk rfl ?_
      refine WX.see rfl rfl rfl (fun _ hΓ => looks_arith rfl rfl rfl rfl (by unfold I64; omega)) ?_
      refine WX.run ttOk rfl ?_
      refine WX.turn [12] 5 rfl (fun _ h => h) rfl ?_
      exact WX.iter (i + 1) ⟨(by omega), (by rw [v2, drop_get e1h]; simp only [impl_LookupData_L1, h2, cond_true, cond_false])⟩ (by dsimp only; omega) (.cons rfl (.cons rfl (.cons rfl (.cons rfl (.cons rfl (.nil)))))) (.cons rfl (.cons rfl (.nil))) (.cons rfl (.nil)) [0, 1, 2, 5] rfl
  · skip
    have h1d := B.df h1
    refine WX.run ttOk rfl ?_
    have hX1 : impl_LookupData_L1 n_ (impl_LogContents s.log) = none := by rw [v2, List.drop_eq_nil_of_le (show ((impl_LogContents s.log)).length ≤ i by omega)]; simp only [impl_LookupData_L1, cond_true, cond_false]
    refine WX.free 13 (MF.os none 0 ([] : List Str)) (owSl_nil _ _) ?_
    refine WX.free 14 (MF.os none 0 ([] : List UInt8)) (owSl_nil _ _) ?_
    refine WX.free 15 (MF.os none 0 ([] : List Str)) (owSl_nil _ _) ?_
    have hP3 : impl_LookupData s n_ = (DataP.mk (Name.mk ([])) ([]) (Name.mk ([])) 0 0, false) := by simp only [impl_LookupData, hX1, cond_true, cond_false]
    refine WX.ret ttOk rfl ?_
    intro w1 G bs hI hΓ
    rw [hP3]
    exact Post.of [13, 14, 15] ((none, 0), (none, 0), (none, 0), (), ()) hI hΓ rfl rfl rfl (And.intro (ok_nil (α := Str)) (And.intro (ok_nil (α := UInt8)) (And.intro (ok_nil (α := Str)) (And.intro (show I64 0 from (by unfold I64; omega)) (show I64 0 from (by unfold I64; omega))))))
theorem f42 (w : World) (n : Nat) (hn : n + 1 ≤ 9) (s : Repository) (psLogDurable : Option Addr) (csLogDurable : Nat) (hpsLogDurable : RdSl (hp w) psLogDurable csLogDurable s.log.durable) (psLogVolatile : Option Addr) (csLogVolatile : Nat) (hpsLogVolatile : RdSl (hp w) psLogVolatile csLogVolatile s.log.volatile) (n_ : Name) (pn_ : Option Addr) (cn_ : Nat) (hpn_ : RdSl (hp w) pn_ cn_ n_.parts) (hoks : GoT.ok n s) (hokn_ : GoT.ok n n_) :
    Does Try.prog 42 #[.agg #[.slice psLogDurable ((s.log.durable).length) csLogDurable, .slice psLogVolatile ((s.log.volatile).length) csLogVolatile, .int .i64 (s.quota)], .agg #[.slice pn_ ((n_.parts).length) cn_]] w emp (Post w emp (fun x : GoT.X (DataP) => .tuple #[.agg ⟨GoT.sh ((spec_LookupData s n_).1 : DataP) x⟩, .bool ((spec_LookupData s n_).2)]) (fun x => GoT.oa ((spec_LookupData s n_).1 : DataP) x) (GoT.ok (n + 1) ((spec_LookupData s n_).1 : DataP))) := by
  have hbP := bd_pos n
  have hbS0 := bd_succ (n := n) (by omega)
  have hbB := bd_big (n := (n + 1)) (by omega)
  have hbM := bd_mono (show n ≤ n + 1 by omega)
  refine WX.enter (tt := tt) (Γ := [(0, MF.rs .stb psLogDurable csLogDurable s.log.durable), (1, MF.rs .stb psLogVolatile csLogVolatile s.log.volatile), (2, MF.rs .stb pn_ cn_ n_.parts)]) Try.func42 rfl (by kernel_rfl) rfl (allS_cons rfl hpsLogDurable (allS_cons rfl hpsLogVolatile (allS_cons rfl hpn_ allS_nil))) ?_
  refine WX.run ttOk rfl ?_
  refine WX.callF 3 (fun _ _ h => GoT.ow_rd h) (fun _ f hf => GoT.fak f hf) rfl rfl rfl rfl rfl (fun _ => rfl) rfl (fun w G bs hI hΓ => f22 w n (by omega) s.log psLogDurable csLogDurable (hΓ.get 0 rfl) psLogVolatile csLogVolatile (hΓ.get 1 rfl) ((ok_Repository hoks).1)) (fun _ => rfl) (fun _ => rfl) ?_
  rintro ⟨p1, c1⟩ hq1
  refine WX.run ttOk rfl ?_
  refine WX.callV rfl rfl rfl rfl rfl (fun _ => rfl) rfl (fun w G bs hI hΓ => f65 w (n + 1) (by omega) (spec_LogContents s.log) p1 c1 (hΓ.get 3 rfl) n_ pn_ cn_ (hΓ.get 2 rfl) hq1 (GoT.okm (α := List Str) (by omega) (ok_Name hokn_))) ?_
  intro hq2
  have q1 := lt_l16Find (spec_LogContents s.log) n_
  refine WX.run ttOk rfl ?_
  refine WX.cases 15 rfl (fun h1 => ?_) (fun h1 => ?_)
  · skip
    have h1d := B.dt h1
    refine WX.run ttOk rfl ?_
    refine WX.free 5 (MF.os none 0 ([] : List Str)) (owSl_nil _ _) ?_
    refine WX.free 6 (MF.os none 0 ([] : List UInt8)) (owSl_nil _ _) ?_
    refine WX.free 7 (MF.os none 0 ([] : List Str)) (owSl_nil _ _) ?_
    have hP1 : spec_LookupData s n_ = (DataP.mk (Name.mk ([])) ([]) (Name.mk ([])) 0 0, false) := by simp only [spec_LookupData, h1, cond_true, cond_false]
    refine WX.ret ttOk rfl ?_
    intro w1 G bs hI hΓ
    rw [hP1]
    exact Post.of [5, 6, 7] ((none, 0), (none, 0), (none, 0), (), ()) hI hΓ rfl rfl rfl (And.intro (ok_nil (α := Str)) (And.intro (ok_nil (α := UInt8)) (And.intro (ok_nil (α := Str)) (And.intro (show I64 0 from (by unfold I64; omega)) (show I64 0 from (by unfold I64; omega))))))
  · skip
    have h1d := B.df h1
    refine WX.run ttOk rfl ?_
    refine WX.slot 18 (y := .v (.int .i64 ((((spec_l16Find (spec_LogContents s.log) n_)).toNat : Nat) : Int))) rfl (fun _ => congrArg (Value.int .i64) (show (spec_l16Find (spec_LogContents s.log) n_) = ((((spec_l16Find (spec_LogContents s.log) n_)).toNat : Nat) : Int) from by omega)) ?_
    refine WX.opn (kk := 5) 501 4 8 rfl rfl rfl ?_
    intro xs1 hx1
    have r1 : (spec_LogContents s.log).length ≤ bd (n + 1) := (okl hq1).1
    have r2 : -9223372036854775808 ≤ (spec_l16Find (spec_LogContents s.log) n_) ∧ (spec_l16Find (spec_LogContents s.log) n_) ≤ 9223372036854775807 := hq2
    have hr1 : ((spec_l16Find (spec_LogContents s.log) n_)).toNat < ((spec_LogContents s.log)).length := (by first | assumption | omega)
    refine WX.idxR 501 (((spec_l16Find (spec_LogContents s.log) n_)).toNat) ttOk rfl rfl rfl rfl rfl rfl rfl rfl rfl hr1 ?_
    rintro ad1 rfl
    have e1i : ((spec_l16Find (spec_LogContents s.log) n_)).toNat < ((spec_LogContents s.log)).length := (by first | assumption | omega)
    obtain ⟨e1, e1h⟩ : ∃ e1, ((spec_LogContents s.log))[((spec_l16Find (spec_LogContents s.log) n_)).toNat]? = some e1 := ⟨_, List.getElem?_eq_getElem e1i⟩
    have ok1 : GoT.ok (n + 1) e1 := (okl hq1).2 _ (List.mem_of_getElem? e1h)
    refine WX.opnE (α := DataP) (e := e1) 501 8 9 (((spec_l16Find (spec_LogContents s.log) n_)).toNat) rfl rfl rfl e1h (fun _ => rfl) (fun _ _ _ => rfl) (fun _ _ _ => rfl) ?_
    rintro A1 B1 ⟨⟨p2, c2⟩, ⟨p3, c3⟩, ⟨p4, c4⟩, ⟨⟩, ⟨⟩⟩ hA1 hB1
    refine WX.ldA 501 ttOk rfl rfl rfl rfl rfl rfl rfl rfl rfl rfl hA1 hr1 rfl ?_
    refine WX.run ttOk rfl ?_
    have hP2 : spec_LookupData s n_ = (e1, true) := by simp only [spec_LookupData, h1, e1h, cond_true, cond_false]
    refine WX.ret ttOk rfl ?_
    intro w1 G bs hI hΓ
    rw [hP2]
    exact Post.of [12, 13, 14] ((p2, c2), (p3, c3), (p4, c4), (), ()) hI hΓ rfl rfl rfl ok1
theorem f36 (w : World) (n : Nat) (hn : n + 1 ≤ 9) (s : Repository) (psLogDurable : Option Addr) (csLogDurable : Nat) (hpsLogDurable : RdSl (hp w) psLogDurable csLogDurable s.log.durable) (psLogVolatile : Option Addr) (csLogVolatile : Nat) (hpsLogVolatile : RdSl (hp w) psLogVolatile csLogVolatile s.log.volatile) (hoks : GoT.ok n s) :
    Does Try.prog 36 #[.agg #[.slice psLogDurable ((s.log.durable).length) csLogDurable, .slice psLogVolatile ((s.log.volatile).length) csLogVolatile, .int .i64 (s.quota)]] w emp (Post w emp (fun x : GoT.X ((List Name)) => (GoT.sh ((impl_RepositoryNames s) : (List Name)) x).headD undef) (fun x => GoT.oa ((impl_RepositoryNames s) : (List Name)) x) (GoT.ok (n + 1) ((impl_RepositoryNames s) : (List Name)))) := by
  have hbP := bd_pos n
  have hbS0 := bd_succ (n := n) (by omega)
  have hbB := bd_big (n := (n + 1)) (by omega)
  have hbM := bd_mono (show n ≤ n + 1 by omega)
  refine WX.enter (tt := tt) (Γ := [(0, MF.rs .stb psLogDurable csLogDurable s.log.durable), (1, MF.rs .stb psLogVolatile csLogVolatile s.log.volatile)]) Try.func36 rfl (by kernel_rfl) rfl (allS_cons rfl hpsLogDurable (allS_cons rfl hpsLogVolatile allS_nil)) ?_
  refine WX.run ttOk rfl ?_
  refine WX.bld ttOk rfl rfl rfl rfl rfl rfl rfl ?_
  intro p1
  refine WX.run ttOk rfl ?_
  refine WX.callF 2 (fun _ _ h => GoT.ow_rd h) (fun _ f hf => GoT.fak f hf) rfl rfl rfl rfl rfl (fun _ => rfl) rfl (fun w G bs hI hΓ => f24 w n (by omega) s.log psLogDurable csLogDurable (hΓ.get 0 rfl) psLogVolatile csLogVolatile (hΓ.get 1 rfl) ((ok_Repository hoks).1)) (fun _ => rfl) (fun _ => rfl) ?_
  rintro ⟨p2, c1⟩ hq1
  refine WX.run ttOk rfl ?_
  refine WX.free 4 (MF.ol [] ([] : List Name)) rfl ?_
  refine WX.opn (kk := 5) 501 3 5 rfl rfl rfl ?_
  intro xs1 hx1
  have r1 : (impl_LogContents s.log).length ≤ bd (n + 1) := (okl hq1).1
  refine WX.loop (ι := (Option Addr) × Nat × (List Value) × (List Name) × Nat) ⟨fun | (pout, cout, xsout, out, i) => (i ≤ ((impl_LogContents s.log)).length) ∧ (∀ z_ ∈ out, GoT.ok (n + 1) z_) ∧ (out.length ≤ i) ∧ (impl_RepositoryNames_L1 (impl_LogContents s.log) ([] : List Name) = impl_RepositoryNames_L1 (((impl_LogContents s.log)).drop i) out), fun | (pout, cout, xsout, out, i) => ((impl_LogContents s.log)).length - i, fun | (pout, cout, xsout, out, i) => [(3, .v (.slice pout ((out).length) cout)), (11, .v (.int .i64 (((i : Nat) : Int)))), (10, .v (.int .i64 (((((impl_LogContents s.log)).length : Nat) : Int)))), (9, .v (.slice p2 (((impl_LogContents s.log)).length) c1))], fun | (pout, cout, xsout, out, i) => [], fun | (pout, cout, xsout, out, i) => [(6, ⟨1, pout, (out).length, cout, xsout⟩), (501, ⟨5, p2, ((impl_LogContents s.log)).length, c1, xs1⟩)], fun | (pout, cout, xsout, out, i) => [(0, MF.rs .stb psLogDurable csLogDurable s.log.durable), (1, MF.rs .stb psLogVolatile csLogVolatile s.log.volatile), (4, MF.ol xsout (out : List Name)), (5, MF.ol (List.drop (i * 5) xs1) ((List.drop i (impl_LogContents s.log)) : List DataP))]⟩ (p1, 0, [], ([] : List Name), 0) ⟨(Nat.zero_le _), (fun a ha => by cases ha), (by simp), rfl⟩
    (.cons rfl (.cons rfl (.cons rfl (.cons rfl (.nil))))) .nil (.cons rfl (.cons rfl (.nil))) [0, 1, 4, 5] rfl ?_
  rintro ⟨pout, cout, xsout, out, i⟩ hpre
  have hpre_ : (i ≤ ((impl_LogContents s.log)).length) ∧ (∀ z_ ∈ out, GoT.ok (n + 1) z_) ∧ (out.length ≤ i) ∧ (impl_RepositoryNames_L1 (impl_LogContents s.log) ([] : List Name) = impl_RepositoryNames_L1 (((impl_LogContents s.log)).drop i) out) := hpre
  clear hpre
  obtain ⟨v1, v2, v3, v4⟩ := hpre_
  refine WX.run ttOk rfl ?_
  refine WX.cases 12 rfl (fun h1 => ?_) (fun h1 => ?_)
  · skip
    have h1d := B.dt h1
    have e1i : i < ((impl_LogContents s.log)).length := (by omega)
    obtain ⟨e1, e1h⟩ : ∃ e1, ((impl_LogContents s.log))[i]? = some e1 := ⟨_, List.getElem?_eq_getElem e1i⟩
    have ok1 : GoT.ok (n + 1) e1 := (okl hq1).2 _ (List.mem_of_getElem? e1h)
    refine WX.run ttOk rfl ?_
    have hr1 : i < ((impl_LogContents s.log)).length := (by first | assumption | omega)
    refine WX.idxR 501 i ttOk rfl rfl rfl rfl rfl rfl rfl rfl rfl hr1 ?_
    rintro ad1 rfl
    refine WX.ldM 501 5 6 e1 ttOk rfl rfl rfl rfl rfl rfl rfl rfl rfl hr1 rfl e1h (fun _ => rfl) (fun _ => rfl) ?_
    rintro ⟨⟨p3, c2⟩, ⟨p4, c3⟩, ⟨p5, c4⟩, ⟨⟩, ⟨⟩⟩ hx2
    refine WX.run ttOk rfl ?_
    refine WX.bld ttOk rfl rfl rfl rfl rfl rfl rfl ?_
    intro p6
    refine WX.turn [9] 13 rfl (fun h hs => ol_one (α := Name) (a := e1.name) (x := (p3, c2)) hs) (gs := [MF.ol [.slice p3 ((e1.name.parts).length) c2] ([e1.name] : List Name)]) rfl ?_
    refine WX.appR1 6 18 ((out ++ [e1.name]) : List Name).length ttOk rfl rfl rfl rfl rfl rfl rfl rfl rfl rfl rfl rfl rfl (by simp [Value.oneCell']) (by simp) (by simp; omega) (by simp; omega) (fun _ _ => rfl) ?_
    intro p7 c5
    refine WX.turn [4, 13] 14 rfl (fun h hs => ol_app hs) (gs := [MF.ol (xsout ++ [.slice p3 ((e1.name.parts).length) c2]) ((out ++ [e1.name]) : List Name)]) rfl ?_
    refine WX.run ttOk rfl ?_
    refine WX.see rfl rfl rfl (fun _ hΓ => looks_arith rfl rfl rfl rfl (by unfold I64; omega)) ?_
    refine WX.run ttOk rfl ?_
    refine WX.turn [14] 4 rfl (fun _ h => h) rfl ?_
    refine WX.turn [12] 5 rfl (fun _ h => h) rfl ?_
    exact WX.iter (p7, c5, (xsout ++ [.slice p3 ((e1.name.parts).length) c2]), ((out ++ [e1.name]) : List Name), i + 1) ⟨(by omega), (all_app v2 (all_cons (α := Name) (ok_DataP ok1).1 (fun a ha => by cases ha))), (by first | assumption | omega | (simp only [List.length_append, List.length_cons, List.length_nil, List.length_set, List.length_map, List.length_take, List.length_drop]; omega) | (simp; omega)), (by rw [v4, drop_get e1h]; simp only [impl_RepositoryNames_L1, cond_true, cond_false])⟩ (by dsimp only; omega) (.cons rfl (.cons rfl (.cons rfl (.cons rfl (.nil))))) .nil (.cons rfl (.cons rfl (.nil))) [0, 1, 4, 5] rfl
  · skip
    have h1d := B.df h1
    refine WX.run ttOk rfl ?_
    have hX1 : impl_RepositoryNames_L1 (impl_LogContents s.log) ([] : List Name) = ((out) : List Name) := by rw [v4, List.drop_eq_nil_of_le (show ((impl_LogContents s.log)).length ≤ i by omega)]; simp only [impl_RepositoryNames_L1, cond_true, cond_false]
    refine WX.seal 6 4 15 rfl rfl rfl rfl rfl ?_
    have hP1 : impl_RepositoryNames s = out := by simp only [impl_RepositoryNames, hX1, cond_true, cond_false]
    refine WX.ret ttOk rfl ?_
    intro w1 G bs hI hΓ
    rw [hP1]
    exact Post.of [16] (pout, cout) hI hΓ rfl rfl rfl (okl_mk (by omega) v2 : GoT.ok (n + 1) (out : List Name))
theorem f35 (w : World) (n : Nat) (hn : n + 1 ≤ 9) (s : Repository) (psLogDurable : Option Addr) (csLogDurable : Nat) (hpsLogDurable : RdSl (hp w) psLogDurable csLogDurable s.log.durable) (psLogVolatile : Option Addr) (csLogVolatile : Nat) (hpsLogVolatile : RdSl (hp w) psLogVolatile csLogVolatile s.log.volatile) (hoks : GoT.ok n s) :
    Does Try.prog 35 #[.agg #[.slice psLogDurable ((s.log.durable).length) csLogDurable, .slice psLogVolatile ((s.log.volatile).length) csLogVolatile, .int .i64 (s.quota)]] w emp (Post w emp (fun x : GoT.X ((List Name)) => (GoT.sh ((spec_RepositoryNames s) : (List Name)) x).headD undef) (fun x => GoT.oa ((spec_RepositoryNames s) : (List Name)) x) (GoT.ok (n + 1) ((spec_RepositoryNames s) : (List Name)))) := by
  have hbP := bd_pos n
  have hbS0 := bd_succ (n := n) (by omega)
  have hbB := bd_big (n := (n + 1)) (by omega)
  have hbM := bd_mono (show n ≤ n + 1 by omega)
  refine WX.enter (tt := tt) (Γ := [(0, MF.rs .stb psLogDurable csLogDurable s.log.durable), (1, MF.rs .stb psLogVolatile csLogVolatile s.log.volatile)]) Try.func35 rfl (by kernel_rfl) rfl (allS_cons rfl hpsLogDurable (allS_cons rfl hpsLogVolatile allS_nil)) ?_
  refine WX.run ttOk rfl ?_
  refine WX.bld ttOk rfl rfl rfl rfl rfl rfl rfl ?_
  intro p1
  refine WX.run ttOk rfl ?_
  refine WX.callF 2 (fun _ _ h => GoT.ow_rd h) (fun _ f hf => GoT.fak f hf) rfl rfl rfl rfl rfl (fun _ => rfl) rfl (fun w G bs hI hΓ => f22 w n (by omega) s.log psLogDurable csLogDurable (hΓ.get 0 rfl) psLogVolatile csLogVolatile (hΓ.get 1 rfl) ((ok_Repository hoks).1)) (fun _ => rfl) (fun _ => rfl) ?_
  rintro ⟨p2, c1⟩ hq1
  refine WX.run ttOk rfl ?_
  refine WX.free 4 (MF.ol [] ([] : List Name)) rfl ?_
  refine WX.opn (kk := 5) 501 3 5 rfl rfl rfl ?_
  intro xs1 hx1
  have r1 : (spec_LogContents s.log).length ≤ bd (n + 1) := (okl hq1).1
  refine WX.loop (ι := (Option Addr) × Nat × (List Value) × (List Name) × Nat) ⟨fun | (pout, cout, xsout, out, i) => (i ≤ ((spec_LogContents s.log)).length) ∧ (∀ z_ ∈ out, GoT.ok (n + 1) z_) ∧ (out.length ≤ i) ∧ (spec_RepositoryNames_L1 (spec_LogContents s.log) ([] : List Name) = spec_RepositoryNames_L1 (((spec_LogContents s.log)).drop i) out), fun | (pout, cout, xsout, out, i) => ((spec_LogContents s.log)).length - i, fun | (pout, cout, xsout, out, i) => [(3, .v (.slice pout ((out).length) cout)), (5, .v (.int .i64 (((i : Nat) : Int)))), (4, .v (.slice p2 (((spec_LogContents s.log)).length) c1))], fun | (pout, cout, xsout, out, i) => [], fun | (pout, cout, xsout, out, i) => [(6, ⟨1, pout, (out).length, cout, xsout⟩), (501, ⟨5, p2, ((spec_LogContents s.log)).length, c1, xs1⟩)], fun | (pout, cout, xsout, out, i) => [(0, MF.rs .stb psLogDurable csLogDurable s.log.durable), (1, MF.rs .stb psLogVolatile csLogVolatile s.log.volatile), (4, MF.ol xsout (out : List Name)), (5, MF.ol (List.drop (i * 5) xs1) ((List.drop i (spec_LogContents s.log)) : List DataP))]⟩ (p1, 0, [], ([] : List Name), 0) ⟨(Nat.zero_le _), (fun a ha => by cases ha), (by simp), rfl⟩
    (.cons rfl (.cons rfl (.cons rfl (.nil)))) .nil (.cons rfl (.cons rfl (.nil))) [0, 1, 4, 5] rfl ?_
  rintro ⟨pout, cout, xsout, out, i⟩ hpre
  have hpre_ : (i ≤ ((spec_LogContents s.log)).length) ∧ (∀ z_ ∈ out, GoT.ok (n + 1) z_) ∧ (out.length ≤ i) ∧ (spec_RepositoryNames_L1 (spec_LogContents s.log) ([] : List Name) = spec_RepositoryNames_L1 (((spec_LogContents s.log)).drop i) out) := hpre
  clear hpre
  obtain ⟨v1, v2, v3, v4⟩ := hpre_
  refine WX.run ttOk rfl ?_
  refine WX.cases 13 rfl (fun h1 => ?_) (fun h1 => ?_)
  · skip
    have h1d := B.dt h1
    have e1i : i < ((spec_LogContents s.log)).length := (by omega)
    obtain ⟨e1, e1h⟩ : ∃ e1, ((spec_LogContents s.log))[i]? = some e1 := ⟨_, List.getElem?_eq_getElem e1i⟩
    have ok1 : GoT.ok (n + 1) e1 := (okl hq1).2 _ (List.mem_of_getElem? e1h)
    refine WX.run ttOk rfl ?_
    have hr1 : i < ((spec_LogContents s.log)).length := (by first | assumption | omega)
    refine WX.idxR 501 i ttOk rfl rfl rfl rfl rfl rfl rfl rfl rfl hr1 ?_
    rintro ad1 rfl
    refine WX.run ttOk rfl ?_
    refine WX.ldM 501 5 6 e1 ttOk rfl rfl rfl rfl rfl rfl rfl rfl rfl hr1 rfl e1h (fun _ => rfl) (fun _ => rfl) ?_
    rintro ⟨⟨p3, c2⟩, ⟨p4, c3⟩, ⟨p5, c4⟩, ⟨⟩, ⟨⟩⟩ hx2
    refine WX.bld ttOk rfl rfl rfl rfl rfl rfl rfl ?_
    intro p6
    refine WX.turn [9] 13 rfl (fun h hs => ol_one (α := Name) (a := e1.name) (x := (p3, c2)) hs) (gs := [MF.ol [.slice p3 ((e1.name.parts).length) c2] ([e1.name] : List Name)]) rfl ?_
    refine WX.appR1 6 22 ((out ++ [e1.name]) : List Name).length ttOk rfl rfl rfl rfl rfl rfl rfl rfl rfl rfl rfl rfl rfl (by simp [Value.oneCell']) (by simp) (by simp; omega) (by simp; omega) (fun _ _ => rfl) ?_
    intro p7 c5
    refine WX.turn [4, 13] 14 rfl (fun h hs => ol_app hs) (gs := [MF.ol (xsout ++ [.slice p3 ((e1.name.parts).length) c2]) ((out ++ [e1.name]) : List Name)]) rfl ?_
    refine WX.run ttOk rfl ?_
    refine WX.see rfl rfl rfl (fun _ hΓ => looks_arith rfl rfl rfl rfl (by unfold I64; omega)) ?_
    refine WX.run ttOk rfl ?_
    refine WX.turn [14] 4 rfl (fun _ h => h) rfl ?_
    refine WX.turn [12] 5 rfl (fun _ h => h) rfl ?_
    exact WX.iter (p7, c5, (xsout ++ [.slice p3 ((e1.name.parts).length) c2]), ((out ++ [e1.name]) : List Name), i + 1) ⟨(by omega), (all_app v2 (all_cons (α := Name) (ok_DataP ok1).1 (fun a ha => by cases ha))), (by first | assumption | omega | (simp only [List.length_append, List.length_cons, List.length_nil, List.length_set, List.length_map, List.length_take, List.length_drop]; omega) | (simp; omega)), (by rw [v4, drop_get e1h]; simp only [spec_RepositoryNames_L1, cond_true, cond_false])⟩ (by dsimp only; omega) (.cons rfl (.cons rfl (.cons rfl (.nil)))) .nil (.cons rfl (.cons rfl (.nil))) [0, 1, 4, 5] rfl
  · skip
    have h1d := B.df h1
    refine WX.run ttOk rfl ?_
    have hX1 : spec_RepositoryNames_L1 (spec_LogContents s.log) ([] : List Name) = ((out) : List Name) := by rw [v4, List.drop_eq_nil_of_le (show ((spec_LogContents s.log)).length ≤ i by omega)]; simp only [spec_RepositoryNames_L1, cond_true, cond_false]
    refine WX.seal 6 4 15 rfl rfl rfl rfl rfl ?_
    have hP1 : spec_RepositoryNames s = out := by simp only [spec_RepositoryNames, hX1, cond_true, cond_false]
    refine WX.ret ttOk rfl ?_
    intro w1 G bs hI hΓ
    rw [hP1]
    exact Post.of [16] (pout, cout) hI hΓ rfl rfl rfl (okl_mk (by omega) v2 : GoT.ok (n + 1) (out : List Name))
theorem f51 (w : World) (n : Nat) (hn : n + 2 ≤ 9) (a : Repository) (paLogDurable : Option Addr) (caLogDurable : Nat) (hpaLogDurable : RdSl (hp w) paLogDurable caLogDurable a.log.durable) (paLogVolatile : Option Addr) (caLogVolatile : Nat) (hpaLogVolatile : RdSl (hp w) paLogVolatile caLogVolatile a.log.volatile) (b : Repository) (pbLogDurable : Option Addr) (cbLogDurable : Nat) (hpbLogDurable : RdSl (hp w) pbLogDurable cbLogDurable b.log.durable) (pbLogVolatile : Option Addr) (cbLogVolatile : Nat) (hpbLogVolatile : RdSl (hp w) pbLogVolatile cbLogVolatile b.log.volatile) (hoka : GoT.ok n a) (hokb : GoT.ok n b) :
    Does Try.prog 51 #[.agg #[.slice paLogDurable ((a.log.durable).length) caLogDurable, .slice paLogVolatile ((a.log.volatile).length) caLogVolatile, .int .i64 (a.quota)], .agg #[.slice pbLogDurable ((b.log.durable).length) cbLogDurable, .slice pbLogVolatile ((b.log.volatile).length) cbLogVolatile, .int .i64 (b.quota)]] w emp (Post w emp (fun x : GoT.X ((List Name)) => (GoT.sh ((impl_LostNames a b) : (List Name)) x).headD undef) (fun x => GoT.oa ((impl_LostNames a b) : (List Name)) x) (GoT.ok (n + 1) ((impl_LostNames a b) : (List Name)))) := by
  have hbP := bd_pos n
  have hbS0 := bd_succ (n := n) (by omega)
  have hbS1 := bd_succ (n := n + 1) (by omega)
  have hbB := bd_big (n := (n + 2)) (by omega)
  have hbM := bd_mono (show n ≤ n + 2 by omega)
  refine WX.enter (tt := tt) (Γ := [(0, MF.rs .stb paLogDurable caLogDurable a.log.durable), (1, MF.rs .stb paLogVolatile caLogVolatile a.log.volatile), (2, MF.rs .stb pbLogDurable cbLogDurable b.log.durable), (3, MF.rs .stb pbLogVolatile cbLogVolatile b.log.volatile)]) Try.func51 rfl (by kernel_rfl) rfl (allS_cons rfl hpaLogDurable (allS_cons rfl hpaLogVolatile (allS_cons rfl hpbLogDurable (allS_cons rfl hpbLogVolatile allS_nil)))) ?_
  refine WX.run ttOk rfl ?_
  refine WX.bld ttOk rfl rfl rfl rfl rfl rfl rfl ?_
  intro p1
  refine WX.run ttOk rfl ?_
  refine WX.callF 4 (fun _ _ h => GoT.ow_rd h) (fun _ f hf => GoT.fak f hf) rfl rfl rfl rfl rfl (fun _ => rfl) rfl (fun w G bs hI hΓ => f36 w n (by omega) a paLogDurable caLogDurable (hΓ.get 0 rfl) paLogVolatile caLogVolatile (hΓ.get 1 rfl) hoka) (fun _ => rfl) (fun _ => rfl) ?_
  rintro ⟨p2, c1⟩ hq1
  refine WX.run ttOk rfl ?_
  refine WX.free 6 (MF.ol [] ([] : List Name)) rfl ?_
  refine WX.opn (kk := 1) 501 5 7 rfl rfl rfl ?_
  intro xs1 hx1
  have r1 : (impl_RepositoryNames a).length ≤ bd (n + 1) := (okl hq1).1
  refine WX.loop (ι := (Option Addr) × Nat × (List Value) × (List Name) × Nat) ⟨fun | (pout, cout, xsout, out, i) => (i ≤ ((impl_RepositoryNames a)).length) ∧ (∀ z_ ∈ out, GoT.ok (n + 1) z_) ∧ (out.length ≤ i) ∧ (impl_LostNames_L1 b (impl_RepositoryNames a) ([] : List Name) = impl_LostNames_L1 b (((impl_RepositoryNames a)).drop i) out), fun | (pout, cout, xsout, out, i) => ((impl_RepositoryNames a)).length - i, fun | (pout, cout, xsout, out, i) => [(5, .v (.slice pout ((out).length) cout)), (14, .v (.int .i64 (((i : Nat) : Int)))), (13, .v (.int .i64 (((((impl_RepositoryNames a)).length : Nat) : Int)))), (12, .v (.slice p2 (((impl_RepositoryNames a)).length) c1)), (3, .p 3 0)], fun | (pout, cout, xsout, out, i) => [(3, ⟨48, [.slice pbLogDurable ((b.log.durable).length) cbLogDurable, .slice pbLogVolatile ((b.log.volatile).length) cbLogVolatile, .int .i64 (b.quota)]⟩)], fun | (pout, cout, xsout, out, i) => [(10, ⟨1, pout, (out).length, cout, xsout⟩), (501, ⟨1, p2, ((impl_RepositoryNames a)).length, c1, xs1⟩)], fun | (pout, cout, xsout, out, i) => [(0, MF.rs .stb paLogDurable caLogDurable a.log.durable), (1, MF.rs .stb paLogVolatile caLogVolatile a.log.volatile), (2, MF.rs .stb pbLogDurable cbLogDurable b.log.durable), (3, MF.rs .stb pbLogVolatile cbLogVolatile b.log.volatile), (6, MF.ol xsout (out : List Name)), (7, MF.ol (List.drop (i * 1) xs1) ((List.drop i (impl_RepositoryNames a)) : List Name))]⟩ (p1, 0, [], ([] : List Name), 0) ⟨(Nat.zero_le _), (fun a ha => by cases ha), (by simp), rfl⟩
    (.cons rfl (.cons rfl (.cons rfl (.cons rfl (.cons rfl (.nil)))))) (.cons rfl (.nil)) (.cons rfl (.cons rfl (.nil))) [0, 1, 2, 3, 6, 7] rfl ?_
  rintro ⟨pout, cout, xsout, out, i⟩ hpre
  have hpre_ : (i ≤ ((impl_RepositoryNames a)).length) ∧ (∀ z_ ∈ out, GoT.ok (n + 1) z_) ∧ (out.length ≤ i) ∧ (impl_LostNames_L1 b (impl_RepositoryNames a) ([] : List Name) = impl_LostNames_L1 b (((impl_RepositoryNames a)).drop i) out) := hpre
  clear hpre
  obtain ⟨v1, v2, v3, v4⟩ := hpre_
  refine WX.run ttOk rfl ?_
  refine WX.cases 15 rfl (fun h1 => ?_) (fun h1 => ?_)
  · skip
    have h1d := B.dt h1
    have e1i : i < ((impl_RepositoryNames a)).length := (by omega)
    obtain ⟨e1, e1h⟩ : ∃ e1, ((impl_RepositoryNames a))[i]? = some e1 := ⟨_, List.getElem?_eq_getElem e1i⟩
    have ok1 : GoT.ok (n + 1) e1 := (okl hq1).2 _ (List.mem_of_getElem? e1h)
    refine WX.run ttOk rfl ?_
    have hr1 : i < ((impl_RepositoryNames a)).length := (by first | assumption | omega)
    refine WX.idxR 501 i ttOk rfl rfl rfl rfl rfl rfl rfl rfl rfl hr1 ?_
    rintro ad1 rfl
    refine WX.ldM 501 7 8 e1 ttOk rfl rfl rfl rfl rfl rfl rfl rfl rfl hr1 rfl e1h (fun _ => rfl) (fun _ => rfl) ?_
    rintro ⟨p3, c2⟩ hx2
    refine WX.run ttOk rfl ?_
    refine WX.callF 11 (fun _ _ h => GoT.ow_rd h) (fun _ f hf => GoT.fak f hf) rfl rfl rfl rfl rfl (fun _ => rfl) rfl (fun w G bs hI hΓ => f44 w (n + 1) (by omega) b pbLogDurable cbLogDurable (hΓ.get 2 rfl) pbLogVolatile cbLogVolatile (hΓ.get 3 rfl) e1 p3 c2 (hΓ.get 8 rfl) (And.intro (And.intro (GoT.okm (α := List Record) (by omega) (ok_Log (ok_Repository hokb).1).1) (GoT.okm (α := List Record) (by omega) (ok_Log (ok_Repository hokb).1).2)) (ok_Repository hokb).2) ok1) (fun _ => rfl) (fun _ => rfl) ?_
    rintro ⟨⟨p4, c3⟩, ⟨p5, c4⟩, ⟨p6, c5⟩, ⟨⟩, ⟨⟩⟩ hq2
    refine WX.run ttOk rfl ?_
    refine WX.cases 25 rfl (fun h2 => ?_) (fun h2 => ?_)
    · skip
      have h2d := (B.nt h2)
      refine WX.run ttOk rfl ?_
      refine WX.bld ttOk rfl rfl rfl rfl rfl rfl rfl ?_
      intro p7
      refine WX.turn [9] 17 rfl (fun h hs => ol_one (α := Name) (a := e1) (x := (p3, c2)) hs) (gs := [MF.ol [.slice p3 ((e1.parts).length) c2] ([e1] : List Name)]) rfl ?_
      refine WX.appR1 10 28 ((out ++ [e1]) : List Name).length ttOk rfl rfl rfl rfl rfl rfl rfl rfl rfl rfl rfl rfl rfl (by simp [Value.oneCell']) (by simp) (by simp; omega) (by simp; omega) (fun _ _ => rfl) ?_
      intro p8 c6
      refine WX.turn [6, 17] 18 rfl (fun h hs => ol_app hs) (gs := [MF.ol (xsout ++ [.slice p3 ((e1.parts).length) c2]) ((out ++ [e1]) : List Name)]) rfl ?_
      refine WX.run ttOk rfl ?_
      refine WX.see rfl rfl rfl (fun _ hΓ => looks_arith rfl rfl rfl rfl (by unfold I64; omega)) ?_
      refine WX.run ttOk rfl ?_
      refine WX.turn [18] 6 rfl (fun _ h => h) rfl ?_
      refine WX.turn [10] 7 rfl (fun _ h => h) rfl ?_
      exact WX.iter (p8, c6, (xsout ++ [.slice p3 ((e1.parts).length) c2]), ((out ++ [e1]) : List Name), i + 1) ⟨(by omega), (all_app v2 (all_cons (α := Name) ok1 (fun a ha => by cases ha))), (by first | assumption | omega | (simp only [List.length_append, List.length_cons, List.length_nil, List.length_set, List.length_map, List.length_take, List.length_drop]; omega) | (simp; omega)), (by rw [v4, drop_get e1h]; simp only [impl_LostNames_L1, h2, cond_true, cond_false])⟩ (by dsimp only; omega) (.cons rfl (.cons rfl (.cons rfl (.cons rfl (.cons rfl (.nil)))))) (.cons rfl (.nil)) (.cons rfl (.cons rfl (.nil))) [0, 1, 2, 3, 6, 7] rfl
    · skip
      have h2d := (B.nf h2)
      refine WX.run ttOk rfl ?_
      refine WX.see rfl rfl rfl (fun _ hΓ => looks_arith rfl rfl rfl rfl (by unfold I64; omega)) ?_
      refine WX.run ttOk rfl ?_
      refine WX.turn [10] 7 rfl (fun _ h => h) rfl ?_
      exact WX.iter (pout, cout, xsout, (out : List Name), i + 1) ⟨(by omega), v2, (by first | assumption | omega | (simp only [List.length_append, List.length_cons, List.length_nil, List.length_set, List.length_map, List.length_take, List.length_drop]; omega) | (simp; omega)), (by rw [v4, drop_get e1h]; simp only [impl_LostNames_L1, h2, cond_true, cond_false])⟩ (by dsimp only; omega) (.cons rfl (.cons rfl (.cons rfl (.cons rfl (.cons rfl (.nil)))))) (.cons rfl (.nil)) (.cons rfl (.cons rfl (.nil))) [0, 1, 2, 3, 6, 7] rfl
  · skip
    have h1d := B.df h1
    refine WX.run ttOk rfl ?_
    have hX1 : impl_LostNames_L1 b (impl_RepositoryNames a) ([] : List Name) = ((out) : List Name) := by rw [v4, List.drop_eq_nil_of_le (show ((impl_RepositoryNames a)).length ≤ i by omega)]; simp only [impl_LostNames_L1, cond_true, cond_false]
    refine WX.seal 10 6 19 rfl rfl rfl rfl rfl ?_
    have hP1 : impl_LostNames a b = out := by simp only [impl_LostNames, hX1, cond_true, cond_false]
    refine WX.ret ttOk rfl ?_
    intro w1 G bs hI hΓ
    rw [hP1]
    exact Post.of [20] (pout, cout) hI hΓ rfl rfl rfl (okl_mk (by omega) v2 : GoT.ok (n + 1) (out : List Name))
theorem f50 (w : World) (n : Nat) (hn : n + 2 ≤ 9) (a : Repository) (paLogDurable : Option Addr) (caLogDurable : Nat) (hpaLogDurable : RdSl (hp w) paLogDurable caLogDurable a.log.durable) (paLogVolatile : Option Addr) (caLogVolatile : Nat) (hpaLogVolatile : RdSl (hp w) paLogVolatile caLogVolatile a.log.volatile) (b : Repository) (pbLogDurable : Option Addr) (cbLogDurable : Nat) (hpbLogDurable : RdSl (hp w) pbLogDurable cbLogDurable b.log.durable) (pbLogVolatile : Option Addr) (cbLogVolatile : Nat) (hpbLogVolatile : RdSl (hp w) pbLogVolatile cbLogVolatile b.log.volatile) (hoka : GoT.ok n a) (hokb : GoT.ok n b) :
    Does Try.prog 50 #[.agg #[.slice paLogDurable ((a.log.durable).length) caLogDurable, .slice paLogVolatile ((a.log.volatile).length) caLogVolatile, .int .i64 (a.quota)], .agg #[.slice pbLogDurable ((b.log.durable).length) cbLogDurable, .slice pbLogVolatile ((b.log.volatile).length) cbLogVolatile, .int .i64 (b.quota)]] w emp (Post w emp (fun x : GoT.X ((List Name)) => (GoT.sh ((spec_LostNames a b) : (List Name)) x).headD undef) (fun x => GoT.oa ((spec_LostNames a b) : (List Name)) x) (GoT.ok (n + 1) ((spec_LostNames a b) : (List Name)))) := by
  have hbP := bd_pos n
  have hbS0 := bd_succ (n := n) (by omega)
  have hbS1 := bd_succ (n := n + 1) (by omega)
  have hbB := bd_big (n := (n + 2)) (by omega)
  have hbM := bd_mono (show n ≤ n + 2 by omega)
  refine WX.enter (tt := tt) (Γ := [(0, MF.rs .stb paLogDurable caLogDurable a.log.durable), (1, MF.rs .stb paLogVolatile caLogVolatile a.log.volatile), (2, MF.rs .stb pbLogDurable cbLogDurable b.log.durable), (3, MF.rs .stb pbLogVolatile cbLogVolatile b.log.volatile)]) Try.func50 rfl (by kernel_rfl) rfl (allS_cons rfl hpaLogDurable (allS_cons rfl hpaLogVolatile (allS_cons rfl hpbLogDurable (allS_cons rfl hpbLogVolatile allS_nil)))) ?_
  refine WX.run ttOk rfl ?_
  refine WX.bld ttOk rfl rfl rfl rfl rfl rfl rfl ?_
  intro p1
  refine WX.run ttOk rfl ?_
  refine WX.callF 4 (fun _ _ h => GoT.ow_rd h) (fun _ f hf => GoT.fak f hf) rfl rfl rfl rfl rfl (fun _ => rfl) rfl (fun w G bs hI hΓ => f35 w n (by omega) a paLogDurable caLogDurable (hΓ.get 0 rfl) paLogVolatile caLogVolatile (hΓ.get 1 rfl) hoka) (fun _ => rfl) (fun _ => rfl) ?_
  rintro ⟨p2, c1⟩ hq1
  refine WX.run ttOk rfl ?_
  refine WX.free 6 (MF.ol [] ([] : List Name)) rfl ?_
  refine WX.opn (kk := 1) 501 5 7 rfl rfl rfl ?_
  intro xs1 hx1
  have r1 : (spec_RepositoryNames a).length ≤ bd (n + 1) := (okl hq1).1
  refine WX.loop (ι := (Option Addr) × Nat × (List Value) × (List Name) × Nat) ⟨fun | (pout, cout, xsout, out, i) => (i ≤ ((spec_RepositoryNames a)).length) ∧ (∀ z_ ∈ out, GoT.ok (n + 1) z_) ∧ (out.length ≤ i) ∧ (spec_LostNames_L1 b (spec_RepositoryNames a) ([] : List Name) = spec_LostNames_L1 b (((spec_RepositoryNames a)).drop i) out), fun | (pout, cout, xsout, out, i) => ((spec_RepositoryNames a)).length - i, fun | (pout, cout, xsout, out, i) => [(5, .v (.slice pout ((out).length) cout)), (7, .v (.int .i64 (((i : Nat) : Int)))), (6, .v (.slice p2 (((spec_RepositoryNames a)).length) c1)), (3, .p 3 0)], fun | (pout, cout, xsout, out, i) => [(3, ⟨48, [.slice pbLogDurable ((b.log.durable).length) cbLogDurable, .slice pbLogVolatile ((b.log.volatile).length) cbLogVolatile, .int .i64 (b.quota)]⟩)], fun | (pout, cout, xsout, out, i) => [(10, ⟨1, pout, (out).length, cout, xsout⟩), (501, ⟨1, p2, ((spec_RepositoryNames a)).length, c1, xs1⟩)], fun | (pout, cout, xsout, out, i) => [(0, MF.rs .stb paLogDurable caLogDurable a.log.durable), (1, MF.rs .stb paLogVolatile caLogVolatile a.log.volatile), (2, MF.rs .stb pbLogDurable cbLogDurable b.log.durable), (3, MF.rs .stb pbLogVolatile cbLogVolatile b.log.volatile), (6, MF.ol xsout (out : List Name)), (7, MF.ol (List.drop (i * 1) xs1) ((List.drop i (spec_RepositoryNames a)) : List Name))]⟩ (p1, 0, [], ([] : List Name), 0) ⟨(Nat.zero_le _), (fun a ha => by cases ha), (by simp), rfl⟩
    (.cons rfl (.cons rfl (.cons rfl (.cons rfl (.nil))))) (.cons rfl (.nil)) (.cons rfl (.cons rfl (.nil))) [0, 1, 2, 3, 6, 7] rfl ?_
  rintro ⟨pout, cout, xsout, out, i⟩ hpre
  have hpre_ : (i ≤ ((spec_RepositoryNames a)).length) ∧ (∀ z_ ∈ out, GoT.ok (n + 1) z_) ∧ (out.length ≤ i) ∧ (spec_LostNames_L1 b (spec_RepositoryNames a) ([] : List Name) = spec_LostNames_L1 b (((spec_RepositoryNames a)).drop i) out) := hpre
  clear hpre
  obtain ⟨v1, v2, v3, v4⟩ := hpre_
  refine WX.run ttOk rfl ?_
  refine WX.cases 16 rfl (fun h1 => ?_) (fun h1 => ?_)
  · skip
    have h1d := B.dt h1
    have e1i : i < ((spec_RepositoryNames a)).length := (by omega)
    obtain ⟨e1, e1h⟩ : ∃ e1, ((spec_RepositoryNames a))[i]? = some e1 := ⟨_, List.getElem?_eq_getElem e1i⟩
    have ok1 : GoT.ok (n + 1) e1 := (okl hq1).2 _ (List.mem_of_getElem? e1h)
    refine WX.run ttOk rfl ?_
    refine WX.ptrR 501 rfl (show 0 < ((spec_RepositoryNames a)).length by omega) ?_
    rintro ad1 rfl
    refine WX.takeE (i := i) 501 7 8 e1 rfl rfl e1h (fun _ => rfl) ?_
    rintro ⟨p3, c2⟩ hx2
    refine WX.draw [10, 11] mixed ?_
    intro bs G0 hΓ0
    refine DX.takes (fuel := 9) ttOk [(0, false), (1, true), (2, true)] (by kernel_rfl) rfl ?_
    have hr1 : i < ((spec_RepositoryNames a)).length := (by first | assumption | omega)
    refine DX.seeP 3 (by kernel_rfl) rfl rfl rfl rfl (looksP_idx i ttOk rfl rfl rfl rfl rfl hr1) ?_
    refine DX.see 4 (by kernel_rfl) rfl rfl rfl rfl (looks_ldK 501 e1 (p3, c2) ttOk rfl rfl rfl rfl rfl hr1 hx2 rfl) ?_
    refine DX.pend 9 8 ⟨65, [.slice none (0) 0, .slice none (0) 0, .slice none (0) 0, .int .i64 (0), .int .i64 (0)]⟩ ?_
    refine DXA.callF 5 11 (fun _ _ h => GoT.ow_rd h) (fun _ f hf => GoT.fak f hf) ttOk rfl rfl rfl rfl rfl rfl rfl (by kernel_rfl) (by kernel_rfl) (by kernel_rfl) rfl rfl rfl rfl rfl rfl rfl rfl rfl rfl (fun _ => rfl) rfl rfl (fun w G bs hI hΓ => f42 w (n + 1) (by omega) b pbLogDurable cbLogDurable (hΓ.get 2 rfl) pbLogVolatile cbLogVolatile (hΓ.get 3 rfl) e1 p3 c2 (hΓ.get 8 rfl) (And.intro (And.intro (GoT.okm (α := List Record) (by omega) (ok_Log (ok_Repository hokb).1).1) (GoT.okm (α := List Record) (by omega) (ok_Log (ok_Repository hokb).1).2)) (ok_Repository hokb).2) ok1) (fun _ => rfl) (fun _ => rfl) ?_
    rintro ⟨⟨p4, c3⟩, ⟨p5, c4⟩, ⟨p6, c5⟩, ⟨⟩, ⟨⟩⟩ hq2
    refine DXA.take 6 (by kernel_rfl) (by kernel_rfl) rfl rfl rfl rfl rfl rfl rfl rfl (looksP_pure ttOk rfl) ?_
    refine DXA.take 7 (by kernel_rfl) (by kernel_rfl) rfl rfl rfl rfl rfl rfl rfl rfl (looksP_pure ttOk rfl) ?_
    refine DXA.take 8 (by kernel_rfl) (by kernel_rfl) rfl rfl rfl rfl rfl rfl rfl rfl (looksP_pure ttOk rfl) ?_
    refine DXA.tail [10, 11] ttOk rfl rfl rfl rfl rfl rfl (by kernel_rfl) rfl rfl (by kernel_rfl) ?_
    refine WX.run ttOk rfl ?_
    refine WX.cases 29 rfl (fun h2 => ?_) (fun h2 => ?_)
    · skip
      have h2d := (B.nt h2)
      refine WX.run ttOk rfl ?_
      have hr2 : i < ((spec_RepositoryNames a)).length := (by first | assumption | omega)
      refine WX.idxR 501 i ttOk rfl rfl rfl rfl rfl rfl rfl rfl rfl hr2 ?_
      rintro ad2 ⟨⟩
      refine WX.ldK 501 e1 (p3, c2) ttOk rfl rfl rfl rfl rfl rfl rfl rfl rfl hr2 hx2 rfl ?_
      refine WX.bld ttOk rfl rfl rfl rfl rfl rfl rfl ?_
      intro p7
      refine WX.turn [9] 17 rfl (fun h hs => ol_one (α := Name) (a := e1) (x := (p3, c2)) hs) (gs := [MF.ol [.slice p3 ((e1.parts).length) c2] ([e1] : List Name)]) rfl ?_
      refine WX.appR1 10 35 ((out ++ [e1]) : List Name).length ttOk rfl rfl rfl rfl rfl rfl rfl rfl rfl rfl rfl rfl rfl (by simp [Value.oneCell']) (by simp) (by simp; omega) (by simp; omega) (fun _ _ => rfl) ?_
      intro p8 c6
      refine WX.turn [6, 17] 18 rfl (fun h hs => ol_app hs) (gs := [MF.ol (xsout ++ [.slice p3 ((e1.parts).length) c2]) ((out ++ [e1]) : List Name)]) rfl ?_
      refine WX.run ttOk rfl ?_
      refine WX.see rfl rfl rfl (fun _ hΓ => looks_arith rfl rfl rfl rfl (by unfold I64; omega)) ?_
      refine WX.run ttOk rfl ?_
      refine WX.turn [18] 6 rfl (fun _ h => h) rfl ?_
      refine WX.turn [10] 7 rfl (fun _ h => h) rfl ?_
      exact WX.iter (p8, c6, (xsout ++ [.slice p3 ((e1.parts).length) c2]), ((out ++ [e1]) : List Name), i + 1) ⟨(by omega), (all_app v2 (all_cons (α := Name) ok1 (fun a ha => by cases ha))), (by first | assumption | omega | (simp only [List.length_append, List.length_cons, List.length_nil, List.length_set, List.length_map, List.length_take, List.length_drop]; omega) | (simp; omega)), (by rw [v4, drop_get e1h]; simp only [spec_LostNames_L1, h2, cond_true, cond_false])⟩ (by dsimp only; omega) (.cons rfl (.cons rfl (.cons rfl (.cons rfl (.nil))))) (.cons rfl (.nil)) (.cons rfl (.cons rfl (.nil))) [0, 1, 2, 3, 6, 7] rfl
    · skip
      have h2d := (B.nf h2)
      refine WX.run ttOk rfl ?_
      refine WX.see rfl rfl rfl (fun _ hΓ => looks_arith rfl rfl rfl rfl (by unfold I64; omega)) ?_
      refine WX.run ttOk rfl ?_
      refine WX.turn [10] 7 rfl (fun _ h => h) rfl ?_
      exact WX.iter (pout, cout, xsout, (out : List Name), i + 1) ⟨(by omega), v2, (by first | assumption | omega | (simp only [List.length_append, List.length_cons, List.length_nil, List.length_set, List.length_map, List.length_take, List.length_drop]; omega) | (simp; omega)), (by rw [v4, drop_get e1h]; simp only [spec_LostNames_L1, h2, cond_true, cond_false])⟩ (by dsimp only; omega) (.cons rfl (.cons rfl (.cons rfl (.cons rfl (.nil))))) (.cons rfl (.nil)) (.cons rfl (.cons rfl (.nil))) [0, 1, 2, 3, 6, 7] rfl
  · skip
    have h1d := B.df h1
    refine WX.run ttOk rfl ?_
    have hX1 : spec_LostNames_L1 b (spec_RepositoryNames a) ([] : List Name) = ((out) : List Name) := by rw [v4, List.drop_eq_nil_of_le (show ((spec_RepositoryNames a)).length ≤ i by omega)]; simp only [spec_LostNames_L1, cond_true, cond_false]
    refine WX.seal 10 6 19 rfl rfl rfl rfl rfl ?_
    have hP1 : spec_LostNames a b = out := by simp only [spec_LostNames, hX1, cond_true, cond_false]
    refine WX.ret ttOk rfl ?_
    intro w1 G bs hI hΓ
    rw [hP1]
    exact Post.of [20] (pout, cout) hI hΓ rfl rfl rfl (okl_mk (by omega) v2 : GoT.ok (n + 1) (out : List Name))
theorem f30 (w : World) (n : Nat) (hn : n + 1 ≤ 9) (s : Repository) (psLogDurable : Option Addr) (csLogDurable : Nat) (hpsLogDurable : RdSl (hp w) psLogDurable csLogDurable s.log.durable) (psLogVolatile : Option Addr) (csLogVolatile : Nat) (hpsLogVolatile : RdSl (hp w) psLogVolatile csLogVolatile s.log.volatile) (hoks : GoT.ok n s) :
    Does Try.prog 30 #[.agg #[.slice psLogDurable ((s.log.durable).length) csLogDurable, .slice psLogVolatile ((s.log.volatile).length) csLogVolatile, .int .i64 (s.quota)]] w emp (fun (rv : Value) (_ : World) => rv = .bool (impl_ValidRepository s) ∧ True) := by
  have hbP := bd_pos n
  have hbS0 := bd_succ (n := n) (by omega)
  have hbB := bd_big (n := (n + 1)) (by omega)
  have hbM := bd_mono (show n ≤ n + 1 by omega)
  refine WX.enter (tt := tt) (Γ := [(0, MF.rs .stb psLogDurable csLogDurable s.log.durable), (1, MF.rs .stb psLogVolatile csLogVolatile s.log.volatile)]) Try.func30 rfl (by kernel_rfl) rfl (allS_cons rfl hpsLogDurable (allS_cons rfl hpsLogVolatile allS_nil)) ?_
  refine WX.run ttOk rfl ?_
  refine WX.draw [] mixed ?_
  intro bs G0 hΓ0
  refine DX.takes (fuel := 16) ttOk [(0, true), (1, false)] (by kernel_rfl) rfl ?_
  refine DX.callV 2 rfl (by kernel_rfl) rfl rfl rfl rfl rfl rfl (fun _ => rfl) rfl (fun w G bs hI hΓ => f79 w n (by omega) s.log psLogDurable csLogDurable (hΓ.get 0 rfl) psLogVolatile csLogVolatile (hΓ.get 1 rfl) ((ok_Repository hoks).1)) ?_
  intro hq1
  refine DX.takes (fuel := 14) ttOk [(3, true)] (by kernel_rfl) rfl ?_
  refine DX.cases 6 rfl (fun h1 => ?_) (fun h1 => ?_)
  · skip
    refine DX.takes (fuel := 12) ttOk [(4, true), (5, false)] (by kernel_rfl) rfl ?_
    refine DX.callV 6 rfl (by kernel_rfl) rfl rfl rfl rfl rfl rfl (fun _ => rfl) rfl (fun w G bs hI hΓ => f80 w n (by omega) s.quota 0 12 ((ok_Repository hoks).2) (show I64 0 from (by unfold I64; omega)) (show I64 12 from (by unfold I64; omega))) ?_
    intro hq2
    refine DX.takes (fuel := 9) ttOk [(7, true), (8, true)] (by kernel_rfl) rfl ?_
    refine DX.cases 11 rfl (fun h2 => ?_) (fun h2 => ?_)
    · skip
      have h2r := inR_impl h2
      refine DX.takes (fuel := 5) ttOk [(9, true), (10, false), (13, true), (14, false)] (by kernel_rfl) rfl ?_
      refine DX.callF 11 2 (fun _ _ h => GoT.ow_rd h) (fun _ f hf => GoT.fak f hf) rfl (by kernel_rfl) rfl rfl rfl rfl rfl rfl (fun _ => rfl) rfl (fun w G bs hI hΓ => f24 w n (by omega) s.log psLogDurable csLogDurable (hΓ.get 0 rfl) psLogVolatile csLogVolatile (hΓ.get 1 rfl) ((ok_Repository hoks).1)) (fun _ => rfl) (fun _ => rfl) ?_
      rintro ⟨p1, c1⟩ hq3
      refine DX.takes (fuel := 0) ttOk [(12, true), (15, true), (16, true), (17, true)] (by kernel_rfl) rfl ?_
      refine DX.tail2 [] rfl rfl (by kernel_rfl) ?_
      refine WX.run ttOk rfl ?_
      have hP1 : impl_ValidRepository s = (decide (((((impl_LogContents s.log)).length : Nat) : Int) ≤ s.quota)) := by simp only [impl_ValidRepository, h1, h2, cond_true, cond_false]
      refine WX.ret ttOk rfl ?_
      intro w1 G bs hI hΓ
      rw [hP1]
      exact ⟨rfl, trivial⟩
    · skip
      refine DX.takes (fuel := 0) ttOk [(9, true), (10, true), (11, true), (12, true), (13, true), (14, true), (15, true), (16, true), (17, true)] (by kernel_rfl) rfl ?_
      refine DX.tail2 [] rfl rfl (by kernel_rfl) ?_
      refine WX.run ttOk rfl ?_
      have hP2 : impl_ValidRepository s = false := by simp only [impl_ValidRepository, h1, h2, cond_true, cond_false]
      refine WX.ret ttOk rfl ?_
      intro w1 G bs hI hΓ
      rw [hP2]
      exact ⟨rfl, trivial⟩
  · skip
    refine DX.takes (fuel := 0) ttOk [(4, true), (5, true), (6, true), (7, true), (8, true), (9, true), (10, true), (11, true), (12, true), (13, true), (14, true), (15, true), (16, true), (17, true)] (by kernel_rfl) rfl ?_
    refine DX.tail2 [] rfl rfl (by kernel_rfl) ?_
    refine WX.run ttOk rfl ?_
    have hP3 : impl_ValidRepository s = false := by simp only [impl_ValidRepository, h1, cond_true, cond_false]
    refine WX.ret ttOk rfl ?_
    intro w1 G bs hI hΓ
    rw [hP3]
    exact ⟨rfl, trivial⟩
theorem f28 (w : World) (n : Nat) (hn : n + 1 ≤ 9) (s : Repository) (psLogDurable : Option Addr) (csLogDurable : Nat) (hpsLogDurable : RdSl (hp w) psLogDurable csLogDurable s.log.durable) (psLogVolatile : Option Addr) (csLogVolatile : Nat) (hpsLogVolatile : RdSl (hp w) psLogVolatile csLogVolatile s.log.volatile) (hoks : GoT.ok n s) :
    Does Try.prog 28 #[.agg #[.slice psLogDurable ((s.log.durable).length) csLogDurable, .slice psLogVolatile ((s.log.volatile).length) csLogVolatile, .int .i64 (s.quota)]] w emp (fun (rv : Value) (_ : World) => rv = .bool (spec_ValidRepository s) ∧ True) := by
  have hbP := bd_pos n
  have hbS0 := bd_succ (n := n) (by omega)
  have hbB := bd_big (n := (n + 1)) (by omega)
  have hbM := bd_mono (show n ≤ n + 1 by omega)
  refine WX.enter (tt := tt) (Γ := [(0, MF.rs .stb psLogDurable csLogDurable s.log.durable), (1, MF.rs .stb psLogVolatile csLogVolatile s.log.volatile)]) Try.func28 rfl (by kernel_rfl) rfl (allS_cons rfl hpsLogDurable (allS_cons rfl hpsLogVolatile allS_nil)) ?_
  refine WX.run ttOk rfl ?_
  refine WX.draw [] mixed ?_
  intro bs G0 hΓ0
  refine DX.takes (fuel := 16) ttOk [(0, true), (1, false)] (by kernel_rfl) rfl ?_
  refine DX.callV 2 rfl (by kernel_rfl) rfl rfl rfl rfl rfl rfl (fun _ => rfl) rfl (fun w G bs hI hΓ => f77 w n (by omega) s.log psLogDurable csLogDurable (hΓ.get 0 rfl) psLogVolatile csLogVolatile (hΓ.get 1 rfl) ((ok_Repository hoks).1)) ?_
  intro hq1
  refine DX.takes (fuel := 14) ttOk [(3, true)] (by kernel_rfl) rfl ?_
  refine DX.cases 6 rfl (fun h1 => ?_) (fun h1 => ?_)
  · skip
    refine DX.takes (fuel := 12) ttOk [(4, true), (5, false)] (by kernel_rfl) rfl ?_
    refine DX.callV 6 rfl (by kernel_rfl) rfl rfl rfl rfl rfl rfl (fun _ => rfl) rfl (fun w G bs hI hΓ => f78 w n (by omega) s.quota 0 12 ((ok_Repository hoks).2) (show I64 0 from (by unfold I64; omega)) (show I64 12 from (by unfold I64; omega))) ?_
    intro hq2
    refine DX.takes (fuel := 9) ttOk [(7, true), (8, true)] (by kernel_rfl) rfl ?_
    refine DX.cases 11 rfl (fun h2 => ?_) (fun h2 => ?_)
    · skip
      have h2r := inR_spec h2
      refine DX.takes (fuel := 5) ttOk [(9, true), (10, false), (13, true), (14, false)] (by kernel_rfl) rfl ?_
      refine DX.callF 11 2 (fun _ _ h => GoT.ow_rd h) (fun _ f hf => GoT.fak f hf) rfl (by kernel_rfl) rfl rfl rfl rfl rfl rfl (fun _ => rfl) rfl (fun w G bs hI hΓ => f22 w n (by omega) s.log psLogDurable csLogDurable (hΓ.get 0 rfl) psLogVolatile csLogVolatile (hΓ.get 1 rfl) ((ok_Repository hoks).1)) (fun _ => rfl) (fun _ => rfl) ?_
      rintro ⟨p1, c1⟩ hq3
      refine DX.takes (fuel := 0) ttOk [(12, true), (15, true), (16, true), (17, true)] (by kernel_rfl) rfl ?_
      refine DX.tail2 [] rfl rfl (by kernel_rfl) ?_
      refine WX.run ttOk rfl ?_
      have hP1 : spec_ValidRepository s = (decide (((((spec_LogContents s.log)).length : Nat) : Int) ≤ s.quota)) := by simp only [spec_ValidRepository, h1, h2, cond_true, cond_false]
      refine WX.ret ttOk rfl ?_
      intro w1 G bs hI hΓ
      rw [hP1]
      exact ⟨rfl, trivial⟩
    · skip
      refine DX.takes (fuel := 0) ttOk [(9, true), (10, true), (11, true), (12, true), (13, true), (14, true), (15, true), (16, true), (17, true)] (by kernel_rfl) rfl ?_
      refine DX.tail2 [] rfl rfl (by kernel_rfl) ?_
      refine WX.run ttOk rfl ?_
      have hP2 : spec_ValidRepository s = false := by simp only [spec_ValidRepository, h1, h2, cond_true, cond_false]
      refine WX.ret ttOk rfl ?_
      intro w1 G bs hI hΓ
      rw [hP2]
      exact ⟨rfl, trivial⟩
  · skip
    refine DX.takes (fuel := 0) ttOk [(4, true), (5, true), (6, true), (7, true), (8, true), (9, true), (10, true), (11, true), (12, true), (13, true), (14, true), (15, true), (16, true), (17, true)] (by kernel_rfl) rfl ?_
    refine DX.tail2 [] rfl rfl (by kernel_rfl) ?_
    refine WX.run ttOk rfl ?_
    have hP3 : spec_ValidRepository s = false := by simp only [spec_ValidRepository, h1, cond_true, cond_false]
    refine WX.ret ttOk rfl ?_
    intro w1 G bs hI hΓ
    rw [hP3]
    exact ⟨rfl, trivial⟩
theorem f55 (w : World) (n : Nat) (hn : n + 1 ≤ 9) (l : Log) (plDurable : Option Addr) (clDurable : Nat) (hplDurable : RdSl (hp w) plDurable clDurable l.durable) (plVolatile : Option Addr) (clVolatile : Nat) (hplVolatile : RdSl (hp w) plVolatile clVolatile l.volatile) (r : Record) (prDataName : Option Addr) (crDataName : Nat) (hprDataName : RdSl (hp w) prDataName crDataName r.data.name.parts) (prDataContent : Option Addr) (crDataContent : Nat) (hprDataContent : RdSl (hp w) prDataContent crDataContent r.data.content) (prDataKeyName : Option Addr) (crDataKeyName : Nat) (hprDataKeyName : RdSl (hp w) prDataKeyName crDataKeyName r.data.keyName.parts) (hokl : GoT.ok n l) (hokr : GoT.ok n r) :
    Does Try.prog 55 #[.agg #[.slice plDurable ((l.durable).length) clDurable, .slice plVolatile ((l.volatile).length) clVolatile], .agg #[.int .i64 (r.kind), .slice prDataName ((r.data.name.parts).length) crDataName, .slice prDataContent ((r.data.content).length) crDataContent, .slice prDataKeyName ((r.data.keyName.parts).length) crDataKeyName, .int .i64 (r.data.freshUntil), .int .i64 (r.data.signature)]] w emp (Post w emp (fun x : GoT.X (Log) => .tuple #[.agg ⟨GoT.sh ((impl_AppendRecord l r).1 : Log) x⟩, .bool ((impl_AppendRecord l r).2)]) (fun x => GoT.oa ((impl_AppendRecord l r).1 : Log) x) (GoT.ok (n + 1) ((impl_AppendRecord l r).1 : Log))) := by
  have hbP := bd_pos n
  have hbS0 := bd_succ (n := n) (by omega)
  have hbB := bd_big (n := (n + 1)) (by omega)
  have hbM := bd_mono (show n ≤ n + 1 by omega)
  refine WX.enter (tt := tt) (Γ := [(0, MF.rs .stb plDurable clDurable l.durable), (1, MF.rs .stb plVolatile clVolatile l.volatile), (2, MF.rs .stb prDataName crDataName r.data.name.parts), (3, MF.rs .stb prDataContent crDataContent r.data.content), (4, MF.rs .stb prDataKeyName crDataKeyName r.data.keyName.parts)]) Try.func55 rfl (by kernel_rfl) rfl (allS_cons rfl hplDurable (allS_cons rfl hplVolatile (allS_cons rfl hprDataName (allS_cons rfl hprDataContent (allS_cons rfl hprDataKeyName allS_nil))))) ?_
  refine WX.run ttOk rfl ?_
  refine WX.callF 5 (fun _ _ h => GoT.ow_rd h) (fun _ f hf => GoT.fak f hf) rfl rfl rfl rfl rfl (fun _ => rfl) rfl (fun w G bs hI hΓ => f90 w n (by omega) l plDurable clDurable (hΓ.get 0 rfl) plVolatile clVolatile (hΓ.get 1 rfl) hokl) (fun _ => rfl) (fun _ => rfl) ?_
  rintro ⟨⟨p1, c1⟩, ⟨p2, c2⟩⟩ hq1
  refine WX.run ttOk rfl ?_
  refine WX.draw [9, 10, 11] mixed ?_
  intro bs G0 hΓ0
  refine DX.takes (fuel := 6) ttOk [(0, true), (1, false), (2, true), (3, false), (4, true), (5, false)] (by kernel_rfl) rfl ?_
  refine DX.callF 6 9 (fun _ _ h => GoT.ow_rd h) (fun _ f hf => GoT.fak f hf) rfl (by kernel_rfl) rfl rfl rfl rfl rfl rfl (fun _ => rfl) rfl (fun w G bs hI hΓ => f70 w n (by omega) r.data prDataName crDataName (hΓ.get 2 rfl) prDataContent crDataContent (hΓ.get 3 rfl) prDataKeyName crDataKeyName (hΓ.get 4 rfl) ((ok_Record hokr).2)) (fun _ => rfl) (fun _ => rfl) ?_
  rintro ⟨⟨p3, c3⟩, ⟨p4, c4⟩, ⟨p5, c5⟩, ⟨⟩, ⟨⟩⟩ hq2
  refine DX.takes (fuel := 4) ttOk [(7, true)] (by kernel_rfl) rfl ?_
  refine DX.tail2 [8, 9, 10, 11] rfl rfl (by kernel_rfl) ?_
  refine WX.bld ttOk rfl rfl rfl rfl rfl rfl rfl ?_
  intro p6
  refine WX.opn (kk := 6) 501 8 15 rfl rfl rfl ?_
  intro xs1 hx1
  refine WX.turn [12, 13, 14] 16 rfl (fun h hs => ol_one (α := Record) (a := (Record.mk r.kind (impl_copyData r.data))) (x := ((), ((p3, c3), (p4, c4), (p5, c5), (), ()))) hs) (gs := [MF.ol [.int .i64 (r.kind), .slice p3 (((impl_copyData r.data).name.parts).length) c3, .slice p4 (((impl_copyData r.data).content).length) c4, .slice p5 (((impl_copyData r.data).keyName.parts).length) c5, .int .i64 ((impl_copyData r.data).freshUntil), .int .i64 ((impl_copyData r.data).signature)] ([(Record.mk r.kind (impl_copyData r.data))] : List Record)]) rfl ?_
  have r1 : -9223372036854775808 ≤ r.kind ∧ r.kind ≤ 9223372036854775807 := (ok_Record hokr).1
  have r2 : ((impl_copyLog l).volatile).length ≤ bd n := (okl (ok_Log hq1).2).1
  refine WX.appR1 501 17 (((impl_copyLog l).volatile ++ [(Record.mk r.kind (impl_copyData r.data))]) : List Record).length ttOk rfl rfl rfl rfl rfl rfl rfl rfl rfl rfl rfl rfl rfl (by simp [Value.oneCell']) (by simp) (by simp; omega) (by simp; omega) (fun _ _ => rfl) ?_
  intro p7 c6
  refine WX.turn [15, 16] 17 rfl (fun h hs => ol_app hs) (gs := [MF.ol (xs1 ++ [.int .i64 (r.kind), .slice p3 (((impl_copyData r.data).name.parts).length) c3, .slice p4 (((impl_copyData r.data).content).length) c4, .slice p5 (((impl_copyData r.data).keyName.parts).length) c5, .int .i64 ((impl_copyData r.data).freshUntil), .int .i64 ((impl_copyData r.data).signature)]) (((impl_copyLog l).volatile ++ [(Record.mk r.kind (impl_copyData r.data))]) : List Record)]) rfl ?_
  refine WX.run ttOk rfl ?_
  refine WX.seal 501 17 18 rfl rfl rfl rfl rfl ?_
  refine WX.der 20 (MF.rs .der p1 c1 ((impl_copyLog l).durable)) rfl (fun _ hΓ => (hΓ.get 7 rfl : OwSl _ _ _ _).rd) ?_
  refine WX.callV rfl rfl rfl rfl rfl (fun _ => rfl) rfl (fun w G bs hI hΓ => f79 w (n + 1) (by omega) (Log.mk ((impl_copyLog l).durable) ((impl_copyLog l).volatile ++ [(Record.mk r.kind (impl_copyData r.data))])) p1 c1 (hΓ.get 20 rfl) p7 c6 (hΓ.get 18 rfl) (And.intro (GoT.okm (α := List Record) (by omega) (ok_Log hq1).1) (okl_mk (by simp; omega) (fun a ha => GoT.okm (by omega) ((all_app (okl (ok_Log hq1).2).2 (all_cons (α := Record) (And.intro (ok_Record hokr).1 hq2) (fun a ha => by cases ha))) a ha)) : GoT.ok (n + 1) (((impl_copyLog l).volatile ++ [(Record.mk r.kind (impl_copyData r.data))]) : List Record)))) ?_
  intro hq3
  refine WX.run ttOk rfl ?_
  refine WX.cases 22 rfl (fun h1 => ?_) (fun h1 => ?_)
  · skip
    have h1d := (B.nt h1)
    refine WX.run ttOk rfl ?_
    refine WX.callF 21 (fun _ _ h => GoT.ow_rd h) (fun _ f hf => GoT.fak f hf) rfl rfl rfl rfl rfl (fun _ => rfl) rfl (fun w G bs hI hΓ => f90 w n (by omega) l plDurable clDurable (hΓ.get 0 rfl) plVolatile clVolatile (hΓ.get 1 rfl) hokl) (fun _ => rfl) (fun _ => rfl) ?_
    rintro ⟨⟨p8, c7⟩, ⟨p9, c8⟩⟩ hq4
    refine WX.run ttOk rfl ?_
    have hP1 : impl_AppendRecord l r = (impl_copyLog l, false) := by simp only [impl_AppendRecord, h1, cond_true, cond_false]
    refine WX.ret ttOk rfl ?_
    intro w1 G bs hI hΓ
    rw [hP1]
    exact Post.of [23, 24] ((p8, c7), (p9, c8)) hI hΓ rfl rfl rfl (And.intro (GoT.okm (α := List Record) (by omega) (ok_Log hq4).1) (GoT.okm (α := List Record) (by omega) (ok_Log hq4).2))
  · skip
    have h1d := (B.nf h1)
    refine WX.run ttOk rfl ?_
    have hP2 : impl_AppendRecord l r = (Log.mk ((impl_copyLog l).durable) ((impl_copyLog l).volatile ++ [(Record.mk r.kind (impl_copyData r.data))]), true) := by simp only [impl_AppendRecord, h1, cond_true, cond_false]
    refine WX.ret ttOk rfl ?_
    intro w1 G bs hI hΓ
    rw [hP2]
    exact Post.of [7, 19] ((p1, c1), (p7, c6)) hI hΓ rfl rfl rfl (And.intro (GoT.okm (α := List Record) (by omega) (ok_Log hq1).1) (okl_mk (by simp; omega) (fun a ha => GoT.okm (by omega) ((all_app (okl (ok_Log hq1).2).2 (all_cons (α := Record) (And.intro (ok_Record hokr).1 hq2) (fun a ha => by cases ha))) a ha)) : GoT.ok (n + 1) (((impl_copyLog l).volatile ++ [(Record.mk r.kind (impl_copyData r.data))]) : List Record)))
theorem f53 (w : World) (n : Nat) (hn : n + 1 ≤ 9) (l : Log) (plDurable : Option Addr) (clDurable : Nat) (hplDurable : RdSl (hp w) plDurable clDurable l.durable) (plVolatile : Option Addr) (clVolatile : Nat) (hplVolatile : RdSl (hp w) plVolatile clVolatile l.volatile) (r : Record) (prDataName : Option Addr) (crDataName : Nat) (hprDataName : RdSl (hp w) prDataName crDataName r.data.name.parts) (prDataContent : Option Addr) (crDataContent : Nat) (hprDataContent : RdSl (hp w) prDataContent crDataContent r.data.content) (prDataKeyName : Option Addr) (crDataKeyName : Nat) (hprDataKeyName : RdSl (hp w) prDataKeyName crDataKeyName r.data.keyName.parts) (hokl : GoT.ok n l) (hokr : GoT.ok n r) :
    Does Try.prog 53 #[.agg #[.slice plDurable ((l.durable).length) clDurable, .slice plVolatile ((l.volatile).length) clVolatile], .agg #[.int .i64 (r.kind), .slice prDataName ((r.data.name.parts).length) crDataName, .slice prDataContent ((r.data.content).length) crDataContent, .slice prDataKeyName ((r.data.keyName.parts).length) crDataKeyName, .int .i64 (r.data.freshUntil), .int .i64 (r.data.signature)]] w emp (Post w emp (fun x : GoT.X (Log) => .tuple #[.agg ⟨GoT.sh ((spec_AppendRecord l r).1 : Log) x⟩, .bool ((spec_AppendRecord l r).2)]) (fun x => GoT.oa ((spec_AppendRecord l r).1 : Log) x) (GoT.ok (n + 1) ((spec_AppendRecord l r).1 : Log))) := by
  have hbP := bd_pos n
  have hbS0 := bd_succ (n := n) (by omega)
  have hbB := bd_big (n := (n + 1)) (by omega)
  have hbM := bd_mono (show n ≤ n + 1 by omega)
  refine WX.enter (tt := tt) (Γ := [(0, MF.rs .stb plDurable clDurable l.durable), (1, MF.rs .stb plVolatile clVolatile l.volatile), (2, MF.rs .stb prDataName crDataName r.data.name.parts), (3, MF.rs .stb prDataContent crDataContent r.data.content), (4, MF.rs .stb prDataKeyName crDataKeyName r.data.keyName.parts)]) Try.func53 rfl (by kernel_rfl) rfl (allS_cons rfl hplDurable (allS_cons rfl hplVolatile (allS_cons rfl hprDataName (allS_cons rfl hprDataContent (allS_cons rfl hprDataKeyName allS_nil))))) ?_
  refine WX.run ttOk rfl ?_
  refine WX.callF 5 (fun _ _ h => GoT.ow_rd h) (fun _ f hf => GoT.fak f hf) rfl rfl rfl rfl rfl (fun _ => rfl) rfl (fun w G bs hI hΓ => f88 w n (by omega) l plDurable clDurable (hΓ.get 0 rfl) plVolatile clVolatile (hΓ.get 1 rfl) hokl) (fun _ => rfl) (fun _ => rfl) ?_
  rintro ⟨⟨p1, c1⟩, ⟨p2, c2⟩⟩ hq1
  refine WX.run ttOk rfl ?_
  refine WX.draw [9, 10, 11] mixed ?_
  intro bs G0 hΓ0
  refine DX.takes (fuel := 6) ttOk [(0, true), (1, false), (2, true), (3, false), (4, true), (5, false)] (by kernel_rfl) rfl ?_
  refine DX.callF 6 9 (fun _ _ h => GoT.ow_rd h) (fun _ f hf => GoT.fak f hf) rfl (by kernel_rfl) rfl rfl rfl rfl rfl rfl (fun _ => rfl) rfl (fun w G bs hI hΓ => f66 w n (by omega) r.data prDataName crDataName (hΓ.get 2 rfl) prDataContent crDataContent (hΓ.get 3 rfl) prDataKeyName crDataKeyName (hΓ.get 4 rfl) ((ok_Record hokr).2)) (fun _ => rfl) (fun _ => rfl) ?_
  rintro ⟨⟨p3, c3⟩, ⟨p4, c4⟩, ⟨p5, c5⟩, ⟨⟩, ⟨⟩⟩ hq2
  refine DX.takes (fuel := 4) ttOk [(7, true)] (by kernel_rfl) rfl ?_
  refine DX.tail2 [8, 9, 10, 11] rfl rfl (by kernel_rfl) ?_
  refine WX.bld ttOk rfl rfl rfl rfl rfl rfl rfl ?_
  intro p6
  refine WX.opn (kk := 6) 501 8 15 rfl rfl rfl ?_
  intro xs1 hx1
  refine WX.turn [12, 13, 14] 16 rfl (fun h hs => ol_one (α := Record) (a := (Record.mk r.kind (spec_l8Copy r.data))) (x := ((), ((p3, c3), (p4, c4), (p5, c5), (), ()))) hs) (gs := [MF.ol [.int .i64 (r.kind), .slice p3 (((spec_l8Copy r.data).name.parts).length) c3, .slice p4 (((spec_l8Copy r.data).content).length) c4, .slice p5 (((spec_l8Copy r.data).keyName.parts).length) c5, .int .i64 ((spec_l8Copy r.data).freshUntil), .int .i64 ((spec_l8Copy r.data).signature)] ([(Record.mk r.kind (spec_l8Copy r.data))] : List Record)]) rfl ?_
  have r1 : -9223372036854775808 ≤ r.kind ∧ r.kind ≤ 9223372036854775807 := (ok_Record hokr).1
  have r2 : ((spec_l29Copy l).volatile).length ≤ bd n := (okl (ok_Log hq1).2).1
  refine WX.appR1 501 17 (((spec_l29Copy l).volatile ++ [(Record.mk r.kind (spec_l8Copy r.data))]) : List Record).length ttOk rfl rfl rfl rfl rfl rfl rfl rfl rfl rfl rfl rfl rfl (by simp [Value.oneCell']) (by simp) (by simp; omega) (by simp; omega) (fun _ _ => rfl) ?_
  intro p7 c6
  refine WX.turn [15, 16] 17 rfl (fun h hs => ol_app hs) (gs := [MF.ol (xs1 ++ [.int .i64 (r.kind), .slice p3 (((spec_l8Copy r.data).name.parts).length) c3, .slice p4 (((spec_l8Copy r.data).content).length) c4, .slice p5 (((spec_l8Copy r.data).keyName.parts).length) c5, .int .i64 ((spec_l8Copy r.data).freshUntil), .int .i64 ((spec_l8Copy r.data).signature)]) (((spec_l29Copy l).volatile ++ [(Record.mk r.kind (spec_l8Copy r.data))]) : List Record)]) rfl ?_
  refine WX.run ttOk rfl ?_
  refine WX.seal 501 17 18 rfl rfl rfl rfl rfl ?_
  refine WX.der 20 (MF.rs .der p1 c1 ((spec_l29Copy l).durable)) rfl (fun _ hΓ => (hΓ.get 7 rfl : OwSl _ _ _ _).rd) ?_
  refine WX.callV rfl rfl rfl rfl rfl (fun _ => rfl) rfl (fun w G bs hI hΓ => f77 w (n + 1) (by omega) (Log.mk ((spec_l29Copy l).durable) ((spec_l29Copy l).volatile ++ [(Record.mk r.kind (spec_l8Copy r.data))])) p1 c1 (hΓ.get 20 rfl) p7 c6 (hΓ.get 18 rfl) (And.intro (GoT.okm (α := List Record) (by omega) (ok_Log hq1).1) (okl_mk (by simp; omega) (fun a ha => GoT.okm (by omega) ((all_app (okl (ok_Log hq1).2).2 (all_cons (α := Record) (And.intro (ok_Record hokr).1 hq2) (fun a ha => by cases ha))) a ha)) : GoT.ok (n + 1) (((spec_l29Copy l).volatile ++ [(Record.mk r.kind (spec_l8Copy r.data))]) : List Record)))) ?_
  intro hq3
  refine WX.run ttOk rfl ?_
  refine WX.cases 22 rfl (fun h1 => ?_) (fun h1 => ?_)
  · skip
    have h1d := (B.nt h1)
    refine WX.run ttOk rfl ?_
    refine WX.callF 21 (fun _ _ h => GoT.ow_rd h) (fun _ f hf => GoT.fak f hf) rfl rfl rfl rfl rfl (fun _ => rfl) rfl (fun w G bs hI hΓ => f88 w n (by omega) l plDurable clDurable (hΓ.get 0 rfl) plVolatile clVolatile (hΓ.get 1 rfl) hokl) (fun _ => rfl) (fun _ => rfl) ?_
    rintro ⟨⟨p8, c7⟩, ⟨p9, c8⟩⟩ hq4
    refine WX.run ttOk rfl ?_
    have hP1 : spec_AppendRecord l r = (spec_l29Copy l, false) := by simp only [spec_AppendRecord, h1, cond_true, cond_false]
    refine WX.ret ttOk rfl ?_
    intro w1 G bs hI hΓ
    rw [hP1]
    exact Post.of [23, 24] ((p8, c7), (p9, c8)) hI hΓ rfl rfl rfl (And.intro (GoT.okm (α := List Record) (by omega) (ok_Log hq4).1) (GoT.okm (α := List Record) (by omega) (ok_Log hq4).2))
  · skip
    have h1d := (B.nf h1)
    refine WX.run ttOk rfl ?_
    have hP2 : spec_AppendRecord l r = (Log.mk ((spec_l29Copy l).durable) ((spec_l29Copy l).volatile ++ [(Record.mk r.kind (spec_l8Copy r.data))]), true) := by simp only [spec_AppendRecord, h1, cond_true, cond_false]
    refine WX.ret ttOk rfl ?_
    intro w1 G bs hI hΓ
    rw [hP2]
    exact Post.of [7, 19] ((p1, c1), (p7, c6)) hI hΓ rfl rfl rfl (And.intro (GoT.okm (α := List Record) (by omega) (ok_Log hq1).1) (okl_mk (by simp; omega) (fun a ha => GoT.okm (by omega) ((all_app (okl (ok_Log hq1).2).2 (all_cons (α := Record) (And.intro (ok_Record hokr).1 hq2) (fun a ha => by cases ha))) a ha)) : GoT.ok (n + 1) (((spec_l29Copy l).volatile ++ [(Record.mk r.kind (spec_l8Copy r.data))]) : List Record)))
end Go.Proofs.Ytcipekdocckfgaa
