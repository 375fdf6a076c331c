/-
  What the proof of one law needs: rules of the program logic, functions as Lean functions, contracts. No condition but what each says. Written by a program (pack.py) out of my own texts.
-/
import Derived.Laws.IdiomStrings
import Derived.Test.YtfffongneoegbaaKEncodeVector2
namespace Go.Proofs.Ytfffongneoegbaa
open Go.Stp
set_option linter.unusedVariables false
set_option linter.unusedSimpArgs false
theorem f72 (w : World) (n : Nat) (hn : n + 0 ≤ 9) (a : (List Str)) (pa : Option Addr) (ca : Nat) (hpa : RdSl (hp w) pa ca a) (hoka : GoT.ok n a) :
    Does Try.prog 72 #[.slice pa ((a).length) ca] w emp (Post w emp (fun x : GoT.X ((List Str)) => (GoT.sh ((laws_toStringS a) : (List Str)) x).headD undef) (fun x => GoT.oa ((laws_toStringS a) : (List Str)) x) (GoT.ok n ((laws_toStringS a) : (List Str)))) := by
  have hbP := bd_pos n
  have hbB := bd_big (n := n) (by omega)
  refine WX.enter (tt := tt) (Γ := [(0, MF.rs .stb pa ca a)]) Try.func72 rfl (by kernel_rfl) rfl (allS_cons rfl hpa allS_nil) ?_
  refine WX.run ttOk rfl ?_
  have r1 : (a).length ≤ bd n := (okl hoka).1
  refine WX.mkS ((a).length) ttOk rfl rfl rfl rfl rfl rfl rfl (by omega) (by omega) rfl ?_
  intro p1
  refine WX.free 1 (MF.ol (zrep ((a).length) [.string (⟨#[]⟩ : Str)]) ((List.replicate ((a).length) (⟨#[]⟩ : Str)) : List Str)) (ol_zrep (α := Str) (z0 := (⟨#[]⟩ : Str)) (x0 := ()) rfl trivial _) ?_
  refine WX.run ttOk rfl ?_
  refine WX.loop (ι := (List Value) × (List Str) × Nat) ⟨fun | (xsout, out, i) => (i ≤ (a).length) ∧ (out.length = (a).length) ∧ (∀ z_ ∈ out, GoT.ok n z_) ∧ (laws_toStringS_L1 a 0 ((List.replicate ((a).length) (⟨#[]⟩ : Str)) : List Str) = laws_toStringS_L1 ((a).drop i) i out), fun | (xsout, out, i) => (a).length - i, fun | (xsout, out, i) => [(3, .v (.slice p1 ((a).length) ((a).length))), (4, .v (.int .i64 (((i : Nat) : Int)))), (0, .v (.slice pa ((a).length) ca))], fun | (xsout, out, i) => [], fun | (xsout, out, i) => [(7, ⟨1, p1, (a).length, ((a).length), xsout⟩)], fun | (xsout, out, i) => [(0, MF.rs .stb pa ca a), (1, MF.ol xsout (out : List Str))]⟩ ((zrep ((a).length) [.string (⟨#[]⟩ : Str)]), ((List.replicate ((a).length) (⟨#[]⟩ : Str)) : List Str), 0) ⟨(Nat.zero_le _), (by simp), (all_rep (Nat.le_trans (by decide) (bd_pos _))), rfl⟩
    (.cons rfl (.cons rfl (.cons rfl (.nil)))) .nil (.cons rfl (.nil)) [0, 1] rfl ?_
  rintro ⟨xsout, out, i⟩ hpre
  have hpre_ : (i ≤ (a).length) ∧ (out.length = (a).length) ∧ (∀ z_ ∈ out, GoT.ok n z_) ∧ (laws_toStringS_L1 a 0 ((List.replicate ((a).length) (⟨#[]⟩ : Str)) : List Str) = laws_toStringS_L1 ((a).drop i) i out) := hpre
  clear hpre
  obtain ⟨v1, v2, v3, v4⟩ := hpre_
  refine WX.run ttOk rfl ?_
  refine WX.cases 11 rfl (fun h1 => ?_) (fun h1 => ?_)
  · skip
    have h1d := B.dt h1
    have e1i : i < (a).length := (by omega)
    obtain ⟨e1, e1h⟩ : ∃ e1, (a)[i]? = some e1 := ⟨_, List.getElem?_eq_getElem e1i⟩
    have ok1 : GoT.ok n e1 := (okl hoka).2 _ (List.mem_of_getElem? e1h)
    refine WX.run ttOk rfl ?_
    refine WX.idx 0 i ttOk rfl rfl rfl rfl rfl rfl rfl rfl rfl rfl e1i ?_
    rintro ad1 rfl
    refine WX.ldE 0 2 e1 ttOk rfl rfl rfl rfl rfl rfl rfl rfl e1h (fun _ => rfl) (fun _ => rfl) ?_
    rintro ⟨⟩
    have hr1 : i < (a).length := (by first | assumption | omega)
    refine WX.idxR 7 i ttOk rfl rfl rfl rfl rfl rfl rfl rfl rfl hr1 ?_
    rintro ad2 rfl
    have e2i : i < (out).length := (by first | assumption | omega)
    obtain ⟨e2, e2h⟩ : ∃ e2, (out)[i]? = some e2 := ⟨_, List.getElem?_eq_getElem e2i⟩
    have ok2 : GoT.ok n e2 := v3 _ (List.mem_of_getElem? e2h)
    refine WX.opnE (α := Str) (e := e2) 7 1 2 i rfl rfl rfl e2h (fun _ => rfl) (fun _ _ _ => rfl) (fun _ _ _ => rfl) ?_
    rintro A1 B1 ⟨⟩ hA1 hB1
    refine WX.stA 7 ttOk rfl rfl rfl rfl rfl rfl rfl rfl rfl rfl rfl rfl rfl rfl hA1 hr1 rfl rfl rfl rfl (by simp) rfl ?_
    refine WX.run ttOk rfl ?_
    refine WX.see rfl rfl rfl (fun _ hΓ => looks_arith rfl rfl rfl rfl (by unfold I64; first | omega | (simp only [List.length_take, List.length_drop] at *; omega) | (dsimp only; omega))) ?_
    refine WX.run ttOk rfl ?_
    refine WX.turn [2, 3] 4 rfl (fun h hs => cl_elem (α := Str) (e := e1) (x := ()) e2i hs) (gs := [MF.ol (A1 ++ [.string e1] ++ B1) (out.set i e1)]) rfl ?_
    refine WX.turn [4] 1 rfl (fun _ h => h) rfl ?_
    exact WX.iter ((A1 ++ [.string e1] ++ B1), ((out.set i e1) : List Str), i + 1) ⟨(by omega), (by first | assumption | omega | (simp only [List.length_append, List.length_cons, List.length_nil, List.length_set, List.length_map, List.length_take, List.length_drop]; omega) | (simp; omega)), (all_set v3 (show GoT.ok n (e1 : Str) from ok1)), (by rw [v4, drop_get e1h]; simp only [laws_toStringS_L1, e2h, cond_true, cond_false])⟩ (by first | (dsimp only; omega) | omega) (.cons rfl (.cons rfl (.cons rfl (.nil)))) .nil (.cons rfl (.nil)) [0, 1] rfl
  · skip
    have h1d := B.df h1
    refine WX.run ttOk rfl ?_
    have hX1 : laws_toStringS_L1 a 0 ((List.replicate ((a).length) (⟨#[]⟩ : Str)) : List Str) = ((out) : List Str) := by rw [v4, List.drop_eq_nil_of_le (show (a).length ≤ i by omega)]; simp only [laws_toStringS_L1, cond_true, cond_false]
    refine WX.seal 7 1 5 rfl rfl (show (a).length = (out).length from by omega) rfl rfl ?_
    refine WX.slot 2 (y := .v (.slice p1 (out).length ((a).length))) rfl (fun _ => by show (Value.slice p1 ((a).length) ((a).length) : Value) = Value.slice p1 (out).length ((a).length); rw [(show (a).length = (out).length from by omega)]) ?_
    refine WX.slot 21 (y := .v (.slice p1 (out).length ((a).length))) rfl (fun _ => by show (Value.slice p1 ((a).length) ((a).length) : Value) = Value.slice p1 (out).length ((a).length); rw [(show (a).length = (out).length from by omega)]) ?_
    refine WX.slot 3 (y := .v (.slice p1 (out).length ((a).length))) rfl (fun _ => by show (Value.slice p1 ((a).length) ((a).length) : Value) = Value.slice p1 (out).length ((a).length); rw [(show (a).length = (out).length from by omega)]) ?_
    have hP1 : laws_toStringS a = out := by simp only [laws_toStringS, hX1, cond_true, cond_false]
    refine WX.ret ttOk rfl ?_
    intro w1 G bs hI hΓ
    rw [hP1]
    exact Post.of [6] (p1, ((a).length)) hI hΓ rfl rfl rfl (okl_mk (by omega) v3 : GoT.ok n (out : List Str))
theorem f62 (w : World) (n : Nat) (hn : n + 0 ≤ 9) (a : Name) (pa : Option Addr) (ca : Nat) (hpa : RdSl (hp w) pa ca a.parts) (hoka : GoT.ok n a) :
    Does Try.prog 62 #[.agg #[.slice pa ((a.parts).length) ca]] w emp (Post w emp (fun x : GoT.X (Name) => .agg ⟨GoT.sh ((laws_toName a) : Name) x⟩) (fun x => GoT.oa ((laws_toName a) : Name) x) (GoT.ok n ((laws_toName a) : Name))) := by
  have hbP := bd_pos n
  have hbB := bd_big (n := n) (by omega)
  refine WX.enter (tt := tt) (Γ := [(0, MF.rs .stb pa ca a.parts)]) Try.func62 rfl (by kernel_rfl) rfl (allS_cons rfl hpa allS_nil) ?_
  refine WX.run ttOk rfl ?_
  refine WX.callF 1 (fun _ _ h => GoT.ow_rd h) (fun _ f hf => GoT.fak f hf) rfl rfl rfl rfl rfl (fun _ => rfl) rfl (fun w G bs hI hΓ => f72 w n (by omega) a.parts pa ca (hΓ.get 0 rfl) (ok_Name hoka)) (fun _ => rfl) (fun _ => rfl) ?_
  rintro ⟨p1, c1⟩ hq1
  refine WX.run ttOk rfl ?_
  have hP1 : laws_toName a = (Name.mk (laws_toStringS a.parts)) := by simp only [laws_toName, cond_true, cond_false]
  refine WX.ret ttOk rfl ?_
  intro w1 G bs hI hΓ
  rw [hP1]
  exact Post.of [2] (p1, c1) hI hΓ rfl rfl rfl hq1
theorem f46 (w : World) (n : Nat) (hn : n + 0 ≤ 9) (a : TableEntry) (paName : Option Addr) (caName : Nat) (hpaName : RdSl (hp w) paName caName a.name.parts) (hoka : GoT.ok n a) :
    Does Try.prog 46 #[.agg #[.slice paName ((a.name.parts).length) caName, .int .i64 (a.value)]] w emp (Post w emp (fun x : GoT.X (TableEntry) => .agg ⟨GoT.sh ((laws_toTableEntry a) : TableEntry) x⟩) (fun x => GoT.oa ((laws_toTableEntry a) : TableEntry) x) (GoT.ok n ((laws_toTableEntry a) : TableEntry))) := by
  have hbP := bd_pos n
  have hbB := bd_big (n := n) (by omega)
  refine WX.enter (tt := tt) (Γ := [(0, MF.rs .stb paName caName a.name.parts)]) Try.func46 rfl (by kernel_rfl) rfl (allS_cons rfl hpaName allS_nil) ?_
  refine WX.run ttOk rfl ?_
  refine WX.callF 1 (fun _ _ h => GoT.ow_rd h) (fun _ f hf => GoT.fak f hf) rfl rfl rfl rfl rfl (fun _ => rfl) rfl (fun w G bs hI hΓ => f62 w n (by omega) a.name paName caName (hΓ.get 0 rfl) ((ok_TableEntry hoka).1)) (fun _ => rfl) (fun _ => rfl) ?_
  rintro ⟨p1, c1⟩ hq1
  refine WX.run ttOk rfl ?_
  have hP1 : laws_toTableEntry a = (TableEntry.mk (laws_toName a.name) a.value) := by simp only [laws_toTableEntry, cond_true, cond_false]
  refine WX.ret ttOk rfl ?_
  intro w1 G bs hI hΓ
  rw [hP1]
  exact Post.of [2] ((p1, c1), ()) hI hΓ rfl rfl rfl (And.intro hq1 (ok_TableEntry hoka).2)
theorem f29 (w : World) (n : Nat) (hn : n + 0 ≤ 9) (a : (List TableEntry)) (pa : Option Addr) (ca : Nat) (hpa : RdSl (hp w) pa ca a) (hoka : GoT.ok n a) :
    Does Try.prog 29 #[.slice pa ((a).length) ca] w emp (Post w emp (fun x : GoT.X ((List TableEntry)) => (GoT.sh ((laws_toTableEntryS a) : (List TableEntry)) x).headD undef) (fun x => GoT.oa ((laws_toTableEntryS a) : (List TableEntry)) x) (GoT.ok n ((laws_toTableEntryS a) : (List TableEntry)))) := by
  have hbP := bd_pos n
  have hbB := bd_big (n := n) (by omega)
  refine WX.enter (tt := tt) (Γ := [(0, MF.rs .stb pa ca a)]) Try.func29 rfl (by kernel_rfl) rfl (allS_cons rfl hpa allS_nil) ?_
  refine WX.run ttOk rfl ?_
  have r1 : (a).length ≤ bd n := (okl hoka).1
  refine WX.mkS ((a).length) ttOk rfl rfl rfl rfl rfl rfl rfl (by omega) (by omega) rfl ?_
  intro p1
  refine WX.free 1 (MF.ol (zrep ((a).length) [.slice none (0) 0, .int .i64 (0)]) ((List.replicate ((a).length) (TableEntry.mk (Name.mk ([])) 0)) : List TableEntry)) (ol_zrep (α := TableEntry) (z0 := (TableEntry.mk (Name.mk ([])) 0)) (x0 := ((none, 0), ())) rfl (sep_emp_cons (owSl_nil _ _) trivial) _) ?_
  refine WX.run ttOk rfl ?_
  refine WX.loop (ι := (List Value) × (List TableEntry) × Nat) ⟨fun | (xsout, out, i) => (i ≤ (a).length) ∧ (out.length = (a).length) ∧ (∀ z_ ∈ out, GoT.ok n z_) ∧ (laws_toTableEntryS_L1 a 0 ((List.replicate ((a).length) (TableEntry.mk (Name.mk ([])) 0)) : List TableEntry) = laws_toTableEntryS_L1 ((a).drop i) i out), fun | (xsout, out, i) => (a).length - i, fun | (xsout, out, i) => [(3, .v (.slice p1 ((a).length) ((a).length))), (4, .v (.int .i64 (((i : Nat) : Int)))), (0, .v (.slice pa ((a).length) ca))], fun | (xsout, out, i) => [], fun | (xsout, out, i) => [(7, ⟨2, p1, (a).length, ((a).length), xsout⟩)], fun | (xsout, out, i) => [(0, MF.rs .stb pa ca a), (1, MF.ol xsout (out : List TableEntry))]⟩ ((zrep ((a).length) [.slice none (0) 0, .int .i64 (0)]), ((List.replicate ((a).length) (TableEntry.mk (Name.mk ([])) 0)) : List TableEntry), 0) ⟨(Nat.zero_le _), (by simp), (all_rep (And.intro (ok_nil (α := Str)) (show I64 0 from (by unfold I64; omega)))), rfl⟩
    (.cons rfl (.cons rfl (.cons rfl (.nil)))) .nil (.cons rfl (.nil)) [0, 1] rfl ?_
  rintro ⟨xsout, out, i⟩ hpre
  have hpre_ : (i ≤ (a).length) ∧ (out.length = (a).length) ∧ (∀ z_ ∈ out, GoT.ok n z_) ∧ (laws_toTableEntryS_L1 a 0 ((List.replicate ((a).length) (TableEntry.mk (Name.mk ([])) 0)) : List TableEntry) = laws_toTableEntryS_L1 ((a).drop i) i out) := hpre
  clear hpre
  obtain ⟨v1, v2, v3, v4⟩ := hpre_
  refine WX.run ttOk rfl ?_
  refine WX.cases 11 rfl (fun h1 => ?_) (fun h1 => ?_)
  · skip
    have h1d := B.dt h1
    have e1i : i < (a).length := (by omega)
    obtain ⟨e1, e1h⟩ : ∃ e1, (a)[i]? = some e1 := ⟨_, List.getElem?_eq_getElem e1i⟩
    have ok1 : GoT.ok n e1 := (okl hoka).2 _ (List.mem_of_getElem? e1h)
    refine WX.run ttOk rfl ?_
    refine WX.idx 0 i ttOk rfl rfl rfl rfl rfl rfl rfl rfl rfl rfl e1i ?_
    rintro ad1 rfl
    refine WX.ldE 0 2 e1 ttOk rfl rfl rfl rfl rfl rfl rfl rfl e1h (fun _ => rfl) (fun _ => rfl) ?_
    rintro ⟨⟨p2, c1⟩, ⟨⟩⟩
    refine WX.callF 3 (fun _ _ h => GoT.ow_rd h) (fun _ f hf => GoT.fak f hf) rfl rfl rfl rfl rfl (fun _ => rfl) rfl (fun w G bs hI hΓ => f46 w n (by omega) e1 p2 c1 (hΓ.get 2 rfl) ok1) (fun _ => rfl) (fun _ => rfl) ?_
    rintro ⟨⟨p3, c2⟩, ⟨⟩⟩ hq1
    have hr1 : i < (a).length := (by first | assumption | omega)
    refine WX.idxR 7 i ttOk rfl rfl rfl rfl rfl rfl rfl rfl rfl hr1 ?_
    rintro ad2 rfl
    have e2i : i < (out).length := (by first | assumption | omega)
    obtain ⟨e2, e2h⟩ : ∃ e2, (out)[i]? = some e2 := ⟨_, List.getElem?_eq_getElem e2i⟩
    have ok2 : GoT.ok n e2 := v3 _ (List.mem_of_getElem? e2h)
    refine WX.opnE (α := TableEntry) (e := e2) 7 1 5 i rfl rfl rfl e2h (fun _ => rfl) (fun _ _ _ => rfl) (fun _ _ _ => rfl) ?_
    rintro A1 B1 ⟨⟨p4, c3⟩, ⟨⟩⟩ hA1 hB1
    refine WX.stA 7 ttOk rfl rfl rfl rfl rfl rfl rfl rfl rfl rfl rfl rfl rfl rfl hA1 hr1 rfl rfl rfl rfl (by simp) rfl ?_
    refine WX.run ttOk rfl ?_
    refine WX.see rfl rfl rfl (fun _ hΓ => looks_arith rfl rfl rfl rfl (by unfold I64; first | omega | (simp only [List.length_take, List.length_drop] at *; omega) | (dsimp only; omega))) ?_
    refine WX.run ttOk rfl ?_
    refine WX.turn [4, 7, 8] 9 rfl (fun h hs => cl_elem (α := TableEntry) (e := (laws_toTableEntry e1)) (x := ((p3, c2), ())) e2i hs) (gs := [MF.ol (A1 ++ [.slice p3 (((laws_toTableEntry e1).name.parts).length) c2, .int .i64 ((laws_toTableEntry e1).value)] ++ B1) (out.set i (laws_toTableEntry e1))]) rfl ?_
    refine WX.turn [9] 1 rfl (fun _ h => h) rfl ?_
    exact WX.iter ((A1 ++ [.slice p3 (((laws_toTableEntry e1).name.parts).length) c2, .int .i64 ((laws_toTableEntry e1).value)] ++ B1), ((out.set i (laws_toTableEntry e1)) : List TableEntry), i + 1) ⟨(by omega), (by first | assumption | omega | (simp only [List.length_append, List.length_cons, List.length_nil, List.length_set, List.length_map, List.length_take, List.length_drop]; omega) | (simp; omega)), (all_set v3 (show GoT.ok n ((laws_toTableEntry e1) : TableEntry) from hq1)), (by rw [v4, drop_get e1h]; simp only [laws_toTableEntryS_L1, e2h, cond_true, cond_false])⟩ (by first | (dsimp only; omega) | omega) (.cons rfl (.cons rfl (.cons rfl (.nil)))) .nil (.cons rfl (.nil)) [0, 1] rfl
  · skip
    have h1d := B.df h1
    refine WX.run ttOk rfl ?_
    have hX1 : laws_toTableEntryS_L1 a 0 ((List.replicate ((a).length) (TableEntry.mk (Name.mk ([])) 0)) : List TableEntry) = ((out) : List TableEntry) := by rw [v4, List.drop_eq_nil_of_le (show (a).length ≤ i by omega)]; simp only [laws_toTableEntryS_L1, cond_true, cond_false]
    refine WX.seal 7 1 10 rfl rfl (show (a).length = (out).length from by omega) rfl rfl ?_
    refine WX.slot 2 (y := .v (.slice p1 (out).length ((a).length))) rfl (fun _ => by show (Value.slice p1 ((a).length) ((a).length) : Value) = Value.slice p1 (out).length ((a).length); rw [(show (a).length = (out).length from by omega)]) ?_
    refine WX.slot 22 (y := .v (.slice p1 (out).length ((a).length))) rfl (fun _ => by show (Value.slice p1 ((a).length) ((a).length) : Value) = Value.slice p1 (out).length ((a).length); rw [(show (a).length = (out).length from by omega)]) ?_
    refine WX.slot 3 (y := .v (.slice p1 (out).length ((a).length))) rfl (fun _ => by show (Value.slice p1 ((a).length) ((a).length) : Value) = Value.slice p1 (out).length ((a).length); rw [(show (a).length = (out).length from by omega)]) ?_
    have hP1 : laws_toTableEntryS a = out := by simp only [laws_toTableEntryS, hX1, cond_true, cond_false]
    refine WX.ret ttOk rfl ?_
    intro w1 G bs hI hΓ
    rw [hP1]
    exact Post.of [11] (p1, ((a).length)) hI hΓ rfl rfl rfl (okl_mk (by omega) v3 : GoT.ok n (out : List TableEntry))
theorem f12 (w : World) (n : Nat) (hn : n + 0 ≤ 9) (a : StateVector) (pa : Option Addr) (ca : Nat) (hpa : RdSl (hp w) pa ca a.entries) (hoka : GoT.ok n a) :
    Does Try.prog 12 #[.agg #[.slice pa ((a.entries).length) ca]] w emp (Post w emp (fun x : GoT.X (StateVector) => .agg ⟨GoT.sh ((laws_toStateVector a) : StateVector) x⟩) (fun x => GoT.oa ((laws_toStateVector a) : StateVector) x) (GoT.ok n ((laws_toStateVector a) : StateVector))) := by
  have hbP := bd_pos n
  have hbB := bd_big (n := n) (by omega)
  refine WX.enter (tt := tt) (Γ := [(0, MF.rs .stb pa ca a.entries)]) Try.func12 rfl (by kernel_rfl) rfl (allS_cons rfl hpa allS_nil) ?_
  refine WX.run ttOk rfl ?_
  refine WX.callF 1 (fun _ _ h => GoT.ow_rd h) (fun _ f hf => GoT.fak f hf) rfl rfl rfl rfl rfl (fun _ => rfl) rfl (fun w G bs hI hΓ => f29 w n (by omega) a.entries pa ca (hΓ.get 0 rfl) (ok_StateVector hoka)) (fun _ => rfl) (fun _ => rfl) ?_
  rintro ⟨p1, c1⟩ hq1
  refine WX.run ttOk rfl ?_
  have hP1 : laws_toStateVector a = (StateVector.mk (laws_toTableEntryS a.entries)) := by simp only [laws_toStateVector, cond_true, cond_false]
  refine WX.ret ttOk rfl ?_
  intro w1 G bs hI hΓ
  rw [hP1]
  exact Post.of [2] (p1, c1) hI hΓ rfl rfl rfl hq1
end Go.Proofs.Ytfffongneoegbaa

namespace Go.Stp
set_option linter.unusedVariables false
set_option linter.unusedSimpArgs false
def laws_markText_L1 (k2 : Int) (out : Str) : Int × Str :=
  if k2 > 0 then
    laws_markText_L1 (IntKind.i64.wrap (Int.tdiv k2 10)) ((bstr ([(toU8 (IntKind.i64.wrap (48 + (Int.tmod k2 10))))])) ++ out)
  else
    (k2, out)
termination_by k2.toNat
decreasing_by exact wrap_quo10 ‹_›
def laws_markText (k : Int) : Str :=
  bif decide (k ≤ 0) then
    (⟨#[109, 48]⟩ : Str)
  else
    match laws_markText_L1 k (⟨#[]⟩ : Str) with
      | (k2, out) =>
        ((⟨#[109]⟩ : Str) ++ out)
def laws_markStringS_L1 : Nat → Nat → (List Str) → Int → (List Str) × Int
  | 0, i, a2, k2 => (((a2) : List Str), k2)
  | m_ + 1, i, a2, k2 =>
    match (a2)[i]? with
      | none => default
      | some e1 =>
        laws_markStringS_L1 m_ (i + 1) (((a2.set i (laws_markText k2))) : List Str) (IntKind.i64.wrap (k2 + 1))
def laws_markStringS (a : (List Str)) (k : Int) : Int × (List Str) :=
  match laws_markStringS_L1 ((a).length) 0 (a : List Str) k with
    | (a2, k2) =>
      (k2, a2)
def laws_markTableEntryS_L1 : Nat → Nat → (List TableEntry) → Int → (List TableEntry) × Int
  | 0, i, a2, k2 => (((a2) : List TableEntry), k2)
  | m_ + 1, i, a2, k2 =>
    match (a2)[i]? with
      | none => default
      | some e1 =>
        laws_markTableEntryS_L1 m_ (i + 1) (((a2.set i (TableEntry.mk (Name.mk ((laws_markStringS e1.name.parts k2).2)) ((laws_markStringS e1.name.parts k2).1)))) : List TableEntry) (IntKind.i64.wrap (((laws_markStringS e1.name.parts k2).1) + 1))
def laws_markTableEntryS (a : (List TableEntry)) (k : Int) : Int × (List TableEntry) :=
  match laws_markTableEntryS_L1 ((a).length) 0 (a : List TableEntry) k with
    | (a2, k2) =>
      (k2, a2)
def laws_markStateVector (a : StateVector) (k : Int) : Int × StateVector :=
  (((laws_markTableEntryS a.entries k).1), (StateVector.mk ((laws_markTableEntryS a.entries k).2)))
def laws_markByteS_L1 : Nat → Nat → (List UInt8) → Int → (List UInt8) × Int
  | 0, i, a2, k2 => (((a2) : List UInt8), k2)
  | m_ + 1, i, a2, k2 =>
    match (a2)[i]? with
      | none => default
      | some e1 =>
        laws_markByteS_L1 m_ (i + 1) (((a2.set i (toU8 k2))) : List UInt8) (IntKind.i64.wrap (k2 + 1))
def laws_markByteS (a : (List UInt8)) (k : Int) : Int × (List UInt8) :=
  match laws_markByteS_L1 ((a).length) 0 (a : List UInt8) k with
    | (a2, k2) =>
      (k2, a2)
end Go.Stp

namespace Go.Proofs.Ytfffongneoegbaa
open Go.Stp
set_option linter.unusedVariables false
set_option linter.unusedSimpArgs false
theorem f69 (w : World) (n : Nat) (hn : n + 0 ≤ 9) (k : Int) (hokk : GoT.ok n k) :
    Does Try.prog 69 #[.int .i64 (k)] w emp (fun (rv : Value) (_ : World) => rv = .string (laws_markText k) ∧ GoT.ok n ((laws_markText k) : Str)) := by
  have hbP := bd_pos n
  have hbB := bd_big (n := n) (by omega)
  refine WX.enter (tt := tt) (Γ := []) Try.func69 rfl (by kernel_rfl) rfl allS_nil ?_
  refine WX.run ttOk rfl ?_
  refine WX.cases 5 rfl (fun h1 => ?_) (fun h1 => ?_)
  · skip
    have h1d := B.dt h1
    refine WX.run ttOk rfl ?_
    have hP1 : laws_markText k = (⟨#[109, 48]⟩ : Str) := by simp only [laws_markText, h1, cond_true, cond_false]
    refine WX.ret ttOk rfl ?_
    intro w1 G bs hI hΓ
    rw [hP1]
    exact ⟨rfl, (Nat.le_trans (by decide) (bd_pos _))⟩
  · skip
    have h1d := B.df h1
    refine WX.run ttOk rfl ?_
    have r1 : (⟨#[]⟩ : Str).size = 0 := rfl
    refine WX.loop (ι := Int × Str) ⟨fun | (k2, out) => (-9223372036854775808 ≤ k2 ∧ k2 ≤ 9223372036854775807) ∧ (out.size ≤ bd n) ∧ (mkInv k2 out.size) ∧ (laws_markText_L1 k (⟨#[]⟩ : Str) = laws_markText_L1 k2 out), fun | (k2, out) => k2.toNat, fun | (k2, out) => [(0, .v (.int .i64 (k2))), (3, .v (.string out))], fun | (k2, out) => [], fun | (k2, out) => [], fun | (k2, out) => []⟩ (k, (⟨#[]⟩ : Str)) ⟨hokk, (by first | assumption | omega), (mkInv_0 hokk.2), rfl⟩
      (.cons rfl (.cons rfl (.nil))) .nil .nil [] rfl ?_
    rintro ⟨k2, out⟩ hpre
    have hpre_ : (-9223372036854775808 ≤ k2 ∧ k2 ≤ 9223372036854775807) ∧ (out.size ≤ bd n) ∧ (mkInv k2 out.size) ∧ (laws_markText_L1 k (⟨#[]⟩ : Str) = laws_markText_L1 k2 out) := hpre
    clear hpre
    obtain ⟨v1, v2, v3, v4⟩ := hpre_
    have hz0 := mkInv_size v3
    refine WX.run ttOk rfl ?_
    refine WX.cases 7 rfl (fun h2 => ?_) (fun h2 => ?_)
    · skip
      have h2d := B.dt h2
      refine WX.run ttOk rfl ?_
      have r2 := tmod_rng k2 (show (0 : Int) < 10 by omega)
      refine WX.see rfl rfl rfl (fun _ hΓ => looks_rem rfl rfl rfl (by decide)) ?_
      refine WX.see rfl rfl rfl (fun _ hΓ => looks_wrap rfl rfl rfl rfl) ?_
      refine WX.see rfl rfl rfl (fun _ hΓ => looks_toU8 ttOk rfl rfl rfl rfl rfl rfl) ?_
      refine WX.bld ttOk rfl rfl rfl rfl rfl rfl rfl ?_
      intro p1
      refine WX.turn [] 0 rfl (fun h hs => ol_one (α := UInt8) (a := (toU8 (IntKind.i64.wrap (48 + (Int.tmod k2 10))))) (x := ()) hs) (gs := [MF.ol [.int .u8 ((toU8 (IntKind.i64.wrap (48 + (Int.tmod k2 10)))).toNat : Nat)] ([(toU8 (IntKind.i64.wrap (48 + (Int.tmod k2 10))))] : List UInt8)]) rfl ?_
      refine WX.seal 12 0 1 rfl rfl rfl rfl rfl ?_
      refine WX.see rfl rfl rfl (fun _ hΓ => looks_toStr ttOk (hΓ.get 1 rfl) rfl rfl rfl rfl rfl rfl rfl rfl rfl) ?_
      refine WX.run ttOk rfl ?_
      have r3 : (bstr ([(toU8 (IntKind.i64.wrap (48 + (Int.tmod k2 10))))])).size = 1 := bstr_size _
      refine WX.see rfl rfl rfl (fun _ hΓ => looks_cat rfl rfl rfl (by have := bd_le (n + 9); simp; omega)) ?_
      refine WX.run ttOk rfl ?_
      refine WX.see rfl rfl rfl (fun _ hΓ => looks_quo rfl rfl rfl (by decide)) ?_
      refine WX.run ttOk rfl ?_
      have hz1 : (bstr ([(toU8 (IntKind.i64.wrap (48 + (Int.tmod k2 10))))]) ++ out).size = out.size + 1 := by rw [ByteArray.size_append]; show 1 + out.size = out.size + 1; omega
      have hz2 := mkInv_size (mkInv_step h2d v3)
      exact WX.iter (IntKind.i64.wrap (Int.tdiv k2 10), ((bstr ([(toU8 (IntKind.i64.wrap (48 + (Int.tmod k2 10))))])) ++ out)) ⟨(i64_wrap _), (by first | assumption | omega | (simp; omega)), (by rw [hz1]; exact mkInv_step h2d v3), (by rw [v4]; rw [laws_markText_L1]; simp only [h2, h2d, cond_true, cond_false, ↓reduceIte, Bool.false_eq_true])⟩ (wrap_quo10 h2d) (.cons rfl (.cons rfl (.nil))) .nil .nil [] rfl
    · skip
      have h2d := B.df h2
      refine WX.run ttOk rfl ?_
      have hX1 : laws_markText_L1 k (⟨#[]⟩ : Str) = (k2, out) := by rw [v4]; rw [laws_markText_L1]; simp only [h2, h2d, cond_true, cond_false, ↓reduceIte, Bool.false_eq_true]
      have r4 : (⟨#[109]⟩ : Str).size = 1 := rfl
      refine WX.see rfl rfl rfl (fun _ hΓ => looks_cat rfl rfl rfl (by have := bd_le (n + 9); simp; omega)) ?_
      refine WX.run ttOk rfl ?_
      have hP2 : laws_markText k = ((⟨#[109]⟩ : Str) ++ out) := by simp only [laws_markText, h1, hX1, cond_true, cond_false]
      refine WX.ret ttOk rfl ?_
      intro w1 G bs hI hΓ
      rw [hP2]
      exact ⟨rfl, (show (((⟨#[109]⟩ : Str) ++ out)).size ≤ bd n from (by first | omega | (simp; omega)))⟩
theorem f55 (w : World) (n : Nat) (hn : n + 0 ≤ 9) (a : (List Str)) (pa : Option Addr) (ca : Nat) (k : Int) (H : GH) (hH : Le H (hp w)) (hown : Sep H (GoT.oa a (pa, ca))) (hoka : GoT.ok n a) (hokk : GoT.ok n k) :
    Does Try.prog 55 #[.slice pa ((a).length) ca, .int .i64 (k)] w H (Post w H (fun _ : Unit => .int .i64 ((laws_markStringS a k).1)) (fun _ => GoT.oa ((laws_markStringS a k).2 : (List Str)) (pa, ca)) ((GoT.ok n ((laws_markStringS a k).1 : Int) ∧ GoT.ok n ((laws_markStringS a k).2 : (List Str))) ∧ ((laws_markStringS a k).2).length = (a).length)) := by
  have hbP := bd_pos n
  have hbB := bd_big (n := n) (by omega)
  refine WX.enterM (tt := tt) (Γ := []) 1 Try.func55 rfl (by kernel_rfl) rfl allS_nil hH hown (fun f hf => GoT.oak f hf) rfl ?_
  refine WX.opn (kk := 1) 501 1 2 rfl rfl rfl ?_
  intro xs1 hx1
  refine WX.run ttOk rfl ?_
  have r1 : (a).length ≤ bd n := (okl hoka).1
  refine WX.loop (ι := (List Value) × (List Str) × Int × Nat) ⟨fun | (xsa2, a2, k2, i) => (i ≤ (a).length) ∧ (a2.length = (a).length) ∧ (∀ z_ ∈ a2, GoT.ok n z_) ∧ (-9223372036854775808 ≤ k2 ∧ k2 ≤ 9223372036854775807) ∧ (laws_markStringS_L1 ((a).length) 0 (a : List Str) k = laws_markStringS_L1 ((a).length - i) i a2 k2), fun | (xsa2, a2, k2, i) => (a).length - i, fun | (xsa2, a2, k2, i) => [(0, .v (.slice pa ((a).length) ca)), (1, .v (.int .i64 (k2))), (5, .v (.int .i64 (((i : Nat) : Int))))], fun | (xsa2, a2, k2, i) => [], fun | (xsa2, a2, k2, i) => [(501, ⟨1, pa, (a).length, ca, xsa2⟩)], fun | (xsa2, a2, k2, i) => [(2, MF.ol xsa2 (a2 : List Str))]⟩ (xs1, (a : List Str), k, 0) ⟨(Nat.zero_le _), (by simp), (okl hoka).2, hokk, rfl⟩
    (.cons rfl (.cons rfl (.cons rfl (.nil)))) .nil (.cons rfl (.nil)) [2] rfl ?_
  rintro ⟨xsa2, a2, k2, i⟩ hpre
  have hpre_ : (i ≤ (a).length) ∧ (a2.length = (a).length) ∧ (∀ z_ ∈ a2, GoT.ok n z_) ∧ (-9223372036854775808 ≤ k2 ∧ k2 ≤ 9223372036854775807) ∧ (laws_markStringS_L1 ((a).length) 0 (a : List Str) k = laws_markStringS_L1 ((a).length - i) i a2 k2) := hpre
  clear hpre
  obtain ⟨v1, v2, v3, v4, v5⟩ := hpre_
  refine WX.run ttOk rfl ?_
  refine WX.cases 9 rfl (fun h1 => ?_) (fun h1 => ?_)
  · skip
    have h1d := B.dt h1
    refine WX.run ttOk rfl ?_
    refine WX.callV rfl rfl rfl rfl rfl (fun _ => rfl) rfl (fun w G bs hI hΓ => f69 w n (by omega) k2 v4) ?_
    intro hq1
    have hr1 : i < (a).length := (by first | assumption | omega)
    refine WX.idxR 501 i ttOk rfl rfl rfl rfl rfl rfl rfl rfl rfl hr1 ?_
    rintro ad1 rfl
    have e1i : i < (a2).length := (by first | assumption | omega)
    obtain ⟨e1, e1h⟩ : ∃ e1, (a2)[i]? = some e1 := ⟨_, List.getElem?_eq_getElem e1i⟩
    have ok1 : GoT.ok n e1 := v3 _ (List.mem_of_getElem? e1h)
    refine WX.opnE (α := Str) (e := e1) 501 2 3 i rfl rfl rfl e1h (fun _ => rfl) (fun _ _ _ => rfl) (fun _ _ _ => rfl) ?_
    rintro A1 B1 ⟨⟩ hA1 hB1
    refine WX.stA 501 ttOk rfl rfl rfl rfl rfl rfl rfl rfl rfl rfl rfl rfl rfl rfl hA1 hr1 rfl rfl rfl rfl (by simp) rfl ?_
    refine WX.run ttOk rfl ?_
    refine WX.see rfl rfl rfl (fun _ hΓ => looks_wrap rfl rfl rfl rfl) ?_
    refine WX.run ttOk rfl ?_
    refine WX.see rfl rfl rfl (fun _ hΓ => looks_arith rfl rfl rfl rfl (by unfold I64; first | omega | (simp only [List.length_take, List.length_drop] at *; omega) | (dsimp only; omega))) ?_
    refine WX.run ttOk rfl ?_
    refine WX.turn [3, 4] 5 rfl (fun h hs => cl_elem (α := Str) (e := (laws_markText k2)) (x := ()) e1i hs) (gs := [MF.ol (A1 ++ [.string (laws_markText k2)] ++ B1) (a2.set i (laws_markText k2))]) rfl ?_
    refine WX.turn [5] 2 rfl (fun _ h => h) rfl ?_
    exact WX.iter ((A1 ++ [.string (laws_markText k2)] ++ B1), ((a2.set i (laws_markText k2)) : List Str), IntKind.i64.wrap (k2 + 1), i + 1) ⟨(by omega), (by first | assumption | omega | (simp only [List.length_append, List.length_cons, List.length_nil, List.length_set, List.length_map, List.length_take, List.length_drop]; omega) | (simp; omega)), (all_set v3 (show GoT.ok n ((laws_markText k2) : Str) from hq1)), (i64_wrap _), (by rw [v5, show (a).length - i = ((a).length - (i + 1)) + 1 by omega]; simp only [laws_markStringS_L1, e1h, cond_true, cond_false])⟩ (by first | (dsimp only; omega) | omega) (.cons rfl (.cons rfl (.cons rfl (.nil)))) .nil (.cons rfl (.nil)) [2] rfl
  · skip
    have h1d := B.df h1
    refine WX.run ttOk rfl ?_
    have hX1 : laws_markStringS_L1 ((a).length) 0 (a : List Str) k = (((a2) : List Str), k2) := by rw [v5, show (a).length - i = 0 by omega]; simp only [laws_markStringS_L1, cond_true, cond_false]
    refine WX.seal 501 2 6 rfl rfl (show (a).length = (a2).length from by omega) rfl rfl ?_
    refine WX.slot 7 (y := .v (.slice pa (a2).length ca)) rfl (fun _ => by show (Value.slice pa ((a).length) ca : Value) = Value.slice pa (a2).length ca; rw [(show (a).length = (a2).length from by omega)]) ?_
    refine WX.slot 0 (y := .v (.slice pa (a2).length ca)) rfl (fun _ => by show (Value.slice pa ((a).length) ca : Value) = Value.slice pa (a2).length ca; rw [(show (a).length = (a2).length from by omega)]) ?_
    have hP1 : laws_markStringS a k = (k2, a2) := by simp only [laws_markStringS, hX1, cond_true, cond_false]
    refine WX.ret ttOk rfl ?_
    intro w1 G bs hI hΓ
    rw [hP1]
    exact Post.of [7] () hI hΓ rfl rfl rfl ⟨⟨v4, (okl_mk (by omega) v3 : GoT.ok n (a2 : List Str))⟩, (show (a2).length = (a).length from by omega)⟩
theorem f34 (w : World) (n : Nat) (hn : n + 0 ≤ 9) (a : (List TableEntry)) (pa : Option Addr) (ca : Nat) (k : Int) (H : GH) (hH : Le H (hp w)) (hown : Sep H (GoT.oa a (pa, ca))) (hoka : GoT.ok n a) (hokk : GoT.ok n k) :
    Does Try.prog 34 #[.slice pa ((a).length) ca, .int .i64 (k)] w H (Post w H (fun _ : Unit => .int .i64 ((laws_markTableEntryS a k).1)) (fun _ => GoT.oa ((laws_markTableEntryS a k).2 : (List TableEntry)) (pa, ca)) ((GoT.ok n ((laws_markTableEntryS a k).1 : Int) ∧ GoT.ok n ((laws_markTableEntryS a k).2 : (List TableEntry))) ∧ ((laws_markTableEntryS a k).2).length = (a).length)) := by
  have hbP := bd_pos n
  have hbB := bd_big (n := n) (by omega)
  refine WX.enterM (tt := tt) (Γ := []) 1 Try.func34 rfl (by kernel_rfl) rfl allS_nil hH hown (fun f hf => GoT.oak f hf) rfl ?_
  refine WX.opn (kk := 2) 501 1 2 rfl rfl rfl ?_
  intro xs1 hx1
  refine WX.run ttOk rfl ?_
  have r1 : (a).length ≤ bd n := (okl hoka).1
  refine WX.loop (ι := (List Value) × (List TableEntry) × Int × Nat) ⟨fun | (xsa2, a2, k2, i) => (i ≤ (a).length) ∧ (a2.length = (a).length) ∧ (∀ z_ ∈ a2, GoT.ok n z_) ∧ (-9223372036854775808 ≤ k2 ∧ k2 ≤ 9223372036854775807) ∧ (laws_markTableEntryS_L1 ((a).length) 0 (a : List TableEntry) k = laws_markTableEntryS_L1 ((a).length - i) i a2 k2), fun | (xsa2, a2, k2, i) => (a).length - i, fun | (xsa2, a2, k2, i) => [(0, .v (.slice pa ((a).length) ca)), (1, .v (.int .i64 (k2))), (5, .v (.int .i64 (((i : Nat) : Int))))], fun | (xsa2, a2, k2, i) => [], fun | (xsa2, a2, k2, i) => [(501, ⟨2, pa, (a).length, ca, xsa2⟩)], fun | (xsa2, a2, k2, i) => [(2, MF.ol xsa2 (a2 : List TableEntry))]⟩ (xs1, (a : List TableEntry), k, 0) ⟨(Nat.zero_le _), (by simp), (okl hoka).2, hokk, rfl⟩
    (.cons rfl (.cons rfl (.cons rfl (.nil)))) .nil (.cons rfl (.nil)) [2] rfl ?_
  rintro ⟨xsa2, a2, k2, i⟩ hpre
  have hpre_ : (i ≤ (a).length) ∧ (a2.length = (a).length) ∧ (∀ z_ ∈ a2, GoT.ok n z_) ∧ (-9223372036854775808 ≤ k2 ∧ k2 ≤ 9223372036854775807) ∧ (laws_markTableEntryS_L1 ((a).length) 0 (a : List TableEntry) k = laws_markTableEntryS_L1 ((a).length - i) i a2 k2) := hpre
  clear hpre
  obtain ⟨v1, v2, v3, v4, v5⟩ := hpre_
  refine WX.run ttOk rfl ?_
  refine WX.cases 9 rfl (fun h1 => ?_) (fun h1 => ?_)
  · skip
    have h1d := B.dt h1
    refine WX.run ttOk rfl ?_
    have hr1 : i < (a).length := (by first | assumption | omega)
    refine WX.idxR 501 i ttOk rfl rfl rfl rfl rfl rfl rfl rfl rfl hr1 ?_
    rintro ad1 rfl
    refine WX.run ttOk rfl ?_
    have e1i : i < (a2).length := (by first | assumption | omega)
    obtain ⟨e1, e1h⟩ : ∃ e1, (a2)[i]? = some e1 := ⟨_, List.getElem?_eq_getElem e1i⟩
    have ok1 : GoT.ok n e1 := v3 _ (List.mem_of_getElem? e1h)
    refine WX.opnE (α := TableEntry) (e := e1) 501 2 3 i rfl rfl rfl e1h (fun _ => rfl) (fun _ _ _ => rfl) (fun _ _ _ => rfl) ?_
    rintro A1 B1 ⟨⟨p1, c1⟩, ⟨⟩⟩ hA1 hB1
    refine WX.ldA 501 ttOk rfl rfl rfl rfl rfl rfl rfl rfl rfl rfl hA1 hr1 rfl ?_
    refine WX.run ttOk rfl ?_
    refine WX.callM [4] 7 rfl (fun _ _ h => GoT.ow_rd h) (fun _ f hf => GoT.fak f hf) rfl rfl rfl rfl rfl (fun _ => rfl) rfl (fun w G bs H hI hH hs hΓ => f55 w n (by omega) e1.name.parts p1 c1 k2 H hH hs (ok_Name (ok_TableEntry ok1).1) v4) (fun _ => rfl) (fun _ => rfl) ?_
    rintro ⟨⟩ hq1
    have hl1 : ((laws_markStringS e1.name.parts k2).2).length = (e1.name.parts).length := hq1.2
    refine WX.run ttOk rfl ?_
    have hr2 : i < (a).length := (by first | assumption | omega)
    refine WX.idxR 501 i ttOk rfl rfl rfl rfl rfl rfl rfl rfl rfl hr2 ?_
    rintro ad2 ⟨⟩
    refine WX.run ttOk rfl ?_
    refine WX.stA 501 ttOk rfl rfl rfl rfl rfl rfl rfl rfl rfl rfl rfl rfl rfl rfl hA1 hr2 rfl rfl rfl rfl (by simp) rfl ?_
    refine WX.run ttOk rfl ?_
    refine WX.see rfl rfl rfl (fun _ hΓ => looks_wrap rfl rfl rfl rfl) ?_
    refine WX.run ttOk rfl ?_
    refine WX.see rfl rfl rfl (fun _ hΓ => looks_arith rfl rfl rfl rfl (by unfold I64; first | omega | (simp only [List.length_take, List.length_drop] at *; omega) | (dsimp only; omega))) ?_
    refine WX.run ttOk rfl ?_
    refine WX.turn [8, 5, 6] 9 rfl (fun h hs => by have z_ : Sep h [MF.ol (A1 ++ [.slice p1 (((laws_markStringS e1.name.parts k2).2).length) c1, .int .i64 ((laws_markStringS e1.name.parts k2).1)] ++ B1) (a2.set i (TableEntry.mk (Name.mk ((laws_markStringS e1.name.parts k2).2)) ((laws_markStringS e1.name.parts k2).1)))] := cl_elem (α := TableEntry) (e := (TableEntry.mk (Name.mk ((laws_markStringS e1.name.parts k2).2)) ((laws_markStringS e1.name.parts k2).1))) (x := ((p1, c1), ())) e1i hs; rw [hl1] at z_; exact z_) (gs := [MF.ol (A1 ++ [.slice p1 ((e1.name.parts).length) c1, .int .i64 ((laws_markStringS e1.name.parts k2).1)] ++ B1) (a2.set i (TableEntry.mk (Name.mk ((laws_markStringS e1.name.parts k2).2)) ((laws_markStringS e1.name.parts k2).1)))]) rfl ?_
    refine WX.turn [9] 2 rfl (fun _ h => h) rfl ?_
    exact WX.iter ((A1 ++ [.slice p1 ((e1.name.parts).length) c1, .int .i64 ((laws_markStringS e1.name.parts k2).1)] ++ B1), ((a2.set i (TableEntry.mk (Name.mk ((laws_markStringS e1.name.parts k2).2)) ((laws_markStringS e1.name.parts k2).1))) : List TableEntry), IntKind.i64.wrap (((laws_markStringS e1.name.parts k2).1) + 1), i + 1) ⟨(by omega), (by first | assumption | omega | (simp only [List.length_append, List.length_cons, List.length_nil, List.length_set, List.length_map, List.length_take, List.length_drop]; omega) | (simp; omega)), (all_set v3 (show GoT.ok n ((TableEntry.mk (Name.mk ((laws_markStringS e1.name.parts k2).2)) ((laws_markStringS e1.name.parts k2).1)) : TableEntry) from (And.intro hq1.1.2 hq1.1.1))), (i64_wrap _), (by rw [v5, show (a).length - i = ((a).length - (i + 1)) + 1 by omega]; simp only [laws_markTableEntryS_L1, e1h, cond_true, cond_false])⟩ (by first | (dsimp only; omega) | omega) (.cons rfl (.cons rfl (.cons rfl (.nil)))) .nil (.cons rfl (.nil)) [2] rfl
  · skip
    have h1d := B.df h1
    refine WX.run ttOk rfl ?_
    have hX1 : laws_markTableEntryS_L1 ((a).length) 0 (a : List TableEntry) k = (((a2) : List TableEntry), k2) := by rw [v5, show (a).length - i = 0 by omega]; simp only [laws_markTableEntryS_L1, cond_true, cond_false]
    refine WX.seal 501 2 10 rfl rfl (show (a).length = (a2).length from by omega) rfl rfl ?_
    refine WX.slot 7 (y := .v (.slice pa (a2).length ca)) rfl (fun _ => by show (Value.slice pa ((a).length) ca : Value) = Value.slice pa (a2).length ca; rw [(show (a).length = (a2).length from by omega)]) ?_
    refine WX.slot 0 (y := .v (.slice pa (a2).length ca)) rfl (fun _ => by show (Value.slice pa ((a).length) ca : Value) = Value.slice pa (a2).length ca; rw [(show (a).length = (a2).length from by omega)]) ?_
    have hP1 : laws_markTableEntryS a k = (k2, a2) := by simp only [laws_markTableEntryS, hX1, cond_true, cond_false]
    refine WX.ret ttOk rfl ?_
    intro w1 G bs hI hΓ
    rw [hP1]
    exact Post.of [11] () hI hΓ rfl rfl rfl ⟨⟨v4, (okl_mk (by omega) v3 : GoT.ok n (a2 : List TableEntry))⟩, (show (a2).length = (a).length from by omega)⟩
theorem f16 (w : World) (n : Nat) (hn : n + 0 ≤ 9) (a : StateVector) (pa : Option Addr) (ca : Nat) (k : Int) (H : GH) (hH : Le H (hp w)) (hown : Sep H (GoT.oa a (pa, ca))) (hoka : GoT.ok n a) (hokk : GoT.ok n k) :
    Does Try.prog 16 #[.agg #[.slice pa ((a.entries).length) ca], .int .i64 (k)] w H (Post w H (fun _ : Unit => .int .i64 ((laws_markStateVector a k).1)) (fun _ => GoT.oa ((laws_markStateVector a k).2 : StateVector) (pa, ca)) ((GoT.ok n ((laws_markStateVector a k).1 : Int) ∧ GoT.ok n ((laws_markStateVector a k).2 : StateVector)) ∧ ((laws_markStateVector a k).2.entries).length = (a.entries).length)) := by
  have hbP := bd_pos n
  have hbB := bd_big (n := n) (by omega)
  refine WX.enterM (tt := tt) (Γ := []) 1 Try.func16 rfl (by kernel_rfl) rfl allS_nil hH hown (fun f hf => GoT.oak f hf) rfl ?_
  refine WX.run ttOk rfl ?_
  refine WX.callM [1] 2 rfl (fun _ _ h => GoT.ow_rd h) (fun _ f hf => GoT.fak f hf) rfl rfl rfl rfl rfl (fun _ => rfl) rfl (fun w G bs H hI hH hs hΓ => f34 w n (by omega) a.entries pa ca k H hH hs (ok_StateVector hoka) hokk) (fun _ => rfl) (fun _ => rfl) ?_
  rintro ⟨⟩ hq1
  have hl1 : ((laws_markTableEntryS a.entries k).2).length = (a.entries).length := hq1.2
  refine WX.run ttOk rfl ?_
  have hP1 : laws_markStateVector a k = ((laws_markTableEntryS a.entries k).1, StateVector.mk ((laws_markTableEntryS a.entries k).2)) := by simp only [laws_markStateVector, cond_true, cond_false]
  refine WX.ret ttOk rfl ?_
  intro w1 G bs hI hΓ
  rw [hP1]
  exact Post.of [3] () hI hΓ rfl rfl rfl ⟨⟨hq1.1.1, hq1.1.2⟩, (show ((laws_markTableEntryS a.entries k).2).length = (a.entries).length from by omega)⟩
theorem f17 (w : World) (n : Nat) (hn : n + 0 ≤ 9) (a : (List UInt8)) (pa : Option Addr) (ca : Nat) (k : Int) (H : GH) (hH : Le H (hp w)) (hown : Sep H (GoT.oa a (pa, ca))) (hoka : GoT.ok n a) (hokk : GoT.ok n k) :
    Does Try.prog 17 #[.slice pa ((a).length) ca, .int .i64 (k)] w H (Post w H (fun _ : Unit => .int .i64 ((laws_markByteS a k).1)) (fun _ => GoT.oa ((laws_markByteS a k).2 : (List UInt8)) (pa, ca)) ((GoT.ok n ((laws_markByteS a k).1 : Int) ∧ GoT.ok n ((laws_markByteS a k).2 : (List UInt8))) ∧ ((laws_markByteS a k).2).length = (a).length)) := by
  have hbP := bd_pos n
  have hbB := bd_big (n := n) (by omega)
  refine WX.enterM (tt := tt) (Γ := []) 1 Try.func17 rfl (by kernel_rfl) rfl allS_nil hH hown (fun f hf => GoT.oak f hf) rfl ?_
  refine WX.opn (kk := 1) 501 1 2 rfl rfl rfl ?_
  intro xs1 hx1
  refine WX.run ttOk rfl ?_
  have r1 : (a).length ≤ bd n := (okl hoka).1
  refine WX.loop (ι := (List Value) × (List UInt8) × Int × Nat) ⟨fun | (xsa2, a2, k2, i) => (i ≤ (a).length) ∧ (a2.length = (a).length) ∧ (∀ z_ ∈ a2, GoT.ok n z_) ∧ (-9223372036854775808 ≤ k2 ∧ k2 ≤ 9223372036854775807) ∧ (laws_markByteS_L1 ((a).length) 0 (a : List UInt8) k = laws_markByteS_L1 ((a).length - i) i a2 k2), fun | (xsa2, a2, k2, i) => (a).length - i, fun | (xsa2, a2, k2, i) => [(0, .v (.slice pa ((a).length) ca)), (1, .v (.int .i64 (k2))), (5, .v (.int .i64 (((i : Nat) : Int))))], fun | (xsa2, a2, k2, i) => [], fun | (xsa2, a2, k2, i) => [(501, ⟨1, pa, (a).length, ca, xsa2⟩)], fun | (xsa2, a2, k2, i) => [(2, MF.ol xsa2 (a2 : List UInt8))]⟩ (xs1, (a : List UInt8), k, 0) ⟨(Nat.zero_le _), (by simp), (okl hoka).2, hokk, rfl⟩
    (.cons rfl (.cons rfl (.cons rfl (.nil)))) .nil (.cons rfl (.nil)) [2] rfl ?_
  rintro ⟨xsa2, a2, k2, i⟩ hpre
  have hpre_ : (i ≤ (a).length) ∧ (a2.length = (a).length) ∧ (∀ z_ ∈ a2, GoT.ok n z_) ∧ (-9223372036854775808 ≤ k2 ∧ k2 ≤ 9223372036854775807) ∧ (laws_markByteS_L1 ((a).length) 0 (a : List UInt8) k = laws_markByteS_L1 ((a).length - i) i a2 k2) := hpre
  clear hpre
  obtain ⟨v1, v2, v3, v4, v5⟩ := hpre_
  refine WX.run ttOk rfl ?_
  refine WX.cases 9 rfl (fun h1 => ?_) (fun h1 => ?_)
  · skip
    have h1d := B.dt h1
    refine WX.run ttOk rfl ?_
    refine WX.see rfl rfl rfl (fun _ hΓ => looks_toU8 ttOk rfl rfl rfl rfl rfl rfl) ?_
    have hr1 : i < (a).length := (by first | assumption | omega)
    refine WX.idxR 501 i ttOk rfl rfl rfl rfl rfl rfl rfl rfl rfl hr1 ?_
    rintro ad1 rfl
    have e1i : i < (a2).length := (by first | assumption | omega)
    obtain ⟨e1, e1h⟩ : ∃ e1, (a2)[i]? = some e1 := ⟨_, List.getElem?_eq_getElem e1i⟩
    refine WX.opnE (α := UInt8) (e := e1) 501 2 3 i rfl rfl rfl e1h (fun _ => rfl) (fun _ _ _ => rfl) (fun _ _ _ => rfl) ?_
    rintro A1 B1 ⟨⟩ hA1 hB1
    refine WX.stA 501 ttOk rfl rfl rfl rfl rfl rfl rfl rfl rfl rfl rfl rfl rfl rfl hA1 hr1 rfl rfl rfl rfl (by simp) rfl ?_
    refine WX.run ttOk rfl ?_
    refine WX.see rfl rfl rfl (fun _ hΓ => looks_wrap rfl rfl rfl rfl) ?_
    refine WX.run ttOk rfl ?_
    refine WX.see rfl rfl rfl (fun _ hΓ => looks_arith rfl rfl rfl rfl (by unfold I64; first | omega | (simp only [List.length_take, List.length_drop] at *; omega) | (dsimp only; omega))) ?_
    refine WX.run ttOk rfl ?_
    refine WX.turn [3, 4] 5 rfl (fun h hs => cl_elem (α := UInt8) (e := (toU8 k2)) (x := ()) e1i hs) (gs := [MF.ol (A1 ++ [.int .u8 ((toU8 k2).toNat : Nat)] ++ B1) (a2.set i (toU8 k2))]) rfl ?_
    refine WX.turn [5] 2 rfl (fun _ h => h) rfl ?_
    exact WX.iter ((A1 ++ [.int .u8 ((toU8 k2).toNat : Nat)] ++ B1), ((a2.set i (toU8 k2)) : List UInt8), IntKind.i64.wrap (k2 + 1), i + 1) ⟨(by omega), (by first | assumption | omega | (simp only [List.length_append, List.length_cons, List.length_nil, List.length_set, List.length_map, List.length_take, List.length_drop]; omega) | (simp; omega)), (all_set v3 (show GoT.ok n ((toU8 k2) : UInt8) from trivial)), (i64_wrap _), (by rw [v5, show (a).length - i = ((a).length - (i + 1)) + 1 by omega]; simp only [laws_markByteS_L1, e1h, cond_true, cond_false])⟩ (by first | (dsimp only; omega) | omega) (.cons rfl (.cons rfl (.cons rfl (.nil)))) .nil (.cons rfl (.nil)) [2] rfl
  · skip
    have h1d := B.df h1
    refine WX.run ttOk rfl ?_
    have hX1 : laws_markByteS_L1 ((a).length) 0 (a : List UInt8) k = (((a2) : List UInt8), k2) := by rw [v5, show (a).length - i = 0 by omega]; simp only [laws_markByteS_L1, cond_true, cond_false]
    refine WX.seal 501 2 6 rfl rfl (show (a).length = (a2).length from by omega) rfl rfl ?_
    refine WX.slot 7 (y := .v (.slice pa (a2).length ca)) rfl (fun _ => by show (Value.slice pa ((a).length) ca : Value) = Value.slice pa (a2).length ca; rw [(show (a).length = (a2).length from by omega)]) ?_
    refine WX.slot 0 (y := .v (.slice pa (a2).length ca)) rfl (fun _ => by show (Value.slice pa ((a).length) ca : Value) = Value.slice pa (a2).length ca; rw [(show (a).length = (a2).length from by omega)]) ?_
    have hP1 : laws_markByteS a k = (k2, a2) := by simp only [laws_markByteS, hX1, cond_true, cond_false]
    refine WX.ret ttOk rfl ?_
    intro w1 G bs hI hΓ
    rw [hP1]
    exact Post.of [7] () hI hΓ rfl rfl rfl ⟨⟨v4, (okl_mk (by omega) v3 : GoT.ok n (a2 : List UInt8))⟩, (show (a2).length = (a).length from by omega)⟩
end Go.Proofs.Ytfffongneoegbaa

namespace Go.Stp
set_option linter.unusedVariables false
set_option linter.unusedSimpArgs false
def laws_heldByteS_L1 : List UInt8 → Int → Ctl (Int) (Int)
  | [], k2 => (Ctl.nxt k2)
  | e1 :: rest_, k2 =>
    bif (((e1).toNat : Int) != ((toU8 k2).toNat : Int)) then
      (Ctl.ret (-1))
    else
      laws_heldByteS_L1 rest_ (IntKind.i64.wrap (k2 + 1))
def laws_heldByteS (a : (List UInt8)) (k : Int) : Int :=
  match laws_heldByteS_L1 a k with
    | .ret r_ => r_
    | .nxt k2 =>
      k2
def laws_heldStringS_L1 : List Str → Int → Ctl (Int) (Int)
  | [], k2 => (Ctl.nxt k2)
  | e1 :: rest_, k2 =>
    bif (!((e1).toList == ((laws_markText k2)).toList)) then
      (Ctl.ret (-1))
    else
      laws_heldStringS_L1 rest_ (IntKind.i64.wrap (k2 + 1))
def laws_heldStringS (a : (List Str)) (k : Int) : Int :=
  match laws_heldStringS_L1 a k with
    | .ret r_ => r_
    | .nxt k2 =>
      k2
def laws_heldTableEntryS_L1 : List TableEntry → Int → Ctl (Int) (Int)
  | [], k2 => (Ctl.nxt k2)
  | e1 :: rest_, k2 =>
    bif decide ((laws_heldStringS e1.name.parts k2) < 0) then
      (Ctl.ret (-1))
    else
      bif (e1.value != (laws_heldStringS e1.name.parts k2)) then
        (Ctl.ret (-1))
      else
        laws_heldTableEntryS_L1 rest_ (IntKind.i64.wrap ((laws_heldStringS e1.name.parts k2) + 1))
def laws_heldTableEntryS (a : (List TableEntry)) (k : Int) : Int :=
  match laws_heldTableEntryS_L1 a k with
    | .ret r_ => r_
    | .nxt k2 =>
      k2
def laws_heldStateVector (a : StateVector) (k : Int) : Int :=
  bif decide ((laws_heldTableEntryS a.entries k) < 0) then
    (-1)
  else
    (laws_heldTableEntryS a.entries k)
end Go.Stp

namespace Go.Proofs.Ytfffongneoegbaa
open Go.Stp
set_option linter.unusedVariables false
set_option linter.unusedSimpArgs false
theorem f18 (w : World) (n : Nat) (hn : n + 0 ≤ 9) (a : (List UInt8)) (pa : Option Addr) (ca : Nat) (hpa : RdSl (hp w) pa ca a) (k : Int) (hoka : GoT.ok n a) (hokk : GoT.ok n k) :
    Does Try.prog 18 #[.slice pa ((a).length) ca, .int .i64 (k)] w emp (fun (rv : Value) (_ : World) => rv = .int .i64 ((laws_heldByteS a k)) ∧ GoT.ok n ((laws_heldByteS a k) : Int)) := by
  have hbP := bd_pos n
  have hbB := bd_big (n := n) (by omega)
  refine WX.enter (tt := tt) (Γ := [(0, MF.rs .stb pa ca a)]) Try.func18 rfl (by kernel_rfl) rfl (allS_cons rfl hpa allS_nil) ?_
  refine WX.run ttOk rfl ?_
  have r1 : (a).length ≤ bd n := (okl hoka).1
  refine WX.loop (ι := Int × Nat) ⟨fun | (k2, i) => (i ≤ (a).length) ∧ (-9223372036854775808 ≤ k2 ∧ k2 ≤ 9223372036854775807) ∧ (laws_heldByteS_L1 a k = laws_heldByteS_L1 ((a).drop i) k2), fun | (k2, i) => (a).length - i, fun | (k2, i) => [(1, .v (.int .i64 (k2))), (5, .v (.int .i64 (((i : Nat) : Int)))), (0, .v (.slice pa ((a).length) ca))], fun | (k2, i) => [], fun | (k2, i) => [], fun | (k2, i) => [(0, MF.rs .stb pa ca a)]⟩ (k, 0) ⟨(Nat.zero_le _), hokk, rfl⟩
    (.cons rfl (.cons rfl (.cons rfl (.nil)))) .nil .nil [0] rfl ?_
  rintro ⟨k2, i⟩ hpre
  have hpre_ : (i ≤ (a).length) ∧ (-9223372036854775808 ≤ k2 ∧ k2 ≤ 9223372036854775807) ∧ (laws_heldByteS_L1 a k = laws_heldByteS_L1 ((a).drop i) k2) := hpre
  clear hpre
  obtain ⟨v1, v2, v3⟩ := hpre_
  refine WX.run ttOk rfl ?_
  refine WX.cases 9 rfl (fun h1 => ?_) (fun h1 => ?_)
  · skip
    have h1d := B.dt h1
    have e1i : i < (a).length := (by omega)
    obtain ⟨e1, e1h⟩ : ∃ e1, (a)[i]? = some e1 := ⟨_, List.getElem?_eq_getElem e1i⟩
    refine WX.run ttOk rfl ?_
    refine WX.idx 0 i ttOk rfl rfl rfl rfl rfl rfl rfl rfl rfl rfl e1i ?_
    rintro ad1 rfl
    refine WX.ldE 0 1 e1 ttOk rfl rfl rfl rfl rfl rfl rfl rfl e1h (fun _ => rfl) (fun _ => rfl) ?_
    rintro ⟨⟩
    refine WX.run ttOk rfl ?_
    refine WX.see rfl rfl rfl (fun _ hΓ => looks_toU8 ttOk rfl rfl rfl rfl rfl rfl) ?_
    refine WX.run ttOk rfl ?_
    refine WX.cases 18 rfl (fun h2 => ?_) (fun h2 => ?_)
    · skip
      have h2d := B.nt' h2
      refine WX.run ttOk rfl ?_
      have hP1 : laws_heldByteS_L1 a k = (Ctl.ret (-1)) := by rw [v3, drop_get e1h]; simp only [laws_heldByteS_L1, h2, cond_true, cond_false]
      have hP2 : laws_heldByteS a k = (-1) := by simp only [laws_heldByteS, hP1, cond_true, cond_false]
      refine WX.ret ttOk rfl ?_
      intro w1 G bs hI hΓ
      rw [hP2]
      exact ⟨rfl, (show I64 (-1) from (by unfold I64; omega))⟩
    · skip
      have h2d := B.nf' h2
      refine WX.run ttOk rfl ?_
      refine WX.see rfl rfl rfl (fun _ hΓ => looks_wrap rfl rfl rfl rfl) ?_
      refine WX.run ttOk rfl ?_
      refine WX.see rfl rfl rfl (fun _ hΓ => looks_arith rfl rfl rfl rfl (by unfold I64; first | omega | (simp only [List.length_take, List.length_drop] at *; omega) | (dsimp only; omega))) ?_
      refine WX.run ttOk rfl ?_
      exact WX.iter (IntKind.i64.wrap (k2 + 1), i + 1) ⟨(by omega), (i64_wrap _), (by rw [v3, drop_get e1h]; simp only [laws_heldByteS_L1, h2, cond_true, cond_false])⟩ (by first | (dsimp only; omega) | omega) (.cons rfl (.cons rfl (.cons rfl (.nil)))) .nil .nil [0] rfl
  · skip
    have h1d := B.df h1
    refine WX.run ttOk rfl ?_
    have hX1 : laws_heldByteS_L1 a k = (Ctl.nxt k2) := by rw [v3, List.drop_eq_nil_of_le (show (a).length ≤ i by omega)]; simp only [laws_heldByteS_L1, cond_true, cond_false]
    have hP3 : laws_heldByteS a k = k2 := by simp only [laws_heldByteS, hX1, cond_true, cond_false]
    refine WX.ret ttOk rfl ?_
    intro w1 G bs hI hΓ
    rw [hP3]
    exact ⟨rfl, v2⟩
end Go.Proofs.Ytfffongneoegbaa

namespace Go.Stp
set_option linter.unusedVariables false
set_option linter.unusedSimpArgs false
def spec_l4Cmp (a : Str) (b : Str) : Int :=
  bif (Op.bytesLess (a).toList (b).toList) then
    (-1)
  else
    bif (!(Op.bytesLess (a).toList (b).toList || (a).toList == (b).toList)) then
      1
    else
      0
def spec_CompareNames_L1 (b : Name) : List Str → Nat → Option (Int)
  | [], i => none
  | e1 :: rest_, i =>
    bif decide (((i : Nat) : Int) < (((b.parts).length : Nat) : Int)) then
      match (b.parts)[i]? with
        | none => default
        | some e2 =>
          bif ((spec_l4Cmp e1 e2) != 0) then
            (some (spec_l4Cmp e1 e2))
          else
            spec_CompareNames_L1 b rest_ (i + 1)
    else
      none
def spec_CompareNames (a : Name) (b : Name) : Int :=
  match spec_CompareNames_L1 b a.parts 0 with
    | some r_ => r_
    | none =>
      bif decide ((((a.parts).length : Nat) : Int) < (((b.parts).length : Nat) : Int)) then
        (-1)
      else
        bif decide ((((a.parts).length : Nat) : Int) > (((b.parts).length : Nat) : Int)) then
          1
        else
          0
end Go.Stp

namespace Go.Proofs.Ytfffongneoegbaa
open Go.Stp
set_option linter.unusedVariables false
set_option linter.unusedSimpArgs false
theorem f71 (w : World) (n : Nat) (hn : n + 0 ≤ 9) (a : Str) (b : Str) (hoka : GoT.ok n a) (hokb : GoT.ok n b) :
    Does Try.prog 71 #[.string a, .string b] w emp (fun (rv : Value) (_ : World) => rv = .int .i64 ((spec_l4Cmp a b)) ∧ GoT.ok n ((spec_l4Cmp a b) : Int)) := by
  have hbP := bd_pos n
  have hbB := bd_big (n := n) (by omega)
  refine WX.enter (tt := tt) (Γ := []) Try.func71 rfl (by kernel_rfl) rfl allS_nil ?_
  refine WX.run ttOk rfl ?_
  refine WX.cases 5 rfl (fun h1 => ?_) (fun h1 => ?_)
  · skip
    refine WX.run ttOk rfl ?_
    have hP1 : spec_l4Cmp a b = (-1) := by simp only [spec_l4Cmp, h1, cond_true, cond_false]
    refine WX.ret ttOk rfl ?_
    intro w1 G bs hI hΓ
    rw [hP1]
    exact ⟨rfl, (show I64 (-1) from (by unfold I64; omega))⟩
  · skip
    refine WX.run ttOk rfl ?_
    refine WX.cases 9 rfl (fun h2 => ?_) (fun h2 => ?_)
    · skip
      refine WX.run ttOk rfl ?_
      have hP2 : spec_l4Cmp a b = 1 := by first | (simp only [spec_l4Cmp, h1, h2, cond_true, cond_false]; done) | (unfold spec_l4Cmp; rw [h2, h1]; simp only [cond_true, cond_false])
      refine WX.ret ttOk rfl ?_
      intro w1 G bs hI hΓ
      rw [hP2]
      exact ⟨rfl, (show I64 1 from (by unfold I64; omega))⟩
    · skip
      refine WX.run ttOk rfl ?_
      have hP3 : spec_l4Cmp a b = 0 := by first | (simp only [spec_l4Cmp, h1, h2, cond_true, cond_false]; done) | (unfold spec_l4Cmp; rw [h2, h1]; simp only [cond_true, cond_false])
      refine WX.ret ttOk rfl ?_
      intro w1 G bs hI hΓ
      rw [hP3]
      exact ⟨rfl, (show I64 0 from (by unfold I64; omega))⟩
theorem f60 (w : World) (n : Nat) (hn : n + 0 ≤ 9) (a : Name) (pa : Option Addr) (ca : Nat) (hpa : RdSl (hp w) pa ca a.parts) (b : Name) (pb : Option Addr) (cb : Nat) (hpb : RdSl (hp w) pb cb b.parts) (hoka : GoT.ok n a) (hokb : GoT.ok n b) :
    Does Try.prog 60 #[.agg #[.slice pa ((a.parts).length) ca], .agg #[.slice pb ((b.parts).length) cb]] w emp (fun (rv : Value) (_ : World) => rv = .int .i64 ((spec_CompareNames a b)) ∧ GoT.ok n ((spec_CompareNames a b) : Int)) := by
  have hbP := bd_pos n
  have hbB := bd_big (n := n) (by omega)
  refine WX.enter (tt := tt) (Γ := [(0, MF.rs .stb pa ca a.parts), (1, MF.rs .stb pb cb b.parts)]) Try.func60 rfl (by kernel_rfl) rfl (allS_cons rfl hpa (allS_cons rfl hpb allS_nil)) ?_
  refine WX.run ttOk rfl ?_
  have r1 : (a.parts).length ≤ bd n := (okl (ok_Name hoka)).1
  refine WX.loop (ι := Nat) ⟨fun i => (i ≤ (a.parts).length) ∧ (spec_CompareNames_L1 b a.parts 0 = spec_CompareNames_L1 b ((a.parts).drop i) i), fun i => (a.parts).length - i, fun i => [(5, .v (.int .i64 (((i : Nat) : Int)))), (3, .p 3 0), (2, .p 2 0)], fun i => [(3, ⟨53, [.slice pb ((b.parts).length) cb]⟩), (2, ⟨53, [.slice pa ((a.parts).length) ca]⟩)], fun i => [], fun i => [(0, MF.rs .stb pa ca a.parts), (1, MF.rs .stb pb cb b.parts)]⟩ 0 ⟨(Nat.zero_le _), rfl⟩
    (.cons rfl (.cons rfl (.cons rfl (.nil)))) (.cons rfl (.cons rfl (.nil))) .nil [0, 1] rfl ?_
  rintro i hpre
  have hpre_ : (i ≤ (a.parts).length) ∧ (spec_CompareNames_L1 b a.parts 0 = spec_CompareNames_L1 b ((a.parts).drop i) i) := hpre
  clear hpre
  obtain ⟨v1, v2⟩ := hpre_
  refine WX.run ttOk rfl ?_
  refine WX.cases 12 rfl (fun h1 => ?_) (fun h1 => ?_)
  · skip
    have h1d := B.dt h1
    have e1i : i < (a.parts).length := (by omega)
    obtain ⟨e1, e1h⟩ : ∃ e1, (a.parts)[i]? = some e1 := ⟨_, List.getElem?_eq_getElem e1i⟩
    have ok1 : GoT.ok n e1 := (okl (ok_Name hoka)).2 _ (List.mem_of_getElem? e1h)
    refine WX.run ttOk rfl ?_
    refine WX.cases 18 rfl (fun h2 => ?_) (fun h2 => ?_)
    · skip
      have h2d := B.dt h2
      refine WX.run ttOk rfl ?_
      refine WX.draw [] mixed ?_
      intro bs G0 hΓ0
      refine DX.takes (fuel := 9) ttOk [(0, true), (1, false), (2, true)] (by kernel_rfl) rfl ?_
      refine DX.idx 3 0 i ttOk hΓ0 (by kernel_rfl) rfl rfl rfl rfl rfl rfl rfl rfl rfl rfl rfl e1i ?_
      rintro ad1 rfl
      refine DX.ldE 4 0 2 e1 ttOk hΓ0 (by kernel_rfl) rfl rfl rfl rfl rfl rfl rfl rfl e1h (fun _ => rfl) (fun _ => rfl) ?_
      rintro ⟨⟩
      refine DX.takes (fuel := 4) ttOk [(5, true), (6, false), (7, true)] (by kernel_rfl) rfl ?_
      have e2i : i < (b.parts).length := (by first | assumption | omega)
      obtain ⟨e2, e2h⟩ : ∃ e2, (b.parts)[i]? = some e2 := ⟨_, List.getElem?_eq_getElem e2i⟩
      have ok2 : GoT.ok n e2 := (okl (ok_Name hokb)).2 _ (List.mem_of_getElem? e2h)
      refine DX.idx 8 1 i ttOk hΓ0 (by kernel_rfl) rfl rfl rfl rfl rfl rfl rfl rfl rfl rfl rfl e2i ?_
      rintro ad2 rfl
      refine DX.ldE 9 1 2 e2 ttOk hΓ0 (by kernel_rfl) rfl rfl rfl rfl rfl rfl rfl rfl e2h (fun _ => rfl) (fun _ => rfl) ?_
      rintro ⟨⟩
      refine DX.callV 10 rfl (by kernel_rfl) rfl rfl rfl rfl rfl rfl (fun _ => rfl) rfl (fun w G bs hI hΓ => f71 w n (by omega) e1 e2 ok1 ok2) ?_
      intro hq1
      refine DX.takes (fuel := 0) ttOk [(11, true)] (by kernel_rfl) rfl ?_
      refine DX.tail2 [] rfl rfl (by kernel_rfl) ?_
      refine WX.run ttOk rfl ?_
      refine WX.cases 33 rfl (fun h3 => ?_) (fun h3 => ?_)
      · skip
        have h3d := B.nt' h3
        refine WX.run ttOk rfl ?_
        have hP1 : spec_CompareNames_L1 b a.parts 0 = (some (spec_l4Cmp e1 e2)) := by rw [v2, drop_get e1h]; simp only [spec_CompareNames_L1, h2, e2h, h3, cond_true, cond_false]
        have hP2 : spec_CompareNames a b = (spec_l4Cmp e1 e2) := by simp only [spec_CompareNames, hP1, cond_true, cond_false]
        refine WX.ret ttOk rfl ?_
        intro w1 G bs hI hΓ
        rw [hP2]
        exact ⟨rfl, hq1⟩
      · skip
        have h3d := B.nf' h3
        refine WX.run ttOk rfl ?_
        refine WX.see rfl rfl rfl (fun _ hΓ => looks_arith rfl rfl rfl rfl (by unfold I64; first | omega | (simp only [List.length_take, List.length_drop] at *; omega) | (dsimp only; omega))) ?_
        refine WX.run ttOk rfl ?_
        exact WX.iter (i + 1) ⟨(by omega), (by rw [v2, drop_get e1h]; simp only [spec_CompareNames_L1, h2, e2h, h3, cond_true, cond_false])⟩ (by first | (dsimp only; omega) | omega) (.cons rfl (.cons rfl (.cons rfl (.nil)))) (.cons rfl (.cons rfl (.nil))) .nil [0, 1] rfl
    · skip
      have h2d := B.df h2
      refine WX.run ttOk rfl ?_
      have hX1 : spec_CompareNames_L1 b a.parts 0 = none := by rw [v2, drop_get e1h]; simp only [spec_CompareNames_L1, h2, cond_true, cond_false]
      refine WX.cases 35 rfl (fun h4 => ?_) (fun h4 => ?_)
      · skip
        have h4d := B.dt h4
        refine WX.run ttOk rfl ?_
        have hP3 : spec_CompareNames a b = (-1) := by simp only [spec_CompareNames, hX1, h4, cond_true, cond_false]
        refine WX.ret ttOk rfl ?_
        intro w1 G bs hI hΓ
        rw [hP3]
        exact ⟨rfl, (show I64 (-1) from (by unfold I64; omega))⟩
      · skip
        have h4d := B.df h4
        refine WX.run ttOk rfl ?_
        refine WX.cases 43 rfl (fun h5 => ?_) (fun h5 => ?_)
        · skip
          have h5d := B.dt h5
          refine WX.run ttOk rfl ?_
          have hP4 : spec_CompareNames a b = 1 := by simp only [spec_CompareNames, hX1, h4, h5, cond_true, cond_false]
          refine WX.ret ttOk rfl ?_
          intro w1 G bs hI hΓ
          rw [hP4]
          exact ⟨rfl, (show I64 1 from (by unfold I64; omega))⟩
        · skip
          have h5d := B.df h5
          refine WX.run ttOk rfl ?_
          have hP5 : spec_CompareNames a b = 0 := by simp only [spec_CompareNames, hX1, h4, h5, cond_true, cond_false]
          refine WX.ret ttOk rfl ?_
          intro w1 G bs hI hΓ
          rw [hP5]
          exact ⟨rfl, (show I64 0 from (by unfold I64; omega))⟩
  · skip
    have h1d := B.df h1
    refine WX.run ttOk rfl ?_
    have hX2 : spec_CompareNames_L1 b a.parts 0 = none := by rw [v2, List.drop_eq_nil_of_le (show (a.parts).length ≤ i by omega)]; simp only [spec_CompareNames_L1, cond_true, cond_false]
    refine WX.cases 35 rfl (fun h6 => ?_) (fun h6 => ?_)
    · skip
      have h6d := B.dt h6
      refine WX.run ttOk rfl ?_
      have hP6 : spec_CompareNames a b = (-1) := by simp only [spec_CompareNames, hX2, h6, cond_true, cond_false]
      refine WX.ret ttOk rfl ?_
      intro w1 G bs hI hΓ
      rw [hP6]
      exact ⟨rfl, (show I64 (-1) from (by unfold I64; omega))⟩
    · skip
      have h6d := B.df h6
      refine WX.run ttOk rfl ?_
      refine WX.cases 43 rfl (fun h7 => ?_) (fun h7 => ?_)
      · skip
        have h7d := B.dt h7
        refine WX.run ttOk rfl ?_
        have hP7 : spec_CompareNames a b = 1 := by simp only [spec_CompareNames, hX2, h6, h7, cond_true, cond_false]
        refine WX.ret ttOk rfl ?_
        intro w1 G bs hI hΓ
        rw [hP7]
        exact ⟨rfl, (show I64 1 from (by unfold I64; omega))⟩
      · skip
        have h7d := B.df h7
        refine WX.run ttOk rfl ?_
        have hP8 : spec_CompareNames a b = 0 := by simp only [spec_CompareNames, hX2, h6, h7, cond_true, cond_false]
        refine WX.ret ttOk rfl ?_
        intro w1 G bs hI hΓ
        rw [hP8]
        exact ⟨rfl, (show I64 0 from (by unfold I64; omega))⟩
end Go.Proofs.Ytfffongneoegbaa

namespace Go.Stp
set_option linter.unusedVariables false
set_option linter.unusedSimpArgs false
def impl_ValidPart_L1 : List UInt8 → Option (Bool)
  | [] => none
  | e1 :: rest_ =>
    bif decide (((e1).toNat : Int) ≥ 97) then
      bif decide (((e1).toNat : Int) ≤ 122) then
        impl_ValidPart_L1 rest_
      else
        bif decide (((e1).toNat : Int) ≥ 48) then
          bif decide (((e1).toNat : Int) ≤ 57) then
            impl_ValidPart_L1 rest_
          else
            bif (!(((e1).toNat : Int) == 45)) then
              (some false)
            else
              impl_ValidPart_L1 rest_
        else
          bif (!(((e1).toNat : Int) == 45)) then
            (some false)
          else
            impl_ValidPart_L1 rest_
    else
      bif decide (((e1).toNat : Int) ≥ 48) then
        bif decide (((e1).toNat : Int) ≤ 57) then
          impl_ValidPart_L1 rest_
        else
          bif (!(((e1).toNat : Int) == 45)) then
            (some false)
          else
            impl_ValidPart_L1 rest_
      else
        bif (!(((e1).toNat : Int) == 45)) then
          (some false)
        else
          impl_ValidPart_L1 rest_
def impl_ValidPart (s : Str) : Bool :=
  match impl_ValidPart_L1 ((s).data.toList) with
    | some r_ => r_
    | none =>
      (impl_InRange (((s).size : Nat) : Int) 1 8)
def spec_ValidPart_L1 : List UInt8 → Option (Bool)
  | [] => none
  | e1 :: rest_ =>
    bif (!(spec_l1In ((e1).toNat : Int) 97 122)) then
      bif (!(spec_l1In ((e1).toNat : Int) 48 57)) then
        bif (((e1).toNat : Int) != 45) then
          (some false)
        else
          spec_ValidPart_L1 rest_
      else
        spec_ValidPart_L1 rest_
    else
      spec_ValidPart_L1 rest_
def spec_ValidPart (s : Str) : Bool :=
  bif (!(spec_l1In (((s).size : Nat) : Int) 1 8)) then
    false
  else
    match spec_ValidPart_L1 ((s).data.toList) with
      | some r_ => r_
      | none =>
        true
def slices_IndexFunc_string_L1 (fq : Str → Bool) : List Str → Nat → Option (Int)
  | [], i => none
  | e1 :: rest_, i =>
    bif fq e1 then
      (some ((i : Nat) : Int))
    else
      slices_IndexFunc_string_L1 fq rest_ (i + 1)
def slices_IndexFunc_string (s : (List Str)) (fq : Str → Bool) : Int :=
  match slices_IndexFunc_string_L1 fq s 0 with
    | some r_ => r_
    | none =>
      (-1)
def slices_ContainsFunc_string (s : (List Str)) (fq : Str → Bool) : Bool :=
  (decide ((slices_IndexFunc_string s fq) ≥ 0))
def impl_ValidName_c1 (p_ : Str) : Bool :=
  (!(impl_ValidPart p_))
def impl_ValidName (n_ : Name) : Bool :=
  bif decide ((((n_.parts).length : Nat) : Int) ≤ 6) then
    (!(slices_ContainsFunc_string n_.parts (fun e0_ => (impl_ValidName_c1 e0_))))
  else
    false
def spec_ValidName_L1 : List Str → Option (Bool)
  | [] => none
  | e1 :: rest_ =>
    bif (!(spec_ValidPart e1)) then
      (some false)
    else
      spec_ValidName_L1 rest_
def spec_ValidName (n_ : Name) : Bool :=
  match spec_ValidName_L1 n_.parts with
    | some r_ => r_
    | none =>
      (decide ((((n_.parts).length : Nat) : Int) ≤ 6))
end Go.Stp

namespace Go.Proofs.Ytfffongneoegbaa
open Go.Stp
set_option linter.unusedVariables false
set_option linter.unusedSimpArgs false
theorem f67 (w : World) (n : Nat) (hn : n + 0 ≤ 9) (s : Str) (hoks : GoT.ok n s) :
    Does Try.prog 67 #[.string s] w emp (fun (rv : Value) (_ : World) => rv = .bool (impl_ValidPart s) ∧ True) := by
  have hbP := bd_pos n
  have hbB := bd_big (n := n) (by omega)
  refine WX.enter (tt := tt) (Γ := []) Try.func67 rfl (by kernel_rfl) rfl allS_nil ?_
  refine WX.run ttOk rfl ?_
  have r1 : (s).size ≤ bd n := hoks
  refine WX.loop (ι := Nat) ⟨fun i => (i ≤ ((s).data.toList).length) ∧ (impl_ValidPart_L1 ((s).data.toList) = impl_ValidPart_L1 (((s).data.toList).drop i)), fun i => ((s).data.toList).length - i, fun i => [(7, .v (.int .i64 (((i : Nat) : Int)))), (6, .v (.int .i64 ((((s).size : Nat) : Int)))), (0, .v (.string s))], fun i => [], fun i => [], fun i => []⟩ 0 ⟨(Nat.zero_le _), rfl⟩
    (.cons rfl (.cons rfl (.cons rfl (.nil)))) .nil .nil [] rfl ?_
  rintro i hpre
  have hpre_ : (i ≤ ((s).data.toList).length) ∧ (impl_ValidPart_L1 ((s).data.toList) = impl_ValidPart_L1 (((s).data.toList).drop i)) := hpre
  clear hpre
  obtain ⟨v1, v2⟩ := hpre_
  refine WX.run ttOk rfl ?_
  refine WX.cases 8 rfl (fun h1 => ?_) (fun h1 => ?_)
  · skip
    have h1d := B.dt h1
    have e1i : i < ((s).data.toList).length := (by (have hz_ : ((s).data.toList).length = (s).size := by simp); omega)
    obtain ⟨e1, e1h⟩ : ∃ e1, ((s).data.toList)[i]? = some e1 := ⟨_, List.getElem?_eq_getElem e1i⟩
    refine WX.run ttOk rfl ?_
    refine WX.see rfl rfl rfl (fun _ hΓ => looks_strIdx ttOk rfl rfl rfl rfl rfl e1h) ?_
    refine WX.run ttOk rfl ?_
    refine WX.cases 15 rfl (fun h2 => ?_) (fun h2 => ?_)
    · skip
      have h2d := B.dt h2
      refine WX.run ttOk rfl ?_
      refine WX.cases 19 rfl (fun h3 => ?_) (fun h3 => ?_)
      · skip
        have h3d := B.dt h3
        refine WX.run ttOk rfl ?_
        refine WX.see rfl rfl rfl (fun _ hΓ => looks_arith rfl rfl rfl rfl (by unfold I64; first | omega | (simp only [List.length_take, List.length_drop] at *; omega) | (dsimp only; omega))) ?_
        refine WX.run ttOk rfl ?_
        exact WX.iter (i + 1) ⟨(by omega), (by rw [v2, drop_get e1h]; simp only [impl_ValidPart_L1, h2, h3, cond_true, cond_false])⟩ (by first | (dsimp only; omega) | omega) (.cons rfl (.cons rfl (.cons rfl (.nil)))) .nil .nil [] rfl
      · skip
        have h3d := B.df h3
        refine WX.run ttOk rfl ?_
        refine WX.cases 22 rfl (fun h4 => ?_) (fun h4 => ?_)
        · skip
          have h4d := B.dt h4
          refine WX.run ttOk rfl ?_
          refine WX.cases 27 rfl (fun h5 => ?_) (fun h5 => ?_)
          · skip
            have h5d := B.dt h5
            refine WX.run ttOk rfl ?_
            refine WX.see rfl rfl rfl (fun _ hΓ => looks_arith rfl rfl rfl rfl (by unfold I64; first | omega | (simp only [List.length_take, List.length_drop] at *; omega) | (dsimp only; omega))) ?_
            refine WX.run ttOk rfl ?_
            exact WX.iter (i + 1) ⟨(by omega), (by rw [v2, drop_get e1h]; simp only [impl_ValidPart_L1, h2, h3, h4, h5, cond_true, cond_false])⟩ (by first | (dsimp only; omega) | omega) (.cons rfl (.cons rfl (.cons rfl (.nil)))) .nil .nil [] rfl
          · skip
            have h5d := B.df h5
            refine WX.run ttOk rfl ?_
            refine WX.cases 31 rfl (fun h6 => ?_) (fun h6 => ?_)
            · skip
              have h6d := B.ef (B.nt h6)
              refine WX.run ttOk rfl ?_
              have hP1 : impl_ValidPart_L1 ((s).data.toList) = (some false) := by rw [v2, drop_get e1h]; simp only [impl_ValidPart_L1, h2, h3, h4, h5, h6, cond_true, cond_false]
              have hP2 : impl_ValidPart s = false := by simp only [impl_ValidPart, hP1, cond_true, cond_false]
              refine WX.ret ttOk rfl ?_
              intro w1 G bs hI hΓ
              rw [hP2]
              exact ⟨rfl, trivial⟩
            · skip
              have h6d := B.et (B.nf h6)
              refine WX.run ttOk rfl ?_
              refine WX.see rfl rfl rfl (fun _ hΓ => looks_arith rfl rfl rfl rfl (by unfold I64; first | omega | (simp only [List.length_take, List.length_drop] at *; omega) | (dsimp only; omega))) ?_
              refine WX.run ttOk rfl ?_
              exact WX.iter (i + 1) ⟨(by omega), (by rw [v2, drop_get e1h]; simp only [impl_ValidPart_L1, h2, h3, h4, h5, h6, cond_true, cond_false])⟩ (by first | (dsimp only; omega) | omega) (.cons rfl (.cons rfl (.cons rfl (.nil)))) .nil .nil [] rfl
        · skip
          have h4d := B.df h4
          refine WX.run ttOk rfl ?_
          refine WX.cases 31 rfl (fun h7 => ?_) (fun h7 => ?_)
          · skip
            have h7d := B.ef (B.nt h7)
            refine WX.run ttOk rfl ?_
            have hP3 : impl_ValidPart_L1 ((s).data.toList) = (some false) := by rw [v2, drop_get e1h]; simp only [impl_ValidPart_L1, h2, h3, h4, h7, cond_true, cond_false]
            have hP4 : impl_ValidPart s = false := by simp only [impl_ValidPart, hP3, cond_true, cond_false]
            refine WX.ret ttOk rfl ?_
            intro w1 G bs hI hΓ
            rw [hP4]
            exact ⟨rfl, trivial⟩
          · skip
            have h7d := B.et (B.nf h7)
            refine WX.run ttOk rfl ?_
            refine WX.see rfl rfl rfl (fun _ hΓ => looks_arith rfl rfl rfl rfl (by unfold I64; first | omega | (simp only [List.length_take, List.length_drop] at *; omega) | (dsimp only; omega))) ?_
            refine WX.run ttOk rfl ?_
            exact WX.iter (i + 1) ⟨(by omega), (by rw [v2, drop_get e1h]; simp only [impl_ValidPart_L1, h2, h3, h4, h7, cond_true, cond_false])⟩ (by first | (dsimp only; omega) | omega) (.cons rfl (.cons rfl (.cons rfl (.nil)))) .nil .nil [] rfl
    · skip
      have h2d := B.df h2
      refine WX.run ttOk rfl ?_
      refine WX.cases 22 rfl (fun h8 => ?_) (fun h8 => ?_)
      · skip
        have h8d := B.dt h8
        refine WX.run ttOk rfl ?_
        refine WX.cases 27 rfl (fun h9 => ?_) (fun h9 => ?_)
        · skip
          have h9d := B.dt h9
          refine WX.run ttOk rfl ?_
          refine WX.see rfl rfl rfl (fun _ hΓ => looks_arith rfl rfl rfl rfl (by unfold I64; first | omega | (simp only [List.length_take, List.length_drop] at *; omega) | (dsimp only; omega))) ?_
          refine WX.run ttOk rfl ?_
          exact WX.iter (i + 1) ⟨(by omega), (by rw [v2, drop_get e1h]; simp only [impl_ValidPart_L1, h2, h8, h9, cond_true, cond_false])⟩ (by first | (dsimp only; omega) | omega) (.cons rfl (.cons rfl (.cons rfl (.nil)))) .nil .nil [] rfl
        · skip
          have h9d := B.df h9
          refine WX.run ttOk rfl ?_
          refine WX.cases 31 rfl (fun h10 => ?_) (fun h10 => ?_)
          · skip
            have h10d := B.ef (B.nt h10)
            refine WX.run ttOk rfl ?_
            have hP5 : impl_ValidPart_L1 ((s).data.toList) = (some false) := by rw [v2, drop_get e1h]; simp only [impl_ValidPart_L1, h2, h8, h9, h10, cond_true, cond_false]
            have hP6 : impl_ValidPart s = false := by simp only [impl_ValidPart, hP5, cond_true, cond_false]
            refine WX.ret ttOk rfl ?_
            intro w1 G bs hI hΓ
            rw [hP6]
            exact ⟨rfl, trivial⟩
          · skip
            have h10d := B.et (B.nf h10)
            refine WX.run ttOk rfl ?_
            refine WX.see rfl rfl rfl (fun _ hΓ => looks_arith rfl rfl rfl rfl (by unfold I64; first | omega | (simp only [List.length_take, List.length_drop] at *; omega) | (dsimp only; omega))) ?_
            refine WX.run ttOk rfl ?_
            exact WX.iter (i + 1) ⟨(by omega), (by rw [v2, drop_get e1h]; simp only [impl_ValidPart_L1, h2, h8, h9, h10, cond_true, cond_false])⟩ (by first | (dsimp only; omega) | omega) (.cons rfl (.cons rfl (.cons rfl (.nil)))) .nil .nil [] rfl
      · skip
        have h8d := B.df h8
        refine WX.run ttOk rfl ?_
        refine WX.cases 31 rfl (fun h11 => ?_) (fun h11 => ?_)
        · skip
          have h11d := B.ef (B.nt h11)
          refine WX.run ttOk rfl ?_
          have hP7 : impl_ValidPart_L1 ((s).data.toList) = (some false) := by rw [v2, drop_get e1h]; simp only [impl_ValidPart_L1, h2, h8, h11, cond_true, cond_false]
          have hP8 : impl_ValidPart s = false := by simp only [impl_ValidPart, hP7, cond_true, cond_false]
          refine WX.ret ttOk rfl ?_
          intro w1 G bs hI hΓ
          rw [hP8]
          exact ⟨rfl, trivial⟩
        · skip
          have h11d := B.et (B.nf h11)
          refine WX.run ttOk rfl ?_
          refine WX.see rfl rfl rfl (fun _ hΓ => looks_arith rfl rfl rfl rfl (by unfold I64; first | omega | (simp only [List.length_take, List.length_drop] at *; omega) | (dsimp only; omega))) ?_
          refine WX.run ttOk rfl ?_
          exact WX.iter (i + 1) ⟨(by omega), (by rw [v2, drop_get e1h]; simp only [impl_ValidPart_L1, h2, h8, h11, cond_true, cond_false])⟩ (by first | (dsimp only; omega) | omega) (.cons rfl (.cons rfl (.cons rfl (.nil)))) .nil .nil [] rfl
  · skip
    have h1d := B.df h1
    refine WX.run ttOk rfl ?_
    have hX1 : impl_ValidPart_L1 ((s).data.toList) = none := by rw [v2, List.drop_eq_nil_of_le (show ((s).data.toList).length ≤ i by (have hz_ : ((s).data.toList).length = (s).size := by simp); omega)]; simp only [impl_ValidPart_L1, cond_true, cond_false]
    refine WX.callV rfl rfl rfl rfl rfl (fun _ => rfl) rfl (fun w G bs hI hΓ => f50 w n (by omega) (((s).size : Nat) : Int) 1 8 (show I64 (((s).size : Nat) : Int) from (by unfold I64; omega)) (show I64 1 from (by unfold I64; omega)) (show I64 8 from (by unfold I64; omega))) ?_
    intro hq1
    refine WX.run ttOk rfl ?_
    have hP9 : impl_ValidPart s = (impl_InRange (((s).size : Nat) : Int) 1 8) := by simp only [impl_ValidPart, hX1, cond_true, cond_false]
    refine WX.ret ttOk rfl ?_
    intro w1 G bs hI hΓ
    rw [hP9]
    exact ⟨rfl, trivial⟩
theorem f61 (w : World) (n : Nat) (hn : n + 0 ≤ 9) (s : Str) (hoks : GoT.ok n s) :
    Does Try.prog 61 #[.string s] w emp (fun (rv : Value) (_ : World) => rv = .bool (spec_ValidPart s) ∧ True) := by
  have hbP := bd_pos n
  have hbB := bd_big (n := n) (by omega)
  refine WX.enter (tt := tt) (Γ := []) Try.func61 rfl (by kernel_rfl) rfl allS_nil ?_
  refine WX.run ttOk rfl ?_
  have r1 : (s).size ≤ bd n := hoks
  refine WX.callV rfl rfl rfl rfl rfl (fun _ => rfl) rfl (fun w G bs hI hΓ => f42 w n (by omega) (((s).size : Nat) : Int) 1 8 (show I64 (((s).size : Nat) : Int) from (by unfold I64; omega)) (show I64 1 from (by unfold I64; omega)) (show I64 8 from (by unfold I64; omega))) ?_
  intro hq1
  refine WX.run ttOk rfl ?_
  refine WX.cases 8 rfl (fun h1 => ?_) (fun h1 => ?_)
  · skip
    have h1d := (B.nt h1)
    refine WX.run ttOk rfl ?_
    have hP1 : spec_ValidPart s = false := by simp only [spec_ValidPart, h1, cond_true, cond_false]
    refine WX.ret ttOk rfl ?_
    intro w1 G bs hI hΓ
    rw [hP1]
    exact ⟨rfl, trivial⟩
  · skip
    have h1d := (B.nf h1)
    have h1r := inR_spec (B.nf h1)
    refine WX.run ttOk rfl ?_
    refine WX.loop (ι := Nat) ⟨fun i => (i ≤ ((s).data.toList).length) ∧ (spec_ValidPart_L1 ((s).data.toList) = spec_ValidPart_L1 (((s).data.toList).drop i)), fun i => ((s).data.toList).length - i, fun i => [(3, .v (.int .i64 (((i : Nat) : Int)))), (0, .v (.string s))], fun i => [], fun i => [], fun i => []⟩ 0 ⟨(Nat.zero_le _), rfl⟩
      (.cons rfl (.cons rfl (.nil))) .nil .nil [] rfl ?_
    rintro i hpre
    have hpre_ : (i ≤ ((s).data.toList).length) ∧ (spec_ValidPart_L1 ((s).data.toList) = spec_ValidPart_L1 (((s).data.toList).drop i)) := hpre
    clear hpre
    obtain ⟨v1, v2⟩ := hpre_
    refine WX.run ttOk rfl ?_
    refine WX.cases 12 rfl (fun h2 => ?_) (fun h2 => ?_)
    · skip
      have h2d := B.dt h2
      have e1i : i < ((s).data.toList).length := (by (have hz_ : ((s).data.toList).length = (s).size := by simp); omega)
      obtain ⟨e1, e1h⟩ : ∃ e1, ((s).data.toList)[i]? = some e1 := ⟨_, List.getElem?_eq_getElem e1i⟩
      refine WX.run ttOk rfl ?_
      refine WX.see rfl rfl rfl (fun _ hΓ => looks_strIdx ttOk rfl rfl rfl rfl rfl e1h) ?_
      refine WX.see rfl rfl rfl (fun _ hΓ => looks_ofU8 ttOk rfl rfl rfl rfl rfl rfl) ?_
      refine WX.run ttOk rfl ?_
      have r2 : (e1).toNat < 256 := UInt8.toNat_lt _
      refine WX.callV rfl rfl rfl rfl rfl (fun _ => rfl) rfl (fun w G bs hI hΓ => f42 w n (by omega) ((e1).toNat : Int) 97 122 (show I64 ((e1).toNat : Int) from (by unfold I64; omega)) (show I64 97 from (by unfold I64; omega)) (show I64 122 from (by unfold I64; omega))) ?_
      intro hq2
      refine WX.run ttOk rfl ?_
      refine WX.cases 22 rfl (fun h3 => ?_) (fun h3 => ?_)
      · skip
        have h3d := (B.nt h3)
        refine WX.run ttOk rfl ?_
        refine WX.callV rfl rfl rfl rfl rfl (fun _ => rfl) rfl (fun w G bs hI hΓ => f42 w n (by omega) ((e1).toNat : Int) 48 57 (show I64 ((e1).toNat : Int) from (by unfold I64; omega)) (show I64 48 from (by unfold I64; omega)) (show I64 57 from (by unfold I64; omega))) ?_
        intro hq3
        refine WX.run ttOk rfl ?_
        refine WX.cases 27 rfl (fun h4 => ?_) (fun h4 => ?_)
        · skip
          have h4d := (B.nt h4)
          refine WX.run ttOk rfl ?_
          refine WX.cases 30 rfl (fun h5 => ?_) (fun h5 => ?_)
          · skip
            have h5d := B.nt' h5
            refine WX.run ttOk rfl ?_
            have hP2 : spec_ValidPart_L1 ((s).data.toList) = (some false) := by rw [v2, drop_get e1h]; simp only [spec_ValidPart_L1, h3, h4, h5, cond_true, cond_false]
            have hP3 : spec_ValidPart s = false := by simp only [spec_ValidPart, h1, hP2, cond_true, cond_false]
            refine WX.ret ttOk rfl ?_
            intro w1 G bs hI hΓ
            rw [hP3]
            exact ⟨rfl, trivial⟩
          · skip
            have h5d := B.nf' h5
            refine WX.run ttOk rfl ?_
            refine WX.see rfl rfl rfl (fun _ hΓ => looks_arith rfl rfl rfl rfl (by unfold I64; first | omega | (simp only [List.length_take, List.length_drop] at *; omega) | (dsimp only; omega))) ?_
            refine WX.run ttOk rfl ?_
            exact WX.iter (i + 1) ⟨(by omega), (by rw [v2, drop_get e1h]; simp only [spec_ValidPart_L1, h3, h4, h5, cond_true, cond_false])⟩ (by first | (dsimp only; omega) | omega) (.cons rfl (.cons rfl (.nil))) .nil .nil [] rfl
        · skip
          have h4d := (B.nf h4)
          have h4r := inR_spec (B.nf h4)
          refine WX.run ttOk rfl ?_
          refine WX.see rfl rfl rfl (fun _ hΓ => looks_arith rfl rfl rfl rfl (by unfold I64; first | omega | (simp only [List.length_take, List.length_drop] at *; omega) | (dsimp only; omega))) ?_
          refine WX.run ttOk rfl ?_
          exact WX.iter (i + 1) ⟨(by omega), (by rw [v2, drop_get e1h]; simp only [spec_ValidPart_L1, h3, h4, cond_true, cond_false])⟩ (by first | (dsimp only; omega) | omega) (.cons rfl (.cons rfl (.nil))) .nil .nil [] rfl
      · skip
        have h3d := (B.nf h3)
        have h3r := inR_spec (B.nf h3)
        refine WX.run ttOk rfl ?_
        refine WX.see rfl rfl rfl (fun _ hΓ => looks_arith rfl rfl rfl rfl (by unfold I64; first | omega | (simp only [List.length_take, List.length_drop] at *; omega) | (dsimp only; omega))) ?_
        refine WX.run ttOk rfl ?_
        exact WX.iter (i + 1) ⟨(by omega), (by rw [v2, drop_get e1h]; simp only [spec_ValidPart_L1, h3, cond_true, cond_false])⟩ (by first | (dsimp only; omega) | omega) (.cons rfl (.cons rfl (.nil))) .nil .nil [] rfl
    · skip
      have h2d := B.df h2
      refine WX.run ttOk rfl ?_
      have hX1 : spec_ValidPart_L1 ((s).data.toList) = none := by rw [v2, List.drop_eq_nil_of_le (show ((s).data.toList).length ≤ i by (have hz_ : ((s).data.toList).length = (s).size := by simp); omega)]; simp only [spec_ValidPart_L1, cond_true, cond_false]
      have hP4 : spec_ValidPart s = true := by simp only [spec_ValidPart, h1, hX1, cond_true, cond_false]
      refine WX.ret ttOk rfl ?_
      intro w1 G bs hI hΓ
      rw [hP4]
      exact ⟨rfl, trivial⟩
theorem f74 (w : World) (n : Nat) (hn : n + 0 ≤ 9) (s : (List Str)) (ps : Option Addr) (cs : Nat) (hps : RdSl (hp w) ps cs s) (fg : FuncId) (fc : List Value) (fq : Str → Bool) (ff : ∀ w1, Kp emp w w1 → ∀ (e0 : Str) (x0 : GoT.X Str), GoT.ok n e0 → All (hp w1) (GoT.fa .der e0 x0) → Does Try.prog fg ([(GoT.sh e0 x0).headD undef] ++ fc).toArray w1 emp (fun rv _ => rv = .bool (fq e0) ∧ True)) (hoks : GoT.ok n s) :
    Does Try.prog 74 #[.slice ps ((s).length) cs, .func (.func fg) #[] fc.toArray] w emp (fun (rv : Value) (_ : World) => rv = .int .i64 ((slices_IndexFunc_string s fq)) ∧ GoT.ok n ((slices_IndexFunc_string s fq) : Int)) := by
  have hbP := bd_pos n
  have hbB := bd_big (n := n) (by omega)
  refine WX.enter (tt := tt) (Γ := [(0, MF.rs .stb ps cs s)]) Try.func74 rfl (by kernel_rfl) rfl (allS_cons rfl hps allS_nil) ?_
  refine WX.run ttOk rfl ?_
  have r1 : (s).length ≤ bd n := (okl hoks).1
  refine WX.loop (ι := Nat) ⟨fun i => (i ≤ (s).length) ∧ (slices_IndexFunc_string_L1 fq s 0 = slices_IndexFunc_string_L1 fq ((s).drop i) i), fun i => (s).length - i, fun i => [(8, .v (.int .i64 (((i : Nat) : Int)))), (7, .v (.int .i64 ((((s).length : Nat) : Int)))), (0, .v (.slice ps ((s).length) cs)), (1, .v (.func (.func fg) #[] fc.toArray))], fun i => [], fun i => [], fun i => [(0, MF.rs .stb ps cs s)]⟩ 0 ⟨(Nat.zero_le _), rfl⟩
    (.cons rfl (.cons rfl (.cons rfl (.cons rfl (.nil))))) .nil .nil [0] rfl ?_
  rintro i hpre
  have hpre_ : (i ≤ (s).length) ∧ (slices_IndexFunc_string_L1 fq s 0 = slices_IndexFunc_string_L1 fq ((s).drop i) i) := hpre
  clear hpre
  obtain ⟨v1, v2⟩ := hpre_
  refine WX.run ttOk rfl ?_
  refine WX.cases 9 rfl (fun h1 => ?_) (fun h1 => ?_)
  · skip
    have h1d := B.dt h1
    have e1i : i < (s).length := (by omega)
    obtain ⟨e1, e1h⟩ : ∃ e1, (s)[i]? = some e1 := ⟨_, List.getElem?_eq_getElem e1i⟩
    have ok1 : GoT.ok n e1 := (okl hoks).2 _ (List.mem_of_getElem? e1h)
    refine WX.run ttOk rfl ?_
    refine WX.idx 0 i ttOk rfl rfl rfl rfl rfl rfl rfl rfl rfl rfl e1i ?_
    rintro ad1 rfl
    refine WX.ldE 0 1 e1 ttOk rfl rfl rfl rfl rfl rfl rfl rfl e1h (fun _ => rfl) (fun _ => rfl) ?_
    rintro ⟨⟩
    refine WX.callV rfl rfl rfl rfl rfl (fun _ => rfl) rfl (fun w G bs hI hΓ => ff w hI.keep e1 () ok1 All.nil) ?_
    intro hq1
    refine WX.run ttOk rfl ?_
    refine WX.cases 16 rfl (fun h2 => ?_) (fun h2 => ?_)
    · skip
      refine WX.run ttOk rfl ?_
      have hP1 : slices_IndexFunc_string_L1 fq s 0 = (some ((i : Nat) : Int)) := by rw [v2, drop_get e1h]; simp only [slices_IndexFunc_string_L1, h2, cond_true, cond_false]
      have hP2 : slices_IndexFunc_string s fq = ((i : Nat) : Int) := by simp only [slices_IndexFunc_string, hP1, cond_true, cond_false]
      refine WX.ret ttOk rfl ?_
      intro w1 G bs hI hΓ
      rw [hP2]
      exact ⟨rfl, (show I64 ((i : Nat) : Int) from (by unfold I64; omega))⟩
    · skip
      refine WX.run ttOk rfl ?_
      refine WX.see rfl rfl rfl (fun _ hΓ => looks_arith rfl rfl rfl rfl (by unfold I64; first | omega | (simp only [List.length_take, List.length_drop] at *; omega) | (dsimp only; omega))) ?_
      refine WX.run ttOk rfl ?_
      exact WX.iter (i + 1) ⟨(by omega), (by rw [v2, drop_get e1h]; simp only [slices_IndexFunc_string_L1, h2, cond_true, cond_false])⟩ (by first | (dsimp only; omega) | omega) (.cons rfl (.cons rfl (.cons rfl (.cons rfl (.nil))))) .nil .nil [0] rfl
  · skip
    have h1d := B.df h1
    refine WX.run ttOk rfl ?_
    have hX1 : slices_IndexFunc_string_L1 fq s 0 = none := by rw [v2, List.drop_eq_nil_of_le (show (s).length ≤ i by omega)]; simp only [slices_IndexFunc_string_L1, cond_true, cond_false]
    have hP3 : slices_IndexFunc_string s fq = (-1) := by simp only [slices_IndexFunc_string, hX1, cond_true, cond_false]
    refine WX.ret ttOk rfl ?_
    intro w1 G bs hI hΓ
    rw [hP3]
    exact ⟨rfl, (show I64 (-1) from (by unfold I64; omega))⟩
theorem ltL_slices_IndexFunc_string : ∀ (f : Str → Bool) (l : List Str) (i : Nat) (j : Int), slices_IndexFunc_string_L1 f l i = some j → j < ((i + l.length : Nat) : Int)
  | f, [], i, j, h => by cases h
  | f, x :: l, i, j, h => by
    simp only [slices_IndexFunc_string_L1] at h
    cases hx : f x
    · rw [hx, cond_false] at h
      have := ltL_slices_IndexFunc_string f l (i + 1) j h
      simp only [List.length_cons]; omega
    · rw [hx, cond_true] at h
      cases h
      simp only [List.length_cons]; omega
theorem ltI_slices_IndexFunc_string (l : List Str) (f : Str → Bool) : slices_IndexFunc_string l f < ((l.length : Nat) : Int) := by
  unfold slices_IndexFunc_string
  cases h : slices_IndexFunc_string_L1 f l 0 with
  | none => show (-1 : Int) < _; omega
  | some j => have := ltL_slices_IndexFunc_string f l 0 j h; show j < _; omega
theorem f65 (w : World) (n : Nat) (hn : n + 0 ≤ 9) (s : (List Str)) (ps : Option Addr) (cs : Nat) (hps : RdSl (hp w) ps cs s) (fg : FuncId) (fc : List Value) (fq : Str → Bool) (ff : ∀ w1, Kp emp w w1 → ∀ (e0 : Str) (x0 : GoT.X Str), GoT.ok n e0 → All (hp w1) (GoT.fa .der e0 x0) → Does Try.prog fg ([(GoT.sh e0 x0).headD undef] ++ fc).toArray w1 emp (fun rv _ => rv = .bool (fq e0) ∧ True)) (hoks : GoT.ok n s) :
    Does Try.prog 65 #[.slice ps ((s).length) cs, .func (.func fg) #[] fc.toArray] w emp (fun (rv : Value) (_ : World) => rv = .bool (slices_ContainsFunc_string s fq) ∧ True) := by
  have hbP := bd_pos n
  have hbB := bd_big (n := n) (by omega)
  refine WX.enter (tt := tt) (Γ := [(0, MF.rs .stb ps cs s)]) Try.func65 rfl (by kernel_rfl) rfl (allS_cons rfl hps allS_nil) ?_
  refine WX.run ttOk rfl ?_
  refine WX.callV rfl rfl rfl rfl rfl (fun _ => rfl) rfl (fun w G bs hI hΓ => f74 w n (by omega) s ps cs (hΓ.get 0 rfl) fg fc fq (fun w1_ hb_ => ff w1_ (hI.keep.trans hb_)) hoks) ?_
  intro hq1
  have q1 := ltI_slices_IndexFunc_string s fq
  refine WX.run ttOk rfl ?_
  have hP1 : slices_ContainsFunc_string s fq = (decide ((slices_IndexFunc_string s fq) ≥ 0)) := by simp only [slices_ContainsFunc_string, cond_true, cond_false]
  refine WX.ret ttOk rfl ?_
  intro w1 G bs hI hΓ
  rw [hP1]
  exact ⟨rfl, trivial⟩
theorem f66 (w : World) (n : Nat) (hn : n + 0 ≤ 9) (p_ : Str) (hokp_ : GoT.ok n p_) :
    Does Try.prog 66 #[.string p_] w emp (fun (rv : Value) (_ : World) => rv = .bool (impl_ValidName_c1 p_) ∧ True) := by
  have hbP := bd_pos n
  have hbB := bd_big (n := n) (by omega)
  refine WX.enter (tt := tt) (Γ := []) Try.func66 rfl (by kernel_rfl) rfl allS_nil ?_
  refine WX.run ttOk rfl ?_
  refine WX.callV rfl rfl rfl rfl rfl (fun _ => rfl) rfl (fun w G bs hI hΓ => f67 w n (by omega) p_ hokp_) ?_
  intro hq1
  refine WX.run ttOk rfl ?_
  have hP1 : impl_ValidName_c1 p_ = (!(impl_ValidPart p_)) := by simp only [impl_ValidName_c1, cond_true, cond_false]
  refine WX.ret ttOk rfl ?_
  intro w1 G bs hI hΓ
  rw [hP1]
  exact ⟨rfl, trivial⟩
theorem f52 (w : World) (n : Nat) (hn : n + 0 ≤ 9) (n_ : Name) (pn_ : Option Addr) (cn_ : Nat) (hpn_ : RdSl (hp w) pn_ cn_ n_.parts) (hokn_ : GoT.ok n n_) :
    Does Try.prog 52 #[.agg #[.slice pn_ ((n_.parts).length) cn_]] w emp (fun (rv : Value) (_ : World) => rv = .bool (impl_ValidName n_) ∧ True) := by
  have hbP := bd_pos n
  have hbB := bd_big (n := n) (by omega)
  refine WX.enter (tt := tt) (Γ := [(0, MF.rs .stb pn_ cn_ n_.parts)]) Try.func52 rfl (by kernel_rfl) rfl (allS_cons rfl hpn_ allS_nil) ?_
  refine WX.run ttOk rfl ?_
  refine WX.cases 7 rfl (fun h1 => ?_) (fun h1 => ?_)
  · skip
    have h1d := B.dt h1
    refine WX.run ttOk rfl ?_
    refine WX.callV rfl rfl rfl rfl rfl (fun _ => rfl) rfl (fun w G bs hI hΓ => f65 w n (by omega) n_.parts pn_ cn_ (hΓ.get 0 rfl) 66 [] (fun e0_ => (impl_ValidName_c1 e0_)) (fun w1_ hb_ e0_ x0_ hk0_ hx0_ => f66 w1_ n (by omega) e0_ hk0_) (ok_Name hokn_)) ?_
    intro hq1
    refine WX.run ttOk rfl ?_
    have hP1 : impl_ValidName n_ = (!(slices_ContainsFunc_string n_.parts (fun e0_ => (impl_ValidName_c1 e0_)))) := by simp only [impl_ValidName, h1, cond_true, cond_false]
    refine WX.ret ttOk rfl ?_
    intro w1 G bs hI hΓ
    rw [hP1]
    exact ⟨rfl, trivial⟩
  · skip
    have h1d := B.df h1
    refine WX.run ttOk rfl ?_
    have hP2 : impl_ValidName n_ = false := by simp only [impl_ValidName, h1, cond_true, cond_false]
    refine WX.ret ttOk rfl ?_
    intro w1 G bs hI hΓ
    rw [hP2]
    exact ⟨rfl, trivial⟩
theorem f44 (w : World) (n : Nat) (hn : n + 0 ≤ 9) (n_ : Name) (pn_ : Option Addr) (cn_ : Nat) (hpn_ : RdSl (hp w) pn_ cn_ n_.parts) (hokn_ : GoT.ok n n_) :
    Does Try.prog 44 #[.agg #[.slice pn_ ((n_.parts).length) cn_]] w emp (fun (rv : Value) (_ : World) => rv = .bool (spec_ValidName n_) ∧ True) := by
  have hbP := bd_pos n
  have hbB := bd_big (n := n) (by omega)
  refine WX.enter (tt := tt) (Γ := [(0, MF.rs .stb pn_ cn_ n_.parts)]) Try.func44 rfl (by kernel_rfl) rfl (allS_cons rfl hpn_ allS_nil) ?_
  refine WX.run ttOk rfl ?_
  have r1 : (n_.parts).length ≤ bd n := (okl (ok_Name hokn_)).1
  refine WX.loop (ι := Nat) ⟨fun i => (i ≤ (n_.parts).length) ∧ (spec_ValidName_L1 n_.parts = spec_ValidName_L1 ((n_.parts).drop i)), fun i => (n_.parts).length - i, fun i => [(3, .v (.int .i64 (((i : Nat) : Int)))), (1, .p 1 0)], fun i => [(1, ⟨53, [.slice pn_ ((n_.parts).length) cn_]⟩)], fun i => [], fun i => [(0, MF.rs .stb pn_ cn_ n_.parts)]⟩ 0 ⟨(Nat.zero_le _), rfl⟩
    (.cons rfl (.cons rfl (.nil))) (.cons rfl (.nil)) .nil [0] rfl ?_
  rintro i hpre
  have hpre_ : (i ≤ (n_.parts).length) ∧ (spec_ValidName_L1 n_.parts = spec_ValidName_L1 ((n_.parts).drop i)) := hpre
  clear hpre
  obtain ⟨v1, v2⟩ := hpre_
  refine WX.run ttOk rfl ?_
  refine WX.cases 8 rfl (fun h1 => ?_) (fun h1 => ?_)
  · skip
    have h1d := B.dt h1
    have e1i : i < (n_.parts).length := (by omega)
    obtain ⟨e1, e1h⟩ : ∃ e1, (n_.parts)[i]? = some e1 := ⟨_, List.getElem?_eq_getElem e1i⟩
    have ok1 : GoT.ok n e1 := (okl (ok_Name hokn_)).2 _ (List.mem_of_getElem? e1h)
    refine WX.run ttOk rfl ?_
    refine WX.idx 0 i ttOk rfl rfl rfl rfl rfl rfl rfl rfl rfl rfl e1i ?_
    rintro ad1 rfl
    refine WX.ldE 0 1 e1 ttOk rfl rfl rfl rfl rfl rfl rfl rfl e1h (fun _ => rfl) (fun _ => rfl) ?_
    rintro ⟨⟩
    refine WX.callV rfl rfl rfl rfl rfl (fun _ => rfl) rfl (fun w G bs hI hΓ => f61 w n (by omega) e1 ok1) ?_
    intro hq1
    refine WX.run ttOk rfl ?_
    refine WX.cases 17 rfl (fun h2 => ?_) (fun h2 => ?_)
    · skip
      have h2d := (B.nt h2)
      refine WX.run ttOk rfl ?_
      have hP1 : spec_ValidName_L1 n_.parts = (some false) := by rw [v2, drop_get e1h]; simp only [spec_ValidName_L1, h2, cond_true, cond_false]
      have hP2 : spec_ValidName n_ = false := by simp only [spec_ValidName, hP1, cond_true, cond_false]
      refine WX.ret ttOk rfl ?_
      intro w1 G bs hI hΓ
      rw [hP2]
      exact ⟨rfl, trivial⟩
    · skip
      have h2d := (B.nf h2)
      refine WX.run ttOk rfl ?_
      refine WX.see rfl rfl rfl (fun _ hΓ => looks_arith rfl rfl rfl rfl (by unfold I64; first | omega | (simp only [List.length_take, List.length_drop] at *; omega) | (dsimp only; omega))) ?_
      refine WX.run ttOk rfl ?_
      exact WX.iter (i + 1) ⟨(by omega), (by rw [v2, drop_get e1h]; simp only [spec_ValidName_L1, h2, cond_true, cond_false])⟩ (by first | (dsimp only; omega) | omega) (.cons rfl (.cons rfl (.nil))) (.cons rfl (.nil)) .nil [0] rfl
  · skip
    have h1d := B.df h1
    refine WX.run ttOk rfl ?_
    have hX1 : spec_ValidName_L1 n_.parts = none := by rw [v2, List.drop_eq_nil_of_le (show (n_.parts).length ≤ i by omega)]; simp only [spec_ValidName_L1, cond_true, cond_false]
    have hP3 : spec_ValidName n_ = (decide ((((n_.parts).length : Nat) : Int) ≤ 6)) := by simp only [spec_ValidName, hX1, cond_true, cond_false]
    refine WX.ret ttOk rfl ?_
    intro w1 G bs hI hΓ
    rw [hP3]
    exact ⟨rfl, trivial⟩
end Go.Proofs.Ytfffongneoegbaa

namespace Go.Stp
set_option linter.unusedVariables false
set_option linter.unusedSimpArgs false
def cmp_isNaN_string (x_ : Str) : Bool :=
  (!((x_).toList == (x_).toList))
def cmp_Compare_string (x_ : Str) (y : Str) : Int :=
  bif (cmp_isNaN_string x_) then
    bif (cmp_isNaN_string y) then
      0
    else
      (-1)
  else
    bif (cmp_isNaN_string y) then
      1
    else
      bif (Op.bytesLess (x_).toList (y).toList) then
        (-1)
      else
        bif (!(Op.bytesLess (x_).toList (y).toList || (x_).toList == (y).toList)) then
          1
        else
          0
def slices_Compare_string_L1 (s2 : (List Str)) : List Str → Nat → Option (Int)
  | [], i => none
  | e1 :: rest_, i =>
    bif decide (((i : Nat) : Int) ≥ (((s2).length : Nat) : Int)) then
      (some 1)
    else
      match (s2)[i]? with
        | none => default
        | some e2 =>
          bif ((cmp_Compare_string e1 e2) != 0) then
            (some (cmp_Compare_string e1 e2))
          else
            slices_Compare_string_L1 s2 rest_ (i + 1)
def slices_Compare_string (s1 : (List Str)) (s2 : (List Str)) : Int :=
  match slices_Compare_string_L1 s2 s1 0 with
    | some r_ => r_
    | none =>
      bif decide ((((s1).length : Nat) : Int) < (((s2).length : Nat) : Int)) then
        (-1)
      else
        0
def impl_CompareNames (a : Name) (b : Name) : Int :=
  (slices_Compare_string a.parts b.parts)
def impl_ValidTable_L1 (l : (List TableEntry)) : List TableEntry → Nat → Option (Bool)
  | [], i => none
  | e1 :: rest_, i =>
    bif (!(impl_ValidName e1.name)) then
      (some false)
    else
      bif decide (((i : Nat) : Int) > 0) then
        match (l)[(((i : Nat) : Int) - 1).toNat]? with
          | none => default
          | some e2 =>
            bif decide ((impl_CompareNames e2.name e1.name) ≥ 0) then
              (some false)
            else
              impl_ValidTable_L1 l rest_ (i + 1)
      else
        impl_ValidTable_L1 l rest_ (i + 1)
def impl_ValidTable (l : (List TableEntry)) : Bool :=
  match impl_ValidTable_L1 l l 0 with
    | some r_ => r_
    | none =>
      (decide ((((l).length : Nat) : Int) ≤ 20))
def spec_ValidTable_L1 (l : (List TableEntry)) : List TableEntry → Nat → Option (Bool)
  | [], i => none
  | e1 :: rest_, i =>
    bif (!(spec_ValidName e1.name)) then
      (some false)
    else
      bif decide (((i : Nat) : Int) > 0) then
        match (l)[(((i : Nat) : Int) - 1).toNat]? with
          | none => default
          | some e2 =>
            bif decide ((spec_CompareNames e2.name e1.name) ≥ 0) then
              (some false)
            else
              spec_ValidTable_L1 l rest_ (i + 1)
      else
        spec_ValidTable_L1 l rest_ (i + 1)
def spec_ValidTable (l : (List TableEntry)) : Bool :=
  match spec_ValidTable_L1 l l 0 with
    | some r_ => r_
    | none =>
      (decide ((((l).length : Nat) : Int) ≤ 20))
def slices_IndexFunc_TableEntry_L1 (fq : TableEntry → Bool) : List TableEntry → Nat → Option (Int)
  | [], i => none
  | e1 :: rest_, i =>
    bif fq e1 then
      (some ((i : Nat) : Int))
    else
      slices_IndexFunc_TableEntry_L1 fq rest_ (i + 1)
def slices_IndexFunc_TableEntry (s : (List TableEntry)) (fq : TableEntry → Bool) : Int :=
  match slices_IndexFunc_TableEntry_L1 fq s 0 with
    | some r_ => r_
    | none =>
      (-1)
def slices_ContainsFunc_TableEntry (s : (List TableEntry)) (fq : TableEntry → Bool) : Bool :=
  (decide ((slices_IndexFunc_TableEntry s fq) ≥ 0))
def impl_ValidVector_c1 (e_ : TableEntry) : Bool :=
  (!(impl_InRange e_.value 1 1000))
def impl_ValidVector (v : StateVector) : Bool :=
  bif (impl_ValidTable v.entries) then
    (!(slices_ContainsFunc_TableEntry v.entries (fun e0_ => (impl_ValidVector_c1 e0_))))
  else
    false
def spec_ValidVector_L1 : List TableEntry → Option (Bool)
  | [] => none
  | e1 :: rest_ =>
    bif (!(spec_l1In e1.value 1 1000)) then
      (some false)
    else
      spec_ValidVector_L1 rest_
def spec_ValidVector (v : StateVector) : Bool :=
  match spec_ValidVector_L1 v.entries with
    | some r_ => r_
    | none =>
      (spec_ValidTable v.entries)
end Go.Stp

namespace Go.Proofs.Ytfffongneoegbaa
open Go.Stp
set_option linter.unusedVariables false
set_option linter.unusedSimpArgs false
theorem f77 (w : World) (n : Nat) (hn : n + 0 ≤ 9) (x_ : Str) (hokx_ : GoT.ok n x_) :
    Does Try.prog 77 #[.string x_] w emp (fun (rv : Value) (_ : World) => rv = .bool (cmp_isNaN_string x_) ∧ True) := by
  refine WX.enter (tt := tt) (Γ := []) Try.func77 rfl (by kernel_rfl) rfl allS_nil ?_
  refine WX.run ttOk rfl ?_
  have hP1 : cmp_isNaN_string x_ = (!((x_).toList == (x_).toList)) := by simp only [cmp_isNaN_string, cond_true, cond_false]
  refine WX.ret ttOk rfl ?_
  intro w1 G bs hI hΓ
  rw [hP1]
  exact ⟨rfl, trivial⟩
theorem f76 (w : World) (n : Nat) (hn : n + 0 ≤ 9) (x_ : Str) (y : Str) (hokx_ : GoT.ok n x_) (hoky : GoT.ok n y) :
    Does Try.prog 76 #[.string x_, .string y] w emp (fun (rv : Value) (_ : World) => rv = .int .i64 ((cmp_Compare_string x_ y)) ∧ GoT.ok n ((cmp_Compare_string x_ y) : Int)) := by
  have hbP := bd_pos n
  have hbB := bd_big (n := n) (by omega)
  refine WX.enter (tt := tt) (Γ := []) Try.func76 rfl (by kernel_rfl) rfl allS_nil ?_
  refine WX.run ttOk rfl ?_
  refine WX.callV rfl rfl rfl rfl rfl (fun _ => rfl) rfl (fun w G bs hI hΓ => f77 w n (by omega) x_ hokx_) ?_
  intro hq1
  refine WX.run ttOk rfl ?_
  refine WX.callV rfl rfl rfl rfl rfl (fun _ => rfl) rfl (fun w G bs hI hΓ => f77 w n (by omega) y hoky) ?_
  intro hq2
  refine WX.run ttOk rfl ?_
  refine WX.cases 11 rfl (fun h1 => ?_) (fun h1 => ?_)
  · skip
    refine WX.run ttOk rfl ?_
    refine WX.cases 12 rfl (fun h2 => ?_) (fun h2 => ?_)
    · skip
      refine WX.run ttOk rfl ?_
      have hP1 : cmp_Compare_string x_ y = 0 := by simp only [cmp_Compare_string, h1, h2, cond_true, cond_false]
      refine WX.ret ttOk rfl ?_
      intro w1 G bs hI hΓ
      rw [hP1]
      exact ⟨rfl, (show I64 0 from (by unfold I64; omega))⟩
    · skip
      refine WX.run ttOk rfl ?_
      have hP2 : cmp_Compare_string x_ y = (-1) := by simp only [cmp_Compare_string, h1, h2, cond_true, cond_false]
      refine WX.ret ttOk rfl ?_
      intro w1 G bs hI hΓ
      rw [hP2]
      exact ⟨rfl, (show I64 (-1) from (by unfold I64; omega))⟩
  · skip
    refine WX.run ttOk rfl ?_
    refine WX.cases 13 rfl (fun h3 => ?_) (fun h3 => ?_)
    · skip
      refine WX.run ttOk rfl ?_
      have hP3 : cmp_Compare_string x_ y = 1 := by simp only [cmp_Compare_string, h1, h3, cond_true, cond_false]
      refine WX.ret ttOk rfl ?_
      intro w1 G bs hI hΓ
      rw [hP3]
      exact ⟨rfl, (show I64 1 from (by unfold I64; omega))⟩
    · skip
      refine WX.run ttOk rfl ?_
      refine WX.cases 16 rfl (fun h4 => ?_) (fun h4 => ?_)
      · skip
        refine WX.run ttOk rfl ?_
        have hP4 : cmp_Compare_string x_ y = (-1) := by simp only [cmp_Compare_string, h1, h3, h4, cond_true, cond_false]
        refine WX.ret ttOk rfl ?_
        intro w1 G bs hI hΓ
        rw [hP4]
        exact ⟨rfl, (show I64 (-1) from (by unfold I64; omega))⟩
      · skip
        refine WX.run ttOk rfl ?_
        refine WX.cases 19 rfl (fun h5 => ?_) (fun h5 => ?_)
        · skip
          refine WX.run ttOk rfl ?_
          have hP5 : cmp_Compare_string x_ y = 1 := by first | (simp only [cmp_Compare_string, h1, h3, h4, h5, cond_true, cond_false]; done) | (unfold cmp_Compare_string; rw [h5, h4, h3, h1]; simp only [cond_true, cond_false])
          refine WX.ret ttOk rfl ?_
          intro w1 G bs hI hΓ
          rw [hP5]
          exact ⟨rfl, (show I64 1 from (by unfold I64; omega))⟩
        · skip
          refine WX.run ttOk rfl ?_
          have hP6 : cmp_Compare_string x_ y = 0 := by first | (simp only [cmp_Compare_string, h1, h3, h4, h5, cond_true, cond_false]; done) | (unfold cmp_Compare_string; rw [h5, h4, h3, h1]; simp only [cond_true, cond_false])
          refine WX.ret ttOk rfl ?_
          intro w1 G bs hI hΓ
          rw [hP6]
          exact ⟨rfl, (show I64 0 from (by unfold I64; omega))⟩
theorem f73 (w : World) (n : Nat) (hn : n + 0 ≤ 9) (s1 : (List Str)) (ps1 : Option Addr) (cs1 : Nat) (hps1 : RdSl (hp w) ps1 cs1 s1) (s2 : (List Str)) (ps2 : Option Addr) (cs2 : Nat) (hps2 : RdSl (hp w) ps2 cs2 s2) (hoks1 : GoT.ok n s1) (hoks2 : GoT.ok n s2) :
    Does Try.prog 73 #[.slice ps1 ((s1).length) cs1, .slice ps2 ((s2).length) cs2] w emp (fun (rv : Value) (_ : World) => rv = .int .i64 ((slices_Compare_string s1 s2)) ∧ GoT.ok n ((slices_Compare_string s1 s2) : Int)) := by
  have hbP := bd_pos n
  have hbB := bd_big (n := n) (by omega)
  refine WX.enter (tt := tt) (Γ := [(0, MF.rs .stb ps1 cs1 s1), (1, MF.rs .stb ps2 cs2 s2)]) Try.func73 rfl (by kernel_rfl) rfl (allS_cons rfl hps1 (allS_cons rfl hps2 allS_nil)) ?_
  refine WX.run ttOk rfl ?_
  have r1 : (s1).length ≤ bd n := (okl hoks1).1
  refine WX.loop (ι := Nat) ⟨fun i => (i ≤ (s1).length) ∧ (slices_Compare_string_L1 s2 s1 0 = slices_Compare_string_L1 s2 ((s1).drop i) i), fun i => (s1).length - i, fun i => [(11, .v (.int .i64 (((i : Nat) : Int)))), (10, .v (.int .i64 ((((s1).length : Nat) : Int)))), (9, .v (.slice ps1 ((s1).length) cs1)), (0, .v (.slice ps1 ((s1).length) cs1)), (1, .v (.slice ps2 ((s2).length) cs2))], fun i => [], fun i => [], fun i => [(0, MF.rs .stb ps1 cs1 s1), (1, MF.rs .stb ps2 cs2 s2)]⟩ 0 ⟨(Nat.zero_le _), rfl⟩
    (.cons rfl (.cons rfl (.cons rfl (.cons rfl (.cons rfl (.nil)))))) .nil .nil [0, 1] rfl ?_
  rintro i hpre
  have hpre_ : (i ≤ (s1).length) ∧ (slices_Compare_string_L1 s2 s1 0 = slices_Compare_string_L1 s2 ((s1).drop i) i) := hpre
  clear hpre
  obtain ⟨v1, v2⟩ := hpre_
  refine WX.run ttOk rfl ?_
  refine WX.cases 12 rfl (fun h1 => ?_) (fun h1 => ?_)
  · skip
    have h1d := B.dt h1
    have e1i : i < (s1).length := (by omega)
    obtain ⟨e1, e1h⟩ : ∃ e1, (s1)[i]? = some e1 := ⟨_, List.getElem?_eq_getElem e1i⟩
    have ok1 : GoT.ok n e1 := (okl hoks1).2 _ (List.mem_of_getElem? e1h)
    refine WX.run ttOk rfl ?_
    refine WX.idx 0 i ttOk rfl rfl rfl rfl rfl rfl rfl rfl rfl rfl e1i ?_
    rintro ad1 rfl
    refine WX.ldE 0 2 e1 ttOk rfl rfl rfl rfl rfl rfl rfl rfl e1h (fun _ => rfl) (fun _ => rfl) ?_
    rintro ⟨⟩
    refine WX.run ttOk rfl ?_
    refine WX.cases 19 rfl (fun h2 => ?_) (fun h2 => ?_)
    · skip
      have h2d := B.dt h2
      refine WX.run ttOk rfl ?_
      have hP1 : slices_Compare_string_L1 s2 s1 0 = (some 1) := by rw [v2, drop_get e1h]; simp only [slices_Compare_string_L1, h2, cond_true, cond_false]
      have hP2 : slices_Compare_string s1 s2 = 1 := by simp only [slices_Compare_string, hP1, cond_true, cond_false]
      refine WX.ret ttOk rfl ?_
      intro w1 G bs hI hΓ
      rw [hP2]
      exact ⟨rfl, (show I64 1 from (by unfold I64; omega))⟩
    · skip
      have h2d := B.df h2
      refine WX.run ttOk rfl ?_
      have e2i : i < (s2).length := (by first | assumption | omega)
      obtain ⟨e2, e2h⟩ : ∃ e2, (s2)[i]? = some e2 := ⟨_, List.getElem?_eq_getElem e2i⟩
      have ok2 : GoT.ok n e2 := (okl hoks2).2 _ (List.mem_of_getElem? e2h)
      refine WX.idx 1 i ttOk rfl rfl rfl rfl rfl rfl rfl rfl rfl rfl e2i ?_
      rintro ad2 rfl
      refine WX.ldE 1 2 e2 ttOk rfl rfl rfl rfl rfl rfl rfl rfl e2h (fun _ => rfl) (fun _ => rfl) ?_
      rintro ⟨⟩
      refine WX.run ttOk rfl ?_
      refine WX.callV rfl rfl rfl rfl rfl (fun _ => rfl) rfl (fun w G bs hI hΓ => f76 w n (by omega) e1 e2 ok1 ok2) ?_
      intro hq1
      refine WX.run ttOk rfl ?_
      refine WX.cases 28 rfl (fun h3 => ?_) (fun h3 => ?_)
      · skip
        have h3d := B.nt' h3
        refine WX.run ttOk rfl ?_
        have hP3 : slices_Compare_string_L1 s2 s1 0 = (some (cmp_Compare_string e1 e2)) := by rw [v2, drop_get e1h]; simp only [slices_Compare_string_L1, h2, e2h, h3, cond_true, cond_false]
        have hP4 : slices_Compare_string s1 s2 = (cmp_Compare_string e1 e2) := by simp only [slices_Compare_string, hP3, cond_true, cond_false]
        refine WX.ret ttOk rfl ?_
        intro w1 G bs hI hΓ
        rw [hP4]
        exact ⟨rfl, hq1⟩
      · skip
        have h3d := B.nf' h3
        refine WX.run ttOk rfl ?_
        refine WX.see rfl rfl rfl (fun _ hΓ => looks_arith rfl rfl rfl rfl (by unfold I64; first | omega | (simp only [List.length_take, List.length_drop] at *; omega) | (dsimp only; omega))) ?_
        refine WX.run ttOk rfl ?_
        exact WX.iter (i + 1) ⟨(by omega), (by rw [v2, drop_get e1h]; simp only [slices_Compare_string_L1, h2, e2h, h3, cond_true, cond_false])⟩ (by first | (dsimp only; omega) | omega) (.cons rfl (.cons rfl (.cons rfl (.cons rfl (.cons rfl (.nil)))))) .nil .nil [0, 1] rfl
  · skip
    have h1d := B.df h1
    refine WX.run ttOk rfl ?_
    have hX1 : slices_Compare_string_L1 s2 s1 0 = none := by rw [v2, List.drop_eq_nil_of_le (show (s1).length ≤ i by omega)]; simp only [slices_Compare_string_L1, cond_true, cond_false]
    refine WX.cases 35 rfl (fun h4 => ?_) (fun h4 => ?_)
    · skip
      have h4d := B.dt h4
      refine WX.run ttOk rfl ?_
      have hP5 : slices_Compare_string s1 s2 = (-1) := by simp only [slices_Compare_string, hX1, h4, cond_true, cond_false]
      refine WX.ret ttOk rfl ?_
      intro w1 G bs hI hΓ
      rw [hP5]
      exact ⟨rfl, (show I64 (-1) from (by unfold I64; omega))⟩
    · skip
      have h4d := B.df h4
      refine WX.run ttOk rfl ?_
      have hP6 : slices_Compare_string s1 s2 = 0 := by simp only [slices_Compare_string, hX1, h4, cond_true, cond_false]
      refine WX.ret ttOk rfl ?_
      intro w1 G bs hI hΓ
      rw [hP6]
      exact ⟨rfl, (show I64 0 from (by unfold I64; omega))⟩
theorem f63 (w : World) (n : Nat) (hn : n + 0 ≤ 9) (a : Name) (pa : Option Addr) (ca : Nat) (hpa : RdSl (hp w) pa ca a.parts) (b : Name) (pb : Option Addr) (cb : Nat) (hpb : RdSl (hp w) pb cb b.parts) (hoka : GoT.ok n a) (hokb : GoT.ok n b) :
    Does Try.prog 63 #[.agg #[.slice pa ((a.parts).length) ca], .agg #[.slice pb ((b.parts).length) cb]] w emp (fun (rv : Value) (_ : World) => rv = .int .i64 ((impl_CompareNames a b)) ∧ GoT.ok n ((impl_CompareNames a b) : Int)) := by
  have hbP := bd_pos n
  have hbB := bd_big (n := n) (by omega)
  refine WX.enter (tt := tt) (Γ := [(0, MF.rs .stb pa ca a.parts), (1, MF.rs .stb pb cb b.parts)]) Try.func63 rfl (by kernel_rfl) rfl (allS_cons rfl hpa (allS_cons rfl hpb allS_nil)) ?_
  refine WX.run ttOk rfl ?_
  refine WX.callV rfl rfl rfl rfl rfl (fun _ => rfl) rfl (fun w G bs hI hΓ => f73 w n (by omega) a.parts pa ca (hΓ.get 0 rfl) b.parts pb cb (hΓ.get 1 rfl) (ok_Name hoka) (ok_Name hokb)) ?_
  intro hq1
  refine WX.run ttOk rfl ?_
  have hP1 : impl_CompareNames a b = (slices_Compare_string a.parts b.parts) := by simp only [impl_CompareNames, cond_true, cond_false]
  refine WX.ret ttOk rfl ?_
  intro w1 G bs hI hΓ
  rw [hP1]
  exact ⟨rfl, hq1⟩
theorem f47 (w : World) (n : Nat) (hn : n + 0 ≤ 9) (l : (List TableEntry)) (pl : Option Addr) (cl : Nat) (hpl : RdSl (hp w) pl cl l) (hokl : GoT.ok n l) :
    Does Try.prog 47 #[.slice pl ((l).length) cl] w emp (fun (rv : Value) (_ : World) => rv = .bool (impl_ValidTable l) ∧ True) := by
  have hbP := bd_pos n
  have hbB := bd_big (n := n) (by omega)
  refine WX.enter (tt := tt) (Γ := [(0, MF.rs .stb pl cl l)]) Try.func47 rfl (by kernel_rfl) rfl (allS_cons rfl hpl allS_nil) ?_
  refine WX.run ttOk rfl ?_
  have r1 : (l).length ≤ bd n := (okl hokl).1
  refine WX.loop (ι := Nat) ⟨fun i => (i ≤ (l).length) ∧ (impl_ValidTable_L1 l l 0 = impl_ValidTable_L1 l ((l).drop i) i), fun i => (l).length - i, fun i => [(7, .v (.int .i64 (((i : Nat) : Int)))), (6, .v (.int .i64 ((((l).length : Nat) : Int)))), (5, .v (.slice pl ((l).length) cl)), (0, .v (.slice pl ((l).length) cl))], fun i => [], fun i => [], fun i => [(0, MF.rs .stb pl cl l)]⟩ 0 ⟨(Nat.zero_le _), rfl⟩
    (.cons rfl (.cons rfl (.cons rfl (.cons rfl (.nil))))) .nil .nil [0] rfl ?_
  rintro i hpre
  have hpre_ : (i ≤ (l).length) ∧ (impl_ValidTable_L1 l l 0 = impl_ValidTable_L1 l ((l).drop i) i) := hpre
  clear hpre
  obtain ⟨v1, v2⟩ := hpre_
  refine WX.run ttOk rfl ?_
  refine WX.cases 8 rfl (fun h1 => ?_) (fun h1 => ?_)
  · skip
    have h1d := B.dt h1
    have e1i : i < (l).length := (by omega)
    obtain ⟨e1, e1h⟩ : ∃ e1, (l)[i]? = some e1 := ⟨_, List.getElem?_eq_getElem e1i⟩
    have ok1 : GoT.ok n e1 := (okl hokl).2 _ (List.mem_of_getElem? e1h)
    refine WX.run ttOk rfl ?_
    refine WX.idx 0 i ttOk rfl rfl rfl rfl rfl rfl rfl rfl rfl rfl e1i ?_
    rintro ad1 rfl
    refine WX.ldE 0 1 e1 ttOk rfl rfl rfl rfl rfl rfl rfl rfl e1h (fun _ => rfl) (fun _ => rfl) ?_
    rintro ⟨⟨p1, c1⟩, ⟨⟩⟩
    refine WX.run ttOk rfl ?_
    refine WX.draw [] mixed ?_
    intro bs G0 hΓ0
    refine DX.takes (fuel := 18) ttOk [(0, true), (1, false)] (by kernel_rfl) rfl ?_
    refine DX.callV 2 rfl (by kernel_rfl) rfl rfl rfl rfl rfl rfl (fun _ => rfl) rfl (fun w G bs hI hΓ => f52 w n (by omega) e1.name p1 c1 (hΓ.get 1 rfl) ((ok_TableEntry ok1).1)) ?_
    intro hq1
    refine DX.takes (fuel := 15) ttOk [(3, true), (4, true)] (by kernel_rfl) rfl ?_
    refine DX.cases 16 rfl (fun h2 => ?_) (fun h2 => ?_)
    · skip
      have h2d := (B.nt h2)
      refine DX.takes (fuel := 0) ttOk [(5, true), (6, true), (7, true), (8, true), (9, true), (10, true), (11, true), (12, true), (13, true), (14, true), (15, true), (16, true), (17, true), (18, true), (19, true)] (by kernel_rfl) rfl ?_
      refine DX.tail2 [] rfl rfl (by kernel_rfl) ?_
      refine WX.run ttOk rfl ?_
      have hP1 : impl_ValidTable_L1 l l 0 = (some false) := by rw [v2, drop_get e1h]; simp only [impl_ValidTable_L1, h2, cond_true, cond_false]
      have hP2 : impl_ValidTable l = false := by simp only [impl_ValidTable, hP1, cond_true, cond_false]
      refine WX.ret ttOk rfl ?_
      intro w1 G bs hI hΓ
      rw [hP2]
      exact ⟨rfl, trivial⟩
    · skip
      have h2d := (B.nf h2)
      refine DX.takes (fuel := 12) ttOk [(5, true), (6, true), (7, true)] (by kernel_rfl) rfl ?_
      refine DX.cases 19 rfl (fun h3 => ?_) (fun h3 => ?_)
      · skip
        have h3d := B.dt h3
        refine DX.takes (fuel := 10) ttOk [(8, true), (9, true)] (by kernel_rfl) rfl ?_
        refine DX.seeP 10 (by kernel_rfl) rfl rfl rfl rfl (looksP_arith rfl rfl rfl rfl (by unfold I64; first | omega | (simp only [List.length_take, List.length_drop] at *; omega) | (dsimp only; omega))) ?_
        refine DX.slot 22 (y := .v (.int .i64 (((((i : Nat) : Int) - 1).toNat : Nat) : Int))) rfl (fun _ => congrArg (Value.int .i64) (show ((i : Nat) : Int) - 1 = (((((i : Nat) : Int) - 1).toNat : Nat) : Int) from by omega)) ?_
        have e2i : (((i : Nat) : Int) - 1).toNat < (l).length := (by first | assumption | omega)
        obtain ⟨e2, e2h⟩ : ∃ e2, (l)[(((i : Nat) : Int) - 1).toNat]? = some e2 := ⟨_, List.getElem?_eq_getElem e2i⟩
        have ok2 : GoT.ok n e2 := (okl hokl).2 _ (List.mem_of_getElem? e2h)
        refine DX.idx 11 0 ((((i : Nat) : Int) - 1).toNat) ttOk hΓ0 (by kernel_rfl) rfl rfl rfl rfl rfl rfl rfl rfl rfl rfl rfl e2i ?_
        rintro ad2 ⟨⟩
        refine DX.takes (fuel := 7) ttOk [(12, true)] (by kernel_rfl) rfl ?_
        refine DX.ldE 13 0 2 e2 ttOk hΓ0 (by kernel_rfl) rfl rfl rfl rfl rfl rfl rfl rfl e2h (fun _ => rfl) (fun _ => rfl) ?_
        rintro ⟨⟨p2, c2⟩, ⟨⟩⟩
        refine DX.takes (fuel := 4) ttOk [(14, true), (15, false)] (by kernel_rfl) rfl ?_
        refine DX.callV 16 rfl (by kernel_rfl) rfl rfl rfl rfl rfl rfl (fun _ => rfl) rfl (fun w G bs hI hΓ => f63 w n (by omega) e2.name p2 c2 (hΓ.get 2 rfl) e1.name p1 c1 (hΓ.get 1 rfl) ((ok_TableEntry ok2).1) ((ok_TableEntry ok1).1)) ?_
        intro hq2
        refine DX.takes (fuel := 0) ttOk [(17, true), (18, true), (19, true)] (by kernel_rfl) rfl ?_
        refine DX.tail2 [] rfl rfl (by kernel_rfl) ?_
        refine WX.run ttOk rfl ?_
        refine WX.cases 31 rfl (fun h4 => ?_) (fun h4 => ?_)
        · skip
          have h4d := B.dt h4
          refine WX.run ttOk rfl ?_
          have hP3 : impl_ValidTable_L1 l l 0 = (some false) := by rw [v2, drop_get e1h]; simp only [impl_ValidTable_L1, h2, h3, e2h, h4, cond_true, cond_false]
          have hP4 : impl_ValidTable l = false := by simp only [impl_ValidTable, hP3, cond_true, cond_false]
          refine WX.ret ttOk rfl ?_
          intro w1 G bs hI hΓ
          rw [hP4]
          exact ⟨rfl, trivial⟩
        · skip
          have h4d := B.df h4
          refine WX.run ttOk rfl ?_
          refine WX.see rfl rfl rfl (fun _ hΓ => looks_arith rfl rfl rfl rfl (by unfold I64; first | omega | (simp only [List.length_take, List.length_drop] at *; omega) | (dsimp only; omega))) ?_
          refine WX.run ttOk rfl ?_
          exact WX.iter (i + 1) ⟨(by omega), (by rw [v2, drop_get e1h]; simp only [impl_ValidTable_L1, h2, h3, e2h, h4, cond_true, cond_false])⟩ (by first | (dsimp only; omega) | omega) (.cons rfl (.cons rfl (.cons rfl (.cons rfl (.nil))))) .nil .nil [0] rfl
      · skip
        have h3d := B.df h3
        refine DX.takes (fuel := 0) ttOk [(8, true), (9, true), (10, true), (11, true), (12, true), (13, true), (14, true), (15, true), (16, true), (17, true), (18, true), (19, true)] (by kernel_rfl) rfl ?_
        refine DX.tail2 [] rfl rfl (by kernel_rfl) ?_
        refine WX.run ttOk rfl ?_
        refine WX.see rfl rfl rfl (fun _ hΓ => looks_arith rfl rfl rfl rfl (by unfold I64; first | omega | (simp only [List.length_take, List.length_drop] at *; omega) | (dsimp only; omega))) ?_
        refine WX.run ttOk rfl ?_
        exact WX.iter (i + 1) ⟨(by omega), (by rw [v2, drop_get e1h]; simp only [impl_ValidTable_L1, h2, h3, cond_true, cond_false])⟩ (by first | (dsimp only; omega) | omega) (.cons rfl (.cons rfl (.cons rfl (.cons rfl (.nil))))) .nil .nil [0] rfl
  · skip
    have h1d := B.df h1
    refine WX.run ttOk rfl ?_
    have hX1 : impl_ValidTable_L1 l l 0 = none := by rw [v2, List.drop_eq_nil_of_le (show (l).length ≤ i by omega)]; simp only [impl_ValidTable_L1, cond_true, cond_false]
    have hP5 : impl_ValidTable l = (decide ((((l).length : Nat) : Int) ≤ 20)) := by simp only [impl_ValidTable, hX1, cond_true, cond_false]
    refine WX.ret ttOk rfl ?_
    intro w1 G bs hI hΓ
    rw [hP5]
    exact ⟨rfl, trivial⟩
theorem f43 (w : World) (n : Nat) (hn : n + 0 ≤ 9) (l : (List TableEntry)) (pl : Option Addr) (cl : Nat) (hpl : RdSl (hp w) pl cl l) (hokl : GoT.ok n l) :
    Does Try.prog 43 #[.slice pl ((l).length) cl] w emp (fun (rv : Value) (_ : World) => rv = .bool (spec_ValidTable l) ∧ True) := by
  have hbP := bd_pos n
  have hbB := bd_big (n := n) (by omega)
  refine WX.enter (tt := tt) (Γ := [(0, MF.rs .stb pl cl l)]) Try.func43 rfl (by kernel_rfl) rfl (allS_cons rfl hpl allS_nil) ?_
  refine WX.run ttOk rfl ?_
  have r1 : (l).length ≤ bd n := (okl hokl).1
  refine WX.loop (ι := Nat) ⟨fun i => (i ≤ (l).length) ∧ (spec_ValidTable_L1 l l 0 = spec_ValidTable_L1 l ((l).drop i) i), fun i => (l).length - i, fun i => [(3, .v (.int .i64 (((i : Nat) : Int)))), (0, .v (.slice pl ((l).length) cl))], fun i => [], fun i => [], fun i => [(0, MF.rs .stb pl cl l)]⟩ 0 ⟨(Nat.zero_le _), rfl⟩
    (.cons rfl (.cons rfl (.nil))) .nil .nil [0] rfl ?_
  rintro i hpre
  have hpre_ : (i ≤ (l).length) ∧ (spec_ValidTable_L1 l l 0 = spec_ValidTable_L1 l ((l).drop i) i) := hpre
  clear hpre
  obtain ⟨v1, v2⟩ := hpre_
  refine WX.run ttOk rfl ?_
  refine WX.cases 7 rfl (fun h1 => ?_) (fun h1 => ?_)
  · skip
    have h1d := B.dt h1
    have e1i : i < (l).length := (by omega)
    obtain ⟨e1, e1h⟩ : ∃ e1, (l)[i]? = some e1 := ⟨_, List.getElem?_eq_getElem e1i⟩
    have ok1 : GoT.ok n e1 := (okl hokl).2 _ (List.mem_of_getElem? e1h)
    refine WX.run ttOk rfl ?_
    refine WX.draw [] mixed ?_
    intro bs G0 hΓ0
    refine DX.takes (fuel := 24) ttOk [(0, true), (1, true)] (by kernel_rfl) rfl ?_
    refine DX.idx 2 0 i ttOk hΓ0 (by kernel_rfl) rfl rfl rfl rfl rfl rfl rfl rfl rfl rfl rfl e1i ?_
    rintro ad1 rfl
    refine DX.takes (fuel := 22) ttOk [(3, true)] (by kernel_rfl) rfl ?_
    refine DX.ldE 4 0 1 e1 ttOk hΓ0 (by kernel_rfl) rfl rfl rfl rfl rfl rfl rfl rfl e1h (fun _ => rfl) (fun _ => rfl) ?_
    rintro ⟨⟨p1, c1⟩, ⟨⟩⟩
    refine DX.callV 5 rfl (by kernel_rfl) rfl rfl rfl rfl rfl rfl (fun _ => rfl) rfl (fun w G bs hI hΓ => f44 w n (by omega) e1.name p1 c1 (hΓ.get 1 rfl) ((ok_TableEntry ok1).1)) ?_
    intro hq1
    refine DX.takes (fuel := 18) ttOk [(6, true), (7, true)] (by kernel_rfl) rfl ?_
    refine DX.cases 17 rfl (fun h2 => ?_) (fun h2 => ?_)
    · skip
      have h2d := (B.nt h2)
      refine DX.takes (fuel := 0) ttOk [(8, true), (9, true), (10, true), (11, true), (12, true), (13, true), (14, true), (15, true), (16, true), (17, true), (18, true), (19, true), (20, true), (21, true), (22, true), (23, true), (24, true), (25, true)] (by kernel_rfl) rfl ?_
      refine DX.tail2 [] rfl rfl (by kernel_rfl) ?_
      refine WX.run ttOk rfl ?_
      have hP1 : spec_ValidTable_L1 l l 0 = (some false) := by rw [v2, drop_get e1h]; simp only [spec_ValidTable_L1, h2, cond_true, cond_false]
      have hP2 : spec_ValidTable l = false := by simp only [spec_ValidTable, hP1, cond_true, cond_false]
      refine WX.ret ttOk rfl ?_
      intro w1 G bs hI hΓ
      rw [hP2]
      exact ⟨rfl, trivial⟩
    · skip
      have h2d := (B.nf h2)
      refine DX.takes (fuel := 15) ttOk [(8, true), (9, true), (10, true)] (by kernel_rfl) rfl ?_
      refine DX.cases 20 rfl (fun h3 => ?_) (fun h3 => ?_)
      · skip
        have h3d := B.dt h3
        refine DX.takes (fuel := 13) ttOk [(11, true), (12, true)] (by kernel_rfl) rfl ?_
        refine DX.seeP 13 (by kernel_rfl) rfl rfl rfl rfl (looksP_arith rfl rfl rfl rfl (by unfold I64; first | omega | (simp only [List.length_take, List.length_drop] at *; omega) | (dsimp only; omega))) ?_
        refine DX.slot 23 (y := .v (.int .i64 (((((i : Nat) : Int) - 1).toNat : Nat) : Int))) rfl (fun _ => congrArg (Value.int .i64) (show ((i : Nat) : Int) - 1 = (((((i : Nat) : Int) - 1).toNat : Nat) : Int) from by omega)) ?_
        have e2i : (((i : Nat) : Int) - 1).toNat < (l).length := (by first | assumption | omega)
        obtain ⟨e2, e2h⟩ : ∃ e2, (l)[(((i : Nat) : Int) - 1).toNat]? = some e2 := ⟨_, List.getElem?_eq_getElem e2i⟩
        have ok2 : GoT.ok n e2 := (okl hokl).2 _ (List.mem_of_getElem? e2h)
        refine DX.idx 14 0 ((((i : Nat) : Int) - 1).toNat) ttOk hΓ0 (by kernel_rfl) rfl rfl rfl rfl rfl rfl rfl rfl rfl rfl rfl e2i ?_
        rintro ad2 ⟨⟩
        refine DX.takes (fuel := 10) ttOk [(15, true)] (by kernel_rfl) rfl ?_
        refine DX.ldE 16 0 2 e2 ttOk hΓ0 (by kernel_rfl) rfl rfl rfl rfl rfl rfl rfl rfl e2h (fun _ => rfl) (fun _ => rfl) ?_
        rintro ⟨⟨p2, c2⟩, ⟨⟩⟩
        refine DX.takes (fuel := 7) ttOk [(17, true), (18, true)] (by kernel_rfl) rfl ?_
        refine DX.idx 19 0 i ttOk hΓ0 (by kernel_rfl) rfl rfl rfl rfl rfl rfl rfl rfl rfl rfl rfl e1i ?_
        rintro ad3 ⟨⟩
        refine DX.takes (fuel := 5) ttOk [(20, true)] (by kernel_rfl) rfl ?_
        refine DX.ldE 21 0 3 e1 ttOk hΓ0 (by kernel_rfl) rfl rfl rfl rfl rfl rfl rfl rfl e1h (fun _ => rfl) (fun _ => rfl) ?_
        rintro ⟨⟨p3, c3⟩, ⟨⟩⟩
        refine DX.callV 22 rfl (by kernel_rfl) rfl rfl rfl rfl rfl rfl (fun _ => rfl) rfl (fun w G bs hI hΓ => f60 w n (by omega) e2.name p2 c2 (hΓ.get 2 rfl) e1.name p3 c3 (hΓ.get 3 rfl) ((ok_TableEntry ok2).1) ((ok_TableEntry ok1).1)) ?_
        intro hq2
        refine DX.takes (fuel := 0) ttOk [(23, true), (24, true), (25, true)] (by kernel_rfl) rfl ?_
        refine DX.tail2 [] rfl rfl (by kernel_rfl) ?_
        refine WX.run ttOk rfl ?_
        refine WX.cases 35 rfl (fun h4 => ?_) (fun h4 => ?_)
        · skip
          have h4d := B.dt h4
          refine WX.run ttOk rfl ?_
          have hP3 : spec_ValidTable_L1 l l 0 = (some false) := by rw [v2, drop_get e1h]; simp only [spec_ValidTable_L1, h2, h3, e2h, h4, cond_true, cond_false]
          have hP4 : spec_ValidTable l = false := by simp only [spec_ValidTable, hP3, cond_true, cond_false]
          refine WX.ret ttOk rfl ?_
          intro w1 G bs hI hΓ
          rw [hP4]
          exact ⟨rfl, trivial⟩
        · skip
          have h4d := B.df h4
          refine WX.run ttOk rfl ?_
          refine WX.see rfl rfl rfl (fun _ hΓ => looks_arith rfl rfl rfl rfl (by unfold I64; first | omega | (simp only [List.length_take, List.length_drop] at *; omega) | (dsimp only; omega))) ?_
          refine WX.run ttOk rfl ?_
          exact WX.iter (i + 1) ⟨(by omega), (by rw [v2, drop_get e1h]; simp only [spec_ValidTable_L1, h2, h3, e2h, h4, cond_true, cond_false])⟩ (by first | (dsimp only; omega) | omega) (.cons rfl (.cons rfl (.nil))) .nil .nil [0] rfl
      · skip
        have h3d := B.df h3
        refine DX.takes (fuel := 0) ttOk [(11, true), (12, true), (13, true), (14, true), (15, true), (16, true), (17, true), (18, true), (19, true), (20, true), (21, true), (22, true), (23, true), (24, true), (25, true)] (by kernel_rfl) rfl ?_
        refine DX.tail2 [] rfl rfl (by kernel_rfl) ?_
        refine WX.run ttOk rfl ?_
        refine WX.see rfl rfl rfl (fun _ hΓ => looks_arith rfl rfl rfl rfl (by unfold I64; first | omega | (simp only [List.length_take, List.length_drop] at *; omega) | (dsimp only; omega))) ?_
        refine WX.run ttOk rfl ?_
        exact WX.iter (i + 1) ⟨(by omega), (by rw [v2, drop_get e1h]; simp only [spec_ValidTable_L1, h2, h3, cond_true, cond_false])⟩ (by first | (dsimp only; omega) | omega) (.cons rfl (.cons rfl (.nil))) .nil .nil [0] rfl
  · skip
    have h1d := B.df h1
    refine WX.run ttOk rfl ?_
    have hX1 : spec_ValidTable_L1 l l 0 = none := by rw [v2, List.drop_eq_nil_of_le (show (l).length ≤ i by omega)]; simp only [spec_ValidTable_L1, cond_true, cond_false]
    have hP5 : spec_ValidTable l = (decide ((((l).length : Nat) : Int) ≤ 20)) := by simp only [spec_ValidTable, hX1, cond_true, cond_false]
    refine WX.ret ttOk rfl ?_
    intro w1 G bs hI hΓ
    rw [hP5]
    exact ⟨rfl, trivial⟩
theorem f64 (w : World) (n : Nat) (hn : n + 0 ≤ 9) (s : (List TableEntry)) (ps : Option Addr) (cs : Nat) (hps : RdSl (hp w) ps cs s) (fg : FuncId) (fc : List Value) (fq : TableEntry → Bool) (ff : ∀ w1, Kp emp w w1 → ∀ (e0 : TableEntry) (x0 : GoT.X TableEntry), GoT.ok n e0 → All (hp w1) (GoT.fa .der e0 x0) → Does Try.prog fg ([Value.agg ⟨GoT.sh e0 x0⟩] ++ fc).toArray w1 emp (fun rv _ => rv = .bool (fq e0) ∧ True)) (hoks : GoT.ok n s) :
    Does Try.prog 64 #[.slice ps ((s).length) cs, .func (.func fg) #[] fc.toArray] w emp (fun (rv : Value) (_ : World) => rv = .int .i64 ((slices_IndexFunc_TableEntry s fq)) ∧ GoT.ok n ((slices_IndexFunc_TableEntry s fq) : Int)) := by
  have hbP := bd_pos n
  have hbB := bd_big (n := n) (by omega)
  refine WX.enter (tt := tt) (Γ := [(0, MF.rs .stb ps cs s)]) Try.func64 rfl (by kernel_rfl) rfl (allS_cons rfl hps allS_nil) ?_
  refine WX.run ttOk rfl ?_
  have r1 : (s).length ≤ bd n := (okl hoks).1
  refine WX.loop (ι := Nat) ⟨fun i => (i ≤ (s).length) ∧ (slices_IndexFunc_TableEntry_L1 fq s 0 = slices_IndexFunc_TableEntry_L1 fq ((s).drop i) i), fun i => (s).length - i, fun i => [(8, .v (.int .i64 (((i : Nat) : Int)))), (7, .v (.int .i64 ((((s).length : Nat) : Int)))), (0, .v (.slice ps ((s).length) cs)), (1, .v (.func (.func fg) #[] fc.toArray))], fun i => [], fun i => [], fun i => [(0, MF.rs .stb ps cs s)]⟩ 0 ⟨(Nat.zero_le _), rfl⟩
    (.cons rfl (.cons rfl (.cons rfl (.cons rfl (.nil))))) .nil .nil [0] rfl ?_
  rintro i hpre
  have hpre_ : (i ≤ (s).length) ∧ (slices_IndexFunc_TableEntry_L1 fq s 0 = slices_IndexFunc_TableEntry_L1 fq ((s).drop i) i) := hpre
  clear hpre
  obtain ⟨v1, v2⟩ := hpre_
  refine WX.run ttOk rfl ?_
  refine WX.cases 9 rfl (fun h1 => ?_) (fun h1 => ?_)
  · skip
    have h1d := B.dt h1
    have e1i : i < (s).length := (by omega)
    obtain ⟨e1, e1h⟩ : ∃ e1, (s)[i]? = some e1 := ⟨_, List.getElem?_eq_getElem e1i⟩
    have ok1 : GoT.ok n e1 := (okl hoks).2 _ (List.mem_of_getElem? e1h)
    refine WX.run ttOk rfl ?_
    refine WX.idx 0 i ttOk rfl rfl rfl rfl rfl rfl rfl rfl rfl rfl e1i ?_
    rintro ad1 rfl
    refine WX.ldE 0 1 e1 ttOk rfl rfl rfl rfl rfl rfl rfl rfl e1h (fun _ => rfl) (fun _ => rfl) ?_
    rintro ⟨⟨p1, c1⟩, ⟨⟩⟩
    refine WX.callV rfl rfl rfl rfl rfl (fun _ => rfl) rfl (fun w G bs hI hΓ => ff w hI.keep e1 ((p1, c1), ()) ok1 (All.cons (hΓ.get 1 rfl : RdSl _ _ _ _) All.nil)) ?_
    intro hq1
    refine WX.run ttOk rfl ?_
    refine WX.cases 16 rfl (fun h2 => ?_) (fun h2 => ?_)
    · skip
      refine WX.run ttOk rfl ?_
      have hP1 : slices_IndexFunc_TableEntry_L1 fq s 0 = (some ((i : Nat) : Int)) := by rw [v2, drop_get e1h]; simp only [slices_IndexFunc_TableEntry_L1, h2, cond_true, cond_false]
      have hP2 : slices_IndexFunc_TableEntry s fq = ((i : Nat) : Int) := by simp only [slices_IndexFunc_TableEntry, hP1, cond_true, cond_false]
      refine WX.ret ttOk rfl ?_
      intro w1 G bs hI hΓ
      rw [hP2]
      exact ⟨rfl, (show I64 ((i : Nat) : Int) from (by unfold I64; omega))⟩
    · skip
      refine WX.run ttOk rfl ?_
      refine WX.see rfl rfl rfl (fun _ hΓ => looks_arith rfl rfl rfl rfl (by unfold I64; first | omega | (simp only [List.length_take, List.length_drop] at *; omega) | (dsimp only; omega))) ?_
      refine WX.run ttOk rfl ?_
      exact WX.iter (i + 1) ⟨(by omega), (by rw [v2, drop_get e1h]; simp only [slices_IndexFunc_TableEntry_L1, h2, cond_true, cond_false])⟩ (by first | (dsimp only; omega) | omega) (.cons rfl (.cons rfl (.cons rfl (.cons rfl (.nil))))) .nil .nil [0] rfl
  · skip
    have h1d := B.df h1
    refine WX.run ttOk rfl ?_
    have hX1 : slices_IndexFunc_TableEntry_L1 fq s 0 = none := by rw [v2, List.drop_eq_nil_of_le (show (s).length ≤ i by omega)]; simp only [slices_IndexFunc_TableEntry_L1, cond_true, cond_false]
    have hP3 : slices_IndexFunc_TableEntry s fq = (-1) := by simp only [slices_IndexFunc_TableEntry, hX1, cond_true, cond_false]
    refine WX.ret ttOk rfl ?_
    intro w1 G bs hI hΓ
    rw [hP3]
    exact ⟨rfl, (show I64 (-1) from (by unfold I64; omega))⟩
theorem ltL_slices_IndexFunc_TableEntry : ∀ (f : TableEntry → Bool) (l : List TableEntry) (i : Nat) (j : Int), slices_IndexFunc_TableEntry_L1 f l i = some j → j < ((i + l.length : Nat) : Int)
  | f, [], i, j, h => by cases h
  | f, x :: l, i, j, h => by
    simp only [slices_IndexFunc_TableEntry_L1] at h
    cases hx : f x
    · rw [hx, cond_false] at h
      have := ltL_slices_IndexFunc_TableEntry f l (i + 1) j h
      simp only [List.length_cons]; omega
    · rw [hx, cond_true] at h
      cases h
      simp only [List.length_cons]; omega
theorem ltI_slices_IndexFunc_TableEntry (l : List TableEntry) (f : TableEntry → Bool) : slices_IndexFunc_TableEntry l f < ((l.length : Nat) : Int) := by
  unfold slices_IndexFunc_TableEntry
  cases h : slices_IndexFunc_TableEntry_L1 f l 0 with
  | none => show (-1 : Int) < _; omega
  | some j => have := ltL_slices_IndexFunc_TableEntry f l 0 j h; show j < _; omega
theorem f48 (w : World) (n : Nat) (hn : n + 0 ≤ 9) (s : (List TableEntry)) (ps : Option Addr) (cs : Nat) (hps : RdSl (hp w) ps cs s) (fg : FuncId) (fc : List Value) (fq : TableEntry → Bool) (ff : ∀ w1, Kp emp w w1 → ∀ (e0 : TableEntry) (x0 : GoT.X TableEntry), GoT.ok n e0 → All (hp w1) (GoT.fa .der e0 x0) → Does Try.prog fg ([Value.agg ⟨GoT.sh e0 x0⟩] ++ fc).toArray w1 emp (fun rv _ => rv = .bool (fq e0) ∧ True)) (hoks : GoT.ok n s) :
    Does Try.prog 48 #[.slice ps ((s).length) cs, .func (.func fg) #[] fc.toArray] w emp (fun (rv : Value) (_ : World) => rv = .bool (slices_ContainsFunc_TableEntry s fq) ∧ True) := by
  have hbP := bd_pos n
  have hbB := bd_big (n := n) (by omega)
  refine WX.enter (tt := tt) (Γ := [(0, MF.rs .stb ps cs s)]) Try.func48 rfl (by kernel_rfl) rfl (allS_cons rfl hps allS_nil) ?_
  refine WX.run ttOk rfl ?_
  refine WX.callV rfl rfl rfl rfl rfl (fun _ => rfl) rfl (fun w G bs hI hΓ => f64 w n (by omega) s ps cs (hΓ.get 0 rfl) fg fc fq (fun w1_ hb_ => ff w1_ (hI.keep.trans hb_)) hoks) ?_
  intro hq1
  have q1 := ltI_slices_IndexFunc_TableEntry s fq
  refine WX.run ttOk rfl ?_
  have hP1 : slices_ContainsFunc_TableEntry s fq = (decide ((slices_IndexFunc_TableEntry s fq) ≥ 0)) := by simp only [slices_ContainsFunc_TableEntry, cond_true, cond_false]
  refine WX.ret ttOk rfl ?_
  intro w1 G bs hI hΓ
  rw [hP1]
  exact ⟨rfl, trivial⟩
theorem f49 (w : World) (n : Nat) (hn : n + 0 ≤ 9) (e_ : TableEntry) (pe_Name : Option Addr) (ce_Name : Nat) (hpe_Name : RdSl (hp w) pe_Name ce_Name e_.name.parts) (hoke_ : GoT.ok n e_) :
    Does Try.prog 49 #[.agg #[.slice pe_Name ((e_.name.parts).length) ce_Name, .int .i64 (e_.value)]] w emp (fun (rv : Value) (_ : World) => rv = .bool (impl_ValidVector_c1 e_) ∧ True) := by
  have hbP := bd_pos n
  have hbB := bd_big (n := n) (by omega)
  refine WX.enter (tt := tt) (Γ := [(0, MF.rs .stb pe_Name ce_Name e_.name.parts)]) Try.func49 rfl (by kernel_rfl) rfl (allS_cons rfl hpe_Name allS_nil) ?_
  refine WX.run ttOk rfl ?_
  refine WX.callV rfl rfl rfl rfl rfl (fun _ => rfl) rfl (fun w G bs hI hΓ => f50 w n (by omega) e_.value 1 1000 ((ok_TableEntry hoke_).2) (show I64 1 from (by unfold I64; omega)) (show I64 1000 from (by unfold I64; omega))) ?_
  intro hq1
  refine WX.run ttOk rfl ?_
  have hP1 : impl_ValidVector_c1 e_ = (!(impl_InRange e_.value 1 1000)) := by simp only [impl_ValidVector_c1, cond_true, cond_false]
  refine WX.ret ttOk rfl ?_
  intro w1 G bs hI hΓ
  rw [hP1]
  exact ⟨rfl, trivial⟩
theorem f30 (w : World) (n : Nat) (hn : n + 0 ≤ 9) (v : StateVector) (pv : Option Addr) (cv : Nat) (hpv : RdSl (hp w) pv cv v.entries) (hokv : GoT.ok n v) :
    Does Try.prog 30 #[.agg #[.slice pv ((v.entries).length) cv]] w emp (fun (rv : Value) (_ : World) => rv = .bool (impl_ValidVector v) ∧ True) := by
  have hbP := bd_pos n
  have hbB := bd_big (n := n) (by omega)
  refine WX.enter (tt := tt) (Γ := [(0, MF.rs .stb pv cv v.entries)]) Try.func30 rfl (by kernel_rfl) rfl (allS_cons rfl hpv allS_nil) ?_
  refine WX.run ttOk rfl ?_
  refine WX.callV rfl rfl rfl rfl rfl (fun _ => rfl) rfl (fun w G bs hI hΓ => f47 w n (by omega) v.entries pv cv (hΓ.get 0 rfl) (ok_StateVector hokv)) ?_
  intro hq1
  refine WX.run ttOk rfl ?_
  refine WX.cases 6 rfl (fun h1 => ?_) (fun h1 => ?_)
  · skip
    refine WX.run ttOk rfl ?_
    refine WX.callV rfl rfl rfl rfl rfl (fun _ => rfl) rfl (fun w G bs hI hΓ => f48 w n (by omega) v.entries pv cv (hΓ.get 0 rfl) 49 [] (fun e0_ => (impl_ValidVector_c1 e0_)) (fun w1_ hb_ e0_ x0_ hk0_ hx0_ => f49 w1_ n (by omega) e0_ x0_.1.1 x0_.1.2 (hx0_ _ List.mem_cons_self) hk0_) (ok_StateVector hokv)) ?_
    intro hq2
    refine WX.run ttOk rfl ?_
    have hP1 : impl_ValidVector v = (!(slices_ContainsFunc_TableEntry v.entries (fun e0_ => (impl_ValidVector_c1 e0_)))) := by simp only [impl_ValidVector, h1, cond_true, cond_false]
    refine WX.ret ttOk rfl ?_
    intro w1 G bs hI hΓ
    rw [hP1]
    exact ⟨rfl, trivial⟩
  · skip
    refine WX.run ttOk rfl ?_
    have hP2 : impl_ValidVector v = false := by simp only [impl_ValidVector, h1, cond_true, cond_false]
    refine WX.ret ttOk rfl ?_
    intro w1 G bs hI hΓ
    rw [hP2]
    exact ⟨rfl, trivial⟩
theorem f26 (w : World) (n : Nat) (hn : n + 0 ≤ 9) (v : StateVector) (pv : Option Addr) (cv : Nat) (hpv : RdSl (hp w) pv cv v.entries) (hokv : GoT.ok n v) :
    Does Try.prog 26 #[.agg #[.slice pv ((v.entries).length) cv]] w emp (fun (rv : Value) (_ : World) => rv = .bool (spec_ValidVector v) ∧ True) := by
  have hbP := bd_pos n
  have hbB := bd_big (n := n) (by omega)
  refine WX.enter (tt := tt) (Γ := [(0, MF.rs .stb pv cv v.entries)]) Try.func26 rfl (by kernel_rfl) rfl (allS_cons rfl hpv allS_nil) ?_
  refine WX.run ttOk rfl ?_
  have r1 : (v.entries).length ≤ bd n := (okl (ok_StateVector hokv)).1
  refine WX.loop (ι := Nat) ⟨fun i => (i ≤ (v.entries).length) ∧ (spec_ValidVector_L1 v.entries = spec_ValidVector_L1 ((v.entries).drop i)), fun i => (v.entries).length - i, fun i => [(3, .v (.int .i64 (((i : Nat) : Int)))), (1, .p 1 0)], fun i => [(1, ⟨35, [.slice pv ((v.entries).length) cv]⟩)], fun i => [], fun i => [(0, MF.rs .stb pv cv v.entries)]⟩ 0 ⟨(Nat.zero_le _), rfl⟩
    (.cons rfl (.cons rfl (.nil))) (.cons rfl (.nil)) .nil [0] rfl ?_
  rintro i hpre
  have hpre_ : (i ≤ (v.entries).length) ∧ (spec_ValidVector_L1 v.entries = spec_ValidVector_L1 ((v.entries).drop i)) := hpre
  clear hpre
  obtain ⟨v1, v2⟩ := hpre_
  refine WX.run ttOk rfl ?_
  refine WX.cases 8 rfl (fun h1 => ?_) (fun h1 => ?_)
  · skip
    have h1d := B.dt h1
    have e1i : i < (v.entries).length := (by omega)
    obtain ⟨e1, e1h⟩ : ∃ e1, (v.entries)[i]? = some e1 := ⟨_, List.getElem?_eq_getElem e1i⟩
    have ok1 : GoT.ok n e1 := (okl (ok_StateVector hokv)).2 _ (List.mem_of_getElem? e1h)
    refine WX.run ttOk rfl ?_
    refine WX.idx 0 i ttOk rfl rfl rfl rfl rfl rfl rfl rfl rfl rfl e1i ?_
    rintro ad1 rfl
    refine WX.run ttOk rfl ?_
    refine WX.ldE 0 1 e1 ttOk rfl rfl rfl rfl rfl rfl rfl rfl e1h (fun _ => rfl) (fun _ => rfl) ?_
    rintro ⟨⟨p1, c1⟩, ⟨⟩⟩
    refine WX.callV rfl rfl rfl rfl rfl (fun _ => rfl) rfl (fun w G bs hI hΓ => f42 w n (by omega) e1.value 1 1000 ((ok_TableEntry ok1).2) (show I64 1 from (by unfold I64; omega)) (show I64 1000 from (by unfold I64; omega))) ?_
    intro hq1
    refine WX.run ttOk rfl ?_
    refine WX.cases 18 rfl (fun h2 => ?_) (fun h2 => ?_)
    · skip
      have h2d := (B.nt h2)
      refine WX.run ttOk rfl ?_
      have hP1 : spec_ValidVector_L1 v.entries = (some false) := by rw [v2, drop_get e1h]; simp only [spec_ValidVector_L1, h2, cond_true, cond_false]
      have hP2 : spec_ValidVector v = false := by simp only [spec_ValidVector, hP1, cond_true, cond_false]
      refine WX.ret ttOk rfl ?_
      intro w1 G bs hI hΓ
      rw [hP2]
      exact ⟨rfl, trivial⟩
    · skip
      have h2d := (B.nf h2)
      have h2r := inR_spec (B.nf h2)
      refine WX.run ttOk rfl ?_
      refine WX.see rfl rfl rfl (fun _ hΓ => looks_arith rfl rfl rfl rfl (by unfold I64; first | omega | (simp only [List.length_take, List.length_drop] at *; omega) | (dsimp only; omega))) ?_
      refine WX.run ttOk rfl ?_
      exact WX.iter (i + 1) ⟨(by omega), (by rw [v2, drop_get e1h]; simp only [spec_ValidVector_L1, h2, cond_true, cond_false])⟩ (by first | (dsimp only; omega) | omega) (.cons rfl (.cons rfl (.nil))) (.cons rfl (.nil)) .nil [0] rfl
  · skip
    have h1d := B.df h1
    refine WX.run ttOk rfl ?_
    have hX1 : spec_ValidVector_L1 v.entries = none := by rw [v2, List.drop_eq_nil_of_le (show (v.entries).length ≤ i by omega)]; simp only [spec_ValidVector_L1, cond_true, cond_false]
    refine WX.callV rfl rfl rfl rfl rfl (fun _ => rfl) rfl (fun w G bs hI hΓ => f43 w n (by omega) v.entries pv cv (hΓ.get 0 rfl) (ok_StateVector hokv)) ?_
    intro hq2
    refine WX.run ttOk rfl ?_
    have hP3 : spec_ValidVector v = (spec_ValidTable v.entries) := by simp only [spec_ValidVector, hX1, cond_true, cond_false]
    refine WX.ret ttOk rfl ?_
    intro w1 G bs hI hΓ
    rw [hP3]
    exact ⟨rfl, trivial⟩
end Go.Proofs.Ytfffongneoegbaa

namespace Go.Stp
set_option linter.unusedVariables false
set_option linter.unusedSimpArgs false
instance ctlInh27 {α β : Type} [Inhabited α] : Inhabited (Ctl α β) := ⟨.ret default⟩
theorem sh7 (x : Int) : Int.fdiv x (2 ^ (min (Int.toNat (7 : Int)) 64)) = x / 128 := by
  rw [show ((2 : Int) ^ (min (Int.toNat (7 : Int)) 64)) = 128 by decide, Int.fdiv_eq_ediv_of_nonneg _ (by decide)]
def avI (n : Int) (k : Nat) : Prop := 0 ≤ n ∧ ((k = 0 ∧ n ≤ 1000000000000) ∨ (k = 1 ∧ n ≤ 7812500000) ∨ (k = 2 ∧ n ≤ 61035156) ∨ (k = 3 ∧ n ≤ 476837) ∨ (k = 4 ∧ n ≤ 3725) ∨ (k = 5 ∧ n ≤ 29))
theorem avI_0 {n : Int} (h : 0 ≤ n ∧ n ≤ 1000000000000) : avI n 0 := ⟨h.1, .inl ⟨rfl, h.2⟩⟩
theorem avI_len {n : Int} {k : Nat} (h : avI n k) : k ≤ 5 := by unfold avI at h; omega
theorem avI_rng {n : Int} {k : Nat} (h : avI n k) : 0 ≤ n ∧ n ≤ 1000000000000 := by unfold avI at h; omega
theorem avI_step {n : Int} {k : Nat} (h : avI n k) (hn : n ≥ 128) : avI (n / 128) (k + 1) := by unfold avI at h ⊢; omega
theorem avI_next {n : Int} {k k' : Nat} (h : avI n k) (hn : n ≥ 128) (hk : k' = k + 1) : avI (n / 128) k' := hk ▸ avI_step h hn
theorem inR_implP {n a b : Int} (h : impl_InRange n a b = true) : a ≤ n ∧ n ≤ b := by
  unfold impl_InRange at h
  cases hd : decide (a ≤ n)
  · exact absurd (show false = true by rw [show decide (a ≤ n) = false from hd] at h; exact h) Bool.false_ne_true
  · rw [show decide (a ≤ n) = true from hd] at h
    exact ⟨of_decide_eq_true hd, of_decide_eq_true (show decide (n ≤ b) = true from h)⟩
theorem inR_specP {n a b : Int} (h : spec_l1In n a b = true) : a ≤ n ∧ n ≤ b := by
  unfold spec_l1In at h
  cases hd : decide (a ≤ n)
  · exact absurd (show false = true by rw [show decide (a ≤ n) = false from hd] at h; exact h) Bool.false_ne_true
  · rw [show decide (a ≤ n) = true from hd] at h
    exact ⟨of_decide_eq_true hd, of_decide_eq_true (show decide (n ≤ b) = true from h)⟩

def impl_AppendVarint_L1 (n_2 : Int) (out : List UInt8) : Int × (List UInt8) :=
  if n_2 ≥ 128 then
    impl_AppendVarint_L1 (Int.fdiv n_2 (2 ^ (min (Int.toNat (7 : Int)) 64))) (((out ++ [((toU8 n_2) ||| (128 : UInt8))])) : List UInt8)
  else
    (n_2, ((out) : List UInt8))
termination_by n_2.toNat
decreasing_by all_goals (rw [sh7]; omega)
def impl_AppendVarint (b : (List UInt8)) (n_ : Int) : (List UInt8) :=
  bif (!(impl_InRange n_ 0 1000000000000)) then
    b
  else
    match impl_AppendVarint_L1 n_ (b : List UInt8) with
      | (n_2, out) =>
        (out ++ [(toU8 n_2)])
def spec_AppendVarint_L1 (n_2 : Int) (out : List UInt8) : Int × (List UInt8) :=
  if n_2 > 127 then
    spec_AppendVarint_L1 (Int.fdiv n_2 (2 ^ (min (Int.toNat (7 : Int)) 64))) (((out ++ [(toU8 (bitO .or (bitO .and n_2 127) 128))])) : List UInt8)
  else
    (n_2, ((out) : List UInt8))
termination_by n_2.toNat
decreasing_by all_goals (rw [sh7]; omega)
def spec_AppendVarint (b : (List UInt8)) (n_ : Int) : (List UInt8) :=
  bif (!(spec_l1In n_ 0 1000000000000)) then
    b
  else
    match spec_AppendVarint_L1 n_ (b : List UInt8) with
      | (n_2, out) =>
        (out ++ [(toU8 n_2)])
theorem len_implAVL : ∀ (m : Nat) (n : Int) (out : List UInt8) (k : Nat), avI n k → 5 - k = m → (impl_AppendVarint_L1 n out).2.length ≤ out.length + m
  | 0, n, out, k, h, hm => by
    have := avI_len h
    rw [impl_AppendVarint_L1, if_neg (show ¬ n ≥ 128 by unfold avI at h; omega)]
    exact Nat.le_refl _
  | m + 1, n, out, k, h, hm => by
    rw [impl_AppendVarint_L1]
    by_cases hn : n ≥ 128
    · rw [if_pos hn, sh7]
      have := len_implAVL m (n / 128) (out ++ [(toU8 n) ||| (128 : UInt8)]) (k + 1) (avI_step h (by omega)) (by omega)
      rw [List.length_append, List.length_cons, List.length_nil] at this
      omega
    · rw [if_neg hn]
      show out.length ≤ _
      omega
theorem len_implAV (b : List UInt8) (n_ : Int) : (impl_AppendVarint b n_).length ≤ b.length + 6 := by
  unfold impl_AppendVarint
  cases hr : impl_InRange n_ 0 1000000000000
  · show b.length ≤ _
    omega
  · have h := len_implAVL 5 n_ b 0 (avI_0 (inR_implP hr)) rfl
    simp only [Bool.not_true, cond_false, List.length_append, List.length_cons, List.length_nil]
    omega
theorem len_specAVL : ∀ (m : Nat) (n : Int) (out : List UInt8) (k : Nat), avI n k → 5 - k = m → (spec_AppendVarint_L1 n out).2.length ≤ out.length + m
  | 0, n, out, k, h, hm => by
    have := avI_len h
    rw [spec_AppendVarint_L1, if_neg (show ¬ n > 127 by unfold avI at h; omega)]
    exact Nat.le_refl _
  | m + 1, n, out, k, h, hm => by
    rw [spec_AppendVarint_L1]
    by_cases hn : n > 127
    · rw [if_pos hn, sh7]
      have := len_specAVL m (n / 128) (out ++ [toU8 (bitO .or (bitO .and n 127) 128)]) (k + 1) (avI_step h (by omega)) (by omega)
      rw [List.length_append, List.length_cons, List.length_nil] at this
      omega
    · rw [if_neg hn]
      show out.length ≤ _
      omega
theorem len_specAV (b : List UInt8) (n_ : Int) : (spec_AppendVarint b n_).length ≤ b.length + 6 := by
  unfold spec_AppendVarint
  cases hr : spec_l1In n_ 0 1000000000000
  · show b.length ≤ _
    omega
  · have h := len_specAVL 5 n_ b 0 (avI_0 (inR_specP hr)) rfl
    simp only [Bool.not_true, cond_false, List.length_append, List.length_cons, List.length_nil]
    omega
def impl_AppendBytes (b : (List UInt8)) (s : (List UInt8)) : (List UInt8) :=
  ((impl_AppendVarint b (((s).length : Nat) : Int)) ++ s)
def spec_AppendBytes (b : (List UInt8)) (s : (List UInt8)) : (List UInt8) :=
  ((spec_AppendVarint b (((s).length : Nat) : Int)) ++ s)
theorem len_implAB (b s : List UInt8) : (impl_AppendBytes b s).length ≤ b.length + s.length + 6 := by
  have := len_implAV b ((s.length : Nat) : Int)
  unfold impl_AppendBytes
  rw [List.length_append]
  omega
theorem len_specAB (b s : List UInt8) : (spec_AppendBytes b s).length ≤ b.length + s.length + 6 := by
  have := len_specAV b ((s.length : Nat) : Int)
  unfold spec_AppendBytes
  rw [List.length_append]
  omega
def NTb (o : Option Bool) : Prop := o = none ∨ o = some false
theorem ntb {c : Bool} {a b : Option Bool} (ha : NTb a) (hb : NTb b) : NTb (bif c then a else b) := by
  cases c
  · exact hb
  · exact ha
theorem vpL_impl : ∀ (l : List UInt8), NTb (impl_ValidPart_L1 l)
  | [] => .inl rfl
  | x :: l => by
    have ih := vpL_impl l
    simp only [impl_ValidPart_L1]
    repeat' (first | exact ih | exact .inr rfl | refine ntb ?_ ?_)
theorem vpB_impl {s : Str} (h : impl_ValidPart s = true) : s.size ≤ 8 := by
  unfold impl_ValidPart at h
  rcases vpL_impl ((s).data.toList) with h1 | h1 <;> rw [h1] at h
  · have := inR_implP h
    omega
  · cases h
theorem vpB_spec {s : Str} (h : spec_ValidPart s = true) : s.size ≤ 8 := by
  unfold spec_ValidPart at h
  cases hr : spec_l1In (((s).size : Nat) : Int) 1 8
  · rw [hr] at h; cases h
  · have := inR_specP hr
    omega
theorem ixS : ∀ (f : Str → Bool) (l : List Str) (i : Nat), (slices_IndexFunc_string_L1 f l i = none ∧ ∀ a ∈ l, f a = false) ∨ ∃ j : Nat, slices_IndexFunc_string_L1 f l i = some (j : Int)
  | f, [], i => .inl ⟨rfl, fun a ha => by cases ha⟩
  | f, x :: l, i => by
    simp only [slices_IndexFunc_string_L1]
    cases hx : f x
    · rcases ixS f l (i + 1) with ⟨h1, h2⟩ | h
      · exact .inl ⟨h1, fun a ha => (List.mem_cons.1 ha).elim (fun e => e ▸ hx) (h2 a)⟩
      · exact .inr h
    · exact .inr ⟨i, rfl⟩
theorem vnB_impl {n_ : Name} (h : impl_ValidName n_ = true) : n_.parts.length ≤ 6 ∧ ∀ p ∈ n_.parts, p.size ≤ 8 := by
  unfold impl_ValidName at h
  cases hd : decide ((((n_.parts).length : Nat) : Int) ≤ 6)
  · rw [hd] at h; cases h
  · rw [hd, cond_true] at h
    have := of_decide_eq_true hd
    refine ⟨by omega, fun p hp => ?_⟩
    unfold slices_ContainsFunc_string slices_IndexFunc_string at h
    rcases ixS (fun e0_ => (impl_ValidName_c1 e0_)) n_.parts 0 with ⟨h1, h2⟩ | ⟨j, h1⟩
    · have h3 := h2 p hp
      exact vpB_impl (by simpa [impl_ValidName_c1] using h3)
    · rw [h1] at h
      have h4 : decide (((j : Nat) : Int) ≥ 0) = true := decide_eq_true (by omega)
      rw [h4] at h; cases h
theorem vnL_spec : ∀ (l : List Str), (spec_ValidName_L1 l = none ∧ ∀ p ∈ l, p.size ≤ 8) ∨ spec_ValidName_L1 l = some false
  | [] => .inl ⟨rfl, fun p hp => by cases hp⟩
  | x :: l => by
    simp only [spec_ValidName_L1]
    cases hx : spec_ValidPart x
    · exact .inr rfl
    · rcases vnL_spec l with ⟨h1, h2⟩ | h
      · exact .inl ⟨h1, fun p hp => (List.mem_cons.1 hp).elim (fun e => e ▸ vpB_spec hx) (h2 p)⟩
      · exact .inr h
theorem vnB_spec {n_ : Name} (h : spec_ValidName n_ = true) : n_.parts.length ≤ 6 ∧ ∀ p ∈ n_.parts, p.size ≤ 8 := by
  unfold spec_ValidName at h
  rcases vnL_spec n_.parts with ⟨h1, h2⟩ | h1 <;> rw [h1] at h
  · have := of_decide_eq_true h
    exact ⟨by omega, h2⟩
  · cases h
def impl_AppendName_L1 : List Str → (List UInt8) → (List UInt8)
  | [], out => ((out) : List UInt8)
  | e1 :: rest_, out =>
    impl_AppendName_L1 rest_ (((impl_AppendBytes out ((e1).data.toList))) : List UInt8)
def impl_AppendName (b : (List UInt8)) (n_ : Name) : (List UInt8) :=
  bif (!(impl_ValidName n_)) then
    b
  else
    match impl_AppendName_L1 n_.parts ((impl_AppendVarint b (((n_.parts).length : Nat) : Int)) : List UInt8) with
      | out =>
        out
def spec_AppendName_L1 : List Str → (List UInt8) → (List UInt8)
  | [], out => ((out) : List UInt8)
  | e1 :: rest_, out =>
    spec_AppendName_L1 rest_ (((spec_AppendBytes out ((e1).data.toList))) : List UInt8)
def spec_AppendName (b : (List UInt8)) (n_ : Name) : (List UInt8) :=
  bif (!(spec_ValidName n_)) then
    b
  else
    match spec_AppendName_L1 n_.parts ((spec_AppendVarint b (((n_.parts).length : Nat) : Int)) : List UInt8) with
      | out =>
        out
theorem len_implANL : ∀ (l : List Str) (out : List UInt8), (∀ p ∈ l, p.size ≤ 8) → (impl_AppendName_L1 l out).length ≤ out.length + 14 * l.length
  | [], out, _ => by simp [impl_AppendName_L1]
  | x :: l, out, h => by
    have h1 := len_implANL l (impl_AppendBytes out ((x).data.toList)) (fun p hp => h p (List.mem_cons_of_mem _ hp))
    have h2 := len_implAB out ((x).data.toList)
    have h3 := h x List.mem_cons_self
    have h4 : ((x).data.toList).length = (x).size := rfl
    rw [List.length_cons]
    simp only [impl_AppendName_L1]
    omega
theorem len_implAN (b : List UInt8) (n_ : Name) : (impl_AppendName b n_).length ≤ b.length + 90 := by
  unfold impl_AppendName
  cases hv : impl_ValidName n_
  · show b.length ≤ _
    omega
  · have h1 := vnB_impl hv
    have h2 := len_implANL n_.parts (impl_AppendVarint b (((n_.parts).length : Nat) : Int)) h1.2
    have h3 := len_implAV b (((n_.parts).length : Nat) : Int)
    show (impl_AppendName_L1 n_.parts (impl_AppendVarint b (((n_.parts).length : Nat) : Int))).length ≤ _
    omega
theorem len_specANL : ∀ (l : List Str) (out : List UInt8), (∀ p ∈ l, p.size ≤ 8) → (spec_AppendName_L1 l out).length ≤ out.length + 14 * l.length
  | [], out, _ => by simp [spec_AppendName_L1]
  | x :: l, out, h => by
    have h1 := len_specANL l (spec_AppendBytes out ((x).data.toList)) (fun p hp => h p (List.mem_cons_of_mem _ hp))
    have h2 := len_specAB out ((x).data.toList)
    have h3 := h x List.mem_cons_self
    have h4 : ((x).data.toList).length = (x).size := rfl
    rw [List.length_cons]
    simp only [spec_AppendName_L1]
    omega
theorem len_specAN (b : List UInt8) (n_ : Name) : (spec_AppendName b n_).length ≤ b.length + 90 := by
  unfold spec_AppendName
  cases hv : spec_ValidName n_
  · show b.length ≤ _
    omega
  · have h1 := vnB_spec hv
    have h2 := len_specANL n_.parts (spec_AppendVarint b (((n_.parts).length : Nat) : Int)) h1.2
    have h3 := len_specAV b (((n_.parts).length : Nat) : Int)
    show (spec_AppendName_L1 n_.parts (spec_AppendVarint b (((n_.parts).length : Nat) : Int))).length ≤ _
    omega
theorem i64w {x : Int} (h : -9223372036854775808 ≤ x ∧ x ≤ 9223372036854775807) : IntKind.i64.wrap x = x := by
  simp [IntKind.wrap, IntKind.bits, IntKind.signed]
  omega
theorem ofI64 {x : Int} (h : 0 ≤ x ∧ x ≤ 9223372036854775807) : (BitVec.ofInt 64 x).toNat = x.toNat := by
  rw [BitVec.toNat_ofInt]
  omega
end Go.Stp

namespace Go.Stp
open GoT (X k ok sh fa oa)
theorem RdL.bytes (G : GH) : ∀ (l : List UInt8), RdL G (l.map fun b => Value.int .u8 b.toNat) l
  | [] => rfl
  | _ :: l => ⟨(), _, rfl, All.nil, RdL.bytes G l⟩
theorem toB_run {P : Program} {tt : TT} (ht : TabOk P tt) {S D E : Nat} {ts td te : TI} (hS : look tt S = some ts) (hSd : ts.desc = .string) (hD : look tt D = some td) (hDd : td.desc = .slice E) (hE : look tt E = some te) (hEd : te.desc = .int .u8) (w : World) (s : ByteArray) (hmax : s.size ≤ 9223372036854775807) :
    ∃ c w' h, (convert S D (.string s)).run P w = .ok (.slice (some ⟨w.heap.size, 0, none⟩) s.size c) w' ∧ Kp emp w w' ∧ Le h (hp w') ∧ (∀ x o, h x = some o → w.heap.size ≤ x) ∧ RdSl h (some ⟨w.heap.size, 0, none⟩) c s.data.toList := by
  have hu1 : P.underlying S = some .string := by rw [← hSd]; exact (ht.get hS).1
  have hu2 : P.underlying D = some (.slice E) := by rw [← hDd]; exact (ht.get hD).1
  have hu3 : P.underlying E = some (.int .u8) := by rw [← hEd]; exact (ht.get hE).1
  have hrun := run_bytes_of_string (P := P) w S D E s hu1 hu2 hu3
  generalize hc : grownCap w s.size 0 E = c at hrun
  have hge : s.size ≤ c := hc ▸ grownCap_ge w s.size 0 E
  generalize hob : Obj.cells (bytesRow s c) E ((bytesRow s c).size, (bytesRow s c).size + 1) = ob at hrun
  have hk : Kp emp w (w.drew.alloc ob) := by
    have h1 : Kp emp w w.drew := ⟨rfl, rfl, rfl, Nat.le_refl _, fun _ _ _ => rfl⟩
    exact h1.trans ((Kp.refl emp w.drew).alloc _)
  have hat : hp (w.drew.alloc ob) w.heap.size = some ob := by
    show (w.heap.push ob)[w.heap.size]? = some ob
    simp
  refine ⟨c, w.drew.alloc ob, sgl w.heap.size ob, hrun, hk, sgl_le hat, fun x o hx => ?_, hge, hmax, s.data.toList.map (fun b => Value.int .u8 b.toNat), fun j u hj => ⟨_, rfl, ?_⟩, RdL.bytes _ _⟩
  · by_cases hxx : x = w.heap.size
    · omega
    · rw [sgl_ne _ hxx] at hx; cases hx
  · have hlt : j < s.data.size := by
      have := (List.getElem?_eq_some_iff.1 hj).1
      simpa using this
    subst hob
    rw [Addr.add_lit]
    simp only [gcell, sgl_self, bytesRow]
    rw [List.getElem?_map] at hj
    simp only [Nat.zero_add, Option.isSome_none, Bool.false_eq_true, if_false]
    rw [Array.getElem?_append_left (by simpa using hlt), Array.getElem?_map]
    simpa using hj
theorem WX.toB {C : Cx} {ops : Array Oper} {o : Oper} {r : List Oper} {st : List It} {env : Env} {L : Locs} {R : Rows} {Γ : Facts} {x : Operand} {S D E d : Nat} {ts td te : TI} {s : ByteArray} (n : Nat) (ht : TabOk C.P C.tt) (hg : gd ops env o = some true) (hd : o.dst = some d) (hlt : Nat.blt d C.fn.ntmps = true) (ho : o.op = .convert S D x)
    (hS : look C.tt S = some ts) (hSd : ts.desc = .string) (hD : look C.tt D = some td) (hDd : td.desc = .slice E) (hE : look C.tt E = some te) (hEd : te.desc = .int .u8) (hx : ev env x = some (.v (.string s))) (hmax : s.size ≤ 9223372036854775807)
    (k : ∀ p c, WX C (.ops ops r :: st) ((d, .v (.slice (some p) (s.data.toList).length c)) :: env) L R ((n, MF.rs .stb (some p) c s.data.toList) :: Γ)) : WX C (.ops ops (o :: r) :: st) env L R Γ := by
  rintro a w ⟨G, bs, hA, hI, hΓ⟩
  show wpList C.P ops (cont C st) (o :: r) a w
  unfold wpList
  rw [if_pos (gd_sound hA hg)]
  refine .inl ?_
  unfold Oper.wp
  obtain ⟨c, w', h, hrun, hk, hle, hdom, hrd⟩ := toB_run ht hS hSd hD hDd hE hEd w s hmax
  have hexec : (execOp a.eval o).run C.P w = .ok (.value (.slice (some ⟨w.heap.size, 0, none⟩) s.size c)) w' := by
    unfold execOp
    simp only [ho, ev_conc hA hx, conc_v, Sem.run_bind, Sem.run_pure, Result.andThen_ok, hrun]
  rw [hexec]
  simp only [Oper.upon, hd]
  obtain ⟨hI', hdj⟩ := hI.called (emp_le _) (fun _ _ h => by cases h) hk hle (fun b o hb => .inl (hdom b o hb))
  refine k _ c _ _ ⟨_, bs, hA.put (by simpa [Nat.blt_eq] using hlt) (.v _), hI', ?_⟩
  exact AllK.new (G := cut G emp) hΓ n (MF.rs .stb _ c s.data.toList) (le_join_l _ _) (le_join_r hdj.symm) (fun _ => hdj) (fun hk => by cases hk) hrd
theorem u8_ofInt (p : UInt8) : BitVec.ofInt 8 (p.toNat : Int) = p.toBitVec := by
  apply BitVec.eq_of_toNat_eq
  have := UInt8.toNat_lt p
  simp only [BitVec.toNat_ofInt]
  show ((p.toNat : Int) % ((2 ^ 8 : Nat) : Int)).toNat = p.toBitVec.toNat
  have : p.toBitVec.toNat = p.toNat := rfl
  omega
theorem looks_orU8 {C : Cx} {env : Env} {L : Locs} {R : Rows} {G : GH} {o : Oper} {x y : Operand} {T T' : Nat} {m n : Int} {p q : UInt8} (ho : o.op = .binOp .or T x y T') (hx : ev env x = some (.v (.int .u8 m))) (hy : ev env y = some (.v (.int .u8 n))) (hm : m = (p.toNat : Int)) (hn : n = (q.toNat : Int)) : Looks C env L R G o (.v (.int .u8 ((p ||| q).toNat : Int))) := by
  intro a w G' bs _ hA hI
  subst hm hn
  have h2 : ∀ z : Nat, z < 256 → IntKind.u8.wrap (z : Int) = (z : Int) := fun z hz => by
    simp [IntKind.wrap, IntKind.bits, IntKind.signed]
    omega
  have h1 : IntKind.u8.wrap ((BitVec.ofInt 8 (p.toNat : Int) ||| BitVec.ofInt 8 (q.toNat : Int)).toNat : Int) = ((p ||| q).toNat : Int) := by
    rw [u8_ofInt, u8_ofInt]
    exact h2 (p ||| q).toNat (UInt8.toNat_lt _)
  unfold execOp
  simp only [ho, ev_conc hA hx, ev_conc hA hy, conc]
  simp only [eqGuard, binOp, Op.intBits, IntKind.bits]
  simp
  rw [← UInt8.toNat_or]
  exact h2 (p ||| q).toNat (UInt8.toNat_lt _)
end Go.Stp

namespace Go.Proofs.Ytfffongneoegbaa
open Go.Stp
set_option linter.unusedVariables false
set_option linter.unusedSimpArgs false
theorem f31 (w : World) (n : Nat) (hn : n + 1 ≤ 9) (b : (List UInt8)) (pb : Option Addr) (cb : Nat) (hpb : RdSl (hp w) pb cb b) (n_ : Int) (hokb : GoT.ok n b) (hokn_ : GoT.ok n n_) :
    Does Try.prog 31 #[.slice pb ((b).length) cb, .int .i64 (n_)] w emp (Post w emp (fun x : GoT.X ((List UInt8)) => (GoT.sh ((impl_AppendVarint b n_) : (List UInt8)) x).headD undef) (fun x => GoT.oa ((impl_AppendVarint b n_) : (List UInt8)) x) (GoT.ok (n + 1) ((impl_AppendVarint b n_) : (List UInt8)))) := by
  have hbP := bd_pos n
  have hbS0 : bd (n + 1) = 4 * bd (n) := bd_succ (n := n) (by omega)
  have hbB := bd_big (n := (n + 1)) (by omega)
  have hbM := bd_mono (show n ≤ n + 1 by omega)
  refine WX.enter (tt := tt) (Γ := [(0, MF.rs .stb pb cb b)]) Try.func31 rfl (by kernel_rfl) rfl (allS_cons rfl hpb allS_nil) ?_
  refine WX.run ttOk rfl ?_
  refine WX.callF 1 (fun _ _ h => GoT.ow_rd h) (fun _ f hf => GoT.fak f hf) rfl rfl rfl rfl rfl (fun _ => rfl) rfl (fun w G bs hI hΓ => f51 w n (by omega) b pb cb (hΓ.get 0 rfl) hokb) (fun _ => rfl) (fun _ => rfl) ?_
  rintro ⟨p1, c1⟩ hq1
  refine WX.run ttOk rfl ?_
  refine WX.callV rfl rfl rfl rfl rfl (fun _ => rfl) rfl (fun w G bs hI hΓ => f50 w n (by omega) n_ 0 1000000000000 hokn_ (show I64 0 from (by unfold I64; omega)) (show I64 1000000000000 from (by unfold I64; omega))) ?_
  intro hq2
  refine WX.run ttOk rfl ?_
  refine WX.cases 10 rfl (fun h1 => ?_) (fun h1 => ?_)
  · skip
    have h1d := (B.nt h1)
    refine WX.run ttOk rfl ?_
    have hP1 : impl_AppendVarint b n_ = b := by simp only [impl_AppendVarint, h1, cond_true, cond_false]
    refine WX.ret ttOk rfl ?_
    intro w1 G bs hI hΓ
    rw [hP1]
    exact Post.of [2] (p1, c1) hI hΓ rfl rfl rfl (GoT.okm (α := List UInt8) (by omega) hq1)
  · skip
    have h1d := (B.nf h1)
    have h1r := inR_impl (B.nf h1)
    refine WX.run ttOk rfl ?_
    refine WX.loop (ι := Int × (Option Addr) × Nat × (List UInt8)) ⟨fun | (n_2, pout, cout, out) => (-9223372036854775808 ≤ n_2 ∧ n_2 ≤ 9223372036854775807) ∧ (out.length ≤ bd (n + 1) ∧ ∀ z_ ∈ out, GoT.ok (n + 1) z_) ∧ (avI n_2 (out.length - b.length) ∧ b.length ≤ out.length) ∧ (impl_AppendVarint_L1 n_ (b : List UInt8) = impl_AppendVarint_L1 n_2 out), fun | (n_2, pout, cout, out) => n_2.toNat, fun | (n_2, pout, cout, out) => [(1, .v (.int .i64 (n_2))), (5, .v (.slice pout ((out).length) cout))], fun | (n_2, pout, cout, out) => [], fun | (n_2, pout, cout, out) => [], fun | (n_2, pout, cout, out) => [(0, MF.rs .stb pb cb b), (2, MF.os pout cout out)]⟩ (n_, p1, c1, (b : List UInt8)) ⟨hokn_, (GoT.okm (α := List UInt8) (by omega) hq1), ⟨by rw [Nat.sub_self]; exact avI_0 h1r, Nat.le_refl _⟩, rfl⟩
      (.cons rfl (.cons rfl (.nil))) .nil .nil [0, 2] rfl ?_
    rintro ⟨n_2, pout, cout, out⟩ hpre
    have hpre_ : (-9223372036854775808 ≤ n_2 ∧ n_2 ≤ 9223372036854775807) ∧ (out.length ≤ bd (n + 1) ∧ ∀ z_ ∈ out, GoT.ok (n + 1) z_) ∧ (avI n_2 (out.length - b.length) ∧ b.length ≤ out.length) ∧ (impl_AppendVarint_L1 n_ (b : List UInt8) = impl_AppendVarint_L1 n_2 out) := hpre
    clear hpre
    obtain ⟨v1, v2, v3, v4⟩ := hpre_
    have v2L := v2.1
    have hz0 := avI_len v3.1
    have hz1 := avI_rng v3.1
    have hz2 : b.length ≤ bd n := (okl hokb).1
    have hz3 := v3.2
    refine WX.run ttOk rfl ?_
    refine WX.cases 13 rfl (fun h2 => ?_) (fun h2 => ?_)
    · skip
      have h2d := B.dt h2
      refine WX.run ttOk rfl ?_
      refine WX.see rfl rfl rfl (fun _ hΓ => looks_toU8 ttOk rfl rfl rfl rfl rfl rfl) ?_
      refine WX.see rfl rfl rfl (fun _ hΓ => looks_orU8 (p := toU8 n_2) (q := (128 : UInt8)) rfl rfl rfl rfl rfl) ?_
      refine WX.bld ttOk rfl rfl rfl rfl rfl rfl rfl ?_
      intro p2
      refine WX.opn (kk := 1) 501 2 3 rfl rfl rfl ?_
      intro xs1 hx1
      refine WX.turn [] 4 rfl (fun h hs => ol_one (α := UInt8) (a := ((toU8 n_2) ||| (128 : UInt8))) (x := ()) hs) (gs := [MF.ol [.int .u8 ((((toU8 n_2) ||| (128 : UInt8))).toNat : Nat)] ([((toU8 n_2) ||| (128 : UInt8))] : List UInt8)]) rfl ?_
      refine WX.know (fun G hΓ => (hΓ.get 4 rfl : OwL _ _ _).rd.one) ?_
      intro ho1
      refine WX.appR1 501 18 ((out ++ [((toU8 n_2) ||| (128 : UInt8))]) : List UInt8).length ttOk rfl rfl rfl rfl rfl rfl rfl rfl rfl rfl rfl rfl rfl ho1 (by simp) (by simp; omega) (by simp; omega) (fun _ _ => rfl) ?_
      intro p3 c2
      refine WX.turn [3, 4] 5 rfl (fun h hs => ol_app hs) (gs := [MF.ol (xs1 ++ [.int .u8 ((((toU8 n_2) ||| (128 : UInt8))).toNat : Nat)]) ((out ++ [((toU8 n_2) ||| (128 : UInt8))]) : List UInt8)]) rfl ?_
      refine WX.run ttOk rfl ?_
      refine WX.see rfl rfl rfl (fun _ hΓ => looks_shr rfl rfl rfl (by decide)) ?_
      refine WX.run ttOk rfl ?_
      refine WX.seal 501 5 6 rfl rfl rfl rfl rfl ?_
      refine WX.turn [7] 2 rfl (fun _ h => h) rfl ?_
      have hs7 := sh7 n_2
      exact WX.iter (Int.fdiv n_2 (2 ^ (min (Int.toNat (7 : Int)) 64)), p3, c2, (out ++ [((toU8 n_2) ||| (128 : UInt8))])) ⟨(by first | assumption | omega), (okl_mk (by simp; omega) (fun _ _ => trivial) : GoT.ok (n + 1) ((out ++ [((toU8 n_2) ||| (128 : UInt8))]) : List UInt8)), ⟨by rw [sh7]; exact avI_next v3.1 (by omega) (by simp; omega), by simp; omega⟩, (by rw [v4]; rw [impl_AppendVarint_L1]; simp only [h2, h2d, cond_true, cond_false, ↓reduceIte, Bool.false_eq_true])⟩ (by dsimp only; rw [sh7]; omega) (.cons rfl (.cons rfl (.nil))) .nil .nil [0, 2] rfl
    · skip
      have h2d := B.df h2
      refine WX.run ttOk rfl ?_
      have hX1 : impl_AppendVarint_L1 n_ (b : List UInt8) = (n_2, ((out) : List UInt8)) := by rw [v4]; rw [impl_AppendVarint_L1]; simp only [h2, h2d, cond_true, cond_false, ↓reduceIte, Bool.false_eq_true]
      refine WX.see rfl rfl rfl (fun _ hΓ => looks_toU8 ttOk rfl rfl rfl rfl rfl rfl) ?_
      refine WX.bld ttOk rfl rfl rfl rfl rfl rfl rfl ?_
      intro p4
      refine WX.opn (kk := 1) 502 2 8 rfl rfl rfl ?_
      intro xs2 hx2
      refine WX.turn [] 9 rfl (fun h hs => ol_one (α := UInt8) (a := (toU8 n_2)) (x := ()) hs) (gs := [MF.ol [.int .u8 ((toU8 n_2).toNat : Nat)] ([(toU8 n_2)] : List UInt8)]) rfl ?_
      refine WX.know (fun G hΓ => (hΓ.get 9 rfl : OwL _ _ _).rd.one) ?_
      intro ho2
      refine WX.appR1 502 25 ((out ++ [(toU8 n_2)]) : List UInt8).length ttOk rfl rfl rfl rfl rfl rfl rfl rfl rfl rfl rfl rfl rfl ho2 (by simp) (by simp; omega) (by simp; omega) (fun _ _ => rfl) ?_
      intro p5 c3
      refine WX.turn [8, 9] 10 rfl (fun h hs => ol_app hs) (gs := [MF.ol (xs2 ++ [.int .u8 ((toU8 n_2).toNat : Nat)]) ((out ++ [(toU8 n_2)]) : List UInt8)]) rfl ?_
      refine WX.run ttOk rfl ?_
      refine WX.seal 502 10 11 rfl rfl rfl rfl rfl ?_
      have hP2 : impl_AppendVarint b n_ = (out ++ [(toU8 n_2)]) := by simp only [impl_AppendVarint, h1, hX1, cond_true, cond_false]
      refine WX.ret ttOk rfl ?_
      intro w1 G bs hI hΓ
      rw [hP2]
      exact Post.of [12] (p5, c3) hI hΓ rfl rfl rfl (okl_mk (by simp; omega) (fun _ _ => trivial) : GoT.ok (n + 1) ((out ++ [(toU8 n_2)]) : List UInt8))
theorem f27 (w : World) (n : Nat) (hn : n + 1 ≤ 9) (b : (List UInt8)) (pb : Option Addr) (cb : Nat) (hpb : RdSl (hp w) pb cb b) (n_ : Int) (hokb : GoT.ok n b) (hokn_ : GoT.ok n n_) :
    Does Try.prog 27 #[.slice pb ((b).length) cb, .int .i64 (n_)] w emp (Post w emp (fun x : GoT.X ((List UInt8)) => (GoT.sh ((spec_AppendVarint b n_) : (List UInt8)) x).headD undef) (fun x => GoT.oa ((spec_AppendVarint b n_) : (List UInt8)) x) (GoT.ok (n + 1) ((spec_AppendVarint b n_) : (List UInt8)))) := by
  have hbP := bd_pos n
  have hbS0 : bd (n + 1) = 4 * bd (n) := bd_succ (n := n) (by omega)
  have hbB := bd_big (n := (n + 1)) (by omega)
  have hbM := bd_mono (show n ≤ n + 1 by omega)
  refine WX.enter (tt := tt) (Γ := [(0, MF.rs .stb pb cb b)]) Try.func27 rfl (by kernel_rfl) rfl (allS_cons rfl hpb allS_nil) ?_
  refine WX.run ttOk rfl ?_
  refine WX.bld ttOk rfl rfl rfl rfl rfl rfl rfl ?_
  intro p1
  refine WX.run ttOk rfl ?_
  refine WX.free 1 (MF.ol [] ([] : List UInt8)) rfl ?_
  have r1 : (b).length ≤ bd n := (okl hokb).1
  refine WX.appG1 6 0 2 (b : List UInt8).length ttOk rfl rfl rfl rfl rfl rfl rfl rfl rfl rfl rfl rfl rfl (by simp) (by omega) (by omega) (fun _ _ _ => rfl) ?_
  intro ys1 p2 c1
  refine WX.know (fun G hΓ => (hΓ.get 2 rfl : RdL _ _ _).flat) ?_
  intro hf1
  refine WX.turn [1] 3 rfl (fun h hs => ol_flat hs hf1) (gs := [MF.ol ([] ++ ys1) (b : List UInt8)]) rfl ?_
  refine WX.run ttOk rfl ?_
  refine WX.callV rfl rfl rfl rfl rfl (fun _ => rfl) rfl (fun w G bs hI hΓ => f42 w n (by omega) n_ 0 1000000000000 hokn_ (show I64 0 from (by unfold I64; omega)) (show I64 1000000000000 from (by unfold I64; omega))) ?_
  intro hq1
  refine WX.run ttOk rfl ?_
  refine WX.cases 11 rfl (fun h1 => ?_) (fun h1 => ?_)
  · skip
    have h1d := (B.nt h1)
    refine WX.run ttOk rfl ?_
    refine WX.seal 6 3 4 rfl rfl rfl rfl rfl ?_
    have hP1 : spec_AppendVarint b n_ = b := by simp only [spec_AppendVarint, h1, cond_true, cond_false]
    refine WX.ret ttOk rfl ?_
    intro w1 G bs hI hΓ
    rw [hP1]
    exact Post.of [5] (p2, c1) hI hΓ rfl rfl rfl (okl_mk (by omega) (fun _ _ => trivial) : GoT.ok (n + 1) (b : List UInt8))
  · skip
    have h1d := (B.nf h1)
    have h1r := inR_spec (B.nf h1)
    refine WX.run ttOk rfl ?_
    refine WX.loop (ι := Int × (Option Addr) × Nat × (List Value) × (List UInt8)) ⟨fun | (n_2, pout, cout, xsout, out) => (-9223372036854775808 ≤ n_2 ∧ n_2 ≤ 9223372036854775807) ∧ (∀ z_ ∈ out, GoT.ok (n + 1) z_) ∧ (avI n_2 (out.length - b.length) ∧ b.length ≤ out.length) ∧ (spec_AppendVarint_L1 n_ (b : List UInt8) = spec_AppendVarint_L1 n_2 out), fun | (n_2, pout, cout, xsout, out) => n_2.toNat, fun | (n_2, pout, cout, xsout, out) => [(1, .v (.int .i64 (n_2))), (5, .v (.slice pout ((out).length) cout))], fun | (n_2, pout, cout, xsout, out) => [], fun | (n_2, pout, cout, xsout, out) => [(6, ⟨1, pout, (out).length, cout, xsout⟩)], fun | (n_2, pout, cout, xsout, out) => [(0, MF.rs .stb pb cb b), (3, MF.ol xsout (out : List UInt8))]⟩ (n_, p2, c1, ([] ++ ys1), (b : List UInt8)) ⟨hokn_, (fun _ _ => trivial), ⟨by rw [Nat.sub_self]; exact avI_0 h1r, Nat.le_refl _⟩, rfl⟩
      (.cons rfl (.cons rfl (.nil))) .nil (.cons rfl (.nil)) [0, 3] rfl ?_
    rintro ⟨n_2, pout, cout, xsout, out⟩ hpre
    have hpre_ : (-9223372036854775808 ≤ n_2 ∧ n_2 ≤ 9223372036854775807) ∧ (∀ z_ ∈ out, GoT.ok (n + 1) z_) ∧ (avI n_2 (out.length - b.length) ∧ b.length ≤ out.length) ∧ (spec_AppendVarint_L1 n_ (b : List UInt8) = spec_AppendVarint_L1 n_2 out) := hpre
    clear hpre
    obtain ⟨v1, v2, v3, v4⟩ := hpre_
    have hz0 := avI_len v3.1
    have hz1 := avI_rng v3.1
    have hz2 : b.length ≤ bd n := (okl hokb).1
    have hz3 := v3.2
    refine WX.run ttOk rfl ?_
    refine WX.cases 14 rfl (fun h2 => ?_) (fun h2 => ?_)
    · skip
      have h2d := B.dt h2
      refine WX.run ttOk rfl ?_
      refine WX.see rfl rfl rfl (fun _ hΓ => looks_bits rfl rfl rfl rfl) ?_
      refine WX.see rfl rfl rfl (fun _ hΓ => looks_bits rfl rfl rfl rfl) ?_
      refine WX.see rfl rfl rfl (fun _ hΓ => looks_toU8 ttOk rfl rfl rfl rfl rfl rfl) ?_
      refine WX.bld ttOk rfl rfl rfl rfl rfl rfl rfl ?_
      intro p3
      refine WX.turn [] 6 rfl (fun h hs => ol_one (α := UInt8) (a := (toU8 (bitO .or (bitO .and n_2 127) 128))) (x := ()) hs) (gs := [MF.ol [.int .u8 ((toU8 (bitO .or (bitO .and n_2 127) 128)).toNat : Nat)] ([(toU8 (bitO .or (bitO .and n_2 127) 128))] : List UInt8)]) rfl ?_
      refine WX.know (fun G hΓ => (hΓ.get 6 rfl : OwL _ _ _).rd.one) ?_
      intro ho1
      refine WX.appR1 6 20 ((out ++ [(toU8 (bitO .or (bitO .and n_2 127) 128))]) : List UInt8).length ttOk rfl rfl rfl rfl rfl rfl rfl rfl rfl rfl rfl rfl rfl ho1 (by simp) (by simp; omega) (by simp; omega) (fun _ _ => rfl) ?_
      intro p4 c2
      refine WX.turn [3, 6] 7 rfl (fun h hs => ol_app hs) (gs := [MF.ol (xsout ++ [.int .u8 ((toU8 (bitO .or (bitO .and n_2 127) 128)).toNat : Nat)]) ((out ++ [(toU8 (bitO .or (bitO .and n_2 127) 128))]) : List UInt8)]) rfl ?_
      refine WX.run ttOk rfl ?_
      refine WX.see rfl rfl rfl (fun _ hΓ => looks_shr rfl rfl rfl (by decide)) ?_
      refine WX.run ttOk rfl ?_
      refine WX.turn [7] 3 rfl (fun _ h => h) rfl ?_
      have hs7 := sh7 n_2
      exact WX.iter (Int.fdiv n_2 (2 ^ (min (Int.toNat (7 : Int)) 64)), p4, c2, (xsout ++ [.int .u8 ((toU8 (bitO .or (bitO .and n_2 127) 128)).toNat : Nat)]), ((out ++ [(toU8 (bitO .or (bitO .and n_2 127) 128))]) : List UInt8)) ⟨(by first | assumption | omega), (fun _ _ => trivial), ⟨by rw [sh7]; exact avI_next v3.1 (by omega) (by simp; omega), by simp; omega⟩, (by rw [v4]; rw [spec_AppendVarint_L1]; simp only [h2, h2d, cond_true, cond_false, ↓reduceIte, Bool.false_eq_true])⟩ (by dsimp only; rw [sh7]; omega) (.cons rfl (.cons rfl (.nil))) .nil (.cons rfl (.nil)) [0, 3] rfl
    · skip
      have h2d := B.df h2
      refine WX.run ttOk rfl ?_
      have hX1 : spec_AppendVarint_L1 n_ (b : List UInt8) = (n_2, ((out) : List UInt8)) := by rw [v4]; rw [spec_AppendVarint_L1]; simp only [h2, h2d, cond_true, cond_false, ↓reduceIte, Bool.false_eq_true]
      refine WX.see rfl rfl rfl (fun _ hΓ => looks_toU8 ttOk rfl rfl rfl rfl rfl rfl) ?_
      refine WX.bld ttOk rfl rfl rfl rfl rfl rfl rfl ?_
      intro p5
      refine WX.turn [] 8 rfl (fun h hs => ol_one (α := UInt8) (a := (toU8 n_2)) (x := ()) hs) (gs := [MF.ol [.int .u8 ((toU8 n_2).toNat : Nat)] ([(toU8 n_2)] : List UInt8)]) rfl ?_
      refine WX.know (fun G hΓ => (hΓ.get 8 rfl : OwL _ _ _).rd.one) ?_
      intro ho2
      refine WX.appR1 6 27 ((out ++ [(toU8 n_2)]) : List UInt8).length ttOk rfl rfl rfl rfl rfl rfl rfl rfl rfl rfl rfl rfl rfl ho2 (by simp) (by simp; omega) (by simp; omega) (fun _ _ => rfl) ?_
      intro p6 c3
      refine WX.turn [3, 8] 9 rfl (fun h hs => ol_app hs) (gs := [MF.ol (xsout ++ [.int .u8 ((toU8 n_2).toNat : Nat)]) ((out ++ [(toU8 n_2)]) : List UInt8)]) rfl ?_
      refine WX.run ttOk rfl ?_
      refine WX.seal 6 9 10 rfl rfl rfl rfl rfl ?_
      have hP2 : spec_AppendVarint b n_ = (out ++ [(toU8 n_2)]) := by simp only [spec_AppendVarint, h1, hX1, cond_true, cond_false]
      refine WX.ret ttOk rfl ?_
      intro w1 G bs hI hΓ
      rw [hP2]
      exact Post.of [11] (p6, c3) hI hΓ rfl rfl rfl (okl_mk (by simp; omega) (fun _ _ => trivial) : GoT.ok (n + 1) ((out ++ [(toU8 n_2)]) : List UInt8))
theorem f53 (w : World) (n : Nat) (hn : n + 2 ≤ 9) (b : (List UInt8)) (pb : Option Addr) (cb : Nat) (hpb : RdSl (hp w) pb cb b) (s : (List UInt8)) (ps : Option Addr) (cs : Nat) (hps : RdSl (hp w) ps cs s) (hokb : GoT.ok n b) (hoks : GoT.ok n s) :
    Does Try.prog 53 #[.slice pb ((b).length) cb, .slice ps ((s).length) cs] w emp (Post w emp (fun x : GoT.X ((List UInt8)) => (GoT.sh ((impl_AppendBytes b s) : (List UInt8)) x).headD undef) (fun x => GoT.oa ((impl_AppendBytes b s) : (List UInt8)) x) (GoT.ok (n + 2) ((impl_AppendBytes b s) : (List UInt8)))) := by
  have hbP := bd_pos n
  have hbS0 : bd (n + 1) = 4 * bd (n) := bd_succ (n := n) (by omega)
  have hbS1 : bd (n + 2) = 4 * bd (n + 1) := bd_succ (n := n + 1) (by omega)
  have hbB := bd_big (n := (n + 2)) (by omega)
  have hbM := bd_mono (show n ≤ n + 2 by omega)
  refine WX.enter (tt := tt) (Γ := [(0, MF.rs .stb pb cb b), (1, MF.rs .stb ps cs s)]) Try.func53 rfl (by kernel_rfl) rfl (allS_cons rfl hpb (allS_cons rfl hps allS_nil)) ?_
  refine WX.run ttOk rfl ?_
  have r1 : (s).length ≤ bd n := (okl hoks).1
  refine WX.callF 2 (fun _ _ h => GoT.ow_rd h) (fun _ f hf => GoT.fak f hf) rfl rfl rfl rfl rfl (fun _ => rfl) rfl (fun w G bs hI hΓ => f31 w n (by omega) b pb cb (hΓ.get 0 rfl) (((s).length : Nat) : Int) hokb (show I64 (((s).length : Nat) : Int) from (by unfold I64; omega))) (fun _ => rfl) (fun _ => rfl) ?_
  rintro ⟨p1, c1⟩ hq1
  have q1 := len_implAV b (((s).length : Nat) : Int)
  refine WX.run ttOk rfl ?_
  refine WX.opn (kk := 1) 501 3 4 rfl rfl rfl ?_
  intro xs1 hx1
  have r2 : (b).length ≤ bd n := (okl hokb).1
  have r3 : (impl_AppendVarint b (((s).length : Nat) : Int)).length ≤ bd (n + 1) := (okl hq1).1
  refine WX.appG1 501 1 5 (((impl_AppendVarint b (((s).length : Nat) : Int)) ++ s) : List UInt8).length ttOk rfl rfl rfl rfl rfl rfl rfl rfl rfl rfl rfl rfl rfl (by simp) (by simp; omega) (by simp; omega) (fun _ _ _ => rfl) ?_
  intro ys1 p2 c2
  refine WX.know (fun G hΓ => (hΓ.get 5 rfl : RdL _ _ _).flat) ?_
  intro hf1
  refine WX.turn [4] 6 rfl (fun h hs => ol_flat hs hf1) (gs := [MF.ol (xs1 ++ ys1) (((impl_AppendVarint b (((s).length : Nat) : Int)) ++ s) : List UInt8)]) rfl ?_
  refine WX.run ttOk rfl ?_
  refine WX.seal 501 6 7 rfl rfl rfl rfl rfl ?_
  have hP1 : impl_AppendBytes b s = ((impl_AppendVarint b (((s).length : Nat) : Int)) ++ s) := by simp only [impl_AppendBytes, cond_true, cond_false]
  refine WX.ret ttOk rfl ?_
  intro w1 G bs hI hΓ
  rw [hP1]
  exact Post.of [8] (p2, c2) hI hΓ rfl rfl rfl (okl_mk (by simp; omega) (fun a ha => GoT.okm (show (n + 1) ≤ (n + 2) by omega) ((fun _ _ => trivial) a ha)) : GoT.ok (n + 2) (((impl_AppendVarint b (((s).length : Nat) : Int)) ++ s) : List UInt8))
theorem f45 (w : World) (n : Nat) (hn : n + 2 ≤ 9) (b : (List UInt8)) (pb : Option Addr) (cb : Nat) (hpb : RdSl (hp w) pb cb b) (s : (List UInt8)) (ps : Option Addr) (cs : Nat) (hps : RdSl (hp w) ps cs s) (hokb : GoT.ok n b) (hoks : GoT.ok n s) :
    Does Try.prog 45 #[.slice pb ((b).length) cb, .slice ps ((s).length) cs] w emp (Post w emp (fun x : GoT.X ((List UInt8)) => (GoT.sh ((spec_AppendBytes b s) : (List UInt8)) x).headD undef) (fun x => GoT.oa ((spec_AppendBytes b s) : (List UInt8)) x) (GoT.ok (n + 2) ((spec_AppendBytes b s) : (List UInt8)))) := by
  have hbP := bd_pos n
  have hbS0 : bd (n + 1) = 4 * bd (n) := bd_succ (n := n) (by omega)
  have hbS1 : bd (n + 2) = 4 * bd (n + 1) := bd_succ (n := n + 1) (by omega)
  have hbB := bd_big (n := (n + 2)) (by omega)
  have hbM := bd_mono (show n ≤ n + 2 by omega)
  refine WX.enter (tt := tt) (Γ := [(0, MF.rs .stb pb cb b), (1, MF.rs .stb ps cs s)]) Try.func45 rfl (by kernel_rfl) rfl (allS_cons rfl hpb (allS_cons rfl hps allS_nil)) ?_
  refine WX.run ttOk rfl ?_
  have r1 : (s).length ≤ bd n := (okl hoks).1
  refine WX.callF 2 (fun _ _ h => GoT.ow_rd h) (fun _ f hf => GoT.fak f hf) rfl rfl rfl rfl rfl (fun _ => rfl) rfl (fun w G bs hI hΓ => f27 w n (by omega) b pb cb (hΓ.get 0 rfl) (((s).length : Nat) : Int) hokb (show I64 (((s).length : Nat) : Int) from (by unfold I64; omega))) (fun _ => rfl) (fun _ => rfl) ?_
  rintro ⟨p1, c1⟩ hq1
  have q1 := len_specAV b (((s).length : Nat) : Int)
  refine WX.run ttOk rfl ?_
  refine WX.opn (kk := 1) 501 3 4 rfl rfl rfl ?_
  intro xs1 hx1
  have r2 : (b).length ≤ bd n := (okl hokb).1
  have r3 : (spec_AppendVarint b (((s).length : Nat) : Int)).length ≤ bd (n + 1) := (okl hq1).1
  refine WX.appG1 501 1 5 (((spec_AppendVarint b (((s).length : Nat) : Int)) ++ s) : List UInt8).length ttOk rfl rfl rfl rfl rfl rfl rfl rfl rfl rfl rfl rfl rfl (by simp) (by simp; omega) (by simp; omega) (fun _ _ _ => rfl) ?_
  intro ys1 p2 c2
  refine WX.know (fun G hΓ => (hΓ.get 5 rfl : RdL _ _ _).flat) ?_
  intro hf1
  refine WX.turn [4] 6 rfl (fun h hs => ol_flat hs hf1) (gs := [MF.ol (xs1 ++ ys1) (((spec_AppendVarint b (((s).length : Nat) : Int)) ++ s) : List UInt8)]) rfl ?_
  refine WX.run ttOk rfl ?_
  refine WX.seal 501 6 7 rfl rfl rfl rfl rfl ?_
  have hP1 : spec_AppendBytes b s = ((spec_AppendVarint b (((s).length : Nat) : Int)) ++ s) := by simp only [spec_AppendBytes, cond_true, cond_false]
  refine WX.ret ttOk rfl ?_
  intro w1 G bs hI hΓ
  rw [hP1]
  exact Post.of [8] (p2, c2) hI hΓ rfl rfl rfl (okl_mk (by simp; omega) (fun a ha => GoT.okm (show (n + 1) ≤ (n + 2) by omega) ((fun _ _ => trivial) a ha)) : GoT.ok (n + 2) (((spec_AppendVarint b (((s).length : Nat) : Int)) ++ s) : List UInt8))
theorem f32 (w : World) (n : Nat) (hn : n + 3 ≤ 9) (b : (List UInt8)) (pb : Option Addr) (cb : Nat) (hpb : RdSl (hp w) pb cb b) (n_ : Name) (pn_ : Option Addr) (cn_ : Nat) (hpn_ : RdSl (hp w) pn_ cn_ n_.parts) (hokb : GoT.ok n b) (hokn_ : GoT.ok n n_) :
    Does Try.prog 32 #[.slice pb ((b).length) cb, .agg #[.slice pn_ ((n_.parts).length) cn_]] w emp (Post w emp (fun x : GoT.X ((List UInt8)) => (GoT.sh ((impl_AppendName b n_) : (List UInt8)) x).headD undef) (fun x => GoT.oa ((impl_AppendName b n_) : (List UInt8)) x) (GoT.ok (n + 1) ((impl_AppendName b n_) : (List UInt8)))) := by
  have hbP := bd_pos n
  have hbS0 : bd (n + 1) = 4 * bd (n) := bd_succ (n := n) (by omega)
  have hbS1 : bd (n + 2) = 4 * bd (n + 1) := bd_succ (n := n + 1) (by omega)
  have hbS2 : bd (n + 3) = 4 * bd (n + 2) := bd_succ (n := n + 2) (by omega)
  have hbB := bd_big (n := (n + 3)) (by omega)
  have hbM := bd_mono (show n ≤ n + 3 by omega)
  refine WX.enter (tt := tt) (Γ := [(0, MF.rs .stb pb cb b), (1, MF.rs .stb pn_ cn_ n_.parts)]) Try.func32 rfl (by kernel_rfl) rfl (allS_cons rfl hpb (allS_cons rfl hpn_ allS_nil)) ?_
  refine WX.run ttOk rfl ?_
  refine WX.callV rfl rfl rfl rfl rfl (fun _ => rfl) rfl (fun w G bs hI hΓ => f52 w n (by omega) n_ pn_ cn_ (hΓ.get 1 rfl) hokn_) ?_
  intro hq1
  refine WX.run ttOk rfl ?_
  refine WX.cases 10 rfl (fun h1 => ?_) (fun h1 => ?_)
  · skip
    have h1d := (B.nt h1)
    refine WX.run ttOk rfl ?_
    refine WX.callF 2 (fun _ _ h => GoT.ow_rd h) (fun _ f hf => GoT.fak f hf) rfl rfl rfl rfl rfl (fun _ => rfl) rfl (fun w G bs hI hΓ => f51 w n (by omega) b pb cb (hΓ.get 0 rfl) hokb) (fun _ => rfl) (fun _ => rfl) ?_
    rintro ⟨p1, c1⟩ hq2
    refine WX.run ttOk rfl ?_
    have hP1 : impl_AppendName b n_ = b := by simp only [impl_AppendName, h1, cond_true, cond_false]
    refine WX.ret ttOk rfl ?_
    intro w1 G bs hI hΓ
    rw [hP1]
    exact Post.of [3] (p1, c1) hI hΓ rfl rfl rfl (GoT.okm (α := List UInt8) (by omega) hq2)
  · skip
    have h1d := (B.nf h1)
    refine WX.run ttOk rfl ?_
    have r1 : (n_.parts).length ≤ bd n := (okl (ok_Name hokn_)).1
    refine WX.callF 4 (fun _ _ h => GoT.ow_rd h) (fun _ f hf => GoT.fak f hf) rfl rfl rfl rfl rfl (fun _ => rfl) rfl (fun w G bs hI hΓ => f31 w n (by omega) b pb cb (hΓ.get 0 rfl) (((n_.parts).length : Nat) : Int) hokb (show I64 (((n_.parts).length : Nat) : Int) from (by unfold I64; omega))) (fun _ => rfl) (fun _ => rfl) ?_
    rintro ⟨p2, c2⟩ hq3
    have q1 := len_implAV b (((n_.parts).length : Nat) : Int)
    refine WX.run ttOk rfl ?_
    have hv0 := vnB_impl h1d
    have hv1 := hv0.1
    have hv2 : b.length ≤ bd n := (okl hokb).1
    refine WX.loop (ι := (Option Addr) × Nat × (List UInt8) × Nat) ⟨fun | (pout, cout, out, i) => (i ≤ (n_.parts).length) ∧ (out.length ≤ bd (n + 1) ∧ ∀ z_ ∈ out, GoT.ok (n + 1) z_) ∧ (out.length ≤ b.length + 6 + 14 * i) ∧ (impl_AppendName_L1 n_.parts ((impl_AppendVarint b (((n_.parts).length : Nat) : Int)) : List UInt8) = impl_AppendName_L1 ((n_.parts).drop i) out), fun | (pout, cout, out, i) => (n_.parts).length - i, fun | (pout, cout, out, i) => [(5, .v (.slice pout ((out).length) cout)), (21, .v (.int .i64 (((i : Nat) : Int)))), (20, .v (.int .i64 ((((n_.parts).length : Nat) : Int)))), (19, .v (.slice pn_ ((n_.parts).length) cn_))], fun | (pout, cout, out, i) => [], fun | (pout, cout, out, i) => [], fun | (pout, cout, out, i) => [(0, MF.rs .stb pb cb b), (1, MF.rs .stb pn_ cn_ n_.parts), (5, MF.os pout cout out)]⟩ (p2, c2, ((impl_AppendVarint b (((n_.parts).length : Nat) : Int)) : List UInt8), 0) ⟨(Nat.zero_le _), hq3, (by omega), rfl⟩
      (.cons rfl (.cons rfl (.cons rfl (.cons rfl (.nil))))) .nil .nil [0, 1, 5] rfl ?_
    rintro ⟨pout, cout, out, i⟩ hpre
    have hpre_ : (i ≤ (n_.parts).length) ∧ (out.length ≤ bd (n + 1) ∧ ∀ z_ ∈ out, GoT.ok (n + 1) z_) ∧ (out.length ≤ b.length + 6 + 14 * i) ∧ (impl_AppendName_L1 n_.parts ((impl_AppendVarint b (((n_.parts).length : Nat) : Int)) : List UInt8) = impl_AppendName_L1 ((n_.parts).drop i) out) := hpre
    clear hpre
    obtain ⟨v1, v2, v3, v4⟩ := hpre_
    have v2L := v2.1
    refine WX.run ttOk rfl ?_
    refine WX.cases 22 rfl (fun h2 => ?_) (fun h2 => ?_)
    · skip
      have h2d := B.dt h2
      have e1i : i < (n_.parts).length := (by omega)
      obtain ⟨e1, e1h⟩ : ∃ e1, (n_.parts)[i]? = some e1 := ⟨_, List.getElem?_eq_getElem e1i⟩
      have ok1 : GoT.ok n e1 := (okl (ok_Name hokn_)).2 _ (List.mem_of_getElem? e1h)
      refine WX.run ttOk rfl ?_
      refine WX.idx 1 i ttOk rfl rfl rfl rfl rfl rfl rfl rfl rfl rfl e1i ?_
      rintro ad1 rfl
      refine WX.ldE 1 6 e1 ttOk rfl rfl rfl rfl rfl rfl rfl rfl e1h (fun _ => rfl) (fun _ => rfl) ?_
      rintro ⟨⟩
      refine WX.run ttOk rfl ?_
      have r2 : (e1).size ≤ bd n := ok1
      refine WX.toB 6 ttOk rfl rfl rfl rfl rfl rfl rfl rfl rfl rfl rfl (by omega) ?_
      intro p3 c3
      have r3 : ((e1).data.toList).length = (e1).size := rfl
      refine WX.der 7 (MF.rs .der pout cout out) rfl (fun _ hΓ => (hΓ.get 5 rfl : OwSl _ _ _ _).rd) ?_
      refine WX.callF 8 (fun _ _ h => GoT.ow_rd h) (fun _ f hf => GoT.fak f hf) rfl rfl rfl rfl rfl (fun _ => rfl) rfl (fun w G bs hI hΓ => f53 w (n + 1) (by omega) out pout cout (hΓ.get 7 rfl) ((e1).data.toList) (some p3) c3 (hΓ.get 6 rfl) (okl_of v2) (okl_mk (by omega) (fun _ _ => trivial) : GoT.ok (n + 1) ((e1).data.toList : List UInt8))) (fun _ => rfl) (fun _ => rfl) ?_
      rintro ⟨p4, c4⟩ hq4
      have q2 := len_implAB out ((e1).data.toList)
      refine WX.run ttOk rfl ?_
      refine WX.see rfl rfl rfl (fun _ hΓ => looks_arith rfl rfl rfl rfl (by unfold I64; first | omega | (simp only [List.length_take, List.length_drop] at *; omega) | (dsimp only; omega))) ?_
      refine WX.run ttOk rfl ?_
      refine WX.turn [9] 5 rfl (fun _ h => h) rfl ?_
      have r4 : (impl_AppendBytes out ((e1).data.toList)).length ≤ bd (n + 3) := (okl hq4).1
      exact WX.iter (p4, c4, (impl_AppendBytes out ((e1).data.toList)), i + 1) ⟨(by omega), (okl_mk (by omega) (fun _ _ => trivial) : GoT.ok (n + 1) ((impl_AppendBytes out ((e1).data.toList)) : List UInt8)), (by have z_ := hv0.2 _ (List.mem_of_getElem? e1h); have z2_ : ((e1).data.toList).length = (e1).size := rfl; omega), (by rw [v4, drop_get e1h]; simp only [impl_AppendName_L1, cond_true, cond_false])⟩ (by first | (dsimp only; omega) | omega) (.cons rfl (.cons rfl (.cons rfl (.cons rfl (.nil))))) .nil .nil [0, 1, 5] rfl
    · skip
      have h2d := B.df h2
      refine WX.run ttOk rfl ?_
      have hX1 : impl_AppendName_L1 n_.parts ((impl_AppendVarint b (((n_.parts).length : Nat) : Int)) : List UInt8) = ((out) : List UInt8) := by rw [v4, List.drop_eq_nil_of_le (show (n_.parts).length ≤ i by omega)]; simp only [impl_AppendName_L1, cond_true, cond_false]
      have hP2 : impl_AppendName b n_ = out := by simp only [impl_AppendName, h1, hX1, cond_true, cond_false]
      refine WX.ret ttOk rfl ?_
      intro w1 G bs hI hΓ
      rw [hP2]
      exact Post.of [5] (pout, cout) hI hΓ rfl rfl rfl (okl_of v2)
theorem f28 (w : World) (n : Nat) (hn : n + 3 ≤ 9) (b : (List UInt8)) (pb : Option Addr) (cb : Nat) (hpb : RdSl (hp w) pb cb b) (n_ : Name) (pn_ : Option Addr) (cn_ : Nat) (hpn_ : RdSl (hp w) pn_ cn_ n_.parts) (hokb : GoT.ok n b) (hokn_ : GoT.ok n n_) :
    Does Try.prog 28 #[.slice pb ((b).length) cb, .agg #[.slice pn_ ((n_.parts).length) cn_]] w emp (Post w emp (fun x : GoT.X ((List UInt8)) => (GoT.sh ((spec_AppendName b n_) : (List UInt8)) x).headD undef) (fun x => GoT.oa ((spec_AppendName b n_) : (List UInt8)) x) (GoT.ok (n + 1) ((spec_AppendName b n_) : (List UInt8)))) := by
  have hbP := bd_pos n
  have hbS0 : bd (n + 1) = 4 * bd (n) := bd_succ (n := n) (by omega)
  have hbS1 : bd (n + 2) = 4 * bd (n + 1) := bd_succ (n := n + 1) (by omega)
  have hbS2 : bd (n + 3) = 4 * bd (n + 2) := bd_succ (n := n + 2) (by omega)
  have hbB := bd_big (n := (n + 3)) (by omega)
  have hbM := bd_mono (show n ≤ n + 3 by omega)
  refine WX.enter (tt := tt) (Γ := [(0, MF.rs .stb pb cb b), (1, MF.rs .stb pn_ cn_ n_.parts)]) Try.func28 rfl (by kernel_rfl) rfl (allS_cons rfl hpb (allS_cons rfl hpn_ allS_nil)) ?_
  refine WX.run ttOk rfl ?_
  refine WX.bld ttOk rfl rfl rfl rfl rfl rfl rfl ?_
  intro p1
  refine WX.run ttOk rfl ?_
  refine WX.free 2 (MF.ol [] ([] : List UInt8)) rfl ?_
  have r1 : (b).length ≤ bd n := (okl hokb).1
  refine WX.appG1 7 0 3 (b : List UInt8).length ttOk rfl rfl rfl rfl rfl rfl rfl rfl rfl rfl rfl rfl rfl (by simp) (by omega) (by omega) (fun _ _ _ => rfl) ?_
  intro ys1 p2 c1
  refine WX.know (fun G hΓ => (hΓ.get 3 rfl : RdL _ _ _).flat) ?_
  intro hf1
  refine WX.turn [2] 4 rfl (fun h hs => ol_flat hs hf1) (gs := [MF.ol ([] ++ ys1) (b : List UInt8)]) rfl ?_
  refine WX.run ttOk rfl ?_
  refine WX.callV rfl rfl rfl rfl rfl (fun _ => rfl) rfl (fun w G bs hI hΓ => f44 w n (by omega) n_ pn_ cn_ (hΓ.get 1 rfl) hokn_) ?_
  intro hq1
  refine WX.run ttOk rfl ?_
  refine WX.cases 12 rfl (fun h1 => ?_) (fun h1 => ?_)
  · skip
    have h1d := (B.nt h1)
    refine WX.run ttOk rfl ?_
    refine WX.seal 7 4 5 rfl rfl rfl rfl rfl ?_
    have hP1 : spec_AppendName b n_ = b := by simp only [spec_AppendName, h1, cond_true, cond_false]
    refine WX.ret ttOk rfl ?_
    intro w1 G bs hI hΓ
    rw [hP1]
    exact Post.of [6] (p2, c1) hI hΓ rfl rfl rfl (okl_mk (by omega) (fun _ _ => trivial) : GoT.ok (n + 1) (b : List UInt8))
  · skip
    have h1d := (B.nf h1)
    refine WX.run ttOk rfl ?_
    refine WX.seal 7 4 7 rfl rfl rfl rfl rfl ?_
    have r2 : (n_.parts).length ≤ bd n := (okl (ok_Name hokn_)).1
    refine WX.callF 9 (fun _ _ h => GoT.ow_rd h) (fun _ f hf => GoT.fak f hf) rfl rfl rfl rfl rfl (fun _ => rfl) rfl (fun w G bs hI hΓ => f27 w n (by omega) b p2 c1 (hΓ.get 7 rfl) (((n_.parts).length : Nat) : Int) (okl_mk (by omega) (fun _ _ => trivial) : GoT.ok n (b : List UInt8)) (show I64 (((n_.parts).length : Nat) : Int) from (by unfold I64; omega))) (fun _ => rfl) (fun _ => rfl) ?_
    rintro ⟨p3, c2⟩ hq2
    have q1 := len_specAV b (((n_.parts).length : Nat) : Int)
    refine WX.run ttOk rfl ?_
    have hv0 := vnB_spec h1d
    have hv1 := hv0.1
    have hv2 : b.length ≤ bd n := (okl hokb).1
    refine WX.loop (ι := (Option Addr) × Nat × (List UInt8) × Nat) ⟨fun | (pout, cout, out, i) => (i ≤ (n_.parts).length) ∧ (out.length ≤ bd (n + 1) ∧ ∀ z_ ∈ out, GoT.ok (n + 1) z_) ∧ (out.length ≤ b.length + 6 + 14 * i) ∧ (spec_AppendName_L1 n_.parts ((spec_AppendVarint b (((n_.parts).length : Nat) : Int)) : List UInt8) = spec_AppendName_L1 ((n_.parts).drop i) out), fun | (pout, cout, out, i) => (n_.parts).length - i, fun | (pout, cout, out, i) => [(5, .v (.slice pout ((out).length) cout)), (6, .v (.int .i64 (((i : Nat) : Int)))), (3, .p 3 0)], fun | (pout, cout, out, i) => [(3, ⟨53, [.slice pn_ ((n_.parts).length) cn_]⟩)], fun | (pout, cout, out, i) => [], fun | (pout, cout, out, i) => [(0, MF.rs .stb pb cb b), (1, MF.rs .stb pn_ cn_ n_.parts), (10, MF.os pout cout out)]⟩ (p3, c2, ((spec_AppendVarint b (((n_.parts).length : Nat) : Int)) : List UInt8), 0) ⟨(Nat.zero_le _), hq2, (by omega), rfl⟩
      (.cons rfl (.cons rfl (.cons rfl (.nil)))) (.cons rfl (.nil)) .nil [0, 1, 10] rfl ?_
    rintro ⟨pout, cout, out, i⟩ hpre
    have hpre_ : (i ≤ (n_.parts).length) ∧ (out.length ≤ bd (n + 1) ∧ ∀ z_ ∈ out, GoT.ok (n + 1) z_) ∧ (out.length ≤ b.length + 6 + 14 * i) ∧ (spec_AppendName_L1 n_.parts ((spec_AppendVarint b (((n_.parts).length : Nat) : Int)) : List UInt8) = spec_AppendName_L1 ((n_.parts).drop i) out) := hpre
    clear hpre
    obtain ⟨v1, v2, v3, v4⟩ := hpre_
    have v2L := v2.1
    refine WX.run ttOk rfl ?_
    refine WX.cases 23 rfl (fun h2 => ?_) (fun h2 => ?_)
    · skip
      have h2d := B.dt h2
      have e1i : i < (n_.parts).length := (by omega)
      obtain ⟨e1, e1h⟩ : ∃ e1, (n_.parts)[i]? = some e1 := ⟨_, List.getElem?_eq_getElem e1i⟩
      have ok1 : GoT.ok n e1 := (okl (ok_Name hokn_)).2 _ (List.mem_of_getElem? e1h)
      refine WX.run ttOk rfl ?_
      refine WX.idx 1 i ttOk rfl rfl rfl rfl rfl rfl rfl rfl rfl rfl e1i ?_
      rintro ad1 rfl
      refine WX.ldE 1 11 e1 ttOk rfl rfl rfl rfl rfl rfl rfl rfl e1h (fun _ => rfl) (fun _ => rfl) ?_
      rintro ⟨⟩
      have r3 : (e1).size ≤ bd n := ok1
      refine WX.toB 11 ttOk rfl rfl rfl rfl rfl rfl rfl rfl rfl rfl rfl (by omega) ?_
      intro p4 c3
      have r4 : ((e1).data.toList).length = (e1).size := rfl
      refine WX.der 12 (MF.rs .der pout cout out) rfl (fun _ hΓ => (hΓ.get 10 rfl : OwSl _ _ _ _).rd) ?_
      refine WX.callF 13 (fun _ _ h => GoT.ow_rd h) (fun _ f hf => GoT.fak f hf) rfl rfl rfl rfl rfl (fun _ => rfl) rfl (fun w G bs hI hΓ => f45 w (n + 1) (by omega) out pout cout (hΓ.get 12 rfl) ((e1).data.toList) (some p4) c3 (hΓ.get 11 rfl) (okl_of v2) (okl_mk (by omega) (fun _ _ => trivial) : GoT.ok (n + 1) ((e1).data.toList : List UInt8))) (fun _ => rfl) (fun _ => rfl) ?_
      rintro ⟨p5, c4⟩ hq3
      have q2 := len_specAB out ((e1).data.toList)
      refine WX.run ttOk rfl ?_
      refine WX.see rfl rfl rfl (fun _ hΓ => looks_arith rfl rfl rfl rfl (by unfold I64; first | omega | (simp only [List.length_take, List.length_drop] at *; omega) | (dsimp only; omega))) ?_
      refine WX.run ttOk rfl ?_
      refine WX.turn [14] 10 rfl (fun _ h => h) rfl ?_
      have r5 : (spec_AppendBytes out ((e1).data.toList)).length ≤ bd (n + 3) := (okl hq3).1
      exact WX.iter (p5, c4, (spec_AppendBytes out ((e1).data.toList)), i + 1) ⟨(by omega), (okl_mk (by omega) (fun _ _ => trivial) : GoT.ok (n + 1) ((spec_AppendBytes out ((e1).data.toList)) : List UInt8)), (by have z_ := hv0.2 _ (List.mem_of_getElem? e1h); have z2_ : ((e1).data.toList).length = (e1).size := rfl; omega), (by rw [v4, drop_get e1h]; simp only [spec_AppendName_L1, cond_true, cond_false])⟩ (by first | (dsimp only; omega) | omega) (.cons rfl (.cons rfl (.cons rfl (.nil)))) (.cons rfl (.nil)) .nil [0, 1, 10] rfl
    · skip
      have h2d := B.df h2
      refine WX.run ttOk rfl ?_
      have hX1 : spec_AppendName_L1 n_.parts ((spec_AppendVarint b (((n_.parts).length : Nat) : Int)) : List UInt8) = ((out) : List UInt8) := by rw [v4, List.drop_eq_nil_of_le (show (n_.parts).length ≤ i by omega)]; simp only [spec_AppendName_L1, cond_true, cond_false]
      have hP2 : spec_AppendName b n_ = out := by simp only [spec_AppendName, h1, hX1, cond_true, cond_false]
      refine WX.ret ttOk rfl ?_
      intro w1 G bs hI hΓ
      rw [hP2]
      exact Post.of [10] (pout, cout) hI hΓ rfl rfl rfl (okl_of v2)
end Go.Proofs.Ytfffongneoegbaa

namespace Go.Stp
set_option linter.unusedVariables false
set_option linter.unusedSimpArgs false
def impl_EncodeVector_L1 : List TableEntry → (List UInt8) → (List UInt8)
  | [], out => ((out) : List UInt8)
  | e1 :: rest_, out =>
    impl_EncodeVector_L1 rest_ (((impl_AppendVarint (impl_AppendName out e1.name) e1.value)) : List UInt8)
def impl_EncodeVector (v : StateVector) : (List UInt8) :=
  bif (!(impl_ValidVector v)) then
    ([] : List UInt8)
  else
    match impl_EncodeVector_L1 v.entries ((impl_AppendVarint ([] : List UInt8) (((v.entries).length : Nat) : Int)) : List UInt8) with
      | out =>
        out
def spec_EncodeVector_L1 : List TableEntry → (List UInt8) → (List UInt8)
  | [], b => ((b) : List UInt8)
  | e1 :: rest_, b =>
    spec_EncodeVector_L1 rest_ (((spec_AppendVarint (spec_AppendName b e1.name) e1.value)) : List UInt8)
def spec_EncodeVector (v : StateVector) : (List UInt8) :=
  bif (!(spec_ValidVector v)) then
    ([])
  else
    match spec_EncodeVector_L1 v.entries ((spec_AppendVarint ([]) (((v.entries).length : Nat) : Int)) : List UInt8) with
      | b =>
        b
end Go.Stp

