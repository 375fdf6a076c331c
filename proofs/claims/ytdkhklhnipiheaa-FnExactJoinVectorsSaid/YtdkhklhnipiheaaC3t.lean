/-
  That functions of the program compute what the Lean functions do. No condition but what each says. Written by a program (gen2.py).
-/
import Derived.Test.YtdkhklhnipiheaaC3e
import Derived.Test.YtdkhklhnipiheaaP3t
namespace Go.Proofs.Ytdkhklhnipiheaa
open Go.Stp
set_option linter.unusedVariables false
set_option linter.unusedSimpArgs false
theorem f67 (w : World) (n : Nat) (hn : n + 0 ≤ 9) (a : (List Str)) (pa : Option Addr) (ca : Nat) (hpa : RdSl (hp w) pa ca a) (hoka : GoT.ok n a) :
    Does Try.prog 67 #[.slice pa ((a).length) ca] w emp (Post w emp (fun x : GoT.X ((List Str)) => (GoT.sh ((laws_toStringS a) : (List Str)) x).headD undef) (fun x => GoT.oa ((laws_toStringS a) : (List Str)) x) (GoT.ok n ((laws_toStringS a) : (List Str)))) := by
  have hbP := bd_pos n
  have hbB := bd_big (n := n) (by omega)
  refine WX.enter (tt := tt) (Γ := [(0, MF.rs .stb pa ca a)]) Try.func67 rfl (by kernel_rfl) rfl (allS_cons rfl hpa allS_nil) ?_
  refine WX.run ttOk rfl ?_
  have r1 : (a).length ≤ bd n := (okl hoka).1
  refine WX.mkS ((a).length) ttOk rfl rfl rfl rfl rfl rfl rfl (by omega) (by omega) rfl ?_
  intro p1
  refine WX.free 1 (MF.ol (zrep ((a).length) [.string (⟨#[]⟩ : Str)]) ((List.replicate ((a).length) (⟨#[]⟩ : Str)) : List Str)) (ol_zrep (α := Str) (z0 := (⟨#[]⟩ : Str)) (x0 := ()) rfl trivial _) ?_
  refine WX.run ttOk rfl ?_
  refine WX.loop (ι := (List Value) × (List Str) × Nat) ⟨fun | (xsout, out, i) => (i ≤ (a).length) ∧ (out.length = (a).length) ∧ (∀ z_ ∈ out, GoT.ok n z_) ∧ (laws_toStringS_L1 a 0 ((List.replicate ((a).length) (⟨#[]⟩ : Str)) : List Str) = laws_toStringS_L1 ((a).drop i) i out), fun | (xsout, out, i) => (a).length - i, fun | (xsout, out, i) => [(3, .v (.slice p1 ((a).length) ((a).length))), (4, .v (.int .i64 (((i : Nat) : Int)))), (0, .v (.slice pa ((a).length) ca))], fun | (xsout, out, i) => [], fun | (xsout, out, i) => [(7, ⟨1, p1, (a).length, ((a).length), xsout⟩)], fun | (xsout, out, i) => [(0, MF.rs .stb pa ca a), (1, MF.ol xsout (out : List Str))]⟩ ((zrep ((a).length) [.string (⟨#[]⟩ : Str)]), ((List.replicate ((a).length) (⟨#[]⟩ : Str)) : List Str), 0) ⟨(Nat.zero_le _), (by simp), (all_rep (Nat.le_trans (by decide) (bd_pos _))), rfl⟩
    (.cons rfl (.cons rfl (.cons rfl (.nil)))) .nil (.cons rfl (.nil)) [0, 1] rfl ?_
  rintro ⟨xsout, out, i⟩ hpre
  have hpre_ : (i ≤ (a).length) ∧ (out.length = (a).length) ∧ (∀ z_ ∈ out, GoT.ok n z_) ∧ (laws_toStringS_L1 a 0 ((List.replicate ((a).length) (⟨#[]⟩ : Str)) : List Str) = laws_toStringS_L1 ((a).drop i) i out) := hpre
  clear hpre
  obtain ⟨v1, v2, v3, v4⟩ := hpre_
  refine WX.run ttOk rfl ?_
  refine WX.cases 11 rfl (fun h1 => ?_) (fun h1 => ?_)
  · skip
    have h1d := B.dt h1
    have e1i : i < (a).length := (by omega)
    obtain ⟨e1, e1h⟩ : ∃ e1, (a)[i]? = some e1 := ⟨_, List.getElem?_eq_getElem e1i⟩
    have ok1 : GoT.ok n e1 := (okl hoka).2 _ (List.mem_of_getElem? e1h)
    refine WX.run ttOk rfl ?_
    refine WX.idx 0 i ttOk rfl rfl rfl rfl rfl rfl rfl rfl rfl rfl e1i ?_
    rintro ad1 rfl
    refine WX.ldE 0 2 e1 ttOk rfl rfl rfl rfl rfl rfl rfl rfl e1h (fun _ => rfl) (fun _ => rfl) ?_
    rintro ⟨⟩
    have hr1 : i < (a).length := (by first | assumption | omega)
    refine WX.idxR 7 i ttOk rfl rfl rfl rfl rfl rfl rfl rfl rfl hr1 ?_
    rintro ad2 rfl
    have e2i : i < (out).length := (by first | assumption | omega)
    obtain ⟨e2, e2h⟩ : ∃ e2, (out)[i]? = some e2 := ⟨_, List.getElem?_eq_getElem e2i⟩
    have ok2 : GoT.ok n e2 := v3 _ (List.mem_of_getElem? e2h)
    refine WX.opnE (α := Str) (e := e2) 7 1 2 i rfl rfl rfl e2h (fun _ => rfl) (fun _ _ _ => rfl) (fun _ _ _ => rfl) ?_
    rintro A1 B1 ⟨⟩ hA1 hB1
    refine WX.stA 7 ttOk rfl rfl rfl rfl rfl rfl rfl rfl rfl rfl rfl rfl rfl rfl hA1 hr1 rfl rfl rfl rfl (by simp) rfl ?_
    refine WX.run ttOk rfl ?_
    refine WX.see rfl rfl rfl (fun _ hΓ => looks_arith rfl rfl rfl rfl (by unfold I64; omega)) ?_
    refine WX.run ttOk rfl ?_
    refine WX.turn [2, 3] 4 rfl (fun h hs => cl_elem (α := Str) (e := e1) (x := ()) e2i hs) (gs := [MF.ol (A1 ++ [.string e1] ++ B1) (out.set i e1)]) rfl ?_
    refine WX.turn [4] 1 rfl (fun _ h => h) rfl ?_
    exact WX.iter ((A1 ++ [.string e1] ++ B1), ((out.set i e1) : List Str), i + 1) ⟨(by omega), (by first | assumption | omega | (simp only [List.length_append, List.length_cons, List.length_nil, List.length_set, List.length_map, List.length_take, List.length_drop]; omega) | (simp; omega)), (all_set v3 ok1), (by rw [v4, drop_get e1h]; simp only [laws_toStringS_L1, e2h, cond_true, cond_false])⟩ (by dsimp only; omega) (.cons rfl (.cons rfl (.cons rfl (.nil)))) .nil (.cons rfl (.nil)) [0, 1] rfl
  · skip
    have h1d := B.df h1
    refine WX.run ttOk rfl ?_
    have hX1 : laws_toStringS_L1 a 0 ((List.replicate ((a).length) (⟨#[]⟩ : Str)) : List Str) = ((out) : List Str) := by rw [v4, List.drop_eq_nil_of_le (show (a).length ≤ i by omega)]; simp only [laws_toStringS_L1, cond_true, cond_false]
    refine WX.seal 7 1 5 rfl rfl (show (a).length = (out).length from by omega) rfl rfl ?_
    refine WX.slot 2 (y := .v (.slice p1 (out).length ((a).length))) rfl (fun _ => by rw [(show (a).length = (out).length from by omega)]) ?_
    refine WX.slot 21 (y := .v (.slice p1 (out).length ((a).length))) rfl (fun _ => by rw [(show (a).length = (out).length from by omega)]) ?_
    refine WX.slot 3 (y := .v (.slice p1 (out).length ((a).length))) rfl (fun _ => by rw [(show (a).length = (out).length from by omega)]) ?_
    have hP1 : laws_toStringS a = out := by simp only [laws_toStringS, hX1, cond_true, cond_false]
    refine WX.ret ttOk rfl ?_
    intro w1 G bs hI hΓ
    rw [hP1]
    exact Post.of [6] (p1, ((a).length)) hI hΓ rfl rfl rfl (okl_mk (by omega) v3 : GoT.ok n (out : List Str))
theorem f31 (w : World) (n : Nat) (hn : n + 0 ≤ 9) (a : Name) (pa : Option Addr) (ca : Nat) (hpa : RdSl (hp w) pa ca a.parts) (hoka : GoT.ok n a) :
    Does Try.prog 31 #[.agg #[.slice pa ((a.parts).length) ca]] w emp (Post w emp (fun x : GoT.X (Name) => .agg ⟨GoT.sh ((laws_toName a) : Name) x⟩) (fun x => GoT.oa ((laws_toName a) : Name) x) (GoT.ok n ((laws_toName a) : Name))) := by
  have hbP := bd_pos n
  have hbB := bd_big (n := n) (by omega)
  refine WX.enter (tt := tt) (Γ := [(0, MF.rs .stb pa ca a.parts)]) Try.func31 rfl (by kernel_rfl) rfl (allS_cons rfl hpa allS_nil) ?_
  refine WX.run ttOk rfl ?_
  refine WX.callF 1 (fun _ _ h => GoT.ow_rd h) (fun _ f hf => GoT.fak f hf) rfl rfl rfl rfl rfl (fun _ => rfl) rfl (fun w G bs hI hΓ => f67 w n (by omega) a.parts pa ca (hΓ.get 0 rfl) (ok_Name hoka)) (fun _ => rfl) (fun _ => rfl) ?_
  rintro ⟨p1, c1⟩ hq1
  refine WX.run ttOk rfl ?_
  have hP1 : laws_toName a = (Name.mk (laws_toStringS a.parts)) := by simp only [laws_toName, cond_true, cond_false]
  refine WX.ret ttOk rfl ?_
  intro w1 G bs hI hΓ
  rw [hP1]
  exact Post.of [2] (p1, c1) hI hΓ rfl rfl rfl hq1
theorem f82 (w : World) (n : Nat) (hn : n + 0 ≤ 9) (a : TableEntry) (paName : Option Addr) (caName : Nat) (hpaName : RdSl (hp w) paName caName a.name.parts) (hoka : GoT.ok n a) :
    Does Try.prog 82 #[.agg #[.slice paName ((a.name.parts).length) caName, .int .i64 (a.value)]] w emp (Post w emp (fun x : GoT.X (TableEntry) => .agg ⟨GoT.sh ((laws_toTableEntry a) : TableEntry) x⟩) (fun x => GoT.oa ((laws_toTableEntry a) : TableEntry) x) (GoT.ok n ((laws_toTableEntry a) : TableEntry))) := by
  have hbP := bd_pos n
  have hbB := bd_big (n := n) (by omega)
  refine WX.enter (tt := tt) (Γ := [(0, MF.rs .stb paName caName a.name.parts)]) Try.func82 rfl (by kernel_rfl) rfl (allS_cons rfl hpaName allS_nil) ?_
  refine WX.run ttOk rfl ?_
  refine WX.callF 1 (fun _ _ h => GoT.ow_rd h) (fun _ f hf => GoT.fak f hf) rfl rfl rfl rfl rfl (fun _ => rfl) rfl (fun w G bs hI hΓ => f31 w n (by omega) a.name paName caName (hΓ.get 0 rfl) ((ok_TableEntry hoka).1)) (fun _ => rfl) (fun _ => rfl) ?_
  rintro ⟨p1, c1⟩ hq1
  refine WX.run ttOk rfl ?_
  have hP1 : laws_toTableEntry a = (TableEntry.mk (laws_toName a.name) a.value) := by simp only [laws_toTableEntry, cond_true, cond_false]
  refine WX.ret ttOk rfl ?_
  intro w1 G bs hI hΓ
  rw [hP1]
  exact Post.of [2] ((p1, c1), ()) hI hΓ rfl rfl rfl (And.intro hq1 (ok_TableEntry hoka).2)
theorem f44 (w : World) (n : Nat) (hn : n + 0 ≤ 9) (a : (List TableEntry)) (pa : Option Addr) (ca : Nat) (hpa : RdSl (hp w) pa ca a) (hoka : GoT.ok n a) :
    Does Try.prog 44 #[.slice pa ((a).length) ca] w emp (Post w emp (fun x : GoT.X ((List TableEntry)) => (GoT.sh ((laws_toTableEntryS a) : (List TableEntry)) x).headD undef) (fun x => GoT.oa ((laws_toTableEntryS a) : (List TableEntry)) x) (GoT.ok n ((laws_toTableEntryS a) : (List TableEntry)))) := by
  have hbP := bd_pos n
  have hbB := bd_big (n := n) (by omega)
  refine WX.enter (tt := tt) (Γ := [(0, MF.rs .stb pa ca a)]) Try.func44 rfl (by kernel_rfl) rfl (allS_cons rfl hpa allS_nil) ?_
  refine WX.run ttOk rfl ?_
  have r1 : (a).length ≤ bd n := (okl hoka).1
  refine WX.mkS ((a).length) ttOk rfl rfl rfl rfl rfl rfl rfl (by omega) (by omega) rfl ?_
  intro p1
  refine WX.free 1 (MF.ol (zrep ((a).length) [.slice none (0) 0, .int .i64 (0)]) ((List.replicate ((a).length) (TableEntry.mk (Name.mk ([])) 0)) : List TableEntry)) (ol_zrep (α := TableEntry) (z0 := (TableEntry.mk (Name.mk ([])) 0)) (x0 := ((none, 0), ())) rfl (sep_emp_cons (owSl_nil _ _) trivial) _) ?_
  refine WX.run ttOk rfl ?_
  refine WX.loop (ι := (List Value) × (List TableEntry) × Nat) ⟨fun | (xsout, out, i) => (i ≤ (a).length) ∧ (out.length = (a).length) ∧ (∀ z_ ∈ out, GoT.ok n z_) ∧ (laws_toTableEntryS_L1 a 0 ((List.replicate ((a).length) (TableEntry.mk (Name.mk ([])) 0)) : List TableEntry) = laws_toTableEntryS_L1 ((a).drop i) i out), fun | (xsout, out, i) => (a).length - i, fun | (xsout, out, i) => [(3, .v (.slice p1 ((a).length) ((a).length))), (4, .v (.int .i64 (((i : Nat) : Int)))), (0, .v (.slice pa ((a).length) ca))], fun | (xsout, out, i) => [], fun | (xsout, out, i) => [(7, ⟨2, p1, (a).length, ((a).length), xsout⟩)], fun | (xsout, out, i) => [(0, MF.rs .stb pa ca a), (1, MF.ol xsout (out : List TableEntry))]⟩ ((zrep ((a).length) [.slice none (0) 0, .int .i64 (0)]), ((List.replicate ((a).length) (TableEntry.mk (Name.mk ([])) 0)) : List TableEntry), 0) ⟨(Nat.zero_le _), (by simp), (all_rep (And.intro (ok_nil (α := Str)) (show I64 0 from (by unfold I64; omega)))), rfl⟩
    (.cons rfl (.cons rfl (.cons rfl (.nil)))) .nil (.cons rfl (.nil)) [0, 1] rfl ?_
  rintro ⟨xsout, out, i⟩ hpre
  have hpre_ : (i ≤ (a).length) ∧ (out.length = (a).length) ∧ (∀ z_ ∈ out, GoT.ok n z_) ∧ (laws_toTableEntryS_L1 a 0 ((List.replicate ((a).length) (TableEntry.mk (Name.mk ([])) 0)) : List TableEntry) = laws_toTableEntryS_L1 ((a).drop i) i out) := hpre
  clear hpre
  obtain ⟨v1, v2, v3, v4⟩ := hpre_
  refine WX.run ttOk rfl ?_
  refine WX.cases 11 rfl (fun h1 => ?_) (fun h1 => ?_)
  · skip
    have h1d := B.dt h1
    have e1i : i < (a).length := (by omega)
    obtain ⟨e1, e1h⟩ : ∃ e1, (a)[i]? = some e1 := ⟨_, List.getElem?_eq_getElem e1i⟩
    have ok1 : GoT.ok n e1 := (okl hoka).2 _ (List.mem_of_getElem? e1h)
    refine WX.run ttOk rfl ?_
    refine WX.idx 0 i ttOk rfl rfl rfl rfl rfl rfl rfl rfl rfl rfl e1i ?_
    rintro ad1 rfl
    refine WX.ldE 0 2 e1 ttOk rfl rfl rfl rfl rfl rfl rfl rfl e1h (fun _ => rfl) (fun _ => rfl) ?_
    rintro ⟨⟨p2, c1⟩, ⟨⟩⟩
    refine WX.callF 3 (fun _ _ h => GoT.ow_rd h) (fun _ f hf => GoT.fak f hf) rfl rfl rfl rfl rfl (fun _ => rfl) rfl (fun w G bs hI hΓ => f82 w n (by omega) e1 p2 c1 (hΓ.get 2 rfl) ok1) (fun _ => rfl) (fun _ => rfl) ?_
    rintro ⟨⟨p3, c2⟩, ⟨⟩⟩ hq1
    have hr1 : i < (a).length := (by first | assumption | omega)
    refine WX.idxR 7 i ttOk rfl rfl rfl rfl rfl rfl rfl rfl rfl hr1 ?_
    rintro ad2 rfl
    have e2i : i < (out).length := (by first | assumption | omega)
    obtain ⟨e2, e2h⟩ : ∃ e2, (out)[i]? = some e2 := ⟨_, List.getElem?_eq_getElem e2i⟩
    have ok2 : GoT.ok n e2 := v3 _ (List.mem_of_getElem? e2h)
    refine WX.opnE (α := TableEntry) (e := e2) 7 1 5 i rfl rfl rfl e2h (fun _ => rfl) (fun _ _ _ => rfl) (fun _ _ _ => rfl) ?_
    rintro A1 B1 ⟨⟨p4, c3⟩, ⟨⟩⟩ hA1 hB1
    refine WX.stA 7 ttOk rfl rfl rfl rfl rfl rfl rfl rfl rfl rfl rfl rfl rfl rfl hA1 hr1 rfl rfl rfl rfl (by simp) rfl ?_
    refine WX.run ttOk rfl ?_
    refine WX.see rfl rfl rfl (fun _ hΓ => looks_arith rfl rfl rfl rfl (by unfold I64; omega)) ?_
    refine WX.run ttOk rfl ?_
    refine WX.turn [4, 7, 8] 9 rfl (fun h hs => cl_elem (α := TableEntry) (e := (laws_toTableEntry e1)) (x := ((p3, c2), ())) e2i hs) (gs := [MF.ol (A1 ++ [.slice p3 (((laws_toTableEntry e1).name.parts).length) c2, .int .i64 ((laws_toTableEntry e1).value)] ++ B1) (out.set i (laws_toTableEntry e1))]) rfl ?_
    refine WX.turn [9] 1 rfl (fun _ h => h) rfl ?_
    exact WX.iter ((A1 ++ [.slice p3 (((laws_toTableEntry e1).name.parts).length) c2, .int .i64 ((laws_toTableEntry e1).value)] ++ B1), ((out.set i (laws_toTableEntry e1)) : List TableEntry), i + 1) ⟨(by omega), (by first | assumption | omega | (simp only [List.length_append, List.length_cons, List.length_nil, List.length_set, List.length_map, List.length_take, List.length_drop]; omega) | (simp; omega)), (all_set v3 hq1), (by rw [v4, drop_get e1h]; simp only [laws_toTableEntryS_L1, e2h, cond_true, cond_false])⟩ (by dsimp only; omega) (.cons rfl (.cons rfl (.cons rfl (.nil)))) .nil (.cons rfl (.nil)) [0, 1] rfl
  · skip
    have h1d := B.df h1
    refine WX.run ttOk rfl ?_
    have hX1 : laws_toTableEntryS_L1 a 0 ((List.replicate ((a).length) (TableEntry.mk (Name.mk ([])) 0)) : List TableEntry) = ((out) : List TableEntry) := by rw [v4, List.drop_eq_nil_of_le (show (a).length ≤ i by omega)]; simp only [laws_toTableEntryS_L1, cond_true, cond_false]
    refine WX.seal 7 1 10 rfl rfl (show (a).length = (out).length from by omega) rfl rfl ?_
    refine WX.slot 2 (y := .v (.slice p1 (out).length ((a).length))) rfl (fun _ => by rw [(show (a).length = (out).length from by omega)]) ?_
    refine WX.slot 22 (y := .v (.slice p1 (out).length ((a).length))) rfl (fun _ => by rw [(show (a).length = (out).length from by omega)]) ?_
    refine WX.slot 3 (y := .v (.slice p1 (out).length ((a).length))) rfl (fun _ => by rw [(show (a).length = (out).length from by omega)]) ?_
    have hP1 : laws_toTableEntryS a = out := by simp only [laws_toTableEntryS, hX1, cond_true, cond_false]
    refine WX.ret ttOk rfl ?_
    intro w1 G bs hI hΓ
    rw [hP1]
    exact Post.of [11] (p1, ((a).length)) hI hΓ rfl rfl rfl (okl_mk (by omega) v3 : GoT.ok n (out : List TableEntry))
theorem f14 (w : World) (n : Nat) (hn : n + 0 ≤ 9) (a : StateVector) (pa : Option Addr) (ca : Nat) (hpa : RdSl (hp w) pa ca a.entries) (hoka : GoT.ok n a) :
    Does Try.prog 14 #[.agg #[.slice pa ((a.entries).length) ca]] w emp (Post w emp (fun x : GoT.X (StateVector) => .agg ⟨GoT.sh ((laws_toStateVector a) : StateVector) x⟩) (fun x => GoT.oa ((laws_toStateVector a) : StateVector) x) (GoT.ok n ((laws_toStateVector a) : StateVector))) := by
  have hbP := bd_pos n
  have hbB := bd_big (n := n) (by omega)
  refine WX.enter (tt := tt) (Γ := [(0, MF.rs .stb pa ca a.entries)]) Try.func14 rfl (by kernel_rfl) rfl (allS_cons rfl hpa allS_nil) ?_
  refine WX.run ttOk rfl ?_
  refine WX.callF 1 (fun _ _ h => GoT.ow_rd h) (fun _ f hf => GoT.fak f hf) rfl rfl rfl rfl rfl (fun _ => rfl) rfl (fun w G bs hI hΓ => f44 w n (by omega) a.entries pa ca (hΓ.get 0 rfl) (ok_StateVector hoka)) (fun _ => rfl) (fun _ => rfl) ?_
  rintro ⟨p1, c1⟩ hq1
  refine WX.run ttOk rfl ?_
  have hP1 : laws_toStateVector a = (StateVector.mk (laws_toTableEntryS a.entries)) := by simp only [laws_toStateVector, cond_true, cond_false]
  refine WX.ret ttOk rfl ?_
  intro w1 G bs hI hΓ
  rw [hP1]
  exact Post.of [2] (p1, c1) hI hΓ rfl rfl rfl hq1
theorem f22 (w : World) (n : Nat) (hn : n + 0 ≤ 9) (a : (List UInt8)) (pa : Option Addr) (ca : Nat) (hpa : RdSl (hp w) pa ca a) (hoka : GoT.ok n a) :
    Does Try.prog 22 #[.slice pa ((a).length) ca] w emp (Post w emp (fun x : GoT.X ((List UInt8)) => (GoT.sh ((laws_toByteS a) : (List UInt8)) x).headD undef) (fun x => GoT.oa ((laws_toByteS a) : (List UInt8)) x) (GoT.ok n ((laws_toByteS a) : (List UInt8)))) := by
  have hbP := bd_pos n
  have hbB := bd_big (n := n) (by omega)
  refine WX.enter (tt := tt) (Γ := [(0, MF.rs .stb pa ca a)]) Try.func22 rfl (by kernel_rfl) rfl (allS_cons rfl hpa allS_nil) ?_
  refine WX.run ttOk rfl ?_
  have r1 : (a).length ≤ bd n := (okl hoka).1
  refine WX.mkS ((a).length) ttOk rfl rfl rfl rfl rfl rfl rfl (by omega) (by omega) rfl ?_
  intro p1
  refine WX.free 1 (MF.ol (zrep ((a).length) [.int .u8 (((0 : UInt8)).toNat : Nat)]) ((List.replicate ((a).length) (0 : UInt8)) : List UInt8)) (ol_zrep (α := UInt8) (z0 := (0 : UInt8)) (x0 := ()) rfl trivial _) ?_
  refine WX.run ttOk rfl ?_
  refine WX.loop (ι := (List Value) × (List UInt8) × Nat) ⟨fun | (xsout, out, i) => (i ≤ (a).length) ∧ (out.length = (a).length) ∧ (∀ z_ ∈ out, GoT.ok n z_) ∧ (laws_toByteS_L1 a 0 ((List.replicate ((a).length) (0 : UInt8)) : List UInt8) = laws_toByteS_L1 ((a).drop i) i out), fun | (xsout, out, i) => (a).length - i, fun | (xsout, out, i) => [(3, .v (.slice p1 ((a).length) ((a).length))), (4, .v (.int .i64 (((i : Nat) : Int)))), (0, .v (.slice pa ((a).length) ca))], fun | (xsout, out, i) => [], fun | (xsout, out, i) => [(7, ⟨1, p1, (a).length, ((a).length), xsout⟩)], fun | (xsout, out, i) => [(0, MF.rs .stb pa ca a), (1, MF.ol xsout (out : List UInt8))]⟩ ((zrep ((a).length) [.int .u8 (((0 : UInt8)).toNat : Nat)]), ((List.replicate ((a).length) (0 : UInt8)) : List UInt8), 0) ⟨(Nat.zero_le _), (by simp), (all_rep trivial), rfl⟩
    (.cons rfl (.cons rfl (.cons rfl (.nil)))) .nil (.cons rfl (.nil)) [0, 1] rfl ?_
  rintro ⟨xsout, out, i⟩ hpre
  have hpre_ : (i ≤ (a).length) ∧ (out.length = (a).length) ∧ (∀ z_ ∈ out, GoT.ok n z_) ∧ (laws_toByteS_L1 a 0 ((List.replicate ((a).length) (0 : UInt8)) : List UInt8) = laws_toByteS_L1 ((a).drop i) i out) := hpre
  clear hpre
  obtain ⟨v1, v2, v3, v4⟩ := hpre_
  refine WX.run ttOk rfl ?_
  refine WX.cases 11 rfl (fun h1 => ?_) (fun h1 => ?_)
  · skip
    have h1d := B.dt h1
    have e1i : i < (a).length := (by omega)
    obtain ⟨e1, e1h⟩ : ∃ e1, (a)[i]? = some e1 := ⟨_, List.getElem?_eq_getElem e1i⟩
    refine WX.run ttOk rfl ?_
    refine WX.idx 0 i ttOk rfl rfl rfl rfl rfl rfl rfl rfl rfl rfl e1i ?_
    rintro ad1 rfl
    refine WX.ldE 0 2 e1 ttOk rfl rfl rfl rfl rfl rfl rfl rfl e1h (fun _ => rfl) (fun _ => rfl) ?_
    rintro ⟨⟩
    have hr1 : i < (a).length := (by first | assumption | omega)
    refine WX.idxR 7 i ttOk rfl rfl rfl rfl rfl rfl rfl rfl rfl hr1 ?_
    rintro ad2 rfl
    have e2i : i < (out).length := (by first | assumption | omega)
    obtain ⟨e2, e2h⟩ : ∃ e2, (out)[i]? = some e2 := ⟨_, List.getElem?_eq_getElem e2i⟩
    refine WX.opnE (α := UInt8) (e := e2) 7 1 2 i rfl rfl rfl e2h (fun _ => rfl) (fun _ _ _ => rfl) (fun _ _ _ => rfl) ?_
    rintro A1 B1 ⟨⟩ hA1 hB1
    refine WX.stA 7 ttOk rfl rfl rfl rfl rfl rfl rfl rfl rfl rfl rfl rfl rfl rfl hA1 hr1 rfl rfl rfl rfl (by simp) rfl ?_
    refine WX.run ttOk rfl ?_
    refine WX.see rfl rfl rfl (fun _ hΓ => looks_arith rfl rfl rfl rfl (by unfold I64; omega)) ?_
    refine WX.run ttOk rfl ?_
    refine WX.turn [2, 3] 4 rfl (fun h hs => cl_elem (α := UInt8) (e := e1) (x := ()) e2i hs) (gs := [MF.ol (A1 ++ [.int .u8 ((e1).toNat : Nat)] ++ B1) (out.set i e1)]) rfl ?_
    refine WX.turn [4] 1 rfl (fun _ h => h) rfl ?_
    exact WX.iter ((A1 ++ [.int .u8 ((e1).toNat : Nat)] ++ B1), ((out.set i e1) : List UInt8), i + 1) ⟨(by omega), (by first | assumption | omega | (simp only [List.length_append, List.length_cons, List.length_nil, List.length_set, List.length_map, List.length_take, List.length_drop]; omega) | (simp; omega)), (all_set v3 trivial), (by rw [v4, drop_get e1h]; simp only [laws_toByteS_L1, e2h, cond_true, cond_false])⟩ (by dsimp only; omega) (.cons rfl (.cons rfl (.cons rfl (.nil)))) .nil (.cons rfl (.nil)) [0, 1] rfl
  · skip
    have h1d := B.df h1
    refine WX.run ttOk rfl ?_
    have hX1 : laws_toByteS_L1 a 0 ((List.replicate ((a).length) (0 : UInt8)) : List UInt8) = ((out) : List UInt8) := by rw [v4, List.drop_eq_nil_of_le (show (a).length ≤ i by omega)]; simp only [laws_toByteS_L1, cond_true, cond_false]
    refine WX.seal 7 1 5 rfl rfl (show (a).length = (out).length from by omega) rfl rfl ?_
    refine WX.slot 2 (y := .v (.slice p1 (out).length ((a).length))) rfl (fun _ => by rw [(show (a).length = (out).length from by omega)]) ?_
    refine WX.slot 21 (y := .v (.slice p1 (out).length ((a).length))) rfl (fun _ => by rw [(show (a).length = (out).length from by omega)]) ?_
    refine WX.slot 3 (y := .v (.slice p1 (out).length ((a).length))) rfl (fun _ => by rw [(show (a).length = (out).length from by omega)]) ?_
    have hP1 : laws_toByteS a = out := by simp only [laws_toByteS, hX1, cond_true, cond_false]
    refine WX.ret ttOk rfl ?_
    intro w1 G bs hI hΓ
    rw [hP1]
    exact Post.of [6] (p1, ((a).length)) hI hΓ rfl rfl rfl (okl_mk (by omega) v3 : GoT.ok n (out : List UInt8))
theorem f153 (w : World) (n : Nat) (hn : n + 0 ≤ 9) (a : DataP) (paName : Option Addr) (caName : Nat) (hpaName : RdSl (hp w) paName caName a.name.parts) (paContent : Option Addr) (caContent : Nat) (hpaContent : RdSl (hp w) paContent caContent a.content) (paKeyName : Option Addr) (caKeyName : Nat) (hpaKeyName : RdSl (hp w) paKeyName caKeyName a.keyName.parts) (hoka : GoT.ok n a) :
    Does Try.prog 153 #[.agg #[.slice paName ((a.name.parts).length) caName, .slice paContent ((a.content).length) caContent, .slice paKeyName ((a.keyName.parts).length) caKeyName, .int .i64 (a.freshUntil), .int .i64 (a.signature)]] w emp (Post w emp (fun x : GoT.X (DataP) => .agg ⟨GoT.sh ((laws_toData a) : DataP) x⟩) (fun x => GoT.oa ((laws_toData a) : DataP) x) (GoT.ok n ((laws_toData a) : DataP))) := by
  have hbP := bd_pos n
  have hbB := bd_big (n := n) (by omega)
  refine WX.enter (tt := tt) (Γ := [(0, MF.rs .stb paName caName a.name.parts), (1, MF.rs .stb paContent caContent a.content), (2, MF.rs .stb paKeyName caKeyName a.keyName.parts)]) Try.func153 rfl (by kernel_rfl) rfl (allS_cons rfl hpaName (allS_cons rfl hpaContent (allS_cons rfl hpaKeyName allS_nil))) ?_
  refine WX.run ttOk rfl ?_
  refine WX.callF 3 (fun _ _ h => GoT.ow_rd h) (fun _ f hf => GoT.fak f hf) rfl rfl rfl rfl rfl (fun _ => rfl) rfl (fun w G bs hI hΓ => f31 w n (by omega) a.name paName caName (hΓ.get 0 rfl) ((ok_DataP hoka).1)) (fun _ => rfl) (fun _ => rfl) ?_
  rintro ⟨p1, c1⟩ hq1
  refine WX.run ttOk rfl ?_
  refine WX.callF 5 (fun _ _ h => GoT.ow_rd h) (fun _ f hf => GoT.fak f hf) rfl rfl rfl rfl rfl (fun _ => rfl) rfl (fun w G bs hI hΓ => f22 w n (by omega) a.content paContent caContent (hΓ.get 1 rfl) ((ok_DataP hoka).2.1)) (fun _ => rfl) (fun _ => rfl) ?_
  rintro ⟨p2, c2⟩ hq2
  refine WX.run ttOk rfl ?_
  refine WX.callF 7 (fun _ _ h => GoT.ow_rd h) (fun _ f hf => GoT.fak f hf) rfl rfl rfl rfl rfl (fun _ => rfl) rfl (fun w G bs hI hΓ => f31 w n (by omega) a.keyName paKeyName caKeyName (hΓ.get 2 rfl) ((ok_DataP hoka).2.2.1)) (fun _ => rfl) (fun _ => rfl) ?_
  rintro ⟨p3, c3⟩ hq3
  refine WX.run ttOk rfl ?_
  have hP1 : laws_toData a = (DataP.mk (laws_toName a.name) (laws_toByteS a.content) (laws_toName a.keyName) a.freshUntil a.signature) := by simp only [laws_toData, cond_true, cond_false]
  refine WX.ret ttOk rfl ?_
  intro w1 G bs hI hΓ
  rw [hP1]
  exact Post.of [4, 6, 8] ((p1, c1), (p2, c2), (p3, c3), (), ()) hI hΓ rfl rfl rfl (And.intro hq1 (And.intro hq2 (And.intro hq3 (And.intro (ok_DataP hoka).2.2.2.1 (ok_DataP hoka).2.2.2.2))))
theorem f140 (w : World) (n : Nat) (hn : n + 0 ≤ 9) (a : Record) (paDataName : Option Addr) (caDataName : Nat) (hpaDataName : RdSl (hp w) paDataName caDataName a.data.name.parts) (paDataContent : Option Addr) (caDataContent : Nat) (hpaDataContent : RdSl (hp w) paDataContent caDataContent a.data.content) (paDataKeyName : Option Addr) (caDataKeyName : Nat) (hpaDataKeyName : RdSl (hp w) paDataKeyName caDataKeyName a.data.keyName.parts) (hoka : GoT.ok n a) :
    Does Try.prog 140 #[.agg #[.int .i64 (a.kind), .slice paDataName ((a.data.name.parts).length) caDataName, .slice paDataContent ((a.data.content).length) caDataContent, .slice paDataKeyName ((a.data.keyName.parts).length) caDataKeyName, .int .i64 (a.data.freshUntil), .int .i64 (a.data.signature)]] w emp (Post w emp (fun x : GoT.X (Record) => .agg ⟨GoT.sh ((laws_toRecord a) : Record) x⟩) (fun x => GoT.oa ((laws_toRecord a) : Record) x) (GoT.ok n ((laws_toRecord a) : Record))) := by
  have hbP := bd_pos n
  have hbB := bd_big (n := n) (by omega)
  refine WX.enter (tt := tt) (Γ := [(0, MF.rs .stb paDataName caDataName a.data.name.parts), (1, MF.rs .stb paDataContent caDataContent a.data.content), (2, MF.rs .stb paDataKeyName caDataKeyName a.data.keyName.parts)]) Try.func140 rfl (by kernel_rfl) rfl (allS_cons rfl hpaDataName (allS_cons rfl hpaDataContent (allS_cons rfl hpaDataKeyName allS_nil))) ?_
  refine WX.run ttOk rfl ?_
  refine WX.callF 3 (fun _ _ h => GoT.ow_rd h) (fun _ f hf => GoT.fak f hf) rfl rfl rfl rfl rfl (fun _ => rfl) rfl (fun w G bs hI hΓ => f153 w n (by omega) a.data paDataName caDataName (hΓ.get 0 rfl) paDataContent caDataContent (hΓ.get 1 rfl) paDataKeyName caDataKeyName (hΓ.get 2 rfl) ((ok_Record hoka).2)) (fun _ => rfl) (fun _ => rfl) ?_
  rintro ⟨⟨p1, c1⟩, ⟨p2, c2⟩, ⟨p3, c3⟩, ⟨⟩, ⟨⟩⟩ hq1
  refine WX.run ttOk rfl ?_
  have hP1 : laws_toRecord a = (Record.mk a.kind (laws_toData a.data)) := by simp only [laws_toRecord, cond_true, cond_false]
  refine WX.ret ttOk rfl ?_
  intro w1 G bs hI hΓ
  rw [hP1]
  exact Post.of [6, 7, 8] ((), ((p1, c1), (p2, c2), (p3, c3), (), ())) hI hΓ rfl rfl rfl (And.intro (ok_Record hoka).1 hq1)
theorem f114 (w : World) (n : Nat) (hn : n + 0 ≤ 9) (a : (List Record)) (pa : Option Addr) (ca : Nat) (hpa : RdSl (hp w) pa ca a) (hoka : GoT.ok n a) :
    Does Try.prog 114 #[.slice pa ((a).length) ca] w emp (Post w emp (fun x : GoT.X ((List Record)) => (GoT.sh ((laws_toRecordS a) : (List Record)) x).headD undef) (fun x => GoT.oa ((laws_toRecordS a) : (List Record)) x) (GoT.ok n ((laws_toRecordS a) : (List Record)))) := by
  have hbP := bd_pos n
  have hbB := bd_big (n := n) (by omega)
  refine WX.enter (tt := tt) (Γ := [(0, MF.rs .stb pa ca a)]) Try.func114 rfl (by kernel_rfl) rfl (allS_cons rfl hpa allS_nil) ?_
  refine WX.run ttOk rfl ?_
  have r1 : (a).length ≤ bd n := (okl hoka).1
  refine WX.mkS ((a).length) ttOk rfl rfl rfl rfl rfl rfl rfl (by omega) (by omega) rfl ?_
  intro p1
  refine WX.free 1 (MF.ol (zrep ((a).length) [.int .i64 (0), .slice none (0) 0, .slice none (0) 0, .slice none (0) 0, .int .i64 (0), .int .i64 (0)]) ((List.replicate ((a).length) (Record.mk 0 (DataP.mk (Name.mk ([])) ([]) (Name.mk ([])) 0 0))) : List Record)) (ol_zrep (α := Record) (z0 := (Record.mk 0 (DataP.mk (Name.mk ([])) ([]) (Name.mk ([])) 0 0))) (x0 := ((), ((none, 0), (none, 0), (none, 0), (), ()))) rfl (sep_emp_cons (owSl_nil _ _) (sep_emp_cons (owSl_nil _ _) (sep_emp_cons (owSl_nil _ _) trivial))) _) ?_
  refine WX.run ttOk rfl ?_
  refine WX.loop (ι := (List Value) × (List Record) × Nat) ⟨fun | (xsout, out, i) => (i ≤ (a).length) ∧ (out.length = (a).length) ∧ (∀ z_ ∈ out, GoT.ok n z_) ∧ (laws_toRecordS_L1 a 0 ((List.replicate ((a).length) (Record.mk 0 (DataP.mk (Name.mk ([])) ([]) (Name.mk ([])) 0 0))) : List Record) = laws_toRecordS_L1 ((a).drop i) i out), fun | (xsout, out, i) => (a).length - i, fun | (xsout, out, i) => [(3, .v (.slice p1 ((a).length) ((a).length))), (4, .v (.int .i64 (((i : Nat) : Int)))), (0, .v (.slice pa ((a).length) ca))], fun | (xsout, out, i) => [], fun | (xsout, out, i) => [(7, ⟨6, p1, (a).length, ((a).length), xsout⟩)], fun | (xsout, out, i) => [(0, MF.rs .stb pa ca a), (1, MF.ol xsout (out : List Record))]⟩ ((zrep ((a).length) [.int .i64 (0), .slice none (0) 0, .slice none (0) 0, .slice none (0) 0, .int .i64 (0), .int .i64 (0)]), ((List.replicate ((a).length) (Record.mk 0 (DataP.mk (Name.mk ([])) ([]) (Name.mk ([])) 0 0))) : List Record), 0) ⟨(Nat.zero_le _), (by simp), (all_rep (And.intro (show I64 0 from (by unfold I64; omega)) (And.intro (ok_nil (α := Str)) (And.intro (ok_nil (α := UInt8)) (And.intro (ok_nil (α := Str)) (And.intro (show I64 0 from (by unfold I64; omega)) (show I64 0 from (by unfold I64; omega)))))))), rfl⟩
    (.cons rfl (.cons rfl (.cons rfl (.nil)))) .nil (.cons rfl (.nil)) [0, 1] rfl ?_
  rintro ⟨xsout, out, i⟩ hpre
  have hpre_ : (i ≤ (a).length) ∧ (out.length = (a).length) ∧ (∀ z_ ∈ out, GoT.ok n z_) ∧ (laws_toRecordS_L1 a 0 ((List.replicate ((a).length) (Record.mk 0 (DataP.mk (Name.mk ([])) ([]) (Name.mk ([])) 0 0))) : List Record) = laws_toRecordS_L1 ((a).drop i) i out) := hpre
  clear hpre
  obtain ⟨v1, v2, v3, v4⟩ := hpre_
  refine WX.run ttOk rfl ?_
  refine WX.cases 11 rfl (fun h1 => ?_) (fun h1 => ?_)
  · skip
    have h1d := B.dt h1
    have e1i : i < (a).length := (by omega)
    obtain ⟨e1, e1h⟩ : ∃ e1, (a)[i]? = some e1 := ⟨_, List.getElem?_eq_getElem e1i⟩
    have ok1 : GoT.ok n e1 := (okl hoka).2 _ (List.mem_of_getElem? e1h)
    refine WX.run ttOk rfl ?_
    refine WX.idx 0 i ttOk rfl rfl rfl rfl rfl rfl rfl rfl rfl rfl e1i ?_
    rintro ad1 rfl
    refine WX.ldE 0 2 e1 ttOk rfl rfl rfl rfl rfl rfl rfl rfl e1h (fun _ => rfl) (fun _ => rfl) ?_
    rintro ⟨⟨⟩, ⟨⟨p2, c1⟩, ⟨p3, c2⟩, ⟨p4, c3⟩, ⟨⟩, ⟨⟩⟩⟩
    refine WX.callF 5 (fun _ _ h => GoT.ow_rd h) (fun _ f hf => GoT.fak f hf) rfl rfl rfl rfl rfl (fun _ => rfl) rfl (fun w G bs hI hΓ => f140 w n (by omega) e1 p2 c1 (hΓ.get 2 rfl) p3 c2 (hΓ.get 3 rfl) p4 c3 (hΓ.get 4 rfl) ok1) (fun _ => rfl) (fun _ => rfl) ?_
    rintro ⟨⟨⟩, ⟨⟨p5, c4⟩, ⟨p6, c5⟩, ⟨p7, c6⟩, ⟨⟩, ⟨⟩⟩⟩ hq1
    have hr1 : i < (a).length := (by first | assumption | omega)
    refine WX.idxR 7 i ttOk rfl rfl rfl rfl rfl rfl rfl rfl rfl hr1 ?_
    rintro ad2 rfl
    have e2i : i < (out).length := (by first | assumption | omega)
    obtain ⟨e2, e2h⟩ : ∃ e2, (out)[i]? = some e2 := ⟨_, List.getElem?_eq_getElem e2i⟩
    have ok2 : GoT.ok n e2 := v3 _ (List.mem_of_getElem? e2h)
    refine WX.opnE (α := Record) (e := e2) 7 1 11 i rfl rfl rfl e2h (fun _ => rfl) (fun _ _ _ => rfl) (fun _ _ _ => rfl) ?_
    rintro A1 B1 ⟨⟨⟩, ⟨⟨p8, c7⟩, ⟨p9, c8⟩, ⟨p10, c9⟩, ⟨⟩, ⟨⟩⟩⟩ hA1 hB1
    refine WX.stA 7 ttOk rfl rfl rfl rfl rfl rfl rfl rfl rfl rfl rfl rfl rfl rfl hA1 hr1 rfl rfl rfl rfl (by simp) rfl ?_
    refine WX.run ttOk rfl ?_
    refine WX.see rfl rfl rfl (fun _ hΓ => looks_arith rfl rfl rfl rfl (by unfold I64; omega)) ?_
    refine WX.run ttOk rfl ?_
    refine WX.turn [8, 9, 10, 17, 18] 19 rfl (fun h hs => cl_elem (α := Record) (e := (laws_toRecord e1)) (x := ((), ((p5, c4), (p6, c5), (p7, c6), (), ()))) e2i hs) (gs := [MF.ol (A1 ++ [.int .i64 ((laws_toRecord e1).kind), .slice p5 (((laws_toRecord e1).data.name.parts).length) c4, .slice p6 (((laws_toRecord e1).data.content).length) c5, .slice p7 (((laws_toRecord e1).data.keyName.parts).length) c6, .int .i64 ((laws_toRecord e1).data.freshUntil), .int .i64 ((laws_toRecord e1).data.signature)] ++ B1) (out.set i (laws_toRecord e1))]) rfl ?_
    refine WX.turn [19] 1 rfl (fun _ h => h) rfl ?_
    exact WX.iter ((A1 ++ [.int .i64 ((laws_toRecord e1).kind), .slice p5 (((laws_toRecord e1).data.name.parts).length) c4, .slice p6 (((laws_toRecord e1).data.content).length) c5, .slice p7 (((laws_toRecord e1).data.keyName.parts).length) c6, .int .i64 ((laws_toRecord e1).data.freshUntil), .int .i64 ((laws_toRecord e1).data.signature)] ++ B1), ((out.set i (laws_toRecord e1)) : List Record), i + 1) ⟨(by omega), (by first | assumption | omega | (simp only [List.length_append, List.length_cons, List.length_nil, List.length_set, List.length_map, List.length_take, List.length_drop]; omega) | (simp; omega)), (all_set v3 hq1), (by rw [v4, drop_get e1h]; simp only [laws_toRecordS_L1, e2h, cond_true, cond_false])⟩ (by dsimp only; omega) (.cons rfl (.cons rfl (.cons rfl (.nil)))) .nil (.cons rfl (.nil)) [0, 1] rfl
  · skip
    have h1d := B.df h1
    refine WX.run ttOk rfl ?_
    have hX1 : laws_toRecordS_L1 a 0 ((List.replicate ((a).length) (Record.mk 0 (DataP.mk (Name.mk ([])) ([]) (Name.mk ([])) 0 0))) : List Record) = ((out) : List Record) := by rw [v4, List.drop_eq_nil_of_le (show (a).length ≤ i by omega)]; simp only [laws_toRecordS_L1, cond_true, cond_false]
    refine WX.seal 7 1 20 rfl rfl (show (a).length = (out).length from by omega) rfl rfl ?_
    refine WX.slot 2 (y := .v (.slice p1 (out).length ((a).length))) rfl (fun _ => by rw [(show (a).length = (out).length from by omega)]) ?_
    refine WX.slot 22 (y := .v (.slice p1 (out).length ((a).length))) rfl (fun _ => by rw [(show (a).length = (out).length from by omega)]) ?_
    refine WX.slot 3 (y := .v (.slice p1 (out).length ((a).length))) rfl (fun _ => by rw [(show (a).length = (out).length from by omega)]) ?_
    have hP1 : laws_toRecordS a = out := by simp only [laws_toRecordS, hX1, cond_true, cond_false]
    refine WX.ret ttOk rfl ?_
    intro w1 G bs hI hΓ
    rw [hP1]
    exact Post.of [21] (p1, ((a).length)) hI hΓ rfl rfl rfl (okl_mk (by omega) v3 : GoT.ok n (out : List Record))
theorem f66 (w : World) (n : Nat) (hn : n + 0 ≤ 9) (a : Log) (paDurable : Option Addr) (caDurable : Nat) (hpaDurable : RdSl (hp w) paDurable caDurable a.durable) (paVolatile : Option Addr) (caVolatile : Nat) (hpaVolatile : RdSl (hp w) paVolatile caVolatile a.volatile) (hoka : GoT.ok n a) :
    Does Try.prog 66 #[.agg #[.slice paDurable ((a.durable).length) caDurable, .slice paVolatile ((a.volatile).length) caVolatile]] w emp (Post w emp (fun x : GoT.X (Log) => .agg ⟨GoT.sh ((laws_toLog a) : Log) x⟩) (fun x => GoT.oa ((laws_toLog a) : Log) x) (GoT.ok n ((laws_toLog a) : Log))) := by
  have hbP := bd_pos n
  have hbB := bd_big (n := n) (by omega)
  refine WX.enter (tt := tt) (Γ := [(0, MF.rs .stb paDurable caDurable a.durable), (1, MF.rs .stb paVolatile caVolatile a.volatile)]) Try.func66 rfl (by kernel_rfl) rfl (allS_cons rfl hpaDurable (allS_cons rfl hpaVolatile allS_nil)) ?_
  refine WX.run ttOk rfl ?_
  refine WX.callF 2 (fun _ _ h => GoT.ow_rd h) (fun _ f hf => GoT.fak f hf) rfl rfl rfl rfl rfl (fun _ => rfl) rfl (fun w G bs hI hΓ => f114 w n (by omega) a.durable paDurable caDurable (hΓ.get 0 rfl) ((ok_Log hoka).1)) (fun _ => rfl) (fun _ => rfl) ?_
  rintro ⟨p1, c1⟩ hq1
  refine WX.run ttOk rfl ?_
  refine WX.callF 4 (fun _ _ h => GoT.ow_rd h) (fun _ f hf => GoT.fak f hf) rfl rfl rfl rfl rfl (fun _ => rfl) rfl (fun w G bs hI hΓ => f114 w n (by omega) a.volatile paVolatile caVolatile (hΓ.get 1 rfl) ((ok_Log hoka).2)) (fun _ => rfl) (fun _ => rfl) ?_
  rintro ⟨p2, c2⟩ hq2
  refine WX.run ttOk rfl ?_
  have hP1 : laws_toLog a = (Log.mk (laws_toRecordS a.durable) (laws_toRecordS a.volatile)) := by simp only [laws_toLog, cond_true, cond_false]
  refine WX.ret ttOk rfl ?_
  intro w1 G bs hI hΓ
  rw [hP1]
  exact Post.of [3, 5] ((p1, c1), (p2, c2)) hI hΓ rfl rfl rfl (And.intro hq1 hq2)
theorem f30 (w : World) (n : Nat) (hn : n + 0 ≤ 9) (a : Repository) (paLogDurable : Option Addr) (caLogDurable : Nat) (hpaLogDurable : RdSl (hp w) paLogDurable caLogDurable a.log.durable) (paLogVolatile : Option Addr) (caLogVolatile : Nat) (hpaLogVolatile : RdSl (hp w) paLogVolatile caLogVolatile a.log.volatile) (hoka : GoT.ok n a) :
    Does Try.prog 30 #[.agg #[.slice paLogDurable ((a.log.durable).length) caLogDurable, .slice paLogVolatile ((a.log.volatile).length) caLogVolatile, .int .i64 (a.quota)]] w emp (Post w emp (fun x : GoT.X (Repository) => .agg ⟨GoT.sh ((laws_toRepository a) : Repository) x⟩) (fun x => GoT.oa ((laws_toRepository a) : Repository) x) (GoT.ok n ((laws_toRepository a) : Repository))) := by
  have hbP := bd_pos n
  have hbB := bd_big (n := n) (by omega)
  refine WX.enter (tt := tt) (Γ := [(0, MF.rs .stb paLogDurable caLogDurable a.log.durable), (1, MF.rs .stb paLogVolatile caLogVolatile a.log.volatile)]) Try.func30 rfl (by kernel_rfl) rfl (allS_cons rfl hpaLogDurable (allS_cons rfl hpaLogVolatile allS_nil)) ?_
  refine WX.run ttOk rfl ?_
  refine WX.callF 2 (fun _ _ h => GoT.ow_rd h) (fun _ f hf => GoT.fak f hf) rfl rfl rfl rfl rfl (fun _ => rfl) rfl (fun w G bs hI hΓ => f66 w n (by omega) a.log paLogDurable caLogDurable (hΓ.get 0 rfl) paLogVolatile caLogVolatile (hΓ.get 1 rfl) ((ok_Repository hoka).1)) (fun _ => rfl) (fun _ => rfl) ?_
  rintro ⟨⟨p1, c1⟩, ⟨p2, c2⟩⟩ hq1
  refine WX.run ttOk rfl ?_
  have hP1 : laws_toRepository a = (Repository.mk (laws_toLog a.log) a.quota) := by simp only [laws_toRepository, cond_true, cond_false]
  refine WX.ret ttOk rfl ?_
  intro w1 G bs hI hΓ
  rw [hP1]
  exact Post.of [4, 5] (((p1, c1), (p2, c2)), ()) hI hΓ rfl rfl rfl (And.intro hq1 (ok_Repository hoka).2)
end Go.Proofs.Ytdkhklhnipiheaa
