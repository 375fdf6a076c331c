/-
  What the proof of one law needs: rules of the program logic, functions as Lean functions, contracts. No condition but what each says. Written by a program (pack.py) out of my own texts.
-/
import Derived.Test.YtfffongneoegbaaGreatKEqualNetworks4
namespace Go.Proofs.YtfffongneoegbaaGreat
open Go.Stp
set_option linter.unusedVariables false
set_option linter.unusedSimpArgs false
theorem f183 (w : World) (n : Nat) (hn : n + 0 ≤ 9) (a : (List Str)) (pa : Option Addr) (ca : Nat) (hpa : RdSl (hp w) pa ca a) (hoka : GoT.ok n a) :
    Does Tryz.prog 183 #[.slice pa ((a).length) ca] w emp (Post w emp (fun x : GoT.X ((List Str)) => (GoT.sh ((laws_toStringS a) : (List Str)) x).headD undef) (fun x => GoT.oa ((laws_toStringS a) : (List Str)) x) (GoT.ok n ((laws_toStringS a) : (List Str)))) := by
  have hbP := bd_pos n
  have hbB := bd_big (n := n) (by omega)
  refine WX.enter (tt := tt) (Γ := [(0, MF.rs .stb pa ca a)]) Tryz.func183 rfl (by kernel_rfl) rfl (allS_cons rfl hpa allS_nil) ?_
  refine WX.run ttOk rfl ?_
  have r1 : (a).length ≤ bd n := (okl hoka).1
  refine WX.mkS ((a).length) ttOk rfl rfl rfl rfl rfl rfl rfl (by omega) (by omega) rfl ?_
  intro p1
  refine WX.free 1 (MF.ol (zrep ((a).length) [.string (⟨#[]⟩ : Str)]) ((List.replicate ((a).length) (⟨#[]⟩ : Str)) : List Str)) (ol_zrep (α := Str) (z0 := (⟨#[]⟩ : Str)) (x0 := ()) rfl trivial _) ?_
  refine WX.run ttOk rfl ?_
  refine WX.loop (ι := (List Value) × (List Str) × Nat) ⟨fun | (xsout, out, i) => (i ≤ (a).length) ∧ (out.length = (a).length) ∧ (∀ z_ ∈ out, GoT.ok n z_) ∧ (laws_toStringS_L1 a 0 ((List.replicate ((a).length) (⟨#[]⟩ : Str)) : List Str) = laws_toStringS_L1 ((a).drop i) i out), fun | (xsout, out, i) => (a).length - i, fun | (xsout, out, i) => [(3, .v (.slice p1 ((a).length) ((a).length))), (4, .v (.int .i64 (((i : Nat) : Int)))), (0, .v (.slice pa ((a).length) ca))], fun | (xsout, out, i) => [], fun | (xsout, out, i) => [(7, ⟨1, p1, (a).length, ((a).length), xsout⟩)], fun | (xsout, out, i) => [(0, MF.rs .stb pa ca a), (1, MF.ol xsout (out : List Str))]⟩ ((zrep ((a).length) [.string (⟨#[]⟩ : Str)]), ((List.replicate ((a).length) (⟨#[]⟩ : Str)) : List Str), 0) ⟨(Nat.zero_le _), (by simp), (all_rep (Nat.le_trans (by decide) (bd_pos _))), rfl⟩
    (.cons rfl (.cons rfl (.cons rfl (.nil)))) .nil (.cons rfl (.nil)) [0, 1] rfl ?_
  rintro ⟨xsout, out, i⟩ hpre
  have hpre_ : (i ≤ (a).length) ∧ (out.length = (a).length) ∧ (∀ z_ ∈ out, GoT.ok n z_) ∧ (laws_toStringS_L1 a 0 ((List.replicate ((a).length) (⟨#[]⟩ : Str)) : List Str) = laws_toStringS_L1 ((a).drop i) i out) := hpre
  clear hpre
  obtain ⟨v1, v2, v3, v4⟩ := hpre_
  refine WX.run ttOk rfl ?_
  refine WX.cases 11 rfl (fun h1 => ?_) (fun h1 => ?_)
  · skip
    have h1d := B.dt h1
    have e1i : i < (a).length := (by omega)
    obtain ⟨e1, e1h⟩ : ∃ e1, (a)[i]? = some e1 := ⟨_, List.getElem?_eq_getElem e1i⟩
    have ok1 : GoT.ok n e1 := (okl hoka).2 _ (List.mem_of_getElem? e1h)
    refine WX.run ttOk rfl ?_
    refine WX.idx 0 i ttOk rfl rfl rfl rfl rfl rfl rfl rfl rfl rfl e1i ?_
    rintro ad1 rfl
    refine WX.ldE 0 2 e1 ttOk rfl rfl rfl rfl rfl rfl rfl rfl e1h (fun _ => rfl) (fun _ => rfl) ?_
    rintro ⟨⟩
    have hr1 : i < (a).length := (by first | assumption | omega)
    refine WX.idxR 7 i ttOk rfl rfl rfl rfl rfl rfl rfl rfl rfl hr1 ?_
    rintro ad2 rfl
    have e2i : i < (out).length := (by first | assumption | omega)
    obtain ⟨e2, e2h⟩ : ∃ e2, (out)[i]? = some e2 := ⟨_, List.getElem?_eq_getElem e2i⟩
    have ok2 : GoT.ok n e2 := v3 _ (List.mem_of_getElem? e2h)
    refine WX.opnE (α := Str) (e := e2) 7 1 2 i rfl rfl rfl e2h (fun _ => rfl) (fun _ _ _ => rfl) (fun _ _ _ => rfl) ?_
    rintro A1 B1 ⟨⟩ hA1 hB1
    refine WX.stA 7 ttOk rfl rfl rfl rfl rfl rfl rfl rfl rfl rfl rfl rfl rfl rfl hA1 hr1 rfl rfl rfl rfl (by simp) rfl ?_
    refine WX.run ttOk rfl ?_
    refine WX.see rfl rfl rfl (fun _ hΓ => looks_arith rfl rfl rfl rfl (by unfold I64; first | omega | (dsimp only; omega))) ?_
    refine WX.run ttOk rfl ?_
    refine WX.turn [2, 3] 4 rfl (fun h hs => cl_elem (α := Str) (e := e1) (x := ()) e2i hs) (gs := [MF.ol (A1 ++ [.string e1] ++ B1) (out.set i e1)]) rfl ?_
    refine WX.turn [4] 1 rfl (fun _ h => h) rfl ?_
    exact WX.iter ((A1 ++ [.string e1] ++ B1), ((out.set i e1) : List Str), i + 1) ⟨(by omega), (by first | assumption | omega | (simp only [List.length_append, List.length_cons, List.length_nil, List.length_set, List.length_map, List.length_take, List.length_drop]; omega) | (simp; omega)), (all_set v3 (show GoT.ok n (e1 : Str) from ok1)), (by rw [v4, drop_get e1h]; simp only [laws_toStringS_L1, e2h, cond_true, cond_false])⟩ (by dsimp only; omega) (.cons rfl (.cons rfl (.cons rfl (.nil)))) .nil (.cons rfl (.nil)) [0, 1] rfl
  · skip
    have h1d := B.df h1
    refine WX.run ttOk rfl ?_
    have hX1 : laws_toStringS_L1 a 0 ((List.replicate ((a).length) (⟨#[]⟩ : Str)) : List Str) = ((out) : List Str) := by rw [v4, List.drop_eq_nil_of_le (show (a).length ≤ i by omega)]; simp only [laws_toStringS_L1, cond_true, cond_false]
    refine WX.seal 7 1 5 rfl rfl (show (a).length = (out).length from by omega) rfl rfl ?_
    refine WX.slot 2 (y := .v (.slice p1 (out).length ((a).length))) rfl (fun _ => by show (Value.slice p1 ((a).length) ((a).length) : Value) = Value.slice p1 (out).length ((a).length); rw [(show (a).length = (out).length from by omega)]) ?_
    refine WX.slot 21 (y := .v (.slice p1 (out).length ((a).length))) rfl (fun _ => by show (Value.slice p1 ((a).length) ((a).length) : Value) = Value.slice p1 (out).length ((a).length); rw [(show (a).length = (out).length from by omega)]) ?_
    refine WX.slot 3 (y := .v (.slice p1 (out).length ((a).length))) rfl (fun _ => by show (Value.slice p1 ((a).length) ((a).length) : Value) = Value.slice p1 (out).length ((a).length); rw [(show (a).length = (out).length from by omega)]) ?_
    have hP1 : laws_toStringS a = out := by simp only [laws_toStringS, hX1, cond_true, cond_false]
    refine WX.ret ttOk rfl ?_
    intro w1 G bs hI hΓ
    rw [hP1]
    exact Post.of [6] (p1, ((a).length)) hI hΓ rfl rfl rfl (okl_mk (by omega) v3 : GoT.ok n (out : List Str))
theorem f65 (w : World) (n : Nat) (hn : n + 0 ≤ 9) (a : Name) (pa : Option Addr) (ca : Nat) (hpa : RdSl (hp w) pa ca a.parts) (hoka : GoT.ok n a) :
    Does Tryz.prog 65 #[.agg #[.slice pa ((a.parts).length) ca]] w emp (Post w emp (fun x : GoT.X (Name) => .agg ⟨GoT.sh ((laws_toName a) : Name) x⟩) (fun x => GoT.oa ((laws_toName a) : Name) x) (GoT.ok n ((laws_toName a) : Name))) := by
  have hbP := bd_pos n
  have hbB := bd_big (n := n) (by omega)
  refine WX.enter (tt := tt) (Γ := [(0, MF.rs .stb pa ca a.parts)]) Tryz.func65 rfl (by kernel_rfl) rfl (allS_cons rfl hpa allS_nil) ?_
  refine WX.run ttOk rfl ?_
  refine WX.callF 1 (fun _ _ h => GoT.ow_rd h) (fun _ f hf => GoT.fak f hf) rfl rfl rfl rfl rfl (fun _ => rfl) rfl (fun w G bs hI hΓ => f183 w n (by omega) a.parts pa ca (hΓ.get 0 rfl) (ok_Name hoka)) (fun _ => rfl) (fun _ => rfl) ?_
  rintro ⟨p1, c1⟩ hq1
  refine WX.run ttOk rfl ?_
  have hP1 : laws_toName a = (Name.mk (laws_toStringS a.parts)) := by simp only [laws_toName, cond_true, cond_false]
  refine WX.ret ttOk rfl ?_
  intro w1 G bs hI hΓ
  rw [hP1]
  exact Post.of [2] (p1, c1) hI hΓ rfl rfl rfl hq1
theorem f229 (w : World) (n : Nat) (hn : n + 0 ≤ 9) (a : TableEntry) (paName : Option Addr) (caName : Nat) (hpaName : RdSl (hp w) paName caName a.name.parts) (hoka : GoT.ok n a) :
    Does Tryz.prog 229 #[.agg #[.slice paName ((a.name.parts).length) caName, .int .i64 (a.value)]] w emp (Post w emp (fun x : GoT.X (TableEntry) => .agg ⟨GoT.sh ((laws_toTableEntry a) : TableEntry) x⟩) (fun x => GoT.oa ((laws_toTableEntry a) : TableEntry) x) (GoT.ok n ((laws_toTableEntry a) : TableEntry))) := by
  have hbP := bd_pos n
  have hbB := bd_big (n := n) (by omega)
  refine WX.enter (tt := tt) (Γ := [(0, MF.rs .stb paName caName a.name.parts)]) Tryz.func229 rfl (by kernel_rfl) rfl (allS_cons rfl hpaName allS_nil) ?_
  refine WX.run ttOk rfl ?_
  refine WX.callF 1 (fun _ _ h => GoT.ow_rd h) (fun _ f hf => GoT.fak f hf) rfl rfl rfl rfl rfl (fun _ => rfl) rfl (fun w G bs hI hΓ => f65 w n (by omega) a.name paName caName (hΓ.get 0 rfl) ((ok_TableEntry hoka).1)) (fun _ => rfl) (fun _ => rfl) ?_
  rintro ⟨p1, c1⟩ hq1
  refine WX.run ttOk rfl ?_
  have hP1 : laws_toTableEntry a = (TableEntry.mk (laws_toName a.name) a.value) := by simp only [laws_toTableEntry, cond_true, cond_false]
  refine WX.ret ttOk rfl ?_
  intro w1 G bs hI hΓ
  rw [hP1]
  exact Post.of [2] ((p1, c1), ()) hI hΓ rfl rfl rfl (And.intro hq1 (ok_TableEntry hoka).2)
theorem f126 (w : World) (n : Nat) (hn : n + 0 ≤ 9) (a : (List TableEntry)) (pa : Option Addr) (ca : Nat) (hpa : RdSl (hp w) pa ca a) (hoka : GoT.ok n a) :
    Does Tryz.prog 126 #[.slice pa ((a).length) ca] w emp (Post w emp (fun x : GoT.X ((List TableEntry)) => (GoT.sh ((laws_toTableEntryS a) : (List TableEntry)) x).headD undef) (fun x => GoT.oa ((laws_toTableEntryS a) : (List TableEntry)) x) (GoT.ok n ((laws_toTableEntryS a) : (List TableEntry)))) := by
  have hbP := bd_pos n
  have hbB := bd_big (n := n) (by omega)
  refine WX.enter (tt := tt) (Γ := [(0, MF.rs .stb pa ca a)]) Tryz.func126 rfl (by kernel_rfl) rfl (allS_cons rfl hpa allS_nil) ?_
  refine WX.run ttOk rfl ?_
  have r1 : (a).length ≤ bd n := (okl hoka).1
  refine WX.mkS ((a).length) ttOk rfl rfl rfl rfl rfl rfl rfl (by omega) (by omega) rfl ?_
  intro p1
  refine WX.free 1 (MF.ol (zrep ((a).length) [.slice none (0) 0, .int .i64 (0)]) ((List.replicate ((a).length) (TableEntry.mk (Name.mk ([])) 0)) : List TableEntry)) (ol_zrep (α := TableEntry) (z0 := (TableEntry.mk (Name.mk ([])) 0)) (x0 := ((none, 0), ())) rfl (sep_emp_cons (owSl_nil _ _) trivial) _) ?_
  refine WX.run ttOk rfl ?_
  refine WX.loop (ι := (List Value) × (List TableEntry) × Nat) ⟨fun | (xsout, out, i) => (i ≤ (a).length) ∧ (out.length = (a).length) ∧ (∀ z_ ∈ out, GoT.ok n z_) ∧ (laws_toTableEntryS_L1 a 0 ((List.replicate ((a).length) (TableEntry.mk (Name.mk ([])) 0)) : List TableEntry) = laws_toTableEntryS_L1 ((a).drop i) i out), fun | (xsout, out, i) => (a).length - i, fun | (xsout, out, i) => [(3, .v (.slice p1 ((a).length) ((a).length))), (4, .v (.int .i64 (((i : Nat) : Int)))), (0, .v (.slice pa ((a).length) ca))], fun | (xsout, out, i) => [], fun | (xsout, out, i) => [(7, ⟨2, p1, (a).length, ((a).length), xsout⟩)], fun | (xsout, out, i) => [(0, MF.rs .stb pa ca a), (1, MF.ol xsout (out : List TableEntry))]⟩ ((zrep ((a).length) [.slice none (0) 0, .int .i64 (0)]), ((List.replicate ((a).length) (TableEntry.mk (Name.mk ([])) 0)) : List TableEntry), 0) ⟨(Nat.zero_le _), (by simp), (all_rep (And.intro (ok_nil (α := Str)) (show I64 0 from (by unfold I64; omega)))), rfl⟩
    (.cons rfl (.cons rfl (.cons rfl (.nil)))) .nil (.cons rfl (.nil)) [0, 1] rfl ?_
  rintro ⟨xsout, out, i⟩ hpre
  have hpre_ : (i ≤ (a).length) ∧ (out.length = (a).length) ∧ (∀ z_ ∈ out, GoT.ok n z_) ∧ (laws_toTableEntryS_L1 a 0 ((List.replicate ((a).length) (TableEntry.mk (Name.mk ([])) 0)) : List TableEntry) = laws_toTableEntryS_L1 ((a).drop i) i out) := hpre
  clear hpre
  obtain ⟨v1, v2, v3, v4⟩ := hpre_
  refine WX.run ttOk rfl ?_
  refine WX.cases 11 rfl (fun h1 => ?_) (fun h1 => ?_)
  · skip
    have h1d := B.dt h1
    have e1i : i < (a).length := (by omega)
    obtain ⟨e1, e1h⟩ : ∃ e1, (a)[i]? = some e1 := ⟨_, List.getElem?_eq_getElem e1i⟩
    have ok1 : GoT.ok n e1 := (okl hoka).2 _ (List.mem_of_getElem? e1h)
    refine WX.run ttOk rfl ?_
    refine WX.idx 0 i ttOk rfl rfl rfl rfl rfl rfl rfl rfl rfl rfl e1i ?_
    rintro ad1 rfl
    refine WX.ldE 0 2 e1 ttOk rfl rfl rfl rfl rfl rfl rfl rfl e1h (fun _ => rfl) (fun _ => rfl) ?_
    rintro ⟨⟨p2, c1⟩, ⟨⟩⟩
    refine WX.callF 3 (fun _ _ h => GoT.ow_rd h) (fun _ f hf => GoT.fak f hf) rfl rfl rfl rfl rfl (fun _ => rfl) rfl (fun w G bs hI hΓ => f229 w n (by omega) e1 p2 c1 (hΓ.get 2 rfl) ok1) (fun _ => rfl) (fun _ => rfl) ?_
    rintro ⟨⟨p3, c2⟩, ⟨⟩⟩ hq1
    have hr1 : i < (a).length := (by first | assumption | omega)
    refine WX.idxR 7 i ttOk rfl rfl rfl rfl rfl rfl rfl rfl rfl hr1 ?_
    rintro ad2 rfl
    have e2i : i < (out).length := (by first | assumption | omega)
    obtain ⟨e2, e2h⟩ : ∃ e2, (out)[i]? = some e2 := ⟨_, List.getElem?_eq_getElem e2i⟩
    have ok2 : GoT.ok n e2 := v3 _ (List.mem_of_getElem? e2h)
    refine WX.opnE (α := TableEntry) (e := e2) 7 1 5 i rfl rfl rfl e2h (fun _ => rfl) (fun _ _ _ => rfl) (fun _ _ _ => rfl) ?_
    rintro A1 B1 ⟨⟨p4, c3⟩, ⟨⟩⟩ hA1 hB1
    refine WX.stA 7 ttOk rfl rfl rfl rfl rfl rfl rfl rfl rfl rfl rfl rfl rfl rfl hA1 hr1 rfl rfl rfl rfl (by simp) rfl ?_
    refine WX.run ttOk rfl ?_
    refine WX.see rfl rfl rfl (fun _ hΓ => looks_arith rfl rfl rfl rfl (by unfold I64; first | omega | (dsimp only; omega))) ?_
    refine WX.run ttOk rfl ?_
    refine WX.turn [4, 7, 8] 9 rfl (fun h hs => cl_elem (α := TableEntry) (e := (laws_toTableEntry e1)) (x := ((p3, c2), ())) e2i hs) (gs := [MF.ol (A1 ++ [.slice p3 (((laws_toTableEntry e1).name.parts).length) c2, .int .i64 ((laws_toTableEntry e1).value)] ++ B1) (out.set i (laws_toTableEntry e1))]) rfl ?_
    refine WX.turn [9] 1 rfl (fun _ h => h) rfl ?_
    exact WX.iter ((A1 ++ [.slice p3 (((laws_toTableEntry e1).name.parts).length) c2, .int .i64 ((laws_toTableEntry e1).value)] ++ B1), ((out.set i (laws_toTableEntry e1)) : List TableEntry), i + 1) ⟨(by omega), (by first | assumption | omega | (simp only [List.length_append, List.length_cons, List.length_nil, List.length_set, List.length_map, List.length_take, List.length_drop]; omega) | (simp; omega)), (all_set v3 (show GoT.ok n ((laws_toTableEntry e1) : TableEntry) from hq1)), (by rw [v4, drop_get e1h]; simp only [laws_toTableEntryS_L1, e2h, cond_true, cond_false])⟩ (by dsimp only; omega) (.cons rfl (.cons rfl (.cons rfl (.nil)))) .nil (.cons rfl (.nil)) [0, 1] rfl
  · skip
    have h1d := B.df h1
    refine WX.run ttOk rfl ?_
    have hX1 : laws_toTableEntryS_L1 a 0 ((List.replicate ((a).length) (TableEntry.mk (Name.mk ([])) 0)) : List TableEntry) = ((out) : List TableEntry) := by rw [v4, List.drop_eq_nil_of_le (show (a).length ≤ i by omega)]; simp only [laws_toTableEntryS_L1, cond_true, cond_false]
    refine WX.seal 7 1 10 rfl rfl (show (a).length = (out).length from by omega) rfl rfl ?_
    refine WX.slot 2 (y := .v (.slice p1 (out).length ((a).length))) rfl (fun _ => by show (Value.slice p1 ((a).length) ((a).length) : Value) = Value.slice p1 (out).length ((a).length); rw [(show (a).length = (out).length from by omega)]) ?_
    refine WX.slot 22 (y := .v (.slice p1 (out).length ((a).length))) rfl (fun _ => by show (Value.slice p1 ((a).length) ((a).length) : Value) = Value.slice p1 (out).length ((a).length); rw [(show (a).length = (out).length from by omega)]) ?_
    refine WX.slot 3 (y := .v (.slice p1 (out).length ((a).length))) rfl (fun _ => by show (Value.slice p1 ((a).length) ((a).length) : Value) = Value.slice p1 (out).length ((a).length); rw [(show (a).length = (out).length from by omega)]) ?_
    have hP1 : laws_toTableEntryS a = out := by simp only [laws_toTableEntryS, hX1, cond_true, cond_false]
    refine WX.ret ttOk rfl ?_
    intro w1 G bs hI hΓ
    rw [hP1]
    exact Post.of [11] (p1, ((a).length)) hI hΓ rfl rfl rfl (okl_mk (by omega) v3 : GoT.ok n (out : List TableEntry))
theorem f22 (w : World) (n : Nat) (hn : n + 0 ≤ 9) (a : (List UInt8)) (pa : Option Addr) (ca : Nat) (hpa : RdSl (hp w) pa ca a) (hoka : GoT.ok n a) :
    Does Tryz.prog 22 #[.slice pa ((a).length) ca] w emp (Post w emp (fun x : GoT.X ((List UInt8)) => (GoT.sh ((laws_toByteS a) : (List UInt8)) x).headD undef) (fun x => GoT.oa ((laws_toByteS a) : (List UInt8)) x) (GoT.ok n ((laws_toByteS a) : (List UInt8)))) := by
  have hbP := bd_pos n
  have hbB := bd_big (n := n) (by omega)
  refine WX.enter (tt := tt) (Γ := [(0, MF.rs .stb pa ca a)]) Tryz.func22 rfl (by kernel_rfl) rfl (allS_cons rfl hpa allS_nil) ?_
  refine WX.run ttOk rfl ?_
  have r1 : (a).length ≤ bd n := (okl hoka).1
  refine WX.mkS ((a).length) ttOk rfl rfl rfl rfl rfl rfl rfl (by omega) (by omega) rfl ?_
  intro p1
  refine WX.free 1 (MF.ol (zrep ((a).length) [.int .u8 (((0 : UInt8)).toNat : Nat)]) ((List.replicate ((a).length) (0 : UInt8)) : List UInt8)) (ol_zrep (α := UInt8) (z0 := (0 : UInt8)) (x0 := ()) rfl trivial _) ?_
  refine WX.run ttOk rfl ?_
  refine WX.loop (ι := (List Value) × (List UInt8) × Nat) ⟨fun | (xsout, out, i) => (i ≤ (a).length) ∧ (out.length = (a).length) ∧ (∀ z_ ∈ out, GoT.ok n z_) ∧ (laws_toByteS_L1 a 0 ((List.replicate ((a).length) (0 : UInt8)) : List UInt8) = laws_toByteS_L1 ((a).drop i) i out), fun | (xsout, out, i) => (a).length - i, fun | (xsout, out, i) => [(3, .v (.slice p1 ((a).length) ((a).length))), (4, .v (.int .i64 (((i : Nat) : Int)))), (0, .v (.slice pa ((a).length) ca))], fun | (xsout, out, i) => [], fun | (xsout, out, i) => [(7, ⟨1, p1, (a).length, ((a).length), xsout⟩)], fun | (xsout, out, i) => [(0, MF.rs .stb pa ca a), (1, MF.ol xsout (out : List UInt8))]⟩ ((zrep ((a).length) [.int .u8 (((0 : UInt8)).toNat : Nat)]), ((List.replicate ((a).length) (0 : UInt8)) : List UInt8), 0) ⟨(Nat.zero_le _), (by simp), (all_rep trivial), rfl⟩
    (.cons rfl (.cons rfl (.cons rfl (.nil)))) .nil (.cons rfl (.nil)) [0, 1] rfl ?_
  rintro ⟨xsout, out, i⟩ hpre
  have hpre_ : (i ≤ (a).length) ∧ (out.length = (a).length) ∧ (∀ z_ ∈ out, GoT.ok n z_) ∧ (laws_toByteS_L1 a 0 ((List.replicate ((a).length) (0 : UInt8)) : List UInt8) = laws_toByteS_L1 ((a).drop i) i out) := hpre
  clear hpre
  obtain ⟨v1, v2, v3, v4⟩ := hpre_
  refine WX.run ttOk rfl ?_
  refine WX.cases 11 rfl (fun h1 => ?_) (fun h1 => ?_)
  · skip
    have h1d := B.dt h1
    have e1i : i < (a).length := (by omega)
    obtain ⟨e1, e1h⟩ : ∃ e1, (a)[i]? = some e1 := ⟨_, List.getElem?_eq_getElem e1i⟩
    refine WX.run ttOk rfl ?_
    refine WX.idx 0 i ttOk rfl rfl rfl rfl rfl rfl rfl rfl rfl rfl e1i ?_
    rintro ad1 rfl
    refine WX.ldE 0 2 e1 ttOk rfl rfl rfl rfl rfl rfl rfl rfl e1h (fun _ => rfl) (fun _ => rfl) ?_
    rintro ⟨⟩
    have hr1 : i < (a).length := (by first | assumption | omega)
    refine WX.idxR 7 i ttOk rfl rfl rfl rfl rfl rfl rfl rfl rfl hr1 ?_
    rintro ad2 rfl
    have e2i : i < (out).length := (by first | assumption | omega)
    obtain ⟨e2, e2h⟩ : ∃ e2, (out)[i]? = some e2 := ⟨_, List.getElem?_eq_getElem e2i⟩
    refine WX.opnE (α := UInt8) (e := e2) 7 1 2 i rfl rfl rfl e2h (fun _ => rfl) (fun _ _ _ => rfl) (fun _ _ _ => rfl) ?_
    rintro A1 B1 ⟨⟩ hA1 hB1
    refine WX.stA 7 ttOk rfl rfl rfl rfl rfl rfl rfl rfl rfl rfl rfl rfl rfl rfl hA1 hr1 rfl rfl rfl rfl (by simp) rfl ?_
    refine WX.run ttOk rfl ?_
    refine WX.see rfl rfl rfl (fun _ hΓ => looks_arith rfl rfl rfl rfl (by unfold I64; first | omega | (dsimp only; omega))) ?_
    refine WX.run ttOk rfl ?_
    refine WX.turn [2, 3] 4 rfl (fun h hs => cl_elem (α := UInt8) (e := e1) (x := ()) e2i hs) (gs := [MF.ol (A1 ++ [.int .u8 ((e1).toNat : Nat)] ++ B1) (out.set i e1)]) rfl ?_
    refine WX.turn [4] 1 rfl (fun _ h => h) rfl ?_
    exact WX.iter ((A1 ++ [.int .u8 ((e1).toNat : Nat)] ++ B1), ((out.set i e1) : List UInt8), i + 1) ⟨(by omega), (by first | assumption | omega | (simp only [List.length_append, List.length_cons, List.length_nil, List.length_set, List.length_map, List.length_take, List.length_drop]; omega) | (simp; omega)), (all_set v3 (show GoT.ok n (e1 : UInt8) from trivial)), (by rw [v4, drop_get e1h]; simp only [laws_toByteS_L1, e2h, cond_true, cond_false])⟩ (by dsimp only; omega) (.cons rfl (.cons rfl (.cons rfl (.nil)))) .nil (.cons rfl (.nil)) [0, 1] rfl
  · skip
    have h1d := B.df h1
    refine WX.run ttOk rfl ?_
    have hX1 : laws_toByteS_L1 a 0 ((List.replicate ((a).length) (0 : UInt8)) : List UInt8) = ((out) : List UInt8) := by rw [v4, List.drop_eq_nil_of_le (show (a).length ≤ i by omega)]; simp only [laws_toByteS_L1, cond_true, cond_false]
    refine WX.seal 7 1 5 rfl rfl (show (a).length = (out).length from by omega) rfl rfl ?_
    refine WX.slot 2 (y := .v (.slice p1 (out).length ((a).length))) rfl (fun _ => by show (Value.slice p1 ((a).length) ((a).length) : Value) = Value.slice p1 (out).length ((a).length); rw [(show (a).length = (out).length from by omega)]) ?_
    refine WX.slot 21 (y := .v (.slice p1 (out).length ((a).length))) rfl (fun _ => by show (Value.slice p1 ((a).length) ((a).length) : Value) = Value.slice p1 (out).length ((a).length); rw [(show (a).length = (out).length from by omega)]) ?_
    refine WX.slot 3 (y := .v (.slice p1 (out).length ((a).length))) rfl (fun _ => by show (Value.slice p1 ((a).length) ((a).length) : Value) = Value.slice p1 (out).length ((a).length); rw [(show (a).length = (out).length from by omega)]) ?_
    have hP1 : laws_toByteS a = out := by simp only [laws_toByteS, hX1, cond_true, cond_false]
    refine WX.ret ttOk rfl ?_
    intro w1 G bs hI hΓ
    rw [hP1]
    exact Post.of [6] (p1, ((a).length)) hI hΓ rfl rfl rfl (okl_mk (by omega) v3 : GoT.ok n (out : List UInt8))
theorem f34 (w : World) (n : Nat) (hn : n + 0 ≤ 9) (a : DataP) (paName : Option Addr) (caName : Nat) (hpaName : RdSl (hp w) paName caName a.name.parts) (paContent : Option Addr) (caContent : Nat) (hpaContent : RdSl (hp w) paContent caContent a.content) (paKeyName : Option Addr) (caKeyName : Nat) (hpaKeyName : RdSl (hp w) paKeyName caKeyName a.keyName.parts) (hoka : GoT.ok n a) :
    Does Tryz.prog 34 #[.agg #[.slice paName ((a.name.parts).length) caName, .slice paContent ((a.content).length) caContent, .slice paKeyName ((a.keyName.parts).length) caKeyName, .int .i64 (a.freshUntil), .int .i64 (a.signature)]] w emp (Post w emp (fun x : GoT.X (DataP) => .agg ⟨GoT.sh ((laws_toData a) : DataP) x⟩) (fun x => GoT.oa ((laws_toData a) : DataP) x) (GoT.ok n ((laws_toData a) : DataP))) := by
  have hbP := bd_pos n
  have hbB := bd_big (n := n) (by omega)
  refine WX.enter (tt := tt) (Γ := [(0, MF.rs .stb paName caName a.name.parts), (1, MF.rs .stb paContent caContent a.content), (2, MF.rs .stb paKeyName caKeyName a.keyName.parts)]) Tryz.func34 rfl (by kernel_rfl) rfl (allS_cons rfl hpaName (allS_cons rfl hpaContent (allS_cons rfl hpaKeyName allS_nil))) ?_
  refine WX.run ttOk rfl ?_
  refine WX.callF 3 (fun _ _ h => GoT.ow_rd h) (fun _ f hf => GoT.fak f hf) rfl rfl rfl rfl rfl (fun _ => rfl) rfl (fun w G bs hI hΓ => f65 w n (by omega) a.name paName caName (hΓ.get 0 rfl) ((ok_DataP hoka).1)) (fun _ => rfl) (fun _ => rfl) ?_
  rintro ⟨p1, c1⟩ hq1
  refine WX.run ttOk rfl ?_
  refine WX.callF 5 (fun _ _ h => GoT.ow_rd h) (fun _ f hf => GoT.fak f hf) rfl rfl rfl rfl rfl (fun _ => rfl) rfl (fun w G bs hI hΓ => f22 w n (by omega) a.content paContent caContent (hΓ.get 1 rfl) ((ok_DataP hoka).2.1)) (fun _ => rfl) (fun _ => rfl) ?_
  rintro ⟨p2, c2⟩ hq2
  refine WX.run ttOk rfl ?_
  refine WX.callF 7 (fun _ _ h => GoT.ow_rd h) (fun _ f hf => GoT.fak f hf) rfl rfl rfl rfl rfl (fun _ => rfl) rfl (fun w G bs hI hΓ => f65 w n (by omega) a.keyName paKeyName caKeyName (hΓ.get 2 rfl) ((ok_DataP hoka).2.2.1)) (fun _ => rfl) (fun _ => rfl) ?_
  rintro ⟨p3, c3⟩ hq3
  refine WX.run ttOk rfl ?_
  have hP1 : laws_toData a = (DataP.mk (laws_toName a.name) (laws_toByteS a.content) (laws_toName a.keyName) a.freshUntil a.signature) := by simp only [laws_toData, cond_true, cond_false]
  refine WX.ret ttOk rfl ?_
  intro w1 G bs hI hΓ
  rw [hP1]
  exact Post.of [4, 6, 8] ((p1, c1), (p2, c2), (p3, c3), (), ()) hI hΓ rfl rfl rfl (And.intro hq1 (And.intro hq2 (And.intro hq3 (And.intro (ok_DataP hoka).2.2.2.1 (ok_DataP hoka).2.2.2.2))))
theorem f32 (w : World) (n : Nat) (hn : n + 0 ≤ 9) (a : Consumer) (paName : Option Addr) (caName : Nat) (hpaName : RdSl (hp w) paName caName a.name.parts) (paDataName : Option Addr) (caDataName : Nat) (hpaDataName : RdSl (hp w) paDataName caDataName a.data.name.parts) (paDataContent : Option Addr) (caDataContent : Nat) (hpaDataContent : RdSl (hp w) paDataContent caDataContent a.data.content) (paDataKeyName : Option Addr) (caDataKeyName : Nat) (hpaDataKeyName : RdSl (hp w) paDataKeyName caDataKeyName a.data.keyName.parts) (hoka : GoT.ok n a) :
    Does Tryz.prog 32 #[.agg #[.int .i64 (a.node), .int .i64 (a.index), .slice paName ((a.name.parts).length) caName, .int .i64 (a.attempts), .int .i64 (a.wait), .bool a.satisfied, .slice paDataName ((a.data.name.parts).length) caDataName, .slice paDataContent ((a.data.content).length) caDataContent, .slice paDataKeyName ((a.data.keyName.parts).length) caDataKeyName, .int .i64 (a.data.freshUntil), .int .i64 (a.data.signature)]] w emp (Post w emp (fun x : GoT.X (Consumer) => .agg ⟨GoT.sh ((laws_toConsumer a) : Consumer) x⟩) (fun x => GoT.oa ((laws_toConsumer a) : Consumer) x) (GoT.ok n ((laws_toConsumer a) : Consumer))) := by
  have hbP := bd_pos n
  have hbB := bd_big (n := n) (by omega)
  refine WX.enter (tt := tt) (Γ := [(0, MF.rs .stb paName caName a.name.parts), (1, MF.rs .stb paDataName caDataName a.data.name.parts), (2, MF.rs .stb paDataContent caDataContent a.data.content), (3, MF.rs .stb paDataKeyName caDataKeyName a.data.keyName.parts)]) Tryz.func32 rfl (by kernel_rfl) rfl (allS_cons rfl hpaName (allS_cons rfl hpaDataName (allS_cons rfl hpaDataContent (allS_cons rfl hpaDataKeyName allS_nil)))) ?_
  refine WX.run ttOk rfl ?_
  refine WX.callF 4 (fun _ _ h => GoT.ow_rd h) (fun _ f hf => GoT.fak f hf) rfl rfl rfl rfl rfl (fun _ => rfl) rfl (fun w G bs hI hΓ => f65 w n (by omega) a.name paName caName (hΓ.get 0 rfl) ((ok_Consumer hoka).2.2.1)) (fun _ => rfl) (fun _ => rfl) ?_
  rintro ⟨p1, c1⟩ hq1
  refine WX.run ttOk rfl ?_
  refine WX.callF 6 (fun _ _ h => GoT.ow_rd h) (fun _ f hf => GoT.fak f hf) rfl rfl rfl rfl rfl (fun _ => rfl) rfl (fun w G bs hI hΓ => f34 w n (by omega) a.data paDataName caDataName (hΓ.get 1 rfl) paDataContent caDataContent (hΓ.get 2 rfl) paDataKeyName caDataKeyName (hΓ.get 3 rfl) ((ok_Consumer hoka).2.2.2.2.2.2)) (fun _ => rfl) (fun _ => rfl) ?_
  rintro ⟨⟨p2, c2⟩, ⟨p3, c3⟩, ⟨p4, c4⟩, ⟨⟩, ⟨⟩⟩ hq2
  refine WX.run ttOk rfl ?_
  have hP1 : laws_toConsumer a = (Consumer.mk a.node a.index (laws_toName a.name) a.attempts a.wait a.satisfied (laws_toData a.data)) := by simp only [laws_toConsumer, cond_true, cond_false]
  refine WX.ret ttOk rfl ?_
  intro w1 G bs hI hΓ
  rw [hP1]
  exact Post.of [5, 9, 10, 11] ((), (), (p1, c1), (), (), (), ((p2, c2), (p3, c3), (p4, c4), (), ())) hI hΓ rfl rfl rfl (And.intro (ok_Consumer hoka).1 (And.intro (ok_Consumer hoka).2.1 (And.intro hq1 (And.intro (ok_Consumer hoka).2.2.2.1 (And.intro (ok_Consumer hoka).2.2.2.2.1 (And.intro trivial hq2))))))
theorem f208 (w : World) (n : Nat) (hn : n + 0 ≤ 9) (a : Key) (paName : Option Addr) (caName : Nat) (hpaName : RdSl (hp w) paName caName a.name.parts) (hoka : GoT.ok n a) :
    Does Tryz.prog 208 #[.agg #[.slice paName ((a.name.parts).length) caName, .int .i64 (a.secret)]] w emp (Post w emp (fun x : GoT.X (Key) => .agg ⟨GoT.sh ((laws_toKey a) : Key) x⟩) (fun x => GoT.oa ((laws_toKey a) : Key) x) (GoT.ok n ((laws_toKey a) : Key))) := by
  have hbP := bd_pos n
  have hbB := bd_big (n := n) (by omega)
  refine WX.enter (tt := tt) (Γ := [(0, MF.rs .stb paName caName a.name.parts)]) Tryz.func208 rfl (by kernel_rfl) rfl (allS_cons rfl hpaName allS_nil) ?_
  refine WX.run ttOk rfl ?_
  refine WX.callF 1 (fun _ _ h => GoT.ow_rd h) (fun _ f hf => GoT.fak f hf) rfl rfl rfl rfl rfl (fun _ => rfl) rfl (fun w G bs hI hΓ => f65 w n (by omega) a.name paName caName (hΓ.get 0 rfl) ((ok_Key hoka).1)) (fun _ => rfl) (fun _ => rfl) ?_
  rintro ⟨p1, c1⟩ hq1
  refine WX.run ttOk rfl ?_
  have hP1 : laws_toKey a = (Key.mk (laws_toName a.name) a.secret) := by simp only [laws_toKey, cond_true, cond_false]
  refine WX.ret ttOk rfl ?_
  intro w1 G bs hI hΓ
  rw [hP1]
  exact Post.of [2] ((p1, c1), ()) hI hΓ rfl rfl rfl (And.intro hq1 (ok_Key hoka).2)
theorem f95 (w : World) (n : Nat) (hn : n + 0 ≤ 9) (a : (List Key)) (pa : Option Addr) (ca : Nat) (hpa : RdSl (hp w) pa ca a) (hoka : GoT.ok n a) :
    Does Tryz.prog 95 #[.slice pa ((a).length) ca] w emp (Post w emp (fun x : GoT.X ((List Key)) => (GoT.sh ((laws_toKeyS a) : (List Key)) x).headD undef) (fun x => GoT.oa ((laws_toKeyS a) : (List Key)) x) (GoT.ok n ((laws_toKeyS a) : (List Key)))) := by
  have hbP := bd_pos n
  have hbB := bd_big (n := n) (by omega)
  refine WX.enter (tt := tt) (Γ := [(0, MF.rs .stb pa ca a)]) Tryz.func95 rfl (by kernel_rfl) rfl (allS_cons rfl hpa allS_nil) ?_
  refine WX.run ttOk rfl ?_
  have r1 : (a).length ≤ bd n := (okl hoka).1
  refine WX.mkS ((a).length) ttOk rfl rfl rfl rfl rfl rfl rfl (by omega) (by omega) rfl ?_
  intro p1
  refine WX.free 1 (MF.ol (zrep ((a).length) [.slice none (0) 0, .int .i64 (0)]) ((List.replicate ((a).length) (Key.mk (Name.mk ([])) 0)) : List Key)) (ol_zrep (α := Key) (z0 := (Key.mk (Name.mk ([])) 0)) (x0 := ((none, 0), ())) rfl (sep_emp_cons (owSl_nil _ _) trivial) _) ?_
  refine WX.run ttOk rfl ?_
  refine WX.loop (ι := (List Value) × (List Key) × Nat) ⟨fun | (xsout, out, i) => (i ≤ (a).length) ∧ (out.length = (a).length) ∧ (∀ z_ ∈ out, GoT.ok n z_) ∧ (laws_toKeyS_L1 a 0 ((List.replicate ((a).length) (Key.mk (Name.mk ([])) 0)) : List Key) = laws_toKeyS_L1 ((a).drop i) i out), fun | (xsout, out, i) => (a).length - i, fun | (xsout, out, i) => [(3, .v (.slice p1 ((a).length) ((a).length))), (4, .v (.int .i64 (((i : Nat) : Int)))), (0, .v (.slice pa ((a).length) ca))], fun | (xsout, out, i) => [], fun | (xsout, out, i) => [(7, ⟨2, p1, (a).length, ((a).length), xsout⟩)], fun | (xsout, out, i) => [(0, MF.rs .stb pa ca a), (1, MF.ol xsout (out : List Key))]⟩ ((zrep ((a).length) [.slice none (0) 0, .int .i64 (0)]), ((List.replicate ((a).length) (Key.mk (Name.mk ([])) 0)) : List Key), 0) ⟨(Nat.zero_le _), (by simp), (all_rep (And.intro (ok_nil (α := Str)) (show I64 0 from (by unfold I64; omega)))), rfl⟩
    (.cons rfl (.cons rfl (.cons rfl (.nil)))) .nil (.cons rfl (.nil)) [0, 1] rfl ?_
  rintro ⟨xsout, out, i⟩ hpre
  have hpre_ : (i ≤ (a).length) ∧ (out.length = (a).length) ∧ (∀ z_ ∈ out, GoT.ok n z_) ∧ (laws_toKeyS_L1 a 0 ((List.replicate ((a).length) (Key.mk (Name.mk ([])) 0)) : List Key) = laws_toKeyS_L1 ((a).drop i) i out) := hpre
  clear hpre
  obtain ⟨v1, v2, v3, v4⟩ := hpre_
  refine WX.run ttOk rfl ?_
  refine WX.cases 11 rfl (fun h1 => ?_) (fun h1 => ?_)
  · skip
    have h1d := B.dt h1
    have e1i : i < (a).length := (by omega)
    obtain ⟨e1, e1h⟩ : ∃ e1, (a)[i]? = some e1 := ⟨_, List.getElem?_eq_getElem e1i⟩
    have ok1 : GoT.ok n e1 := (okl hoka).2 _ (List.mem_of_getElem? e1h)
    refine WX.run ttOk rfl ?_
    refine WX.idx 0 i ttOk rfl rfl rfl rfl rfl rfl rfl rfl rfl rfl e1i ?_
    rintro ad1 rfl
    refine WX.ldE 0 2 e1 ttOk rfl rfl rfl rfl rfl rfl rfl rfl e1h (fun _ => rfl) (fun _ => rfl) ?_
    rintro ⟨⟨p2, c1⟩, ⟨⟩⟩
    refine WX.callF 3 (fun _ _ h => GoT.ow_rd h) (fun _ f hf => GoT.fak f hf) rfl rfl rfl rfl rfl (fun _ => rfl) rfl (fun w G bs hI hΓ => f208 w n (by omega) e1 p2 c1 (hΓ.get 2 rfl) ok1) (fun _ => rfl) (fun _ => rfl) ?_
    rintro ⟨⟨p3, c2⟩, ⟨⟩⟩ hq1
    have hr1 : i < (a).length := (by first | assumption | omega)
    refine WX.idxR 7 i ttOk rfl rfl rfl rfl rfl rfl rfl rfl rfl hr1 ?_
    rintro ad2 rfl
    have e2i : i < (out).length := (by first | assumption | omega)
    obtain ⟨e2, e2h⟩ : ∃ e2, (out)[i]? = some e2 := ⟨_, List.getElem?_eq_getElem e2i⟩
    have ok2 : GoT.ok n e2 := v3 _ (List.mem_of_getElem? e2h)
    refine WX.opnE (α := Key) (e := e2) 7 1 5 i rfl rfl rfl e2h (fun _ => rfl) (fun _ _ _ => rfl) (fun _ _ _ => rfl) ?_
    rintro A1 B1 ⟨⟨p4, c3⟩, ⟨⟩⟩ hA1 hB1
    refine WX.stA 7 ttOk rfl rfl rfl rfl rfl rfl rfl rfl rfl rfl rfl rfl rfl rfl hA1 hr1 rfl rfl rfl rfl (by simp) rfl ?_
    refine WX.run ttOk rfl ?_
    refine WX.see rfl rfl rfl (fun _ hΓ => looks_arith rfl rfl rfl rfl (by unfold I64; first | omega | (dsimp only; omega))) ?_
    refine WX.run ttOk rfl ?_
    refine WX.turn [4, 7, 8] 9 rfl (fun h hs => cl_elem (α := Key) (e := (laws_toKey e1)) (x := ((p3, c2), ())) e2i hs) (gs := [MF.ol (A1 ++ [.slice p3 (((laws_toKey e1).name.parts).length) c2, .int .i64 ((laws_toKey e1).secret)] ++ B1) (out.set i (laws_toKey e1))]) rfl ?_
    refine WX.turn [9] 1 rfl (fun _ h => h) rfl ?_
    exact WX.iter ((A1 ++ [.slice p3 (((laws_toKey e1).name.parts).length) c2, .int .i64 ((laws_toKey e1).secret)] ++ B1), ((out.set i (laws_toKey e1)) : List Key), i + 1) ⟨(by omega), (by first | assumption | omega | (simp only [List.length_append, List.length_cons, List.length_nil, List.length_set, List.length_map, List.length_take, List.length_drop]; omega) | (simp; omega)), (all_set v3 (show GoT.ok n ((laws_toKey e1) : Key) from hq1)), (by rw [v4, drop_get e1h]; simp only [laws_toKeyS_L1, e2h, cond_true, cond_false])⟩ (by dsimp only; omega) (.cons rfl (.cons rfl (.cons rfl (.nil)))) .nil (.cons rfl (.nil)) [0, 1] rfl
  · skip
    have h1d := B.df h1
    refine WX.run ttOk rfl ?_
    have hX1 : laws_toKeyS_L1 a 0 ((List.replicate ((a).length) (Key.mk (Name.mk ([])) 0)) : List Key) = ((out) : List Key) := by rw [v4, List.drop_eq_nil_of_le (show (a).length ≤ i by omega)]; simp only [laws_toKeyS_L1, cond_true, cond_false]
    refine WX.seal 7 1 10 rfl rfl (show (a).length = (out).length from by omega) rfl rfl ?_
    refine WX.slot 2 (y := .v (.slice p1 (out).length ((a).length))) rfl (fun _ => by show (Value.slice p1 ((a).length) ((a).length) : Value) = Value.slice p1 (out).length ((a).length); rw [(show (a).length = (out).length from by omega)]) ?_
    refine WX.slot 22 (y := .v (.slice p1 (out).length ((a).length))) rfl (fun _ => by show (Value.slice p1 ((a).length) ((a).length) : Value) = Value.slice p1 (out).length ((a).length); rw [(show (a).length = (out).length from by omega)]) ?_
    refine WX.slot 3 (y := .v (.slice p1 (out).length ((a).length))) rfl (fun _ => by show (Value.slice p1 ((a).length) ((a).length) : Value) = Value.slice p1 (out).length ((a).length); rw [(show (a).length = (out).length from by omega)]) ?_
    have hP1 : laws_toKeyS a = out := by simp only [laws_toKeyS, hX1, cond_true, cond_false]
    refine WX.ret ttOk rfl ?_
    intro w1 G bs hI hΓ
    rw [hP1]
    exact Post.of [11] (p1, ((a).length)) hI hΓ rfl rfl rfl (okl_mk (by omega) v3 : GoT.ok n (out : List Key))
theorem f307 (w : World) (n : Nat) (hn : n + 0 ≤ 9) (a : Pattern) (pa : Option Addr) (ca : Nat) (hpa : RdSl (hp w) pa ca a.parts) (hoka : GoT.ok n a) :
    Does Tryz.prog 307 #[.agg #[.slice pa ((a.parts).length) ca]] w emp (Post w emp (fun x : GoT.X (Pattern) => .agg ⟨GoT.sh ((laws_toPattern a) : Pattern) x⟩) (fun x => GoT.oa ((laws_toPattern a) : Pattern) x) (GoT.ok n ((laws_toPattern a) : Pattern))) := by
  have hbP := bd_pos n
  have hbB := bd_big (n := n) (by omega)
  refine WX.enter (tt := tt) (Γ := [(0, MF.rs .stb pa ca a.parts)]) Tryz.func307 rfl (by kernel_rfl) rfl (allS_cons rfl hpa allS_nil) ?_
  refine WX.run ttOk rfl ?_
  refine WX.callF 1 (fun _ _ h => GoT.ow_rd h) (fun _ f hf => GoT.fak f hf) rfl rfl rfl rfl rfl (fun _ => rfl) rfl (fun w G bs hI hΓ => f183 w n (by omega) a.parts pa ca (hΓ.get 0 rfl) (ok_Pattern hoka)) (fun _ => rfl) (fun _ => rfl) ?_
  rintro ⟨p1, c1⟩ hq1
  refine WX.run ttOk rfl ?_
  have hP1 : laws_toPattern a = (Pattern.mk (laws_toStringS a.parts)) := by simp only [laws_toPattern, cond_true, cond_false]
  refine WX.ret ttOk rfl ?_
  intro w1 G bs hI hΓ
  rw [hP1]
  exact Post.of [2] (p1, c1) hI hΓ rfl rfl rfl hq1
theorem f209 (w : World) (n : Nat) (hn : n + 0 ≤ 9) (a : Rule) (paDataPattern : Option Addr) (caDataPattern : Nat) (hpaDataPattern : RdSl (hp w) paDataPattern caDataPattern a.dataPattern.parts) (paKeyPattern : Option Addr) (caKeyPattern : Nat) (hpaKeyPattern : RdSl (hp w) paKeyPattern caKeyPattern a.keyPattern.parts) (hoka : GoT.ok n a) :
    Does Tryz.prog 209 #[.agg #[.slice paDataPattern ((a.dataPattern.parts).length) caDataPattern, .slice paKeyPattern ((a.keyPattern.parts).length) caKeyPattern]] w emp (Post w emp (fun x : GoT.X (Rule) => .agg ⟨GoT.sh ((laws_toRule a) : Rule) x⟩) (fun x => GoT.oa ((laws_toRule a) : Rule) x) (GoT.ok n ((laws_toRule a) : Rule))) := by
  have hbP := bd_pos n
  have hbB := bd_big (n := n) (by omega)
  refine WX.enter (tt := tt) (Γ := [(0, MF.rs .stb paDataPattern caDataPattern a.dataPattern.parts), (1, MF.rs .stb paKeyPattern caKeyPattern a.keyPattern.parts)]) Tryz.func209 rfl (by kernel_rfl) rfl (allS_cons rfl hpaDataPattern (allS_cons rfl hpaKeyPattern allS_nil)) ?_
  refine WX.run ttOk rfl ?_
  refine WX.callF 2 (fun _ _ h => GoT.ow_rd h) (fun _ f hf => GoT.fak f hf) rfl rfl rfl rfl rfl (fun _ => rfl) rfl (fun w G bs hI hΓ => f307 w n (by omega) a.dataPattern paDataPattern caDataPattern (hΓ.get 0 rfl) ((ok_Rule hoka).1)) (fun _ => rfl) (fun _ => rfl) ?_
  rintro ⟨p1, c1⟩ hq1
  refine WX.run ttOk rfl ?_
  refine WX.callF 4 (fun _ _ h => GoT.ow_rd h) (fun _ f hf => GoT.fak f hf) rfl rfl rfl rfl rfl (fun _ => rfl) rfl (fun w G bs hI hΓ => f307 w n (by omega) a.keyPattern paKeyPattern caKeyPattern (hΓ.get 1 rfl) ((ok_Rule hoka).2)) (fun _ => rfl) (fun _ => rfl) ?_
  rintro ⟨p2, c2⟩ hq2
  refine WX.run ttOk rfl ?_
  have hP1 : laws_toRule a = (Rule.mk (laws_toPattern a.dataPattern) (laws_toPattern a.keyPattern)) := by simp only [laws_toRule, cond_true, cond_false]
  refine WX.ret ttOk rfl ?_
  intro w1 G bs hI hΓ
  rw [hP1]
  exact Post.of [3, 5] ((p1, c1), (p2, c2)) hI hΓ rfl rfl rfl (And.intro hq1 hq2)
theorem f96 (w : World) (n : Nat) (hn : n + 0 ≤ 9) (a : (List Rule)) (pa : Option Addr) (ca : Nat) (hpa : RdSl (hp w) pa ca a) (hoka : GoT.ok n a) :
    Does Tryz.prog 96 #[.slice pa ((a).length) ca] w emp (Post w emp (fun x : GoT.X ((List Rule)) => (GoT.sh ((laws_toRuleS a) : (List Rule)) x).headD undef) (fun x => GoT.oa ((laws_toRuleS a) : (List Rule)) x) (GoT.ok n ((laws_toRuleS a) : (List Rule)))) := by
  have hbP := bd_pos n
  have hbB := bd_big (n := n) (by omega)
  refine WX.enter (tt := tt) (Γ := [(0, MF.rs .stb pa ca a)]) Tryz.func96 rfl (by kernel_rfl) rfl (allS_cons rfl hpa allS_nil) ?_
  refine WX.run ttOk rfl ?_
  have r1 : (a).length ≤ bd n := (okl hoka).1
  refine WX.mkS ((a).length) ttOk rfl rfl rfl rfl rfl rfl rfl (by omega) (by omega) rfl ?_
  intro p1
  refine WX.free 1 (MF.ol (zrep ((a).length) [.slice none (0) 0, .slice none (0) 0]) ((List.replicate ((a).length) (Rule.mk (Pattern.mk ([])) (Pattern.mk ([])))) : List Rule)) (ol_zrep (α := Rule) (z0 := (Rule.mk (Pattern.mk ([])) (Pattern.mk ([])))) (x0 := ((none, 0), (none, 0))) rfl (sep_emp_cons (owSl_nil _ _) (sep_emp_cons (owSl_nil _ _) trivial)) _) ?_
  refine WX.run ttOk rfl ?_
  refine WX.loop (ι := (List Value) × (List Rule) × Nat) ⟨fun | (xsout, out, i) => (i ≤ (a).length) ∧ (out.length = (a).length) ∧ (∀ z_ ∈ out, GoT.ok n z_) ∧ (laws_toRuleS_L1 a 0 ((List.replicate ((a).length) (Rule.mk (Pattern.mk ([])) (Pattern.mk ([])))) : List Rule) = laws_toRuleS_L1 ((a).drop i) i out), fun | (xsout, out, i) => (a).length - i, fun | (xsout, out, i) => [(3, .v (.slice p1 ((a).length) ((a).length))), (4, .v (.int .i64 (((i : Nat) : Int)))), (0, .v (.slice pa ((a).length) ca))], fun | (xsout, out, i) => [], fun | (xsout, out, i) => [(7, ⟨2, p1, (a).length, ((a).length), xsout⟩)], fun | (xsout, out, i) => [(0, MF.rs .stb pa ca a), (1, MF.ol xsout (out : List Rule))]⟩ ((zrep ((a).length) [.slice none (0) 0, .slice none (0) 0]), ((List.replicate ((a).length) (Rule.mk (Pattern.mk ([])) (Pattern.mk ([])))) : List Rule), 0) ⟨(Nat.zero_le _), (by simp), (all_rep (And.intro (ok_nil (α := Str)) (ok_nil (α := Str)))), rfl⟩
    (.cons rfl (.cons rfl (.cons rfl (.nil)))) .nil (.cons rfl (.nil)) [0, 1] rfl ?_
  rintro ⟨xsout, out, i⟩ hpre
  have hpre_ : (i ≤ (a).length) ∧ (out.length = (a).length) ∧ (∀ z_ ∈ out, GoT.ok n z_) ∧ (laws_toRuleS_L1 a 0 ((List.replicate ((a).length) (Rule.mk (Pattern.mk ([])) (Pattern.mk ([])))) : List Rule) = laws_toRuleS_L1 ((a).drop i) i out) := hpre
  clear hpre
  obtain ⟨v1, v2, v3, v4⟩ := hpre_
  refine WX.run ttOk rfl ?_
  refine WX.cases 11 rfl (fun h1 => ?_) (fun h1 => ?_)
  · skip
    have h1d := B.dt h1
    have e1i : i < (a).length := (by omega)
    obtain ⟨e1, e1h⟩ : ∃ e1, (a)[i]? = some e1 := ⟨_, List.getElem?_eq_getElem e1i⟩
    have ok1 : GoT.ok n e1 := (okl hoka).2 _ (List.mem_of_getElem? e1h)
    refine WX.run ttOk rfl ?_
    refine WX.idx 0 i ttOk rfl rfl rfl rfl rfl rfl rfl rfl rfl rfl e1i ?_
    rintro ad1 rfl
    refine WX.ldE 0 2 e1 ttOk rfl rfl rfl rfl rfl rfl rfl rfl e1h (fun _ => rfl) (fun _ => rfl) ?_
    rintro ⟨⟨p2, c1⟩, ⟨p3, c2⟩⟩
    refine WX.callF 4 (fun _ _ h => GoT.ow_rd h) (fun _ f hf => GoT.fak f hf) rfl rfl rfl rfl rfl (fun _ => rfl) rfl (fun w G bs hI hΓ => f209 w n (by omega) e1 p2 c1 (hΓ.get 2 rfl) p3 c2 (hΓ.get 3 rfl) ok1) (fun _ => rfl) (fun _ => rfl) ?_
    rintro ⟨⟨p4, c3⟩, ⟨p5, c4⟩⟩ hq1
    have hr1 : i < (a).length := (by first | assumption | omega)
    refine WX.idxR 7 i ttOk rfl rfl rfl rfl rfl rfl rfl rfl rfl hr1 ?_
    rintro ad2 rfl
    have e2i : i < (out).length := (by first | assumption | omega)
    obtain ⟨e2, e2h⟩ : ∃ e2, (out)[i]? = some e2 := ⟨_, List.getElem?_eq_getElem e2i⟩
    have ok2 : GoT.ok n e2 := v3 _ (List.mem_of_getElem? e2h)
    refine WX.opnE (α := Rule) (e := e2) 7 1 8 i rfl rfl rfl e2h (fun _ => rfl) (fun _ _ _ => rfl) (fun _ _ _ => rfl) ?_
    rintro A1 B1 ⟨⟨p6, c5⟩, ⟨p7, c6⟩⟩ hA1 hB1
    refine WX.stA 7 ttOk rfl rfl rfl rfl rfl rfl rfl rfl rfl rfl rfl rfl rfl rfl hA1 hr1 rfl rfl rfl rfl (by simp) rfl ?_
    refine WX.run ttOk rfl ?_
    refine WX.see rfl rfl rfl (fun _ hΓ => looks_arith rfl rfl rfl rfl (by unfold I64; first | omega | (dsimp only; omega))) ?_
    refine WX.run ttOk rfl ?_
    refine WX.turn [6, 7, 12, 13] 14 rfl (fun h hs => cl_elem (α := Rule) (e := (laws_toRule e1)) (x := ((p4, c3), (p5, c4))) e2i hs) (gs := [MF.ol (A1 ++ [.slice p4 (((laws_toRule e1).dataPattern.parts).length) c3, .slice p5 (((laws_toRule e1).keyPattern.parts).length) c4] ++ B1) (out.set i (laws_toRule e1))]) rfl ?_
    refine WX.turn [14] 1 rfl (fun _ h => h) rfl ?_
    exact WX.iter ((A1 ++ [.slice p4 (((laws_toRule e1).dataPattern.parts).length) c3, .slice p5 (((laws_toRule e1).keyPattern.parts).length) c4] ++ B1), ((out.set i (laws_toRule e1)) : List Rule), i + 1) ⟨(by omega), (by first | assumption | omega | (simp only [List.length_append, List.length_cons, List.length_nil, List.length_set, List.length_map, List.length_take, List.length_drop]; omega) | (simp; omega)), (all_set v3 (show GoT.ok n ((laws_toRule e1) : Rule) from hq1)), (by rw [v4, drop_get e1h]; simp only [laws_toRuleS_L1, e2h, cond_true, cond_false])⟩ (by dsimp only; omega) (.cons rfl (.cons rfl (.cons rfl (.nil)))) .nil (.cons rfl (.nil)) [0, 1] rfl
  · skip
    have h1d := B.df h1
    refine WX.run ttOk rfl ?_
    have hX1 : laws_toRuleS_L1 a 0 ((List.replicate ((a).length) (Rule.mk (Pattern.mk ([])) (Pattern.mk ([])))) : List Rule) = ((out) : List Rule) := by rw [v4, List.drop_eq_nil_of_le (show (a).length ≤ i by omega)]; simp only [laws_toRuleS_L1, cond_true, cond_false]
    refine WX.seal 7 1 15 rfl rfl (show (a).length = (out).length from by omega) rfl rfl ?_
    refine WX.slot 2 (y := .v (.slice p1 (out).length ((a).length))) rfl (fun _ => by show (Value.slice p1 ((a).length) ((a).length) : Value) = Value.slice p1 (out).length ((a).length); rw [(show (a).length = (out).length from by omega)]) ?_
    refine WX.slot 22 (y := .v (.slice p1 (out).length ((a).length))) rfl (fun _ => by show (Value.slice p1 ((a).length) ((a).length) : Value) = Value.slice p1 (out).length ((a).length); rw [(show (a).length = (out).length from by omega)]) ?_
    refine WX.slot 3 (y := .v (.slice p1 (out).length ((a).length))) rfl (fun _ => by show (Value.slice p1 ((a).length) ((a).length) : Value) = Value.slice p1 (out).length ((a).length); rw [(show (a).length = (out).length from by omega)]) ?_
    have hP1 : laws_toRuleS a = out := by simp only [laws_toRuleS, hX1, cond_true, cond_false]
    refine WX.ret ttOk rfl ?_
    intro w1 G bs hI hΓ
    rw [hP1]
    exact Post.of [16] (p1, ((a).length)) hI hΓ rfl rfl rfl (okl_mk (by omega) v3 : GoT.ok n (out : List Rule))
theorem f97 (w : World) (n : Nat) (hn : n + 0 ≤ 9) (a : (List Name)) (pa : Option Addr) (ca : Nat) (hpa : RdSl (hp w) pa ca a) (hoka : GoT.ok n a) :
    Does Tryz.prog 97 #[.slice pa ((a).length) ca] w emp (Post w emp (fun x : GoT.X ((List Name)) => (GoT.sh ((laws_toNameS a) : (List Name)) x).headD undef) (fun x => GoT.oa ((laws_toNameS a) : (List Name)) x) (GoT.ok n ((laws_toNameS a) : (List Name)))) := by
  have hbP := bd_pos n
  have hbB := bd_big (n := n) (by omega)
  refine WX.enter (tt := tt) (Γ := [(0, MF.rs .stb pa ca a)]) Tryz.func97 rfl (by kernel_rfl) rfl (allS_cons rfl hpa allS_nil) ?_
  refine WX.run ttOk rfl ?_
  have r1 : (a).length ≤ bd n := (okl hoka).1
  refine WX.mkS ((a).length) ttOk rfl rfl rfl rfl rfl rfl rfl (by omega) (by omega) rfl ?_
  intro p1
  refine WX.free 1 (MF.ol (zrep ((a).length) [.slice none (0) 0]) ((List.replicate ((a).length) (Name.mk ([]))) : List Name)) (ol_zrep (α := Name) (z0 := (Name.mk ([]))) (x0 := (none, 0)) rfl (sep_emp_cons (owSl_nil _ _) trivial) _) ?_
  refine WX.run ttOk rfl ?_
  refine WX.loop (ι := (List Value) × (List Name) × Nat) ⟨fun | (xsout, out, i) => (i ≤ (a).length) ∧ (out.length = (a).length) ∧ (∀ z_ ∈ out, GoT.ok n z_) ∧ (laws_toNameS_L1 a 0 ((List.replicate ((a).length) (Name.mk ([]))) : List Name) = laws_toNameS_L1 ((a).drop i) i out), fun | (xsout, out, i) => (a).length - i, fun | (xsout, out, i) => [(3, .v (.slice p1 ((a).length) ((a).length))), (4, .v (.int .i64 (((i : Nat) : Int)))), (0, .v (.slice pa ((a).length) ca))], fun | (xsout, out, i) => [], fun | (xsout, out, i) => [(7, ⟨1, p1, (a).length, ((a).length), xsout⟩)], fun | (xsout, out, i) => [(0, MF.rs .stb pa ca a), (1, MF.ol xsout (out : List Name))]⟩ ((zrep ((a).length) [.slice none (0) 0]), ((List.replicate ((a).length) (Name.mk ([]))) : List Name), 0) ⟨(Nat.zero_le _), (by simp), (all_rep (ok_nil (α := Str))), rfl⟩
    (.cons rfl (.cons rfl (.cons rfl (.nil)))) .nil (.cons rfl (.nil)) [0, 1] rfl ?_
  rintro ⟨xsout, out, i⟩ hpre
  have hpre_ : (i ≤ (a).length) ∧ (out.length = (a).length) ∧ (∀ z_ ∈ out, GoT.ok n z_) ∧ (laws_toNameS_L1 a 0 ((List.replicate ((a).length) (Name.mk ([]))) : List Name) = laws_toNameS_L1 ((a).drop i) i out) := hpre
  clear hpre
  obtain ⟨v1, v2, v3, v4⟩ := hpre_
  refine WX.run ttOk rfl ?_
  refine WX.cases 11 rfl (fun h1 => ?_) (fun h1 => ?_)
  · skip
    have h1d := B.dt h1
    have e1i : i < (a).length := (by omega)
    obtain ⟨e1, e1h⟩ : ∃ e1, (a)[i]? = some e1 := ⟨_, List.getElem?_eq_getElem e1i⟩
    have ok1 : GoT.ok n e1 := (okl hoka).2 _ (List.mem_of_getElem? e1h)
    refine WX.run ttOk rfl ?_
    refine WX.idx 0 i ttOk rfl rfl rfl rfl rfl rfl rfl rfl rfl rfl e1i ?_
    rintro ad1 rfl
    refine WX.ldE 0 2 e1 ttOk rfl rfl rfl rfl rfl rfl rfl rfl e1h (fun _ => rfl) (fun _ => rfl) ?_
    rintro ⟨p2, c1⟩
    refine WX.callF 3 (fun _ _ h => GoT.ow_rd h) (fun _ f hf => GoT.fak f hf) rfl rfl rfl rfl rfl (fun _ => rfl) rfl (fun w G bs hI hΓ => f65 w n (by omega) e1 p2 c1 (hΓ.get 2 rfl) ok1) (fun _ => rfl) (fun _ => rfl) ?_
    rintro ⟨p3, c2⟩ hq1
    have hr1 : i < (a).length := (by first | assumption | omega)
    refine WX.idxR 7 i ttOk rfl rfl rfl rfl rfl rfl rfl rfl rfl hr1 ?_
    rintro ad2 rfl
    have e2i : i < (out).length := (by first | assumption | omega)
    obtain ⟨e2, e2h⟩ : ∃ e2, (out)[i]? = some e2 := ⟨_, List.getElem?_eq_getElem e2i⟩
    have ok2 : GoT.ok n e2 := v3 _ (List.mem_of_getElem? e2h)
    refine WX.opnE (α := Name) (e := e2) 7 1 5 i rfl rfl rfl e2h (fun _ => rfl) (fun _ _ _ => rfl) (fun _ _ _ => rfl) ?_
    rintro A1 B1 ⟨p4, c3⟩ hA1 hB1
    refine WX.stA 7 ttOk rfl rfl rfl rfl rfl rfl rfl rfl rfl rfl rfl rfl rfl rfl hA1 hr1 rfl rfl rfl rfl (by simp) rfl ?_
    refine WX.run ttOk rfl ?_
    refine WX.see rfl rfl rfl (fun _ hΓ => looks_arith rfl rfl rfl rfl (by unfold I64; first | omega | (dsimp only; omega))) ?_
    refine WX.run ttOk rfl ?_
    refine WX.turn [4, 7, 8] 9 rfl (fun h hs => cl_elem (α := Name) (e := (laws_toName e1)) (x := (p3, c2)) e2i hs) (gs := [MF.ol (A1 ++ [.slice p3 (((laws_toName e1).parts).length) c2] ++ B1) (out.set i (laws_toName e1))]) rfl ?_
    refine WX.turn [9] 1 rfl (fun _ h => h) rfl ?_
    exact WX.iter ((A1 ++ [.slice p3 (((laws_toName e1).parts).length) c2] ++ B1), ((out.set i (laws_toName e1)) : List Name), i + 1) ⟨(by omega), (by first | assumption | omega | (simp only [List.length_append, List.length_cons, List.length_nil, List.length_set, List.length_map, List.length_take, List.length_drop]; omega) | (simp; omega)), (all_set v3 (show GoT.ok n ((laws_toName e1) : Name) from hq1)), (by rw [v4, drop_get e1h]; simp only [laws_toNameS_L1, e2h, cond_true, cond_false])⟩ (by dsimp only; omega) (.cons rfl (.cons rfl (.cons rfl (.nil)))) .nil (.cons rfl (.nil)) [0, 1] rfl
  · skip
    have h1d := B.df h1
    refine WX.run ttOk rfl ?_
    have hX1 : laws_toNameS_L1 a 0 ((List.replicate ((a).length) (Name.mk ([]))) : List Name) = ((out) : List Name) := by rw [v4, List.drop_eq_nil_of_le (show (a).length ≤ i by omega)]; simp only [laws_toNameS_L1, cond_true, cond_false]
    refine WX.seal 7 1 10 rfl rfl (show (a).length = (out).length from by omega) rfl rfl ?_
    refine WX.slot 2 (y := .v (.slice p1 (out).length ((a).length))) rfl (fun _ => by show (Value.slice p1 ((a).length) ((a).length) : Value) = Value.slice p1 (out).length ((a).length); rw [(show (a).length = (out).length from by omega)]) ?_
    refine WX.slot 22 (y := .v (.slice p1 (out).length ((a).length))) rfl (fun _ => by show (Value.slice p1 ((a).length) ((a).length) : Value) = Value.slice p1 (out).length ((a).length); rw [(show (a).length = (out).length from by omega)]) ?_
    refine WX.slot 3 (y := .v (.slice p1 (out).length ((a).length))) rfl (fun _ => by show (Value.slice p1 ((a).length) ((a).length) : Value) = Value.slice p1 (out).length ((a).length); rw [(show (a).length = (out).length from by omega)]) ?_
    have hP1 : laws_toNameS a = out := by simp only [laws_toNameS, hX1, cond_true, cond_false]
    refine WX.ret ttOk rfl ?_
    intro w1 G bs hI hΓ
    rw [hP1]
    exact Post.of [11] (p1, ((a).length)) hI hΓ rfl rfl rfl (okl_mk (by omega) v3 : GoT.ok n (out : List Name))
theorem f98 (w : World) (n : Nat) (hn : n + 0 ≤ 9) (a : (List DataP)) (pa : Option Addr) (ca : Nat) (hpa : RdSl (hp w) pa ca a) (hoka : GoT.ok n a) :
    Does Tryz.prog 98 #[.slice pa ((a).length) ca] w emp (Post w emp (fun x : GoT.X ((List DataP)) => (GoT.sh ((laws_toDataS a) : (List DataP)) x).headD undef) (fun x => GoT.oa ((laws_toDataS a) : (List DataP)) x) (GoT.ok n ((laws_toDataS a) : (List DataP)))) := by
  have hbP := bd_pos n
  have hbB := bd_big (n := n) (by omega)
  refine WX.enter (tt := tt) (Γ := [(0, MF.rs .stb pa ca a)]) Tryz.func98 rfl (by kernel_rfl) rfl (allS_cons rfl hpa allS_nil) ?_
  refine WX.run ttOk rfl ?_
  have r1 : (a).length ≤ bd n := (okl hoka).1
  refine WX.mkS ((a).length) ttOk rfl rfl rfl rfl rfl rfl rfl (by omega) (by omega) rfl ?_
  intro p1
  refine WX.free 1 (MF.ol (zrep ((a).length) [.slice none (0) 0, .slice none (0) 0, .slice none (0) 0, .int .i64 (0), .int .i64 (0)]) ((List.replicate ((a).length) (DataP.mk (Name.mk ([])) ([]) (Name.mk ([])) 0 0)) : List DataP)) (ol_zrep (α := DataP) (z0 := (DataP.mk (Name.mk ([])) ([]) (Name.mk ([])) 0 0)) (x0 := ((none, 0), (none, 0), (none, 0), (), ())) rfl (sep_emp_cons (owSl_nil _ _) (sep_emp_cons (owSl_nil _ _) (sep_emp_cons (owSl_nil _ _) trivial))) _) ?_
  refine WX.run ttOk rfl ?_
  refine WX.loop (ι := (List Value) × (List DataP) × Nat) ⟨fun | (xsout, out, i) => (i ≤ (a).length) ∧ (out.length = (a).length) ∧ (∀ z_ ∈ out, GoT.ok n z_) ∧ (laws_toDataS_L1 a 0 ((List.replicate ((a).length) (DataP.mk (Name.mk ([])) ([]) (Name.mk ([])) 0 0)) : List DataP) = laws_toDataS_L1 ((a).drop i) i out), fun | (xsout, out, i) => (a).length - i, fun | (xsout, out, i) => [(3, .v (.slice p1 ((a).length) ((a).length))), (4, .v (.int .i64 (((i : Nat) : Int)))), (0, .v (.slice pa ((a).length) ca))], fun | (xsout, out, i) => [], fun | (xsout, out, i) => [(7, ⟨5, p1, (a).length, ((a).length), xsout⟩)], fun | (xsout, out, i) => [(0, MF.rs .stb pa ca a), (1, MF.ol xsout (out : List DataP))]⟩ ((zrep ((a).length) [.slice none (0) 0, .slice none (0) 0, .slice none (0) 0, .int .i64 (0), .int .i64 (0)]), ((List.replicate ((a).length) (DataP.mk (Name.mk ([])) ([]) (Name.mk ([])) 0 0)) : List DataP), 0) ⟨(Nat.zero_le _), (by simp), (all_rep (And.intro (ok_nil (α := Str)) (And.intro (ok_nil (α := UInt8)) (And.intro (ok_nil (α := Str)) (And.intro (show I64 0 from (by unfold I64; omega)) (show I64 0 from (by unfold I64; omega))))))), rfl⟩
    (.cons rfl (.cons rfl (.cons rfl (.nil)))) .nil (.cons rfl (.nil)) [0, 1] rfl ?_
  rintro ⟨xsout, out, i⟩ hpre
  have hpre_ : (i ≤ (a).length) ∧ (out.length = (a).length) ∧ (∀ z_ ∈ out, GoT.ok n z_) ∧ (laws_toDataS_L1 a 0 ((List.replicate ((a).length) (DataP.mk (Name.mk ([])) ([]) (Name.mk ([])) 0 0)) : List DataP) = laws_toDataS_L1 ((a).drop i) i out) := hpre
  clear hpre
  obtain ⟨v1, v2, v3, v4⟩ := hpre_
  refine WX.run ttOk rfl ?_
  refine WX.cases 11 rfl (fun h1 => ?_) (fun h1 => ?_)
  · skip
    have h1d := B.dt h1
    have e1i : i < (a).length := (by omega)
    obtain ⟨e1, e1h⟩ : ∃ e1, (a)[i]? = some e1 := ⟨_, List.getElem?_eq_getElem e1i⟩
    have ok1 : GoT.ok n e1 := (okl hoka).2 _ (List.mem_of_getElem? e1h)
    refine WX.run ttOk rfl ?_
    refine WX.idx 0 i ttOk rfl rfl rfl rfl rfl rfl rfl rfl rfl rfl e1i ?_
    rintro ad1 rfl
    refine WX.ldE 0 2 e1 ttOk rfl rfl rfl rfl rfl rfl rfl rfl e1h (fun _ => rfl) (fun _ => rfl) ?_
    rintro ⟨⟨p2, c1⟩, ⟨p3, c2⟩, ⟨p4, c3⟩, ⟨⟩, ⟨⟩⟩
    refine WX.callF 5 (fun _ _ h => GoT.ow_rd h) (fun _ f hf => GoT.fak f hf) rfl rfl rfl rfl rfl (fun _ => rfl) rfl (fun w G bs hI hΓ => f34 w n (by omega) e1 p2 c1 (hΓ.get 2 rfl) p3 c2 (hΓ.get 3 rfl) p4 c3 (hΓ.get 4 rfl) ok1) (fun _ => rfl) (fun _ => rfl) ?_
    rintro ⟨⟨p5, c4⟩, ⟨p6, c5⟩, ⟨p7, c6⟩, ⟨⟩, ⟨⟩⟩ hq1
    have hr1 : i < (a).length := (by first | assumption | omega)
    refine WX.idxR 7 i ttOk rfl rfl rfl rfl rfl rfl rfl rfl rfl hr1 ?_
    rintro ad2 rfl
    have e2i : i < (out).length := (by first | assumption | omega)
    obtain ⟨e2, e2h⟩ : ∃ e2, (out)[i]? = some e2 := ⟨_, List.getElem?_eq_getElem e2i⟩
    have ok2 : GoT.ok n e2 := v3 _ (List.mem_of_getElem? e2h)
    refine WX.opnE (α := DataP) (e := e2) 7 1 11 i rfl rfl rfl e2h (fun _ => rfl) (fun _ _ _ => rfl) (fun _ _ _ => rfl) ?_
    rintro A1 B1 ⟨⟨p8, c7⟩, ⟨p9, c8⟩, ⟨p10, c9⟩, ⟨⟩, ⟨⟩⟩ hA1 hB1
    refine WX.stA 7 ttOk rfl rfl rfl rfl rfl rfl rfl rfl rfl rfl rfl rfl rfl rfl hA1 hr1 rfl rfl rfl rfl (by simp) rfl ?_
    refine WX.run ttOk rfl ?_
    refine WX.see rfl rfl rfl (fun _ hΓ => looks_arith rfl rfl rfl rfl (by unfold I64; first | omega | (dsimp only; omega))) ?_
    refine WX.run ttOk rfl ?_
    refine WX.turn [8, 9, 10, 17, 18] 19 rfl (fun h hs => cl_elem (α := DataP) (e := (laws_toData e1)) (x := ((p5, c4), (p6, c5), (p7, c6), (), ())) e2i hs) (gs := [MF.ol (A1 ++ [.slice p5 (((laws_toData e1).name.parts).length) c4, .slice p6 (((laws_toData e1).content).length) c5, .slice p7 (((laws_toData e1).keyName.parts).length) c6, .int .i64 ((laws_toData e1).freshUntil), .int .i64 ((laws_toData e1).signature)] ++ B1) (out.set i (laws_toData e1))]) rfl ?_
    refine WX.turn [19] 1 rfl (fun _ h => h) rfl ?_
    exact WX.iter ((A1 ++ [.slice p5 (((laws_toData e1).name.parts).length) c4, .slice p6 (((laws_toData e1).content).length) c5, .slice p7 (((laws_toData e1).keyName.parts).length) c6, .int .i64 ((laws_toData e1).freshUntil), .int .i64 ((laws_toData e1).signature)] ++ B1), ((out.set i (laws_toData e1)) : List DataP), i + 1) ⟨(by omega), (by first | assumption | omega | (simp only [List.length_append, List.length_cons, List.length_nil, List.length_set, List.length_map, List.length_take, List.length_drop]; omega) | (simp; omega)), (all_set v3 (show GoT.ok n ((laws_toData e1) : DataP) from hq1)), (by rw [v4, drop_get e1h]; simp only [laws_toDataS_L1, e2h, cond_true, cond_false])⟩ (by dsimp only; omega) (.cons rfl (.cons rfl (.cons rfl (.nil)))) .nil (.cons rfl (.nil)) [0, 1] rfl
  · skip
    have h1d := B.df h1
    refine WX.run ttOk rfl ?_
    have hX1 : laws_toDataS_L1 a 0 ((List.replicate ((a).length) (DataP.mk (Name.mk ([])) ([]) (Name.mk ([])) 0 0)) : List DataP) = ((out) : List DataP) := by rw [v4, List.drop_eq_nil_of_le (show (a).length ≤ i by omega)]; simp only [laws_toDataS_L1, cond_true, cond_false]
    refine WX.seal 7 1 20 rfl rfl (show (a).length = (out).length from by omega) rfl rfl ?_
    refine WX.slot 2 (y := .v (.slice p1 (out).length ((a).length))) rfl (fun _ => by show (Value.slice p1 ((a).length) ((a).length) : Value) = Value.slice p1 (out).length ((a).length); rw [(show (a).length = (out).length from by omega)]) ?_
    refine WX.slot 22 (y := .v (.slice p1 (out).length ((a).length))) rfl (fun _ => by show (Value.slice p1 ((a).length) ((a).length) : Value) = Value.slice p1 (out).length ((a).length); rw [(show (a).length = (out).length from by omega)]) ?_
    refine WX.slot 3 (y := .v (.slice p1 (out).length ((a).length))) rfl (fun _ => by show (Value.slice p1 ((a).length) ((a).length) : Value) = Value.slice p1 (out).length ((a).length); rw [(show (a).length = (out).length from by omega)]) ?_
    have hP1 : laws_toDataS a = out := by simp only [laws_toDataS, hX1, cond_true, cond_false]
    refine WX.ret ttOk rfl ?_
    intro w1 G bs hI hΓ
    rw [hP1]
    exact Post.of [21] (p1, ((a).length)) hI hΓ rfl rfl rfl (okl_mk (by omega) v3 : GoT.ok n (out : List DataP))
theorem f33 (w : World) (n : Nat) (hn : n + 0 ≤ 9) (a : TrustPolicy) (paKeys : Option Addr) (caKeys : Nat) (hpaKeys : RdSl (hp w) paKeys caKeys a.keys) (paRules : Option Addr) (caRules : Nat) (hpaRules : RdSl (hp w) paRules caRules a.rules) (paAnchors : Option Addr) (caAnchors : Nat) (hpaAnchors : RdSl (hp w) paAnchors caAnchors a.anchors) (paCertificates : Option Addr) (caCertificates : Nat) (hpaCertificates : RdSl (hp w) paCertificates caCertificates a.certificates) (hoka : GoT.ok n a) :
    Does Tryz.prog 33 #[.agg #[.slice paKeys ((a.keys).length) caKeys, .slice paRules ((a.rules).length) caRules, .slice paAnchors ((a.anchors).length) caAnchors, .slice paCertificates ((a.certificates).length) caCertificates]] w emp (Post w emp (fun x : GoT.X (TrustPolicy) => .agg ⟨GoT.sh ((laws_toTrustPolicy a) : TrustPolicy) x⟩) (fun x => GoT.oa ((laws_toTrustPolicy a) : TrustPolicy) x) (GoT.ok n ((laws_toTrustPolicy a) : TrustPolicy))) := by
  have hbP := bd_pos n
  have hbB := bd_big (n := n) (by omega)
  refine WX.enter (tt := tt) (Γ := [(0, MF.rs .stb paKeys caKeys a.keys), (1, MF.rs .stb paRules caRules a.rules), (2, MF.rs .stb paAnchors caAnchors a.anchors), (3, MF.rs .stb paCertificates caCertificates a.certificates)]) Tryz.func33 rfl (by kernel_rfl) rfl (allS_cons rfl hpaKeys (allS_cons rfl hpaRules (allS_cons rfl hpaAnchors (allS_cons rfl hpaCertificates allS_nil)))) ?_
  refine WX.run ttOk rfl ?_
  refine WX.callF 4 (fun _ _ h => GoT.ow_rd h) (fun _ f hf => GoT.fak f hf) rfl rfl rfl rfl rfl (fun _ => rfl) rfl (fun w G bs hI hΓ => f95 w n (by omega) a.keys paKeys caKeys (hΓ.get 0 rfl) ((ok_TrustPolicy hoka).1)) (fun _ => rfl) (fun _ => rfl) ?_
  rintro ⟨p1, c1⟩ hq1
  refine WX.run ttOk rfl ?_
  refine WX.callF 6 (fun _ _ h => GoT.ow_rd h) (fun _ f hf => GoT.fak f hf) rfl rfl rfl rfl rfl (fun _ => rfl) rfl (fun w G bs hI hΓ => f96 w n (by omega) a.rules paRules caRules (hΓ.get 1 rfl) ((ok_TrustPolicy hoka).2.1)) (fun _ => rfl) (fun _ => rfl) ?_
  rintro ⟨p2, c2⟩ hq2
  refine WX.run ttOk rfl ?_
  refine WX.callF 8 (fun _ _ h => GoT.ow_rd h) (fun _ f hf => GoT.fak f hf) rfl rfl rfl rfl rfl (fun _ => rfl) rfl (fun w G bs hI hΓ => f97 w n (by omega) a.anchors paAnchors caAnchors (hΓ.get 2 rfl) ((ok_TrustPolicy hoka).2.2.1)) (fun _ => rfl) (fun _ => rfl) ?_
  rintro ⟨p3, c3⟩ hq3
  refine WX.run ttOk rfl ?_
  refine WX.callF 10 (fun _ _ h => GoT.ow_rd h) (fun _ f hf => GoT.fak f hf) rfl rfl rfl rfl rfl (fun _ => rfl) rfl (fun w G bs hI hΓ => f98 w n (by omega) a.certificates paCertificates caCertificates (hΓ.get 3 rfl) ((ok_TrustPolicy hoka).2.2.2)) (fun _ => rfl) (fun _ => rfl) ?_
  rintro ⟨p4, c4⟩ hq4
  refine WX.run ttOk rfl ?_
  have hP1 : laws_toTrustPolicy a = (TrustPolicy.mk (laws_toKeyS a.keys) (laws_toRuleS a.rules) (laws_toNameS a.anchors) (laws_toDataS a.certificates)) := by simp only [laws_toTrustPolicy, cond_true, cond_false]
  refine WX.ret ttOk rfl ?_
  intro w1 G bs hI hΓ
  rw [hP1]
  exact Post.of [5, 7, 9, 11] ((p1, c1), (p2, c2), (p3, c3), (p4, c4)) hI hΓ rfl rfl rfl (And.intro hq1 (And.intro hq2 (And.intro hq3 hq4)))
theorem f321 (w : World) (n : Nat) (hn : n + 0 ≤ 9) (a : Link) (hoka : GoT.ok n a) :
    Does Tryz.prog 321 #[.agg #[.int .i64 (a.a), .int .i64 (a.b)]] w emp (fun (rv : Value) (_ : World) => rv = .agg #[.int .i64 ((laws_toLink a).a), .int .i64 ((laws_toLink a).b)] ∧ GoT.ok n ((laws_toLink a) : Link)) := by
  refine WX.enter (tt := tt) (Γ := []) Tryz.func321 rfl (by kernel_rfl) rfl allS_nil ?_
  refine WX.run ttOk rfl ?_
  have hP1 : laws_toLink a = a := by simp only [laws_toLink, cond_true, cond_false]
  refine WX.ret ttOk rfl ?_
  intro w1 G bs hI hΓ
  rw [hP1]
  exact ⟨rfl, hoka⟩
theorem f228 (w : World) (n : Nat) (hn : n + 0 ≤ 9) (a : (List Link)) (pa : Option Addr) (ca : Nat) (hpa : RdSl (hp w) pa ca a) (hoka : GoT.ok n a) :
    Does Tryz.prog 228 #[.slice pa ((a).length) ca] w emp (Post w emp (fun x : GoT.X ((List Link)) => (GoT.sh ((laws_toLinkS a) : (List Link)) x).headD undef) (fun x => GoT.oa ((laws_toLinkS a) : (List Link)) x) (GoT.ok n ((laws_toLinkS a) : (List Link)))) := by
  have hbP := bd_pos n
  have hbB := bd_big (n := n) (by omega)
  refine WX.enter (tt := tt) (Γ := [(0, MF.rs .stb pa ca a)]) Tryz.func228 rfl (by kernel_rfl) rfl (allS_cons rfl hpa allS_nil) ?_
  refine WX.run ttOk rfl ?_
  have r1 : (a).length ≤ bd n := (okl hoka).1
  refine WX.mkS ((a).length) ttOk rfl rfl rfl rfl rfl rfl rfl (by omega) (by omega) rfl ?_
  intro p1
  refine WX.free 1 (MF.ol (zrep ((a).length) [.int .i64 (0), .int .i64 (0)]) ((List.replicate ((a).length) (Link.mk 0 0)) : List Link)) (ol_zrep (α := Link) (z0 := (Link.mk 0 0)) (x0 := ((), ())) rfl trivial _) ?_
  refine WX.run ttOk rfl ?_
  refine WX.loop (ι := (List Value) × (List Link) × Nat) ⟨fun | (xsout, out, i) => (i ≤ (a).length) ∧ (out.length = (a).length) ∧ (∀ z_ ∈ out, GoT.ok n z_) ∧ (laws_toLinkS_L1 a 0 ((List.replicate ((a).length) (Link.mk 0 0)) : List Link) = laws_toLinkS_L1 ((a).drop i) i out), fun | (xsout, out, i) => (a).length - i, fun | (xsout, out, i) => [(3, .v (.slice p1 ((a).length) ((a).length))), (4, .v (.int .i64 (((i : Nat) : Int)))), (0, .v (.slice pa ((a).length) ca))], fun | (xsout, out, i) => [], fun | (xsout, out, i) => [(7, ⟨2, p1, (a).length, ((a).length), xsout⟩)], fun | (xsout, out, i) => [(0, MF.rs .stb pa ca a), (1, MF.ol xsout (out : List Link))]⟩ ((zrep ((a).length) [.int .i64 (0), .int .i64 (0)]), ((List.replicate ((a).length) (Link.mk 0 0)) : List Link), 0) ⟨(Nat.zero_le _), (by simp), (all_rep (And.intro (show I64 0 from (by unfold I64; omega)) (show I64 0 from (by unfold I64; omega)))), rfl⟩
    (.cons rfl (.cons rfl (.cons rfl (.nil)))) .nil (.cons rfl (.nil)) [0, 1] rfl ?_
  rintro ⟨xsout, out, i⟩ hpre
  have hpre_ : (i ≤ (a).length) ∧ (out.length = (a).length) ∧ (∀ z_ ∈ out, GoT.ok n z_) ∧ (laws_toLinkS_L1 a 0 ((List.replicate ((a).length) (Link.mk 0 0)) : List Link) = laws_toLinkS_L1 ((a).drop i) i out) := hpre
  clear hpre
  obtain ⟨v1, v2, v3, v4⟩ := hpre_
  refine WX.run ttOk rfl ?_
  refine WX.cases 11 rfl (fun h1 => ?_) (fun h1 => ?_)
  · skip
    have h1d := B.dt h1
    have e1i : i < (a).length := (by omega)
    obtain ⟨e1, e1h⟩ : ∃ e1, (a)[i]? = some e1 := ⟨_, List.getElem?_eq_getElem e1i⟩
    have ok1 : GoT.ok n e1 := (okl hoka).2 _ (List.mem_of_getElem? e1h)
    refine WX.run ttOk rfl ?_
    refine WX.idx 0 i ttOk rfl rfl rfl rfl rfl rfl rfl rfl rfl rfl e1i ?_
    rintro ad1 rfl
    refine WX.ldE 0 2 e1 ttOk rfl rfl rfl rfl rfl rfl rfl rfl e1h (fun _ => rfl) (fun _ => rfl) ?_
    rintro ⟨⟨⟩, ⟨⟩⟩
    refine WX.callV rfl rfl rfl rfl rfl (fun _ => rfl) rfl (fun w G bs hI hΓ => f321 w n (by omega) e1 ok1) ?_
    intro hq1
    have hr1 : i < (a).length := (by first | assumption | omega)
    refine WX.idxR 7 i ttOk rfl rfl rfl rfl rfl rfl rfl rfl rfl hr1 ?_
    rintro ad2 rfl
    have e2i : i < (out).length := (by first | assumption | omega)
    obtain ⟨e2, e2h⟩ : ∃ e2, (out)[i]? = some e2 := ⟨_, List.getElem?_eq_getElem e2i⟩
    have ok2 : GoT.ok n e2 := v3 _ (List.mem_of_getElem? e2h)
    refine WX.opnE (α := Link) (e := e2) 7 1 2 i rfl rfl rfl e2h (fun _ => rfl) (fun _ _ _ => rfl) (fun _ _ _ => rfl) ?_
    rintro A1 B1 ⟨⟨⟩, ⟨⟩⟩ hA1 hB1
    refine WX.stA 7 ttOk rfl rfl rfl rfl rfl rfl rfl rfl rfl rfl rfl rfl rfl rfl hA1 hr1 rfl rfl rfl rfl (by simp) rfl ?_
    refine WX.run ttOk rfl ?_
    refine WX.see rfl rfl rfl (fun _ hΓ => looks_arith rfl rfl rfl rfl (by unfold I64; first | omega | (dsimp only; omega))) ?_
    refine WX.run ttOk rfl ?_
    refine WX.turn [2, 3] 4 rfl (fun h hs => cl_elem (α := Link) (e := (laws_toLink e1)) (x := ((), ())) e2i hs) (gs := [MF.ol (A1 ++ [.int .i64 ((laws_toLink e1).a), .int .i64 ((laws_toLink e1).b)] ++ B1) (out.set i (laws_toLink e1))]) rfl ?_
    refine WX.turn [4] 1 rfl (fun _ h => h) rfl ?_
    exact WX.iter ((A1 ++ [.int .i64 ((laws_toLink e1).a), .int .i64 ((laws_toLink e1).b)] ++ B1), ((out.set i (laws_toLink e1)) : List Link), i + 1) ⟨(by omega), (by first | assumption | omega | (simp only [List.length_append, List.length_cons, List.length_nil, List.length_set, List.length_map, List.length_take, List.length_drop]; omega) | (simp; omega)), (all_set v3 (show GoT.ok n ((laws_toLink e1) : Link) from hq1)), (by rw [v4, drop_get e1h]; simp only [laws_toLinkS_L1, e2h, cond_true, cond_false])⟩ (by dsimp only; omega) (.cons rfl (.cons rfl (.cons rfl (.nil)))) .nil (.cons rfl (.nil)) [0, 1] rfl
  · skip
    have h1d := B.df h1
    refine WX.run ttOk rfl ?_
    have hX1 : laws_toLinkS_L1 a 0 ((List.replicate ((a).length) (Link.mk 0 0)) : List Link) = ((out) : List Link) := by rw [v4, List.drop_eq_nil_of_le (show (a).length ≤ i by omega)]; simp only [laws_toLinkS_L1, cond_true, cond_false]
    refine WX.seal 7 1 5 rfl rfl (show (a).length = (out).length from by omega) rfl rfl ?_
    refine WX.slot 2 (y := .v (.slice p1 (out).length ((a).length))) rfl (fun _ => by show (Value.slice p1 ((a).length) ((a).length) : Value) = Value.slice p1 (out).length ((a).length); rw [(show (a).length = (out).length from by omega)]) ?_
    refine WX.slot 22 (y := .v (.slice p1 (out).length ((a).length))) rfl (fun _ => by show (Value.slice p1 ((a).length) ((a).length) : Value) = Value.slice p1 (out).length ((a).length); rw [(show (a).length = (out).length from by omega)]) ?_
    refine WX.slot 3 (y := .v (.slice p1 (out).length ((a).length))) rfl (fun _ => by show (Value.slice p1 ((a).length) ((a).length) : Value) = Value.slice p1 (out).length ((a).length); rw [(show (a).length = (out).length from by omega)]) ?_
    have hP1 : laws_toLinkS a = out := by simp only [laws_toLinkS, hX1, cond_true, cond_false]
    refine WX.ret ttOk rfl ?_
    intro w1 G bs hI hΓ
    rw [hP1]
    exact Post.of [6] (p1, ((a).length)) hI hΓ rfl rfl rfl (okl_mk (by omega) v3 : GoT.ok n (out : List Link))
theorem f125 (w : World) (n : Nat) (hn : n + 0 ≤ 9) (a : Topology) (paLinks : Option Addr) (caLinks : Nat) (hpaLinks : RdSl (hp w) paLinks caLinks a.links) (hoka : GoT.ok n a) :
    Does Tryz.prog 125 #[.agg #[.int .i64 (a.size), .slice paLinks ((a.links).length) caLinks]] w emp (Post w emp (fun x : GoT.X (Topology) => .agg ⟨GoT.sh ((laws_toTopology a) : Topology) x⟩) (fun x => GoT.oa ((laws_toTopology a) : Topology) x) (GoT.ok n ((laws_toTopology a) : Topology))) := by
  have hbP := bd_pos n
  have hbB := bd_big (n := n) (by omega)
  refine WX.enter (tt := tt) (Γ := [(0, MF.rs .stb paLinks caLinks a.links)]) Tryz.func125 rfl (by kernel_rfl) rfl (allS_cons rfl hpaLinks allS_nil) ?_
  refine WX.run ttOk rfl ?_
  refine WX.callF 1 (fun _ _ h => GoT.ow_rd h) (fun _ f hf => GoT.fak f hf) rfl rfl rfl rfl rfl (fun _ => rfl) rfl (fun w G bs hI hΓ => f228 w n (by omega) a.links paLinks caLinks (hΓ.get 0 rfl) ((ok_Topology hoka).2)) (fun _ => rfl) (fun _ => rfl) ?_
  rintro ⟨p1, c1⟩ hq1
  refine WX.run ttOk rfl ?_
  have hP1 : laws_toTopology a = (Topology.mk a.size (laws_toLinkS a.links)) := by simp only [laws_toTopology, cond_true, cond_false]
  refine WX.ret ttOk rfl ?_
  intro w1 G bs hI hΓ
  rw [hP1]
  exact Post.of [2] ((), (p1, c1)) hI hΓ rfl rfl rfl (And.intro (ok_Topology hoka).1 hq1)
theorem f431 (w : World) (n : Nat) (hn : n + 0 ≤ 9) (a : CacheEntry) (paDataName : Option Addr) (caDataName : Nat) (hpaDataName : RdSl (hp w) paDataName caDataName a.data.name.parts) (paDataContent : Option Addr) (caDataContent : Nat) (hpaDataContent : RdSl (hp w) paDataContent caDataContent a.data.content) (paDataKeyName : Option Addr) (caDataKeyName : Nat) (hpaDataKeyName : RdSl (hp w) paDataKeyName caDataKeyName a.data.keyName.parts) (hoka : GoT.ok n a) :
    Does Tryz.prog 431 #[.agg #[.slice paDataName ((a.data.name.parts).length) caDataName, .slice paDataContent ((a.data.content).length) caDataContent, .slice paDataKeyName ((a.data.keyName.parts).length) caDataKeyName, .int .i64 (a.data.freshUntil), .int .i64 (a.data.signature), .int .i64 (a.lastUsed)]] w emp (Post w emp (fun x : GoT.X (CacheEntry) => .agg ⟨GoT.sh ((laws_toCacheEntry a) : CacheEntry) x⟩) (fun x => GoT.oa ((laws_toCacheEntry a) : CacheEntry) x) (GoT.ok n ((laws_toCacheEntry a) : CacheEntry))) := by
  have hbP := bd_pos n
  have hbB := bd_big (n := n) (by omega)
  refine WX.enter (tt := tt) (Γ := [(0, MF.rs .stb paDataName caDataName a.data.name.parts), (1, MF.rs .stb paDataContent caDataContent a.data.content), (2, MF.rs .stb paDataKeyName caDataKeyName a.data.keyName.parts)]) Tryz.func431 rfl (by kernel_rfl) rfl (allS_cons rfl hpaDataName (allS_cons rfl hpaDataContent (allS_cons rfl hpaDataKeyName allS_nil))) ?_
  refine WX.run ttOk rfl ?_
  refine WX.callF 3 (fun _ _ h => GoT.ow_rd h) (fun _ f hf => GoT.fak f hf) rfl rfl rfl rfl rfl (fun _ => rfl) rfl (fun w G bs hI hΓ => f34 w n (by omega) a.data paDataName caDataName (hΓ.get 0 rfl) paDataContent caDataContent (hΓ.get 1 rfl) paDataKeyName caDataKeyName (hΓ.get 2 rfl) ((ok_CacheEntry hoka).1)) (fun _ => rfl) (fun _ => rfl) ?_
  rintro ⟨⟨p1, c1⟩, ⟨p2, c2⟩, ⟨p3, c3⟩, ⟨⟩, ⟨⟩⟩ hq1
  refine WX.run ttOk rfl ?_
  have hP1 : laws_toCacheEntry a = (CacheEntry.mk (laws_toData a.data) a.lastUsed) := by simp only [laws_toCacheEntry, cond_true, cond_false]
  refine WX.ret ttOk rfl ?_
  intro w1 G bs hI hΓ
  rw [hP1]
  exact Post.of [6, 7, 8] (((p1, c1), (p2, c2), (p3, c3), (), ()), ()) hI hΓ rfl rfl rfl (And.intro hq1 (ok_CacheEntry hoka).2)
theorem f390 (w : World) (n : Nat) (hn : n + 0 ≤ 9) (a : (List CacheEntry)) (pa : Option Addr) (ca : Nat) (hpa : RdSl (hp w) pa ca a) (hoka : GoT.ok n a) :
    Does Tryz.prog 390 #[.slice pa ((a).length) ca] w emp (Post w emp (fun x : GoT.X ((List CacheEntry)) => (GoT.sh ((laws_toCacheEntryS a) : (List CacheEntry)) x).headD undef) (fun x => GoT.oa ((laws_toCacheEntryS a) : (List CacheEntry)) x) (GoT.ok n ((laws_toCacheEntryS a) : (List CacheEntry)))) := by
  have hbP := bd_pos n
  have hbB := bd_big (n := n) (by omega)
  refine WX.enter (tt := tt) (Γ := [(0, MF.rs .stb pa ca a)]) Tryz.func390 rfl (by kernel_rfl) rfl (allS_cons rfl hpa allS_nil) ?_
  refine WX.run ttOk rfl ?_
  have r1 : (a).length ≤ bd n := (okl hoka).1
  refine WX.mkS ((a).length) ttOk rfl rfl rfl rfl rfl rfl rfl (by omega) (by omega) rfl ?_
  intro p1
  refine WX.free 1 (MF.ol (zrep ((a).length) [.slice none (0) 0, .slice none (0) 0, .slice none (0) 0, .int .i64 (0), .int .i64 (0), .int .i64 (0)]) ((List.replicate ((a).length) (CacheEntry.mk (DataP.mk (Name.mk ([])) ([]) (Name.mk ([])) 0 0) 0)) : List CacheEntry)) (ol_zrep (α := CacheEntry) (z0 := (CacheEntry.mk (DataP.mk (Name.mk ([])) ([]) (Name.mk ([])) 0 0) 0)) (x0 := (((none, 0), (none, 0), (none, 0), (), ()), ())) rfl (sep_emp_cons (owSl_nil _ _) (sep_emp_cons (owSl_nil _ _) (sep_emp_cons (owSl_nil _ _) trivial))) _) ?_
  refine WX.run ttOk rfl ?_
  refine WX.loop (ι := (List Value) × (List CacheEntry) × Nat) ⟨fun | (xsout, out, i) => (i ≤ (a).length) ∧ (out.length = (a).length) ∧ (∀ z_ ∈ out, GoT.ok n z_) ∧ (laws_toCacheEntryS_L1 a 0 ((List.replicate ((a).length) (CacheEntry.mk (DataP.mk (Name.mk ([])) ([]) (Name.mk ([])) 0 0) 0)) : List CacheEntry) = laws_toCacheEntryS_L1 ((a).drop i) i out), fun | (xsout, out, i) => (a).length - i, fun | (xsout, out, i) => [(3, .v (.slice p1 ((a).length) ((a).length))), (4, .v (.int .i64 (((i : Nat) : Int)))), (0, .v (.slice pa ((a).length) ca))], fun | (xsout, out, i) => [], fun | (xsout, out, i) => [(7, ⟨6, p1, (a).length, ((a).length), xsout⟩)], fun | (xsout, out, i) => [(0, MF.rs .stb pa ca a), (1, MF.ol xsout (out : List CacheEntry))]⟩ ((zrep ((a).length) [.slice none (0) 0, .slice none (0) 0, .slice none (0) 0, .int .i64 (0), .int .i64 (0), .int .i64 (0)]), ((List.replicate ((a).length) (CacheEntry.mk (DataP.mk (Name.mk ([])) ([]) (Name.mk ([])) 0 0) 0)) : List CacheEntry), 0) ⟨(Nat.zero_le _), (by simp), (all_rep (And.intro (And.intro (ok_nil (α := Str)) (And.intro (ok_nil (α := UInt8)) (And.intro (ok_nil (α := Str)) (And.intro (show I64 0 from (by unfold I64; omega)) (show I64 0 from (by unfold I64; omega)))))) (show I64 0 from (by unfold I64; omega)))), rfl⟩
    (.cons rfl (.cons rfl (.cons rfl (.nil)))) .nil (.cons rfl (.nil)) [0, 1] rfl ?_
  rintro ⟨xsout, out, i⟩ hpre
  have hpre_ : (i ≤ (a).length) ∧ (out.length = (a).length) ∧ (∀ z_ ∈ out, GoT.ok n z_) ∧ (laws_toCacheEntryS_L1 a 0 ((List.replicate ((a).length) (CacheEntry.mk (DataP.mk (Name.mk ([])) ([]) (Name.mk ([])) 0 0) 0)) : List CacheEntry) = laws_toCacheEntryS_L1 ((a).drop i) i out) := hpre
  clear hpre
  obtain ⟨v1, v2, v3, v4⟩ := hpre_
  refine WX.run ttOk rfl ?_
  refine WX.cases 11 rfl (fun h1 => ?_) (fun h1 => ?_)
  · skip
    have h1d := B.dt h1
    have e1i : i < (a).length := (by omega)
    obtain ⟨e1, e1h⟩ : ∃ e1, (a)[i]? = some e1 := ⟨_, List.getElem?_eq_getElem e1i⟩
    have ok1 : GoT.ok n e1 := (okl hoka).2 _ (List.mem_of_getElem? e1h)
    refine WX.run ttOk rfl ?_
    refine WX.idx 0 i ttOk rfl rfl rfl rfl rfl rfl rfl rfl rfl rfl e1i ?_
    rintro ad1 rfl
    refine WX.ldE 0 2 e1 ttOk rfl rfl rfl rfl rfl rfl rfl rfl e1h (fun _ => rfl) (fun _ => rfl) ?_
    rintro ⟨⟨⟨p2, c1⟩, ⟨p3, c2⟩, ⟨p4, c3⟩, ⟨⟩, ⟨⟩⟩, ⟨⟩⟩
    refine WX.callF 5 (fun _ _ h => GoT.ow_rd h) (fun _ f hf => GoT.fak f hf) rfl rfl rfl rfl rfl (fun _ => rfl) rfl (fun w G bs hI hΓ => f431 w n (by omega) e1 p2 c1 (hΓ.get 2 rfl) p3 c2 (hΓ.get 3 rfl) p4 c3 (hΓ.get 4 rfl) ok1) (fun _ => rfl) (fun _ => rfl) ?_
    rintro ⟨⟨⟨p5, c4⟩, ⟨p6, c5⟩, ⟨p7, c6⟩, ⟨⟩, ⟨⟩⟩, ⟨⟩⟩ hq1
    have hr1 : i < (a).length := (by first | assumption | omega)
    refine WX.idxR 7 i ttOk rfl rfl rfl rfl rfl rfl rfl rfl rfl hr1 ?_
    rintro ad2 rfl
    have e2i : i < (out).length := (by first | assumption | omega)
    obtain ⟨e2, e2h⟩ : ∃ e2, (out)[i]? = some e2 := ⟨_, List.getElem?_eq_getElem e2i⟩
    have ok2 : GoT.ok n e2 := v3 _ (List.mem_of_getElem? e2h)
    refine WX.opnE (α := CacheEntry) (e := e2) 7 1 11 i rfl rfl rfl e2h (fun _ => rfl) (fun _ _ _ => rfl) (fun _ _ _ => rfl) ?_
    rintro A1 B1 ⟨⟨⟨p8, c7⟩, ⟨p9, c8⟩, ⟨p10, c9⟩, ⟨⟩, ⟨⟩⟩, ⟨⟩⟩ hA1 hB1
    refine WX.stA 7 ttOk rfl rfl rfl rfl rfl rfl rfl rfl rfl rfl rfl rfl rfl rfl hA1 hr1 rfl rfl rfl rfl (by simp) rfl ?_
    refine WX.run ttOk rfl ?_
    refine WX.see rfl rfl rfl (fun _ hΓ => looks_arith rfl rfl rfl rfl (by unfold I64; first | omega | (dsimp only; omega))) ?_
    refine WX.run ttOk rfl ?_
    refine WX.turn [8, 9, 10, 17, 18] 19 rfl (fun h hs => cl_elem (α := CacheEntry) (e := (laws_toCacheEntry e1)) (x := (((p5, c4), (p6, c5), (p7, c6), (), ()), ())) e2i hs) (gs := [MF.ol (A1 ++ [.slice p5 (((laws_toCacheEntry e1).data.name.parts).length) c4, .slice p6 (((laws_toCacheEntry e1).data.content).length) c5, .slice p7 (((laws_toCacheEntry e1).data.keyName.parts).length) c6, .int .i64 ((laws_toCacheEntry e1).data.freshUntil), .int .i64 ((laws_toCacheEntry e1).data.signature), .int .i64 ((laws_toCacheEntry e1).lastUsed)] ++ B1) (out.set i (laws_toCacheEntry e1))]) rfl ?_
    refine WX.turn [19] 1 rfl (fun _ h => h) rfl ?_
    exact WX.iter ((A1 ++ [.slice p5 (((laws_toCacheEntry e1).data.name.parts).length) c4, .slice p6 (((laws_toCacheEntry e1).data.content).length) c5, .slice p7 (((laws_toCacheEntry e1).data.keyName.parts).length) c6, .int .i64 ((laws_toCacheEntry e1).data.freshUntil), .int .i64 ((laws_toCacheEntry e1).data.signature), .int .i64 ((laws_toCacheEntry e1).lastUsed)] ++ B1), ((out.set i (laws_toCacheEntry e1)) : List CacheEntry), i + 1) ⟨(by omega), (by first | assumption | omega | (simp only [List.length_append, List.length_cons, List.length_nil, List.length_set, List.length_map, List.length_take, List.length_drop]; omega) | (simp; omega)), (all_set v3 (show GoT.ok n ((laws_toCacheEntry e1) : CacheEntry) from hq1)), (by rw [v4, drop_get e1h]; simp only [laws_toCacheEntryS_L1, e2h, cond_true, cond_false])⟩ (by dsimp only; omega) (.cons rfl (.cons rfl (.cons rfl (.nil)))) .nil (.cons rfl (.nil)) [0, 1] rfl
  · skip
    have h1d := B.df h1
    refine WX.run ttOk rfl ?_
    have hX1 : laws_toCacheEntryS_L1 a 0 ((List.replicate ((a).length) (CacheEntry.mk (DataP.mk (Name.mk ([])) ([]) (Name.mk ([])) 0 0) 0)) : List CacheEntry) = ((out) : List CacheEntry) := by rw [v4, List.drop_eq_nil_of_le (show (a).length ≤ i by omega)]; simp only [laws_toCacheEntryS_L1, cond_true, cond_false]
    refine WX.seal 7 1 20 rfl rfl (show (a).length = (out).length from by omega) rfl rfl ?_
    refine WX.slot 2 (y := .v (.slice p1 (out).length ((a).length))) rfl (fun _ => by show (Value.slice p1 ((a).length) ((a).length) : Value) = Value.slice p1 (out).length ((a).length); rw [(show (a).length = (out).length from by omega)]) ?_
    refine WX.slot 22 (y := .v (.slice p1 (out).length ((a).length))) rfl (fun _ => by show (Value.slice p1 ((a).length) ((a).length) : Value) = Value.slice p1 (out).length ((a).length); rw [(show (a).length = (out).length from by omega)]) ?_
    refine WX.slot 3 (y := .v (.slice p1 (out).length ((a).length))) rfl (fun _ => by show (Value.slice p1 ((a).length) ((a).length) : Value) = Value.slice p1 (out).length ((a).length); rw [(show (a).length = (out).length from by omega)]) ?_
    have hP1 : laws_toCacheEntryS a = out := by simp only [laws_toCacheEntryS, hX1, cond_true, cond_false]
    refine WX.ret ttOk rfl ?_
    intro w1 G bs hI hΓ
    rw [hP1]
    exact Post.of [21] (p1, ((a).length)) hI hΓ rfl rfl rfl (okl_mk (by omega) v3 : GoT.ok n (out : List CacheEntry))
theorem f322 (w : World) (n : Nat) (hn : n + 0 ≤ 9) (a : ContentStore) (paEntries : Option Addr) (caEntries : Nat) (hpaEntries : RdSl (hp w) paEntries caEntries a.entries) (hoka : GoT.ok n a) :
    Does Tryz.prog 322 #[.agg #[.int .i64 (a.capacity), .slice paEntries ((a.entries).length) caEntries]] w emp (Post w emp (fun x : GoT.X (ContentStore) => .agg ⟨GoT.sh ((laws_toContentStore a) : ContentStore) x⟩) (fun x => GoT.oa ((laws_toContentStore a) : ContentStore) x) (GoT.ok n ((laws_toContentStore a) : ContentStore))) := by
  have hbP := bd_pos n
  have hbB := bd_big (n := n) (by omega)
  refine WX.enter (tt := tt) (Γ := [(0, MF.rs .stb paEntries caEntries a.entries)]) Tryz.func322 rfl (by kernel_rfl) rfl (allS_cons rfl hpaEntries allS_nil) ?_
  refine WX.run ttOk rfl ?_
  refine WX.callF 1 (fun _ _ h => GoT.ow_rd h) (fun _ f hf => GoT.fak f hf) rfl rfl rfl rfl rfl (fun _ => rfl) rfl (fun w G bs hI hΓ => f390 w n (by omega) a.entries paEntries caEntries (hΓ.get 0 rfl) ((ok_ContentStore hoka).2)) (fun _ => rfl) (fun _ => rfl) ?_
  rintro ⟨p1, c1⟩ hq1
  refine WX.run ttOk rfl ?_
  have hP1 : laws_toContentStore a = (ContentStore.mk a.capacity (laws_toCacheEntryS a.entries)) := by simp only [laws_toContentStore, cond_true, cond_false]
  refine WX.ret ttOk rfl ?_
  intro w1 G bs hI hΓ
  rw [hP1]
  exact Post.of [2] ((), (p1, c1)) hI hΓ rfl rfl rfl (And.intro (ok_ContentStore hoka).1 hq1)
theorem f445 (w : World) (n : Nat) (hn : n + 0 ≤ 9) (a : Requester) (hoka : GoT.ok n a) :
    Does Tryz.prog 445 #[.agg #[.int .i64 (a.face), .int .i64 (a.nonce), .int .i64 (a.expiry)]] w emp (fun (rv : Value) (_ : World) => rv = .agg #[.int .i64 ((laws_toRequester a).face), .int .i64 ((laws_toRequester a).nonce), .int .i64 ((laws_toRequester a).expiry)] ∧ GoT.ok n ((laws_toRequester a) : Requester)) := by
  refine WX.enter (tt := tt) (Γ := []) Tryz.func445 rfl (by kernel_rfl) rfl allS_nil ?_
  refine WX.run ttOk rfl ?_
  have hP1 : laws_toRequester a = a := by simp only [laws_toRequester, cond_true, cond_false]
  refine WX.ret ttOk rfl ?_
  intro w1 G bs hI hΓ
  rw [hP1]
  exact ⟨rfl, hoka⟩
theorem f432 (w : World) (n : Nat) (hn : n + 0 ≤ 9) (a : (List Requester)) (pa : Option Addr) (ca : Nat) (hpa : RdSl (hp w) pa ca a) (hoka : GoT.ok n a) :
    Does Tryz.prog 432 #[.slice pa ((a).length) ca] w emp (Post w emp (fun x : GoT.X ((List Requester)) => (GoT.sh ((laws_toRequesterS a) : (List Requester)) x).headD undef) (fun x => GoT.oa ((laws_toRequesterS a) : (List Requester)) x) (GoT.ok n ((laws_toRequesterS a) : (List Requester)))) := by
  have hbP := bd_pos n
  have hbB := bd_big (n := n) (by omega)
  refine WX.enter (tt := tt) (Γ := [(0, MF.rs .stb pa ca a)]) Tryz.func432 rfl (by kernel_rfl) rfl (allS_cons rfl hpa allS_nil) ?_
  refine WX.run ttOk rfl ?_
  have r1 : (a).length ≤ bd n := (okl hoka).1
  refine WX.mkS ((a).length) ttOk rfl rfl rfl rfl rfl rfl rfl (by omega) (by omega) rfl ?_
  intro p1
  refine WX.free 1 (MF.ol (zrep ((a).length) [.int .i64 (0), .int .i64 (0), .int .i64 (0)]) ((List.replicate ((a).length) (Requester.mk 0 0 0)) : List Requester)) (ol_zrep (α := Requester) (z0 := (Requester.mk 0 0 0)) (x0 := ((), (), ())) rfl trivial _) ?_
  refine WX.run ttOk rfl ?_
  refine WX.loop (ι := (List Value) × (List Requester) × Nat) ⟨fun | (xsout, out, i) => (i ≤ (a).length) ∧ (out.length = (a).length) ∧ (∀ z_ ∈ out, GoT.ok n z_) ∧ (laws_toRequesterS_L1 a 0 ((List.replicate ((a).length) (Requester.mk 0 0 0)) : List Requester) = laws_toRequesterS_L1 ((a).drop i) i out), fun | (xsout, out, i) => (a).length - i, fun | (xsout, out, i) => [(3, .v (.slice p1 ((a).length) ((a).length))), (4, .v (.int .i64 (((i : Nat) : Int)))), (0, .v (.slice pa ((a).length) ca))], fun | (xsout, out, i) => [], fun | (xsout, out, i) => [(7, ⟨3, p1, (a).length, ((a).length), xsout⟩)], fun | (xsout, out, i) => [(0, MF.rs .stb pa ca a), (1, MF.ol xsout (out : List Requester))]⟩ ((zrep ((a).length) [.int .i64 (0), .int .i64 (0), .int .i64 (0)]), ((List.replicate ((a).length) (Requester.mk 0 0 0)) : List Requester), 0) ⟨(Nat.zero_le _), (by simp), (all_rep (And.intro (show I64 0 from (by unfold I64; omega)) (And.intro (show I64 0 from (by unfold I64; omega)) (show I64 0 from (by unfold I64; omega))))), rfl⟩
    (.cons rfl (.cons rfl (.cons rfl (.nil)))) .nil (.cons rfl (.nil)) [0, 1] rfl ?_
  rintro ⟨xsout, out, i⟩ hpre
  have hpre_ : (i ≤ (a).length) ∧ (out.length = (a).length) ∧ (∀ z_ ∈ out, GoT.ok n z_) ∧ (laws_toRequesterS_L1 a 0 ((List.replicate ((a).length) (Requester.mk 0 0 0)) : List Requester) = laws_toRequesterS_L1 ((a).drop i) i out) := hpre
  clear hpre
  obtain ⟨v1, v2, v3, v4⟩ := hpre_
  refine WX.run ttOk rfl ?_
  refine WX.cases 11 rfl (fun h1 => ?_) (fun h1 => ?_)
  · skip
    have h1d := B.dt h1
    have e1i : i < (a).length := (by omega)
    obtain ⟨e1, e1h⟩ : ∃ e1, (a)[i]? = some e1 := ⟨_, List.getElem?_eq_getElem e1i⟩
    have ok1 : GoT.ok n e1 := (okl hoka).2 _ (List.mem_of_getElem? e1h)
    refine WX.run ttOk rfl ?_
    refine WX.idx 0 i ttOk rfl rfl rfl rfl rfl rfl rfl rfl rfl rfl e1i ?_
    rintro ad1 rfl
    refine WX.ldE 0 2 e1 ttOk rfl rfl rfl rfl rfl rfl rfl rfl e1h (fun _ => rfl) (fun _ => rfl) ?_
    rintro ⟨⟨⟩, ⟨⟩, ⟨⟩⟩
    refine WX.callV rfl rfl rfl rfl rfl (fun _ => rfl) rfl (fun w G bs hI hΓ => f445 w n (by omega) e1 ok1) ?_
    intro hq1
    have hr1 : i < (a).length := (by first | assumption | omega)
    refine WX.idxR 7 i ttOk rfl rfl rfl rfl rfl rfl rfl rfl rfl hr1 ?_
    rintro ad2 rfl
    have e2i : i < (out).length := (by first | assumption | omega)
    obtain ⟨e2, e2h⟩ : ∃ e2, (out)[i]? = some e2 := ⟨_, List.getElem?_eq_getElem e2i⟩
    have ok2 : GoT.ok n e2 := v3 _ (List.mem_of_getElem? e2h)
    refine WX.opnE (α := Requester) (e := e2) 7 1 2 i rfl rfl rfl e2h (fun _ => rfl) (fun _ _ _ => rfl) (fun _ _ _ => rfl) ?_
    rintro A1 B1 ⟨⟨⟩, ⟨⟩, ⟨⟩⟩ hA1 hB1
    refine WX.stA 7 ttOk rfl rfl rfl rfl rfl rfl rfl rfl rfl rfl rfl rfl rfl rfl hA1 hr1 rfl rfl rfl rfl (by simp) rfl ?_
    refine WX.run ttOk rfl ?_
    refine WX.see rfl rfl rfl (fun _ hΓ => looks_arith rfl rfl rfl rfl (by unfold I64; first | omega | (dsimp only; omega))) ?_
    refine WX.run ttOk rfl ?_
    refine WX.turn [2, 3] 4 rfl (fun h hs => cl_elem (α := Requester) (e := (laws_toRequester e1)) (x := ((), (), ())) e2i hs) (gs := [MF.ol (A1 ++ [.int .i64 ((laws_toRequester e1).face), .int .i64 ((laws_toRequester e1).nonce), .int .i64 ((laws_toRequester e1).expiry)] ++ B1) (out.set i (laws_toRequester e1))]) rfl ?_
    refine WX.turn [4] 1 rfl (fun _ h => h) rfl ?_
    exact WX.iter ((A1 ++ [.int .i64 ((laws_toRequester e1).face), .int .i64 ((laws_toRequester e1).nonce), .int .i64 ((laws_toRequester e1).expiry)] ++ B1), ((out.set i (laws_toRequester e1)) : List Requester), i + 1) ⟨(by omega), (by first | assumption | omega | (simp only [List.length_append, List.length_cons, List.length_nil, List.length_set, List.length_map, List.length_take, List.length_drop]; omega) | (simp; omega)), (all_set v3 (show GoT.ok n ((laws_toRequester e1) : Requester) from hq1)), (by rw [v4, drop_get e1h]; simp only [laws_toRequesterS_L1, e2h, cond_true, cond_false])⟩ (by dsimp only; omega) (.cons rfl (.cons rfl (.cons rfl (.nil)))) .nil (.cons rfl (.nil)) [0, 1] rfl
  · skip
    have h1d := B.df h1
    refine WX.run ttOk rfl ?_
    have hX1 : laws_toRequesterS_L1 a 0 ((List.replicate ((a).length) (Requester.mk 0 0 0)) : List Requester) = ((out) : List Requester) := by rw [v4, List.drop_eq_nil_of_le (show (a).length ≤ i by omega)]; simp only [laws_toRequesterS_L1, cond_true, cond_false]
    refine WX.seal 7 1 5 rfl rfl (show (a).length = (out).length from by omega) rfl rfl ?_
    refine WX.slot 2 (y := .v (.slice p1 (out).length ((a).length))) rfl (fun _ => by show (Value.slice p1 ((a).length) ((a).length) : Value) = Value.slice p1 (out).length ((a).length); rw [(show (a).length = (out).length from by omega)]) ?_
    refine WX.slot 22 (y := .v (.slice p1 (out).length ((a).length))) rfl (fun _ => by show (Value.slice p1 ((a).length) ((a).length) : Value) = Value.slice p1 (out).length ((a).length); rw [(show (a).length = (out).length from by omega)]) ?_
    refine WX.slot 3 (y := .v (.slice p1 (out).length ((a).length))) rfl (fun _ => by show (Value.slice p1 ((a).length) ((a).length) : Value) = Value.slice p1 (out).length ((a).length); rw [(show (a).length = (out).length from by omega)]) ?_
    have hP1 : laws_toRequesterS a = out := by simp only [laws_toRequesterS, hX1, cond_true, cond_false]
    refine WX.ret ttOk rfl ?_
    intro w1 G bs hI hΓ
    rw [hP1]
    exact Post.of [6] (p1, ((a).length)) hI hΓ rfl rfl rfl (okl_mk (by omega) v3 : GoT.ok n (out : List Requester))
theorem f391 (w : World) (n : Nat) (hn : n + 0 ≤ 9) (a : PendingInterest) (paName : Option Addr) (caName : Nat) (hpaName : RdSl (hp w) paName caName a.name.parts) (paRequesters : Option Addr) (caRequesters : Nat) (hpaRequesters : RdSl (hp w) paRequesters caRequesters a.requesters) (hoka : GoT.ok n a) :
    Does Tryz.prog 391 #[.agg #[.slice paName ((a.name.parts).length) caName, .slice paRequesters ((a.requesters).length) caRequesters, .int .i64 (a.lastSent)]] w emp (Post w emp (fun x : GoT.X (PendingInterest) => .agg ⟨GoT.sh ((laws_toPendingInterest a) : PendingInterest) x⟩) (fun x => GoT.oa ((laws_toPendingInterest a) : PendingInterest) x) (GoT.ok n ((laws_toPendingInterest a) : PendingInterest))) := by
  have hbP := bd_pos n
  have hbB := bd_big (n := n) (by omega)
  refine WX.enter (tt := tt) (Γ := [(0, MF.rs .stb paName caName a.name.parts), (1, MF.rs .stb paRequesters caRequesters a.requesters)]) Tryz.func391 rfl (by kernel_rfl) rfl (allS_cons rfl hpaName (allS_cons rfl hpaRequesters allS_nil)) ?_
  refine WX.run ttOk rfl ?_
  refine WX.callF 2 (fun _ _ h => GoT.ow_rd h) (fun _ f hf => GoT.fak f hf) rfl rfl rfl rfl rfl (fun _ => rfl) rfl (fun w G bs hI hΓ => f65 w n (by omega) a.name paName caName (hΓ.get 0 rfl) ((ok_PendingInterest hoka).1)) (fun _ => rfl) (fun _ => rfl) ?_
  rintro ⟨p1, c1⟩ hq1
  refine WX.run ttOk rfl ?_
  refine WX.callF 4 (fun _ _ h => GoT.ow_rd h) (fun _ f hf => GoT.fak f hf) rfl rfl rfl rfl rfl (fun _ => rfl) rfl (fun w G bs hI hΓ => f432 w n (by omega) a.requesters paRequesters caRequesters (hΓ.get 1 rfl) ((ok_PendingInterest hoka).2.1)) (fun _ => rfl) (fun _ => rfl) ?_
  rintro ⟨p2, c2⟩ hq2
  refine WX.run ttOk rfl ?_
  have hP1 : laws_toPendingInterest a = (PendingInterest.mk (laws_toName a.name) (laws_toRequesterS a.requesters) a.lastSent) := by simp only [laws_toPendingInterest, cond_true, cond_false]
  refine WX.ret ttOk rfl ?_
  intro w1 G bs hI hΓ
  rw [hP1]
  exact Post.of [3, 5] ((p1, c1), (p2, c2), ()) hI hΓ rfl rfl rfl (And.intro hq1 (And.intro hq2 (ok_PendingInterest hoka).2.2))
theorem f323 (w : World) (n : Nat) (hn : n + 0 ≤ 9) (a : (List PendingInterest)) (pa : Option Addr) (ca : Nat) (hpa : RdSl (hp w) pa ca a) (hoka : GoT.ok n a) :
    Does Tryz.prog 323 #[.slice pa ((a).length) ca] w emp (Post w emp (fun x : GoT.X ((List PendingInterest)) => (GoT.sh ((laws_toPendingInterestS a) : (List PendingInterest)) x).headD undef) (fun x => GoT.oa ((laws_toPendingInterestS a) : (List PendingInterest)) x) (GoT.ok n ((laws_toPendingInterestS a) : (List PendingInterest)))) := by
  have hbP := bd_pos n
  have hbB := bd_big (n := n) (by omega)
  refine WX.enter (tt := tt) (Γ := [(0, MF.rs .stb pa ca a)]) Tryz.func323 rfl (by kernel_rfl) rfl (allS_cons rfl hpa allS_nil) ?_
  refine WX.run ttOk rfl ?_
  have r1 : (a).length ≤ bd n := (okl hoka).1
  refine WX.mkS ((a).length) ttOk rfl rfl rfl rfl rfl rfl rfl (by omega) (by omega) rfl ?_
  intro p1
  refine WX.free 1 (MF.ol (zrep ((a).length) [.slice none (0) 0, .slice none (0) 0, .int .i64 (0)]) ((List.replicate ((a).length) (PendingInterest.mk (Name.mk ([])) ([]) 0)) : List PendingInterest)) (ol_zrep (α := PendingInterest) (z0 := (PendingInterest.mk (Name.mk ([])) ([]) 0)) (x0 := ((none, 0), (none, 0), ())) rfl (sep_emp_cons (owSl_nil _ _) (sep_emp_cons (owSl_nil _ _) trivial)) _) ?_
  refine WX.run ttOk rfl ?_
  refine WX.loop (ι := (List Value) × (List PendingInterest) × Nat) ⟨fun | (xsout, out, i) => (i ≤ (a).length) ∧ (out.length = (a).length) ∧ (∀ z_ ∈ out, GoT.ok n z_) ∧ (laws_toPendingInterestS_L1 a 0 ((List.replicate ((a).length) (PendingInterest.mk (Name.mk ([])) ([]) 0)) : List PendingInterest) = laws_toPendingInterestS_L1 ((a).drop i) i out), fun | (xsout, out, i) => (a).length - i, fun | (xsout, out, i) => [(3, .v (.slice p1 ((a).length) ((a).length))), (4, .v (.int .i64 (((i : Nat) : Int)))), (0, .v (.slice pa ((a).length) ca))], fun | (xsout, out, i) => [], fun | (xsout, out, i) => [(7, ⟨3, p1, (a).length, ((a).length), xsout⟩)], fun | (xsout, out, i) => [(0, MF.rs .stb pa ca a), (1, MF.ol xsout (out : List PendingInterest))]⟩ ((zrep ((a).length) [.slice none (0) 0, .slice none (0) 0, .int .i64 (0)]), ((List.replicate ((a).length) (PendingInterest.mk (Name.mk ([])) ([]) 0)) : List PendingInterest), 0) ⟨(Nat.zero_le _), (by simp), (all_rep (And.intro (ok_nil (α := Str)) (And.intro (ok_nil (α := Requester)) (show I64 0 from (by unfold I64; omega))))), rfl⟩
    (.cons rfl (.cons rfl (.cons rfl (.nil)))) .nil (.cons rfl (.nil)) [0, 1] rfl ?_
  rintro ⟨xsout, out, i⟩ hpre
  have hpre_ : (i ≤ (a).length) ∧ (out.length = (a).length) ∧ (∀ z_ ∈ out, GoT.ok n z_) ∧ (laws_toPendingInterestS_L1 a 0 ((List.replicate ((a).length) (PendingInterest.mk (Name.mk ([])) ([]) 0)) : List PendingInterest) = laws_toPendingInterestS_L1 ((a).drop i) i out) := hpre
  clear hpre
  obtain ⟨v1, v2, v3, v4⟩ := hpre_
  refine WX.run ttOk rfl ?_
  refine WX.cases 11 rfl (fun h1 => ?_) (fun h1 => ?_)
  · skip
    have h1d := B.dt h1
    have e1i : i < (a).length := (by omega)
    obtain ⟨e1, e1h⟩ : ∃ e1, (a)[i]? = some e1 := ⟨_, List.getElem?_eq_getElem e1i⟩
    have ok1 : GoT.ok n e1 := (okl hoka).2 _ (List.mem_of_getElem? e1h)
    refine WX.run ttOk rfl ?_
    refine WX.idx 0 i ttOk rfl rfl rfl rfl rfl rfl rfl rfl rfl rfl e1i ?_
    rintro ad1 rfl
    refine WX.ldE 0 2 e1 ttOk rfl rfl rfl rfl rfl rfl rfl rfl e1h (fun _ => rfl) (fun _ => rfl) ?_
    rintro ⟨⟨p2, c1⟩, ⟨p3, c2⟩, ⟨⟩⟩
    refine WX.callF 4 (fun _ _ h => GoT.ow_rd h) (fun _ f hf => GoT.fak f hf) rfl rfl rfl rfl rfl (fun _ => rfl) rfl (fun w G bs hI hΓ => f391 w n (by omega) e1 p2 c1 (hΓ.get 2 rfl) p3 c2 (hΓ.get 3 rfl) ok1) (fun _ => rfl) (fun _ => rfl) ?_
    rintro ⟨⟨p4, c3⟩, ⟨p5, c4⟩, ⟨⟩⟩ hq1
    have hr1 : i < (a).length := (by first | assumption | omega)
    refine WX.idxR 7 i ttOk rfl rfl rfl rfl rfl rfl rfl rfl rfl hr1 ?_
    rintro ad2 rfl
    have e2i : i < (out).length := (by first | assumption | omega)
    obtain ⟨e2, e2h⟩ : ∃ e2, (out)[i]? = some e2 := ⟨_, List.getElem?_eq_getElem e2i⟩
    have ok2 : GoT.ok n e2 := v3 _ (List.mem_of_getElem? e2h)
    refine WX.opnE (α := PendingInterest) (e := e2) 7 1 8 i rfl rfl rfl e2h (fun _ => rfl) (fun _ _ _ => rfl) (fun _ _ _ => rfl) ?_
    rintro A1 B1 ⟨⟨p6, c5⟩, ⟨p7, c6⟩, ⟨⟩⟩ hA1 hB1
    refine WX.stA 7 ttOk rfl rfl rfl rfl rfl rfl rfl rfl rfl rfl rfl rfl rfl rfl hA1 hr1 rfl rfl rfl rfl (by simp) rfl ?_
    refine WX.run ttOk rfl ?_
    refine WX.see rfl rfl rfl (fun _ hΓ => looks_arith rfl rfl rfl rfl (by unfold I64; first | omega | (dsimp only; omega))) ?_
    refine WX.run ttOk rfl ?_
    refine WX.turn [6, 7, 12, 13] 14 rfl (fun h hs => cl_elem (α := PendingInterest) (e := (laws_toPendingInterest e1)) (x := ((p4, c3), (p5, c4), ())) e2i hs) (gs := [MF.ol (A1 ++ [.slice p4 (((laws_toPendingInterest e1).name.parts).length) c3, .slice p5 (((laws_toPendingInterest e1).requesters).length) c4, .int .i64 ((laws_toPendingInterest e1).lastSent)] ++ B1) (out.set i (laws_toPendingInterest e1))]) rfl ?_
    refine WX.turn [14] 1 rfl (fun _ h => h) rfl ?_
    exact WX.iter ((A1 ++ [.slice p4 (((laws_toPendingInterest e1).name.parts).length) c3, .slice p5 (((laws_toPendingInterest e1).requesters).length) c4, .int .i64 ((laws_toPendingInterest e1).lastSent)] ++ B1), ((out.set i (laws_toPendingInterest e1)) : List PendingInterest), i + 1) ⟨(by omega), (by first | assumption | omega | (simp only [List.length_append, List.length_cons, List.length_nil, List.length_set, List.length_map, List.length_take, List.length_drop]; omega) | (simp; omega)), (all_set v3 (show GoT.ok n ((laws_toPendingInterest e1) : PendingInterest) from hq1)), (by rw [v4, drop_get e1h]; simp only [laws_toPendingInterestS_L1, e2h, cond_true, cond_false])⟩ (by dsimp only; omega) (.cons rfl (.cons rfl (.cons rfl (.nil)))) .nil (.cons rfl (.nil)) [0, 1] rfl
  · skip
    have h1d := B.df h1
    refine WX.run ttOk rfl ?_
    have hX1 : laws_toPendingInterestS_L1 a 0 ((List.replicate ((a).length) (PendingInterest.mk (Name.mk ([])) ([]) 0)) : List PendingInterest) = ((out) : List PendingInterest) := by rw [v4, List.drop_eq_nil_of_le (show (a).length ≤ i by omega)]; simp only [laws_toPendingInterestS_L1, cond_true, cond_false]
    refine WX.seal 7 1 15 rfl rfl (show (a).length = (out).length from by omega) rfl rfl ?_
    refine WX.slot 2 (y := .v (.slice p1 (out).length ((a).length))) rfl (fun _ => by show (Value.slice p1 ((a).length) ((a).length) : Value) = Value.slice p1 (out).length ((a).length); rw [(show (a).length = (out).length from by omega)]) ?_
    refine WX.slot 22 (y := .v (.slice p1 (out).length ((a).length))) rfl (fun _ => by show (Value.slice p1 ((a).length) ((a).length) : Value) = Value.slice p1 (out).length ((a).length); rw [(show (a).length = (out).length from by omega)]) ?_
    refine WX.slot 3 (y := .v (.slice p1 (out).length ((a).length))) rfl (fun _ => by show (Value.slice p1 ((a).length) ((a).length) : Value) = Value.slice p1 (out).length ((a).length); rw [(show (a).length = (out).length from by omega)]) ?_
    have hP1 : laws_toPendingInterestS a = out := by simp only [laws_toPendingInterestS, hX1, cond_true, cond_false]
    refine WX.ret ttOk rfl ?_
    intro w1 G bs hI hΓ
    rw [hP1]
    exact Post.of [16] (p1, ((a).length)) hI hΓ rfl rfl rfl (okl_mk (by omega) v3 : GoT.ok n (out : List PendingInterest))
theorem f392 (w : World) (n : Nat) (hn : n + 0 ≤ 9) (a : SeenNonce) (paName : Option Addr) (caName : Nat) (hpaName : RdSl (hp w) paName caName a.name.parts) (hoka : GoT.ok n a) :
    Does Tryz.prog 392 #[.agg #[.slice paName ((a.name.parts).length) caName, .int .i64 (a.nonce)]] w emp (Post w emp (fun x : GoT.X (SeenNonce) => .agg ⟨GoT.sh ((laws_toSeenNonce a) : SeenNonce) x⟩) (fun x => GoT.oa ((laws_toSeenNonce a) : SeenNonce) x) (GoT.ok n ((laws_toSeenNonce a) : SeenNonce))) := by
  have hbP := bd_pos n
  have hbB := bd_big (n := n) (by omega)
  refine WX.enter (tt := tt) (Γ := [(0, MF.rs .stb paName caName a.name.parts)]) Tryz.func392 rfl (by kernel_rfl) rfl (allS_cons rfl hpaName allS_nil) ?_
  refine WX.run ttOk rfl ?_
  refine WX.callF 1 (fun _ _ h => GoT.ow_rd h) (fun _ f hf => GoT.fak f hf) rfl rfl rfl rfl rfl (fun _ => rfl) rfl (fun w G bs hI hΓ => f65 w n (by omega) a.name paName caName (hΓ.get 0 rfl) ((ok_SeenNonce hoka).1)) (fun _ => rfl) (fun _ => rfl) ?_
  rintro ⟨p1, c1⟩ hq1
  refine WX.run ttOk rfl ?_
  have hP1 : laws_toSeenNonce a = (SeenNonce.mk (laws_toName a.name) a.nonce) := by simp only [laws_toSeenNonce, cond_true, cond_false]
  refine WX.ret ttOk rfl ?_
  intro w1 G bs hI hΓ
  rw [hP1]
  exact Post.of [2] ((p1, c1), ()) hI hΓ rfl rfl rfl (And.intro hq1 (ok_SeenNonce hoka).2)
theorem f324 (w : World) (n : Nat) (hn : n + 0 ≤ 9) (a : (List SeenNonce)) (pa : Option Addr) (ca : Nat) (hpa : RdSl (hp w) pa ca a) (hoka : GoT.ok n a) :
    Does Tryz.prog 324 #[.slice pa ((a).length) ca] w emp (Post w emp (fun x : GoT.X ((List SeenNonce)) => (GoT.sh ((laws_toSeenNonceS a) : (List SeenNonce)) x).headD undef) (fun x => GoT.oa ((laws_toSeenNonceS a) : (List SeenNonce)) x) (GoT.ok n ((laws_toSeenNonceS a) : (List SeenNonce)))) := by
  have hbP := bd_pos n
  have hbB := bd_big (n := n) (by omega)
  refine WX.enter (tt := tt) (Γ := [(0, MF.rs .stb pa ca a)]) Tryz.func324 rfl (by kernel_rfl) rfl (allS_cons rfl hpa allS_nil) ?_
  refine WX.run ttOk rfl ?_
  have r1 : (a).length ≤ bd n := (okl hoka).1
  refine WX.mkS ((a).length) ttOk rfl rfl rfl rfl rfl rfl rfl (by omega) (by omega) rfl ?_
  intro p1
  refine WX.free 1 (MF.ol (zrep ((a).length) [.slice none (0) 0, .int .i64 (0)]) ((List.replicate ((a).length) (SeenNonce.mk (Name.mk ([])) 0)) : List SeenNonce)) (ol_zrep (α := SeenNonce) (z0 := (SeenNonce.mk (Name.mk ([])) 0)) (x0 := ((none, 0), ())) rfl (sep_emp_cons (owSl_nil _ _) trivial) _) ?_
  refine WX.run ttOk rfl ?_
  refine WX.loop (ι := (List Value) × (List SeenNonce) × Nat) ⟨fun | (xsout, out, i) => (i ≤ (a).length) ∧ (out.length = (a).length) ∧ (∀ z_ ∈ out, GoT.ok n z_) ∧ (laws_toSeenNonceS_L1 a 0 ((List.replicate ((a).length) (SeenNonce.mk (Name.mk ([])) 0)) : List SeenNonce) = laws_toSeenNonceS_L1 ((a).drop i) i out), fun | (xsout, out, i) => (a).length - i, fun | (xsout, out, i) => [(3, .v (.slice p1 ((a).length) ((a).length))), (4, .v (.int .i64 (((i : Nat) : Int)))), (0, .v (.slice pa ((a).length) ca))], fun | (xsout, out, i) => [], fun | (xsout, out, i) => [(7, ⟨2, p1, (a).length, ((a).length), xsout⟩)], fun | (xsout, out, i) => [(0, MF.rs .stb pa ca a), (1, MF.ol xsout (out : List SeenNonce))]⟩ ((zrep ((a).length) [.slice none (0) 0, .int .i64 (0)]), ((List.replicate ((a).length) (SeenNonce.mk (Name.mk ([])) 0)) : List SeenNonce), 0) ⟨(Nat.zero_le _), (by simp), (all_rep (And.intro (ok_nil (α := Str)) (show I64 0 from (by unfold I64; omega)))), rfl⟩
    (.cons rfl (.cons rfl (.cons rfl (.nil)))) .nil (.cons rfl (.nil)) [0, 1] rfl ?_
  rintro ⟨xsout, out, i⟩ hpre
  have hpre_ : (i ≤ (a).length) ∧ (out.length = (a).length) ∧ (∀ z_ ∈ out, GoT.ok n z_) ∧ (laws_toSeenNonceS_L1 a 0 ((List.replicate ((a).length) (SeenNonce.mk (Name.mk ([])) 0)) : List SeenNonce) = laws_toSeenNonceS_L1 ((a).drop i) i out) := hpre
  clear hpre
  obtain ⟨v1, v2, v3, v4⟩ := hpre_
  refine WX.run ttOk rfl ?_
  refine WX.cases 11 rfl (fun h1 => ?_) (fun h1 => ?_)
  · skip
    have h1d := B.dt h1
    have e1i : i < (a).length := (by omega)
    obtain ⟨e1, e1h⟩ : ∃ e1, (a)[i]? = some e1 := ⟨_, List.getElem?_eq_getElem e1i⟩
    have ok1 : GoT.ok n e1 := (okl hoka).2 _ (List.mem_of_getElem? e1h)
    refine WX.run ttOk rfl ?_
    refine WX.idx 0 i ttOk rfl rfl rfl rfl rfl rfl rfl rfl rfl rfl e1i ?_
    rintro ad1 rfl
    refine WX.ldE 0 2 e1 ttOk rfl rfl rfl rfl rfl rfl rfl rfl e1h (fun _ => rfl) (fun _ => rfl) ?_
    rintro ⟨⟨p2, c1⟩, ⟨⟩⟩
    refine WX.callF 3 (fun _ _ h => GoT.ow_rd h) (fun _ f hf => GoT.fak f hf) rfl rfl rfl rfl rfl (fun _ => rfl) rfl (fun w G bs hI hΓ => f392 w n (by omega) e1 p2 c1 (hΓ.get 2 rfl) ok1) (fun _ => rfl) (fun _ => rfl) ?_
    rintro ⟨⟨p3, c2⟩, ⟨⟩⟩ hq1
    have hr1 : i < (a).length := (by first | assumption | omega)
    refine WX.idxR 7 i ttOk rfl rfl rfl rfl rfl rfl rfl rfl rfl hr1 ?_
    rintro ad2 rfl
    have e2i : i < (out).length := (by first | assumption | omega)
    obtain ⟨e2, e2h⟩ : ∃ e2, (out)[i]? = some e2 := ⟨_, List.getElem?_eq_getElem e2i⟩
    have ok2 : GoT.ok n e2 := v3 _ (List.mem_of_getElem? e2h)
    refine WX.opnE (α := SeenNonce) (e := e2) 7 1 5 i rfl rfl rfl e2h (fun _ => rfl) (fun _ _ _ => rfl) (fun _ _ _ => rfl) ?_
    rintro A1 B1 ⟨⟨p4, c3⟩, ⟨⟩⟩ hA1 hB1
    refine WX.stA 7 ttOk rfl rfl rfl rfl rfl rfl rfl rfl rfl rfl rfl rfl rfl rfl hA1 hr1 rfl rfl rfl rfl (by simp) rfl ?_
    refine WX.run ttOk rfl ?_
    refine WX.see rfl rfl rfl (fun _ hΓ => looks_arith rfl rfl rfl rfl (by unfold I64; first | omega | (dsimp only; omega))) ?_
    refine WX.run ttOk rfl ?_
    refine WX.turn [4, 7, 8] 9 rfl (fun h hs => cl_elem (α := SeenNonce) (e := (laws_toSeenNonce e1)) (x := ((p3, c2), ())) e2i hs) (gs := [MF.ol (A1 ++ [.slice p3 (((laws_toSeenNonce e1).name.parts).length) c2, .int .i64 ((laws_toSeenNonce e1).nonce)] ++ B1) (out.set i (laws_toSeenNonce e1))]) rfl ?_
    refine WX.turn [9] 1 rfl (fun _ h => h) rfl ?_
    exact WX.iter ((A1 ++ [.slice p3 (((laws_toSeenNonce e1).name.parts).length) c2, .int .i64 ((laws_toSeenNonce e1).nonce)] ++ B1), ((out.set i (laws_toSeenNonce e1)) : List SeenNonce), i + 1) ⟨(by omega), (by first | assumption | omega | (simp only [List.length_append, List.length_cons, List.length_nil, List.length_set, List.length_map, List.length_take, List.length_drop]; omega) | (simp; omega)), (all_set v3 (show GoT.ok n ((laws_toSeenNonce e1) : SeenNonce) from hq1)), (by rw [v4, drop_get e1h]; simp only [laws_toSeenNonceS_L1, e2h, cond_true, cond_false])⟩ (by dsimp only; omega) (.cons rfl (.cons rfl (.cons rfl (.nil)))) .nil (.cons rfl (.nil)) [0, 1] rfl
  · skip
    have h1d := B.df h1
    refine WX.run ttOk rfl ?_
    have hX1 : laws_toSeenNonceS_L1 a 0 ((List.replicate ((a).length) (SeenNonce.mk (Name.mk ([])) 0)) : List SeenNonce) = ((out) : List SeenNonce) := by rw [v4, List.drop_eq_nil_of_le (show (a).length ≤ i by omega)]; simp only [laws_toSeenNonceS_L1, cond_true, cond_false]
    refine WX.seal 7 1 10 rfl rfl (show (a).length = (out).length from by omega) rfl rfl ?_
    refine WX.slot 2 (y := .v (.slice p1 (out).length ((a).length))) rfl (fun _ => by show (Value.slice p1 ((a).length) ((a).length) : Value) = Value.slice p1 (out).length ((a).length); rw [(show (a).length = (out).length from by omega)]) ?_
    refine WX.slot 22 (y := .v (.slice p1 (out).length ((a).length))) rfl (fun _ => by show (Value.slice p1 ((a).length) ((a).length) : Value) = Value.slice p1 (out).length ((a).length); rw [(show (a).length = (out).length from by omega)]) ?_
    refine WX.slot 3 (y := .v (.slice p1 (out).length ((a).length))) rfl (fun _ => by show (Value.slice p1 ((a).length) ((a).length) : Value) = Value.slice p1 (out).length ((a).length); rw [(show (a).length = (out).length from by omega)]) ?_
    have hP1 : laws_toSeenNonceS a = out := by simp only [laws_toSeenNonceS, hX1, cond_true, cond_false]
    refine WX.ret ttOk rfl ?_
    intro w1 G bs hI hΓ
    rw [hP1]
    exact Post.of [11] (p1, ((a).length)) hI hΓ rfl rfl rfl (okl_mk (by omega) v3 : GoT.ok n (out : List SeenNonce))
theorem f393 (w : World) (n : Nat) (hn : n + 0 ≤ 9) (a : Route) (paPrefix : Option Addr) (caPrefix : Nat) (hpaPrefix : RdSl (hp w) paPrefix caPrefix a.pfx.parts) (hoka : GoT.ok n a) :
    Does Tryz.prog 393 #[.agg #[.slice paPrefix ((a.pfx.parts).length) caPrefix, .int .i64 (a.face), .int .i64 (a.cost)]] w emp (Post w emp (fun x : GoT.X (Route) => .agg ⟨GoT.sh ((laws_toRoute a) : Route) x⟩) (fun x => GoT.oa ((laws_toRoute a) : Route) x) (GoT.ok n ((laws_toRoute a) : Route))) := by
  have hbP := bd_pos n
  have hbB := bd_big (n := n) (by omega)
  refine WX.enter (tt := tt) (Γ := [(0, MF.rs .stb paPrefix caPrefix a.pfx.parts)]) Tryz.func393 rfl (by kernel_rfl) rfl (allS_cons rfl hpaPrefix allS_nil) ?_
  refine WX.run ttOk rfl ?_
  refine WX.callF 1 (fun _ _ h => GoT.ow_rd h) (fun _ f hf => GoT.fak f hf) rfl rfl rfl rfl rfl (fun _ => rfl) rfl (fun w G bs hI hΓ => f65 w n (by omega) a.pfx paPrefix caPrefix (hΓ.get 0 rfl) ((ok_Route hoka).1)) (fun _ => rfl) (fun _ => rfl) ?_
  rintro ⟨p1, c1⟩ hq1
  refine WX.run ttOk rfl ?_
  have hP1 : laws_toRoute a = (Route.mk (laws_toName a.pfx) a.face a.cost) := by simp only [laws_toRoute, cond_true, cond_false]
  refine WX.ret ttOk rfl ?_
  intro w1 G bs hI hΓ
  rw [hP1]
  exact Post.of [2] ((p1, c1), (), ()) hI hΓ rfl rfl rfl (And.intro hq1 (And.intro (ok_Route hoka).2.1 (ok_Route hoka).2.2))
theorem f325 (w : World) (n : Nat) (hn : n + 0 ≤ 9) (a : (List Route)) (pa : Option Addr) (ca : Nat) (hpa : RdSl (hp w) pa ca a) (hoka : GoT.ok n a) :
    Does Tryz.prog 325 #[.slice pa ((a).length) ca] w emp (Post w emp (fun x : GoT.X ((List Route)) => (GoT.sh ((laws_toRouteS a) : (List Route)) x).headD undef) (fun x => GoT.oa ((laws_toRouteS a) : (List Route)) x) (GoT.ok n ((laws_toRouteS a) : (List Route)))) := by
  have hbP := bd_pos n
  have hbB := bd_big (n := n) (by omega)
  refine WX.enter (tt := tt) (Γ := [(0, MF.rs .stb pa ca a)]) Tryz.func325 rfl (by kernel_rfl) rfl (allS_cons rfl hpa allS_nil) ?_
  refine WX.run ttOk rfl ?_
  have r1 : (a).length ≤ bd n := (okl hoka).1
  refine WX.mkS ((a).length) ttOk rfl rfl rfl rfl rfl rfl rfl (by omega) (by omega) rfl ?_
  intro p1
  refine WX.free 1 (MF.ol (zrep ((a).length) [.slice none (0) 0, .int .i64 (0), .int .i64 (0)]) ((List.replicate ((a).length) (Route.mk (Name.mk ([])) 0 0)) : List Route)) (ol_zrep (α := Route) (z0 := (Route.mk (Name.mk ([])) 0 0)) (x0 := ((none, 0), (), ())) rfl (sep_emp_cons (owSl_nil _ _) trivial) _) ?_
  refine WX.run ttOk rfl ?_
  refine WX.loop (ι := (List Value) × (List Route) × Nat) ⟨fun | (xsout, out, i) => (i ≤ (a).length) ∧ (out.length = (a).length) ∧ (∀ z_ ∈ out, GoT.ok n z_) ∧ (laws_toRouteS_L1 a 0 ((List.replicate ((a).length) (Route.mk (Name.mk ([])) 0 0)) : List Route) = laws_toRouteS_L1 ((a).drop i) i out), fun | (xsout, out, i) => (a).length - i, fun | (xsout, out, i) => [(3, .v (.slice p1 ((a).length) ((a).length))), (4, .v (.int .i64 (((i : Nat) : Int)))), (0, .v (.slice pa ((a).length) ca))], fun | (xsout, out, i) => [], fun | (xsout, out, i) => [(7, ⟨3, p1, (a).length, ((a).length), xsout⟩)], fun | (xsout, out, i) => [(0, MF.rs .stb pa ca a), (1, MF.ol xsout (out : List Route))]⟩ ((zrep ((a).length) [.slice none (0) 0, .int .i64 (0), .int .i64 (0)]), ((List.replicate ((a).length) (Route.mk (Name.mk ([])) 0 0)) : List Route), 0) ⟨(Nat.zero_le _), (by simp), (all_rep (And.intro (ok_nil (α := Str)) (And.intro (show I64 0 from (by unfold I64; omega)) (show I64 0 from (by unfold I64; omega))))), rfl⟩
    (.cons rfl (.cons rfl (.cons rfl (.nil)))) .nil (.cons rfl (.nil)) [0, 1] rfl ?_
  rintro ⟨xsout, out, i⟩ hpre
  have hpre_ : (i ≤ (a).length) ∧ (out.length = (a).length) ∧ (∀ z_ ∈ out, GoT.ok n z_) ∧ (laws_toRouteS_L1 a 0 ((List.replicate ((a).length) (Route.mk (Name.mk ([])) 0 0)) : List Route) = laws_toRouteS_L1 ((a).drop i) i out) := hpre
  clear hpre
  obtain ⟨v1, v2, v3, v4⟩ := hpre_
  refine WX.run ttOk rfl ?_
  refine WX.cases 11 rfl (fun h1 => ?_) (fun h1 => ?_)
  · skip
    have h1d := B.dt h1
    have e1i : i < (a).length := (by omega)
    obtain ⟨e1, e1h⟩ : ∃ e1, (a)[i]? = some e1 := ⟨_, List.getElem?_eq_getElem e1i⟩
    have ok1 : GoT.ok n e1 := (okl hoka).2 _ (List.mem_of_getElem? e1h)
    refine WX.run ttOk rfl ?_
    refine WX.idx 0 i ttOk rfl rfl rfl rfl rfl rfl rfl rfl rfl rfl e1i ?_
    rintro ad1 rfl
    refine WX.ldE 0 2 e1 ttOk rfl rfl rfl rfl rfl rfl rfl rfl e1h (fun _ => rfl) (fun _ => rfl) ?_
    rintro ⟨⟨p2, c1⟩, ⟨⟩, ⟨⟩⟩
    refine WX.callF 3 (fun _ _ h => GoT.ow_rd h) (fun _ f hf => GoT.fak f hf) rfl rfl rfl rfl rfl (fun _ => rfl) rfl (fun w G bs hI hΓ => f393 w n (by omega) e1 p2 c1 (hΓ.get 2 rfl) ok1) (fun _ => rfl) (fun _ => rfl) ?_
    rintro ⟨⟨p3, c2⟩, ⟨⟩, ⟨⟩⟩ hq1
    have hr1 : i < (a).length := (by first | assumption | omega)
    refine WX.idxR 7 i ttOk rfl rfl rfl rfl rfl rfl rfl rfl rfl hr1 ?_
    rintro ad2 rfl
    have e2i : i < (out).length := (by first | assumption | omega)
    obtain ⟨e2, e2h⟩ : ∃ e2, (out)[i]? = some e2 := ⟨_, List.getElem?_eq_getElem e2i⟩
    have ok2 : GoT.ok n e2 := v3 _ (List.mem_of_getElem? e2h)
    refine WX.opnE (α := Route) (e := e2) 7 1 5 i rfl rfl rfl e2h (fun _ => rfl) (fun _ _ _ => rfl) (fun _ _ _ => rfl) ?_
    rintro A1 B1 ⟨⟨p4, c3⟩, ⟨⟩, ⟨⟩⟩ hA1 hB1
    refine WX.stA 7 ttOk rfl rfl rfl rfl rfl rfl rfl rfl rfl rfl rfl rfl rfl rfl hA1 hr1 rfl rfl rfl rfl (by simp) rfl ?_
    refine WX.run ttOk rfl ?_
    refine WX.see rfl rfl rfl (fun _ hΓ => looks_arith rfl rfl rfl rfl (by unfold I64; first | omega | (dsimp only; omega))) ?_
    refine WX.run ttOk rfl ?_
    refine WX.turn [4, 7, 8] 9 rfl (fun h hs => cl_elem (α := Route) (e := (laws_toRoute e1)) (x := ((p3, c2), (), ())) e2i hs) (gs := [MF.ol (A1 ++ [.slice p3 (((laws_toRoute e1).pfx.parts).length) c2, .int .i64 ((laws_toRoute e1).face), .int .i64 ((laws_toRoute e1).cost)] ++ B1) (out.set i (laws_toRoute e1))]) rfl ?_
    refine WX.turn [9] 1 rfl (fun _ h => h) rfl ?_
    exact WX.iter ((A1 ++ [.slice p3 (((laws_toRoute e1).pfx.parts).length) c2, .int .i64 ((laws_toRoute e1).face), .int .i64 ((laws_toRoute e1).cost)] ++ B1), ((out.set i (laws_toRoute e1)) : List Route), i + 1) ⟨(by omega), (by first | assumption | omega | (simp only [List.length_append, List.length_cons, List.length_nil, List.length_set, List.length_map, List.length_take, List.length_drop]; omega) | (simp; omega)), (all_set v3 (show GoT.ok n ((laws_toRoute e1) : Route) from hq1)), (by rw [v4, drop_get e1h]; simp only [laws_toRouteS_L1, e2h, cond_true, cond_false])⟩ (by dsimp only; omega) (.cons rfl (.cons rfl (.cons rfl (.nil)))) .nil (.cons rfl (.nil)) [0, 1] rfl
  · skip
    have h1d := B.df h1
    refine WX.run ttOk rfl ?_
    have hX1 : laws_toRouteS_L1 a 0 ((List.replicate ((a).length) (Route.mk (Name.mk ([])) 0 0)) : List Route) = ((out) : List Route) := by rw [v4, List.drop_eq_nil_of_le (show (a).length ≤ i by omega)]; simp only [laws_toRouteS_L1, cond_true, cond_false]
    refine WX.seal 7 1 10 rfl rfl (show (a).length = (out).length from by omega) rfl rfl ?_
    refine WX.slot 2 (y := .v (.slice p1 (out).length ((a).length))) rfl (fun _ => by show (Value.slice p1 ((a).length) ((a).length) : Value) = Value.slice p1 (out).length ((a).length); rw [(show (a).length = (out).length from by omega)]) ?_
    refine WX.slot 22 (y := .v (.slice p1 (out).length ((a).length))) rfl (fun _ => by show (Value.slice p1 ((a).length) ((a).length) : Value) = Value.slice p1 (out).length ((a).length); rw [(show (a).length = (out).length from by omega)]) ?_
    refine WX.slot 3 (y := .v (.slice p1 (out).length ((a).length))) rfl (fun _ => by show (Value.slice p1 ((a).length) ((a).length) : Value) = Value.slice p1 (out).length ((a).length); rw [(show (a).length = (out).length from by omega)]) ?_
    have hP1 : laws_toRouteS a = out := by simp only [laws_toRouteS, hX1, cond_true, cond_false]
    refine WX.ret ttOk rfl ?_
    intro w1 G bs hI hΓ
    rw [hP1]
    exact Post.of [11] (p1, ((a).length)) hI hΓ rfl rfl rfl (okl_mk (by omega) v3 : GoT.ok n (out : List Route))
theorem f394 (w : World) (n : Nat) (hn : n + 0 ≤ 9) (a : Measurement) (paPrefix : Option Addr) (caPrefix : Nat) (hpaPrefix : RdSl (hp w) paPrefix caPrefix a.pfx.parts) (hoka : GoT.ok n a) :
    Does Tryz.prog 394 #[.agg #[.slice paPrefix ((a.pfx.parts).length) caPrefix, .int .i64 (a.face), .int .i64 (a.failures)]] w emp (Post w emp (fun x : GoT.X (Measurement) => .agg ⟨GoT.sh ((laws_toMeasurement a) : Measurement) x⟩) (fun x => GoT.oa ((laws_toMeasurement a) : Measurement) x) (GoT.ok n ((laws_toMeasurement a) : Measurement))) := by
  have hbP := bd_pos n
  have hbB := bd_big (n := n) (by omega)
  refine WX.enter (tt := tt) (Γ := [(0, MF.rs .stb paPrefix caPrefix a.pfx.parts)]) Tryz.func394 rfl (by kernel_rfl) rfl (allS_cons rfl hpaPrefix allS_nil) ?_
  refine WX.run ttOk rfl ?_
  refine WX.callF 1 (fun _ _ h => GoT.ow_rd h) (fun _ f hf => GoT.fak f hf) rfl rfl rfl rfl rfl (fun _ => rfl) rfl (fun w G bs hI hΓ => f65 w n (by omega) a.pfx paPrefix caPrefix (hΓ.get 0 rfl) ((ok_Measurement hoka).1)) (fun _ => rfl) (fun _ => rfl) ?_
  rintro ⟨p1, c1⟩ hq1
  refine WX.run ttOk rfl ?_
  have hP1 : laws_toMeasurement a = (Measurement.mk (laws_toName a.pfx) a.face a.failures) := by simp only [laws_toMeasurement, cond_true, cond_false]
  refine WX.ret ttOk rfl ?_
  intro w1 G bs hI hΓ
  rw [hP1]
  exact Post.of [2] ((p1, c1), (), ()) hI hΓ rfl rfl rfl (And.intro hq1 (And.intro (ok_Measurement hoka).2.1 (ok_Measurement hoka).2.2))
theorem f326 (w : World) (n : Nat) (hn : n + 0 ≤ 9) (a : (List Measurement)) (pa : Option Addr) (ca : Nat) (hpa : RdSl (hp w) pa ca a) (hoka : GoT.ok n a) :
    Does Tryz.prog 326 #[.slice pa ((a).length) ca] w emp (Post w emp (fun x : GoT.X ((List Measurement)) => (GoT.sh ((laws_toMeasurementS a) : (List Measurement)) x).headD undef) (fun x => GoT.oa ((laws_toMeasurementS a) : (List Measurement)) x) (GoT.ok n ((laws_toMeasurementS a) : (List Measurement)))) := by
  have hbP := bd_pos n
  have hbB := bd_big (n := n) (by omega)
  refine WX.enter (tt := tt) (Γ := [(0, MF.rs .stb pa ca a)]) Tryz.func326 rfl (by kernel_rfl) rfl (allS_cons rfl hpa allS_nil) ?_
  refine WX.run ttOk rfl ?_
  have r1 : (a).length ≤ bd n := (okl hoka).1
  refine WX.mkS ((a).length) ttOk rfl rfl rfl rfl rfl rfl rfl (by omega) (by omega) rfl ?_
  intro p1
  refine WX.free 1 (MF.ol (zrep ((a).length) [.slice none (0) 0, .int .i64 (0), .int .i64 (0)]) ((List.replicate ((a).length) (Measurement.mk (Name.mk ([])) 0 0)) : List Measurement)) (ol_zrep (α := Measurement) (z0 := (Measurement.mk (Name.mk ([])) 0 0)) (x0 := ((none, 0), (), ())) rfl (sep_emp_cons (owSl_nil _ _) trivial) _) ?_
  refine WX.run ttOk rfl ?_
  refine WX.loop (ι := (List Value) × (List Measurement) × Nat) ⟨fun | (xsout, out, i) => (i ≤ (a).length) ∧ (out.length = (a).length) ∧ (∀ z_ ∈ out, GoT.ok n z_) ∧ (laws_toMeasurementS_L1 a 0 ((List.replicate ((a).length) (Measurement.mk (Name.mk ([])) 0 0)) : List Measurement) = laws_toMeasurementS_L1 ((a).drop i) i out), fun | (xsout, out, i) => (a).length - i, fun | (xsout, out, i) => [(3, .v (.slice p1 ((a).length) ((a).length))), (4, .v (.int .i64 (((i : Nat) : Int)))), (0, .v (.slice pa ((a).length) ca))], fun | (xsout, out, i) => [], fun | (xsout, out, i) => [(7, ⟨3, p1, (a).length, ((a).length), xsout⟩)], fun | (xsout, out, i) => [(0, MF.rs .stb pa ca a), (1, MF.ol xsout (out : List Measurement))]⟩ ((zrep ((a).length) [.slice none (0) 0, .int .i64 (0), .int .i64 (0)]), ((List.replicate ((a).length) (Measurement.mk (Name.mk ([])) 0 0)) : List Measurement), 0) ⟨(Nat.zero_le _), (by simp), (all_rep (And.intro (ok_nil (α := Str)) (And.intro (show I64 0 from (by unfold I64; omega)) (show I64 0 from (by unfold I64; omega))))), rfl⟩
    (.cons rfl (.cons rfl (.cons rfl (.nil)))) .nil (.cons rfl (.nil)) [0, 1] rfl ?_
  rintro ⟨xsout, out, i⟩ hpre
  have hpre_ : (i ≤ (a).length) ∧ (out.length = (a).length) ∧ (∀ z_ ∈ out, GoT.ok n z_) ∧ (laws_toMeasurementS_L1 a 0 ((List.replicate ((a).length) (Measurement.mk (Name.mk ([])) 0 0)) : List Measurement) = laws_toMeasurementS_L1 ((a).drop i) i out) := hpre
  clear hpre
  obtain ⟨v1, v2, v3, v4⟩ := hpre_
  refine WX.run ttOk rfl ?_
  refine WX.cases 11 rfl (fun h1 => ?_) (fun h1 => ?_)
  · skip
    have h1d := B.dt h1
    have e1i : i < (a).length := (by omega)
    obtain ⟨e1, e1h⟩ : ∃ e1, (a)[i]? = some e1 := ⟨_, List.getElem?_eq_getElem e1i⟩
    have ok1 : GoT.ok n e1 := (okl hoka).2 _ (List.mem_of_getElem? e1h)
    refine WX.run ttOk rfl ?_
    refine WX.idx 0 i ttOk rfl rfl rfl rfl rfl rfl rfl rfl rfl rfl e1i ?_
    rintro ad1 rfl
    refine WX.ldE 0 2 e1 ttOk rfl rfl rfl rfl rfl rfl rfl rfl e1h (fun _ => rfl) (fun _ => rfl) ?_
    rintro ⟨⟨p2, c1⟩, ⟨⟩, ⟨⟩⟩
    refine WX.callF 3 (fun _ _ h => GoT.ow_rd h) (fun _ f hf => GoT.fak f hf) rfl rfl rfl rfl rfl (fun _ => rfl) rfl (fun w G bs hI hΓ => f394 w n (by omega) e1 p2 c1 (hΓ.get 2 rfl) ok1) (fun _ => rfl) (fun _ => rfl) ?_
    rintro ⟨⟨p3, c2⟩, ⟨⟩, ⟨⟩⟩ hq1
    have hr1 : i < (a).length := (by first | assumption | omega)
    refine WX.idxR 7 i ttOk rfl rfl rfl rfl rfl rfl rfl rfl rfl hr1 ?_
    rintro ad2 rfl
    have e2i : i < (out).length := (by first | assumption | omega)
    obtain ⟨e2, e2h⟩ : ∃ e2, (out)[i]? = some e2 := ⟨_, List.getElem?_eq_getElem e2i⟩
    have ok2 : GoT.ok n e2 := v3 _ (List.mem_of_getElem? e2h)
    refine WX.opnE (α := Measurement) (e := e2) 7 1 5 i rfl rfl rfl e2h (fun _ => rfl) (fun _ _ _ => rfl) (fun _ _ _ => rfl) ?_
    rintro A1 B1 ⟨⟨p4, c3⟩, ⟨⟩, ⟨⟩⟩ hA1 hB1
    refine WX.stA 7 ttOk rfl rfl rfl rfl rfl rfl rfl rfl rfl rfl rfl rfl rfl rfl hA1 hr1 rfl rfl rfl rfl (by simp) rfl ?_
    refine WX.run ttOk rfl ?_
    refine WX.see rfl rfl rfl (fun _ hΓ => looks_arith rfl rfl rfl rfl (by unfold I64; first | omega | (dsimp only; omega))) ?_
    refine WX.run ttOk rfl ?_
    refine WX.turn [4, 7, 8] 9 rfl (fun h hs => cl_elem (α := Measurement) (e := (laws_toMeasurement e1)) (x := ((p3, c2), (), ())) e2i hs) (gs := [MF.ol (A1 ++ [.slice p3 (((laws_toMeasurement e1).pfx.parts).length) c2, .int .i64 ((laws_toMeasurement e1).face), .int .i64 ((laws_toMeasurement e1).failures)] ++ B1) (out.set i (laws_toMeasurement e1))]) rfl ?_
    refine WX.turn [9] 1 rfl (fun _ h => h) rfl ?_
    exact WX.iter ((A1 ++ [.slice p3 (((laws_toMeasurement e1).pfx.parts).length) c2, .int .i64 ((laws_toMeasurement e1).face), .int .i64 ((laws_toMeasurement e1).failures)] ++ B1), ((out.set i (laws_toMeasurement e1)) : List Measurement), i + 1) ⟨(by omega), (by first | assumption | omega | (simp only [List.length_append, List.length_cons, List.length_nil, List.length_set, List.length_map, List.length_take, List.length_drop]; omega) | (simp; omega)), (all_set v3 (show GoT.ok n ((laws_toMeasurement e1) : Measurement) from hq1)), (by rw [v4, drop_get e1h]; simp only [laws_toMeasurementS_L1, e2h, cond_true, cond_false])⟩ (by dsimp only; omega) (.cons rfl (.cons rfl (.cons rfl (.nil)))) .nil (.cons rfl (.nil)) [0, 1] rfl
  · skip
    have h1d := B.df h1
    refine WX.run ttOk rfl ?_
    have hX1 : laws_toMeasurementS_L1 a 0 ((List.replicate ((a).length) (Measurement.mk (Name.mk ([])) 0 0)) : List Measurement) = ((out) : List Measurement) := by rw [v4, List.drop_eq_nil_of_le (show (a).length ≤ i by omega)]; simp only [laws_toMeasurementS_L1, cond_true, cond_false]
    refine WX.seal 7 1 10 rfl rfl (show (a).length = (out).length from by omega) rfl rfl ?_
    refine WX.slot 2 (y := .v (.slice p1 (out).length ((a).length))) rfl (fun _ => by show (Value.slice p1 ((a).length) ((a).length) : Value) = Value.slice p1 (out).length ((a).length); rw [(show (a).length = (out).length from by omega)]) ?_
    refine WX.slot 22 (y := .v (.slice p1 (out).length ((a).length))) rfl (fun _ => by show (Value.slice p1 ((a).length) ((a).length) : Value) = Value.slice p1 (out).length ((a).length); rw [(show (a).length = (out).length from by omega)]) ?_
    refine WX.slot 3 (y := .v (.slice p1 (out).length ((a).length))) rfl (fun _ => by show (Value.slice p1 ((a).length) ((a).length) : Value) = Value.slice p1 (out).length ((a).length); rw [(show (a).length = (out).length from by omega)]) ?_
    have hP1 : laws_toMeasurementS a = out := by simp only [laws_toMeasurementS, hX1, cond_true, cond_false]
    refine WX.ret ttOk rfl ?_
    intro w1 G bs hI hΓ
    rw [hP1]
    exact Post.of [11] (p1, ((a).length)) hI hΓ rfl rfl rfl (okl_mk (by omega) v3 : GoT.ok n (out : List Measurement))
theorem f230 (w : World) (n : Nat) (hn : n + 0 ≤ 9) (a : NodeP) (paLocal : Option Addr) (caLocal : Nat) (hpaLocal : RdSl (hp w) paLocal caLocal a.locl) (paCacheEntries : Option Addr) (caCacheEntries : Nat) (hpaCacheEntries : RdSl (hp w) paCacheEntries caCacheEntries a.cache.entries) (paPending : Option Addr) (caPending : Nat) (hpaPending : RdSl (hp w) paPending caPending a.pending) (paSeen : Option Addr) (caSeen : Nat) (hpaSeen : RdSl (hp w) paSeen caSeen a.seen) (paRoutes : Option Addr) (caRoutes : Nat) (hpaRoutes : RdSl (hp w) paRoutes caRoutes a.routes) (paMeasurements : Option Addr) (caMeasurements : Nat) (hpaMeasurements : RdSl (hp w) paMeasurements caMeasurements a.measurements) (hoka : GoT.ok n a) :
    Does Tryz.prog 230 #[.agg #[.slice paLocal ((a.locl).length) caLocal, .int .i64 (a.cache.capacity), .slice paCacheEntries ((a.cache.entries).length) caCacheEntries, .slice paPending ((a.pending).length) caPending, .slice paSeen ((a.seen).length) caSeen, .slice paRoutes ((a.routes).length) caRoutes, .slice paMeasurements ((a.measurements).length) caMeasurements, .int .i64 (a.dropped)]] w emp (Post w emp (fun x : GoT.X (NodeP) => .agg ⟨GoT.sh ((laws_toNode a) : NodeP) x⟩) (fun x => GoT.oa ((laws_toNode a) : NodeP) x) (GoT.ok n ((laws_toNode a) : NodeP))) := by
  have hbP := bd_pos n
  have hbB := bd_big (n := n) (by omega)
  refine WX.enter (tt := tt) (Γ := [(0, MF.rs .stb paLocal caLocal a.locl), (1, MF.rs .stb paCacheEntries caCacheEntries a.cache.entries), (2, MF.rs .stb paPending caPending a.pending), (3, MF.rs .stb paSeen caSeen a.seen), (4, MF.rs .stb paRoutes caRoutes a.routes), (5, MF.rs .stb paMeasurements caMeasurements a.measurements)]) Tryz.func230 rfl (by kernel_rfl) rfl (allS_cons rfl hpaLocal (allS_cons rfl hpaCacheEntries (allS_cons rfl hpaPending (allS_cons rfl hpaSeen (allS_cons rfl hpaRoutes (allS_cons rfl hpaMeasurements allS_nil)))))) ?_
  refine WX.run ttOk rfl ?_
  refine WX.callF 6 (fun _ _ h => GoT.ow_rd h) (fun _ f hf => GoT.fak f hf) rfl rfl rfl rfl rfl (fun _ => rfl) rfl (fun w G bs hI hΓ => f98 w n (by omega) a.locl paLocal caLocal (hΓ.get 0 rfl) ((ok_NodeP hoka).1)) (fun _ => rfl) (fun _ => rfl) ?_
  rintro ⟨p1, c1⟩ hq1
  refine WX.run ttOk rfl ?_
  refine WX.callF 8 (fun _ _ h => GoT.ow_rd h) (fun _ f hf => GoT.fak f hf) rfl rfl rfl rfl rfl (fun _ => rfl) rfl (fun w G bs hI hΓ => f322 w n (by omega) a.cache paCacheEntries caCacheEntries (hΓ.get 1 rfl) ((ok_NodeP hoka).2.1)) (fun _ => rfl) (fun _ => rfl) ?_
  rintro ⟨⟨⟩, ⟨p2, c2⟩⟩ hq2
  refine WX.run ttOk rfl ?_
  refine WX.callF 10 (fun _ _ h => GoT.ow_rd h) (fun _ f hf => GoT.fak f hf) rfl rfl rfl rfl rfl (fun _ => rfl) rfl (fun w G bs hI hΓ => f323 w n (by omega) a.pending paPending caPending (hΓ.get 2 rfl) ((ok_NodeP hoka).2.2.1)) (fun _ => rfl) (fun _ => rfl) ?_
  rintro ⟨p3, c3⟩ hq3
  refine WX.run ttOk rfl ?_
  refine WX.callF 12 (fun _ _ h => GoT.ow_rd h) (fun _ f hf => GoT.fak f hf) rfl rfl rfl rfl rfl (fun _ => rfl) rfl (fun w G bs hI hΓ => f324 w n (by omega) a.seen paSeen caSeen (hΓ.get 3 rfl) ((ok_NodeP hoka).2.2.2.1)) (fun _ => rfl) (fun _ => rfl) ?_
  rintro ⟨p4, c4⟩ hq4
  refine WX.run ttOk rfl ?_
  refine WX.callF 14 (fun _ _ h => GoT.ow_rd h) (fun _ f hf => GoT.fak f hf) rfl rfl rfl rfl rfl (fun _ => rfl) rfl (fun w G bs hI hΓ => f325 w n (by omega) a.routes paRoutes caRoutes (hΓ.get 4 rfl) ((ok_NodeP hoka).2.2.2.2.1)) (fun _ => rfl) (fun _ => rfl) ?_
  rintro ⟨p5, c5⟩ hq5
  refine WX.run ttOk rfl ?_
  refine WX.callF 16 (fun _ _ h => GoT.ow_rd h) (fun _ f hf => GoT.fak f hf) rfl rfl rfl rfl rfl (fun _ => rfl) rfl (fun w G bs hI hΓ => f326 w n (by omega) a.measurements paMeasurements caMeasurements (hΓ.get 5 rfl) ((ok_NodeP hoka).2.2.2.2.2.1)) (fun _ => rfl) (fun _ => rfl) ?_
  rintro ⟨p6, c6⟩ hq6
  refine WX.run ttOk rfl ?_
  have hP1 : laws_toNode a = (NodeP.mk (laws_toDataS a.locl) (laws_toContentStore a.cache) (laws_toPendingInterestS a.pending) (laws_toSeenNonceS a.seen) (laws_toRouteS a.routes) (laws_toMeasurementS a.measurements) a.dropped) := by simp only [laws_toNode, cond_true, cond_false]
  refine WX.ret ttOk rfl ?_
  intro w1 G bs hI hΓ
  rw [hP1]
  exact Post.of [7, 9, 11, 13, 15, 17] ((p1, c1), ((), (p2, c2)), (p3, c3), (p4, c4), (p5, c5), (p6, c6), ()) hI hΓ rfl rfl rfl (And.intro hq1 (And.intro hq2 (And.intro hq3 (And.intro hq4 (And.intro hq5 (And.intro hq6 (ok_NodeP hoka).2.2.2.2.2.2))))))
theorem f127 (w : World) (n : Nat) (hn : n + 0 ≤ 9) (a : (List NodeP)) (pa : Option Addr) (ca : Nat) (hpa : RdSl (hp w) pa ca a) (hoka : GoT.ok n a) :
    Does Tryz.prog 127 #[.slice pa ((a).length) ca] w emp (Post w emp (fun x : GoT.X ((List NodeP)) => (GoT.sh ((laws_toNodeS a) : (List NodeP)) x).headD undef) (fun x => GoT.oa ((laws_toNodeS a) : (List NodeP)) x) (GoT.ok n ((laws_toNodeS a) : (List NodeP)))) := by
  have hbP := bd_pos n
  have hbB := bd_big (n := n) (by omega)
  refine WX.enter (tt := tt) (Γ := [(0, MF.rs .stb pa ca a)]) Tryz.func127 rfl (by kernel_rfl) rfl (allS_cons rfl hpa allS_nil) ?_
  refine WX.run ttOk rfl ?_
  have r1 : (a).length ≤ bd n := (okl hoka).1
  refine WX.mkS ((a).length) ttOk rfl rfl rfl rfl rfl rfl rfl (by omega) (by omega) rfl ?_
  intro p1
  refine WX.free 1 (MF.ol (zrep ((a).length) [.slice none (0) 0, .int .i64 (0), .slice none (0) 0, .slice none (0) 0, .slice none (0) 0, .slice none (0) 0, .slice none (0) 0, .int .i64 (0)]) ((List.replicate ((a).length) (NodeP.mk ([]) (ContentStore.mk 0 ([])) ([]) ([]) ([]) ([]) 0)) : List NodeP)) (ol_zrep (α := NodeP) (z0 := (NodeP.mk ([]) (ContentStore.mk 0 ([])) ([]) ([]) ([]) ([]) 0)) (x0 := ((none, 0), ((), (none, 0)), (none, 0), (none, 0), (none, 0), (none, 0), ())) rfl (sep_emp_cons (owSl_nil _ _) (sep_emp_cons (owSl_nil _ _) (sep_emp_cons (owSl_nil _ _) (sep_emp_cons (owSl_nil _ _) (sep_emp_cons (owSl_nil _ _) (sep_emp_cons (owSl_nil _ _) trivial)))))) _) ?_
  refine WX.run ttOk rfl ?_
  refine WX.loop (ι := (List Value) × (List NodeP) × Nat) ⟨fun | (xsout, out, i) => (i ≤ (a).length) ∧ (out.length = (a).length) ∧ (∀ z_ ∈ out, GoT.ok n z_) ∧ (laws_toNodeS_L1 a 0 ((List.replicate ((a).length) (NodeP.mk ([]) (ContentStore.mk 0 ([])) ([]) ([]) ([]) ([]) 0)) : List NodeP) = laws_toNodeS_L1 ((a).drop i) i out), fun | (xsout, out, i) => (a).length - i, fun | (xsout, out, i) => [(3, .v (.slice p1 ((a).length) ((a).length))), (4, .v (.int .i64 (((i : Nat) : Int)))), (0, .v (.slice pa ((a).length) ca))], fun | (xsout, out, i) => [], fun | (xsout, out, i) => [(7, ⟨8, p1, (a).length, ((a).length), xsout⟩)], fun | (xsout, out, i) => [(0, MF.rs .stb pa ca a), (1, MF.ol xsout (out : List NodeP))]⟩ ((zrep ((a).length) [.slice none (0) 0, .int .i64 (0), .slice none (0) 0, .slice none (0) 0, .slice none (0) 0, .slice none (0) 0, .slice none (0) 0, .int .i64 (0)]), ((List.replicate ((a).length) (NodeP.mk ([]) (ContentStore.mk 0 ([])) ([]) ([]) ([]) ([]) 0)) : List NodeP), 0) ⟨(Nat.zero_le _), (by simp), (all_rep (And.intro (ok_nil (α := DataP)) (And.intro (And.intro (show I64 0 from (by unfold I64; omega)) (ok_nil (α := CacheEntry))) (And.intro (ok_nil (α := PendingInterest)) (And.intro (ok_nil (α := SeenNonce)) (And.intro (ok_nil (α := Route)) (And.intro (ok_nil (α := Measurement)) (show I64 0 from (by unfold I64; omega))))))))), rfl⟩
    (.cons rfl (.cons rfl (.cons rfl (.nil)))) .nil (.cons rfl (.nil)) [0, 1] rfl ?_
  rintro ⟨xsout, out, i⟩ hpre
  have hpre_ : (i ≤ (a).length) ∧ (out.length = (a).length) ∧ (∀ z_ ∈ out, GoT.ok n z_) ∧ (laws_toNodeS_L1 a 0 ((List.replicate ((a).length) (NodeP.mk ([]) (ContentStore.mk 0 ([])) ([]) ([]) ([]) ([]) 0)) : List NodeP) = laws_toNodeS_L1 ((a).drop i) i out) := hpre
  clear hpre
  obtain ⟨v1, v2, v3, v4⟩ := hpre_
  refine WX.run ttOk rfl ?_
  refine WX.cases 11 rfl (fun h1 => ?_) (fun h1 => ?_)
  · skip
    have h1d := B.dt h1
    have e1i : i < (a).length := (by omega)
    obtain ⟨e1, e1h⟩ : ∃ e1, (a)[i]? = some e1 := ⟨_, List.getElem?_eq_getElem e1i⟩
    have ok1 : GoT.ok n e1 := (okl hoka).2 _ (List.mem_of_getElem? e1h)
    refine WX.run ttOk rfl ?_
    refine WX.idx 0 i ttOk rfl rfl rfl rfl rfl rfl rfl rfl rfl rfl e1i ?_
    rintro ad1 rfl
    refine WX.ldE 0 2 e1 ttOk rfl rfl rfl rfl rfl rfl rfl rfl e1h (fun _ => rfl) (fun _ => rfl) ?_
    rintro ⟨⟨p2, c1⟩, ⟨⟨⟩, ⟨p3, c2⟩⟩, ⟨p4, c3⟩, ⟨p5, c4⟩, ⟨p6, c5⟩, ⟨p7, c6⟩, ⟨⟩⟩
    refine WX.callF 8 (fun _ _ h => GoT.ow_rd h) (fun _ f hf => GoT.fak f hf) rfl rfl rfl rfl rfl (fun _ => rfl) rfl (fun w G bs hI hΓ => f230 w n (by omega) e1 p2 c1 (hΓ.get 2 rfl) p3 c2 (hΓ.get 3 rfl) p4 c3 (hΓ.get 4 rfl) p5 c4 (hΓ.get 5 rfl) p6 c5 (hΓ.get 6 rfl) p7 c6 (hΓ.get 7 rfl) ok1) (fun _ => rfl) (fun _ => rfl) ?_
    rintro ⟨⟨p8, c7⟩, ⟨⟨⟩, ⟨p9, c8⟩⟩, ⟨p10, c9⟩, ⟨p11, c10⟩, ⟨p12, c11⟩, ⟨p13, c12⟩, ⟨⟩⟩ hq1
    have hr1 : i < (a).length := (by first | assumption | omega)
    refine WX.idxR 7 i ttOk rfl rfl rfl rfl rfl rfl rfl rfl rfl hr1 ?_
    rintro ad2 rfl
    have e2i : i < (out).length := (by first | assumption | omega)
    obtain ⟨e2, e2h⟩ : ∃ e2, (out)[i]? = some e2 := ⟨_, List.getElem?_eq_getElem e2i⟩
    have ok2 : GoT.ok n e2 := v3 _ (List.mem_of_getElem? e2h)
    refine WX.opnE (α := NodeP) (e := e2) 7 1 20 i rfl rfl rfl e2h (fun _ => rfl) (fun _ _ _ => rfl) (fun _ _ _ => rfl) ?_
    rintro A1 B1 ⟨⟨p14, c13⟩, ⟨⟨⟩, ⟨p15, c14⟩⟩, ⟨p16, c15⟩, ⟨p17, c16⟩, ⟨p18, c17⟩, ⟨p19, c18⟩, ⟨⟩⟩ hA1 hB1
    refine WX.stA 7 ttOk rfl rfl rfl rfl rfl rfl rfl rfl rfl rfl rfl rfl rfl rfl hA1 hr1 rfl rfl rfl rfl (by simp) rfl ?_
    refine WX.run ttOk rfl ?_
    refine WX.see rfl rfl rfl (fun _ hΓ => looks_arith rfl rfl rfl rfl (by unfold I64; first | omega | (dsimp only; omega))) ?_
    refine WX.run ttOk rfl ?_
    refine WX.turn [14, 15, 16, 17, 18, 19, 32, 33] 34 rfl (fun h hs => cl_elem (α := NodeP) (e := (laws_toNode e1)) (x := ((p8, c7), ((), (p9, c8)), (p10, c9), (p11, c10), (p12, c11), (p13, c12), ())) e2i hs) (gs := [MF.ol (A1 ++ [.slice p8 (((laws_toNode e1).locl).length) c7, .int .i64 ((laws_toNode e1).cache.capacity), .slice p9 (((laws_toNode e1).cache.entries).length) c8, .slice p10 (((laws_toNode e1).pending).length) c9, .slice p11 (((laws_toNode e1).seen).length) c10, .slice p12 (((laws_toNode e1).routes).length) c11, .slice p13 (((laws_toNode e1).measurements).length) c12, .int .i64 ((laws_toNode e1).dropped)] ++ B1) (out.set i (laws_toNode e1))]) rfl ?_
    refine WX.turn [34] 1 rfl (fun _ h => h) rfl ?_
    exact WX.iter ((A1 ++ [.slice p8 (((laws_toNode e1).locl).length) c7, .int .i64 ((laws_toNode e1).cache.capacity), .slice p9 (((laws_toNode e1).cache.entries).length) c8, .slice p10 (((laws_toNode e1).pending).length) c9, .slice p11 (((laws_toNode e1).seen).length) c10, .slice p12 (((laws_toNode e1).routes).length) c11, .slice p13 (((laws_toNode e1).measurements).length) c12, .int .i64 ((laws_toNode e1).dropped)] ++ B1), ((out.set i (laws_toNode e1)) : List NodeP), i + 1) ⟨(by omega), (by first | assumption | omega | (simp only [List.length_append, List.length_cons, List.length_nil, List.length_set, List.length_map, List.length_take, List.length_drop]; omega) | (simp; omega)), (all_set v3 (show GoT.ok n ((laws_toNode e1) : NodeP) from hq1)), (by rw [v4, drop_get e1h]; simp only [laws_toNodeS_L1, e2h, cond_true, cond_false])⟩ (by dsimp only; omega) (.cons rfl (.cons rfl (.cons rfl (.nil)))) .nil (.cons rfl (.nil)) [0, 1] rfl
  · skip
    have h1d := B.df h1
    refine WX.run ttOk rfl ?_
    have hX1 : laws_toNodeS_L1 a 0 ((List.replicate ((a).length) (NodeP.mk ([]) (ContentStore.mk 0 ([])) ([]) ([]) ([]) ([]) 0)) : List NodeP) = ((out) : List NodeP) := by rw [v4, List.drop_eq_nil_of_le (show (a).length ≤ i by omega)]; simp only [laws_toNodeS_L1, cond_true, cond_false]
    refine WX.seal 7 1 35 rfl rfl (show (a).length = (out).length from by omega) rfl rfl ?_
    refine WX.slot 2 (y := .v (.slice p1 (out).length ((a).length))) rfl (fun _ => by show (Value.slice p1 ((a).length) ((a).length) : Value) = Value.slice p1 (out).length ((a).length); rw [(show (a).length = (out).length from by omega)]) ?_
    refine WX.slot 22 (y := .v (.slice p1 (out).length ((a).length))) rfl (fun _ => by show (Value.slice p1 ((a).length) ((a).length) : Value) = Value.slice p1 (out).length ((a).length); rw [(show (a).length = (out).length from by omega)]) ?_
    refine WX.slot 3 (y := .v (.slice p1 (out).length ((a).length))) rfl (fun _ => by show (Value.slice p1 ((a).length) ((a).length) : Value) = Value.slice p1 (out).length ((a).length); rw [(show (a).length = (out).length from by omega)]) ?_
    have hP1 : laws_toNodeS a = out := by simp only [laws_toNodeS, hX1, cond_true, cond_false]
    refine WX.ret ttOk rfl ?_
    intro w1 G bs hI hΓ
    rw [hP1]
    exact Post.of [36] (p1, ((a).length)) hI hΓ rfl rfl rfl (okl_mk (by omega) v3 : GoT.ok n (out : List NodeP))
theorem f128 (w : World) (n : Nat) (hn : n + 0 ≤ 9) (a : (List Int)) (pa : Option Addr) (ca : Nat) (hpa : RdSl (hp w) pa ca a) (hoka : GoT.ok n a) :
    Does Tryz.prog 128 #[.slice pa ((a).length) ca] w emp (Post w emp (fun x : GoT.X ((List Int)) => (GoT.sh ((laws_toIntS a) : (List Int)) x).headD undef) (fun x => GoT.oa ((laws_toIntS a) : (List Int)) x) (GoT.ok n ((laws_toIntS a) : (List Int)))) := by
  have hbP := bd_pos n
  have hbB := bd_big (n := n) (by omega)
  refine WX.enter (tt := tt) (Γ := [(0, MF.rs .stb pa ca a)]) Tryz.func128 rfl (by kernel_rfl) rfl (allS_cons rfl hpa allS_nil) ?_
  refine WX.run ttOk rfl ?_
  have r1 : (a).length ≤ bd n := (okl hoka).1
  refine WX.mkS ((a).length) ttOk rfl rfl rfl rfl rfl rfl rfl (by omega) (by omega) rfl ?_
  intro p1
  refine WX.free 1 (MF.ol (zrep ((a).length) [.int .i64 (0)]) ((List.replicate ((a).length) 0) : List Int)) (ol_zrep (α := Int) (z0 := 0) (x0 := ()) rfl trivial _) ?_
  refine WX.run ttOk rfl ?_
  refine WX.loop (ι := (List Value) × (List Int) × Nat) ⟨fun | (xsout, out, i) => (i ≤ (a).length) ∧ (out.length = (a).length) ∧ (∀ z_ ∈ out, GoT.ok n z_) ∧ (laws_toIntS_L1 a 0 ((List.replicate ((a).length) 0) : List Int) = laws_toIntS_L1 ((a).drop i) i out), fun | (xsout, out, i) => (a).length - i, fun | (xsout, out, i) => [(3, .v (.slice p1 ((a).length) ((a).length))), (4, .v (.int .i64 (((i : Nat) : Int)))), (0, .v (.slice pa ((a).length) ca))], fun | (xsout, out, i) => [], fun | (xsout, out, i) => [(7, ⟨1, p1, (a).length, ((a).length), xsout⟩)], fun | (xsout, out, i) => [(0, MF.rs .stb pa ca a), (1, MF.ol xsout (out : List Int))]⟩ ((zrep ((a).length) [.int .i64 (0)]), ((List.replicate ((a).length) 0) : List Int), 0) ⟨(Nat.zero_le _), (by simp), (all_rep (show I64 0 from (by unfold I64; omega))), rfl⟩
    (.cons rfl (.cons rfl (.cons rfl (.nil)))) .nil (.cons rfl (.nil)) [0, 1] rfl ?_
  rintro ⟨xsout, out, i⟩ hpre
  have hpre_ : (i ≤ (a).length) ∧ (out.length = (a).length) ∧ (∀ z_ ∈ out, GoT.ok n z_) ∧ (laws_toIntS_L1 a 0 ((List.replicate ((a).length) 0) : List Int) = laws_toIntS_L1 ((a).drop i) i out) := hpre
  clear hpre
  obtain ⟨v1, v2, v3, v4⟩ := hpre_
  refine WX.run ttOk rfl ?_
  refine WX.cases 11 rfl (fun h1 => ?_) (fun h1 => ?_)
  · skip
    have h1d := B.dt h1
    have e1i : i < (a).length := (by omega)
    obtain ⟨e1, e1h⟩ : ∃ e1, (a)[i]? = some e1 := ⟨_, List.getElem?_eq_getElem e1i⟩
    have ok1 : GoT.ok n e1 := (okl hoka).2 _ (List.mem_of_getElem? e1h)
    refine WX.run ttOk rfl ?_
    refine WX.idx 0 i ttOk rfl rfl rfl rfl rfl rfl rfl rfl rfl rfl e1i ?_
    rintro ad1 rfl
    refine WX.ldE 0 2 e1 ttOk rfl rfl rfl rfl rfl rfl rfl rfl e1h (fun _ => rfl) (fun _ => rfl) ?_
    rintro ⟨⟩
    have hr1 : i < (a).length := (by first | assumption | omega)
    refine WX.idxR 7 i ttOk rfl rfl rfl rfl rfl rfl rfl rfl rfl hr1 ?_
    rintro ad2 rfl
    have e2i : i < (out).length := (by first | assumption | omega)
    obtain ⟨e2, e2h⟩ : ∃ e2, (out)[i]? = some e2 := ⟨_, List.getElem?_eq_getElem e2i⟩
    have ok2 : GoT.ok n e2 := v3 _ (List.mem_of_getElem? e2h)
    refine WX.opnE (α := Int) (e := e2) 7 1 2 i rfl rfl rfl e2h (fun _ => rfl) (fun _ _ _ => rfl) (fun _ _ _ => rfl) ?_
    rintro A1 B1 ⟨⟩ hA1 hB1
    refine WX.stA 7 ttOk rfl rfl rfl rfl rfl rfl rfl rfl rfl rfl rfl rfl rfl rfl hA1 hr1 rfl rfl rfl rfl (by simp) rfl ?_
    refine WX.run ttOk rfl ?_
    refine WX.see rfl rfl rfl (fun _ hΓ => looks_arith rfl rfl rfl rfl (by unfold I64; first | omega | (dsimp only; omega))) ?_
    refine WX.run ttOk rfl ?_
    refine WX.turn [2, 3] 4 rfl (fun h hs => cl_elem (α := Int) (e := e1) (x := ()) e2i hs) (gs := [MF.ol (A1 ++ [.int .i64 (e1)] ++ B1) (out.set i e1)]) rfl ?_
    refine WX.turn [4] 1 rfl (fun _ h => h) rfl ?_
    exact WX.iter ((A1 ++ [.int .i64 (e1)] ++ B1), ((out.set i e1) : List Int), i + 1) ⟨(by omega), (by first | assumption | omega | (simp only [List.length_append, List.length_cons, List.length_nil, List.length_set, List.length_map, List.length_take, List.length_drop]; omega) | (simp; omega)), (all_set v3 (show GoT.ok n (e1 : Int) from ok1)), (by rw [v4, drop_get e1h]; simp only [laws_toIntS_L1, e2h, cond_true, cond_false])⟩ (by dsimp only; omega) (.cons rfl (.cons rfl (.cons rfl (.nil)))) .nil (.cons rfl (.nil)) [0, 1] rfl
  · skip
    have h1d := B.df h1
    refine WX.run ttOk rfl ?_
    have hX1 : laws_toIntS_L1 a 0 ((List.replicate ((a).length) 0) : List Int) = ((out) : List Int) := by rw [v4, List.drop_eq_nil_of_le (show (a).length ≤ i by omega)]; simp only [laws_toIntS_L1, cond_true, cond_false]
    refine WX.seal 7 1 5 rfl rfl (show (a).length = (out).length from by omega) rfl rfl ?_
    refine WX.slot 2 (y := .v (.slice p1 (out).length ((a).length))) rfl (fun _ => by show (Value.slice p1 ((a).length) ((a).length) : Value) = Value.slice p1 (out).length ((a).length); rw [(show (a).length = (out).length from by omega)]) ?_
    refine WX.slot 21 (y := .v (.slice p1 (out).length ((a).length))) rfl (fun _ => by show (Value.slice p1 ((a).length) ((a).length) : Value) = Value.slice p1 (out).length ((a).length); rw [(show (a).length = (out).length from by omega)]) ?_
    refine WX.slot 3 (y := .v (.slice p1 (out).length ((a).length))) rfl (fun _ => by show (Value.slice p1 ((a).length) ((a).length) : Value) = Value.slice p1 (out).length ((a).length); rw [(show (a).length = (out).length from by omega)]) ?_
    have hP1 : laws_toIntS a = out := by simp only [laws_toIntS, hX1, cond_true, cond_false]
    refine WX.ret ttOk rfl ?_
    intro w1 G bs hI hΓ
    rw [hP1]
    exact Post.of [6] (p1, ((a).length)) hI hΓ rfl rfl rfl (okl_mk (by omega) v3 : GoT.ok n (out : List Int))
theorem f327 (w : World) (n : Nat) (hn : n + 0 ≤ 9) (a : Interest) (paName : Option Addr) (caName : Nat) (hpaName : RdSl (hp w) paName caName a.name.parts) (hoka : GoT.ok n a) :
    Does Tryz.prog 327 #[.agg #[.slice paName ((a.name.parts).length) caName, .int .i64 (a.nonce), .int .i64 (a.hopLimit), .int .i64 (a.lifetime)]] w emp (Post w emp (fun x : GoT.X (Interest) => .agg ⟨GoT.sh ((laws_toInterest a) : Interest) x⟩) (fun x => GoT.oa ((laws_toInterest a) : Interest) x) (GoT.ok n ((laws_toInterest a) : Interest))) := by
  have hbP := bd_pos n
  have hbB := bd_big (n := n) (by omega)
  refine WX.enter (tt := tt) (Γ := [(0, MF.rs .stb paName caName a.name.parts)]) Tryz.func327 rfl (by kernel_rfl) rfl (allS_cons rfl hpaName allS_nil) ?_
  refine WX.run ttOk rfl ?_
  refine WX.callF 1 (fun _ _ h => GoT.ow_rd h) (fun _ f hf => GoT.fak f hf) rfl rfl rfl rfl rfl (fun _ => rfl) rfl (fun w G bs hI hΓ => f65 w n (by omega) a.name paName caName (hΓ.get 0 rfl) ((ok_Interest hoka).1)) (fun _ => rfl) (fun _ => rfl) ?_
  rintro ⟨p1, c1⟩ hq1
  refine WX.run ttOk rfl ?_
  have hP1 : laws_toInterest a = (Interest.mk (laws_toName a.name) a.nonce a.hopLimit a.lifetime) := by simp only [laws_toInterest, cond_true, cond_false]
  refine WX.ret ttOk rfl ?_
  intro w1 G bs hI hΓ
  rw [hP1]
  exact Post.of [2] ((p1, c1), (), (), ()) hI hΓ rfl rfl rfl (And.intro hq1 (And.intro (ok_Interest hoka).2.1 (And.intro (ok_Interest hoka).2.2.1 (ok_Interest hoka).2.2.2)))
theorem f231 (w : World) (n : Nat) (hn : n + 0 ≤ 9) (a : PacketInFlight) (paInterestName : Option Addr) (caInterestName : Nat) (hpaInterestName : RdSl (hp w) paInterestName caInterestName a.interest.name.parts) (paDataName : Option Addr) (caDataName : Nat) (hpaDataName : RdSl (hp w) paDataName caDataName a.data.name.parts) (paDataContent : Option Addr) (caDataContent : Nat) (hpaDataContent : RdSl (hp w) paDataContent caDataContent a.data.content) (paDataKeyName : Option Addr) (caDataKeyName : Nat) (hpaDataKeyName : RdSl (hp w) paDataKeyName caDataKeyName a.data.keyName.parts) (hoka : GoT.ok n a) :
    Does Tryz.prog 231 #[.agg #[.int .i64 (a.to), .int .i64 (a.face), .bool a.isInterest, .slice paInterestName ((a.interest.name.parts).length) caInterestName, .int .i64 (a.interest.nonce), .int .i64 (a.interest.hopLimit), .int .i64 (a.interest.lifetime), .slice paDataName ((a.data.name.parts).length) caDataName, .slice paDataContent ((a.data.content).length) caDataContent, .slice paDataKeyName ((a.data.keyName.parts).length) caDataKeyName, .int .i64 (a.data.freshUntil), .int .i64 (a.data.signature)]] w emp (Post w emp (fun x : GoT.X (PacketInFlight) => .agg ⟨GoT.sh ((laws_toPacketInFlight a) : PacketInFlight) x⟩) (fun x => GoT.oa ((laws_toPacketInFlight a) : PacketInFlight) x) (GoT.ok n ((laws_toPacketInFlight a) : PacketInFlight))) := by
  have hbP := bd_pos n
  have hbB := bd_big (n := n) (by omega)
  refine WX.enter (tt := tt) (Γ := [(0, MF.rs .stb paInterestName caInterestName a.interest.name.parts), (1, MF.rs .stb paDataName caDataName a.data.name.parts), (2, MF.rs .stb paDataContent caDataContent a.data.content), (3, MF.rs .stb paDataKeyName caDataKeyName a.data.keyName.parts)]) Tryz.func231 rfl (by kernel_rfl) rfl (allS_cons rfl hpaInterestName (allS_cons rfl hpaDataName (allS_cons rfl hpaDataContent (allS_cons rfl hpaDataKeyName allS_nil)))) ?_
  refine WX.run ttOk rfl ?_
  refine WX.callF 4 (fun _ _ h => GoT.ow_rd h) (fun _ f hf => GoT.fak f hf) rfl rfl rfl rfl rfl (fun _ => rfl) rfl (fun w G bs hI hΓ => f327 w n (by omega) a.interest paInterestName caInterestName (hΓ.get 0 rfl) ((ok_PacketInFlight hoka).2.2.2.1)) (fun _ => rfl) (fun _ => rfl) ?_
  rintro ⟨⟨p1, c1⟩, ⟨⟩, ⟨⟩, ⟨⟩⟩ hq1
  refine WX.run ttOk rfl ?_
  refine WX.callF 6 (fun _ _ h => GoT.ow_rd h) (fun _ f hf => GoT.fak f hf) rfl rfl rfl rfl rfl (fun _ => rfl) rfl (fun w G bs hI hΓ => f34 w n (by omega) a.data paDataName caDataName (hΓ.get 1 rfl) paDataContent caDataContent (hΓ.get 2 rfl) paDataKeyName caDataKeyName (hΓ.get 3 rfl) ((ok_PacketInFlight hoka).2.2.2.2)) (fun _ => rfl) (fun _ => rfl) ?_
  rintro ⟨⟨p2, c2⟩, ⟨p3, c3⟩, ⟨p4, c4⟩, ⟨⟩, ⟨⟩⟩ hq2
  refine WX.run ttOk rfl ?_
  have hP1 : laws_toPacketInFlight a = (PacketInFlight.mk a.to a.face a.isInterest (laws_toInterest a.interest) (laws_toData a.data)) := by simp only [laws_toPacketInFlight, cond_true, cond_false]
  refine WX.ret ttOk rfl ?_
  intro w1 G bs hI hΓ
  rw [hP1]
  exact Post.of [5, 9, 10, 11] ((), (), (), ((p1, c1), (), (), ()), ((p2, c2), (p3, c3), (p4, c4), (), ())) hI hΓ rfl rfl rfl (And.intro (ok_PacketInFlight hoka).1 (And.intro (ok_PacketInFlight hoka).2.1 (And.intro trivial (And.intro hq1 hq2))))
theorem f129 (w : World) (n : Nat) (hn : n + 0 ≤ 9) (a : (List PacketInFlight)) (pa : Option Addr) (ca : Nat) (hpa : RdSl (hp w) pa ca a) (hoka : GoT.ok n a) :
    Does Tryz.prog 129 #[.slice pa ((a).length) ca] w emp (Post w emp (fun x : GoT.X ((List PacketInFlight)) => (GoT.sh ((laws_toPacketInFlightS a) : (List PacketInFlight)) x).headD undef) (fun x => GoT.oa ((laws_toPacketInFlightS a) : (List PacketInFlight)) x) (GoT.ok n ((laws_toPacketInFlightS a) : (List PacketInFlight)))) := by
  have hbP := bd_pos n
  have hbB := bd_big (n := n) (by omega)
  refine WX.enter (tt := tt) (Γ := [(0, MF.rs .stb pa ca a)]) Tryz.func129 rfl (by kernel_rfl) rfl (allS_cons rfl hpa allS_nil) ?_
  refine WX.run ttOk rfl ?_
  have r1 : (a).length ≤ bd n := (okl hoka).1
  refine WX.mkS ((a).length) ttOk rfl rfl rfl rfl rfl rfl rfl (by omega) (by omega) rfl ?_
  intro p1
  refine WX.free 1 (MF.ol (zrep ((a).length) [.int .i64 (0), .int .i64 (0), .bool false, .slice none (0) 0, .int .i64 (0), .int .i64 (0), .int .i64 (0), .slice none (0) 0, .slice none (0) 0, .slice none (0) 0, .int .i64 (0), .int .i64 (0)]) ((List.replicate ((a).length) (PacketInFlight.mk 0 0 false (Interest.mk (Name.mk ([])) 0 0 0) (DataP.mk (Name.mk ([])) ([]) (Name.mk ([])) 0 0))) : List PacketInFlight)) (ol_zrep (α := PacketInFlight) (z0 := (PacketInFlight.mk 0 0 false (Interest.mk (Name.mk ([])) 0 0 0) (DataP.mk (Name.mk ([])) ([]) (Name.mk ([])) 0 0))) (x0 := ((), (), (), ((none, 0), (), (), ()), ((none, 0), (none, 0), (none, 0), (), ()))) rfl (sep_emp_cons (owSl_nil _ _) (sep_emp_cons (owSl_nil _ _) (sep_emp_cons (owSl_nil _ _) (sep_emp_cons (owSl_nil _ _) trivial)))) _) ?_
  refine WX.run ttOk rfl ?_
  refine WX.loop (ι := (List Value) × (List PacketInFlight) × Nat) ⟨fun | (xsout, out, i) => (i ≤ (a).length) ∧ (out.length = (a).length) ∧ (∀ z_ ∈ out, GoT.ok n z_) ∧ (laws_toPacketInFlightS_L1 a 0 ((List.replicate ((a).length) (PacketInFlight.mk 0 0 false (Interest.mk (Name.mk ([])) 0 0 0) (DataP.mk (Name.mk ([])) ([]) (Name.mk ([])) 0 0))) : List PacketInFlight) = laws_toPacketInFlightS_L1 ((a).drop i) i out), fun | (xsout, out, i) => (a).length - i, fun | (xsout, out, i) => [(3, .v (.slice p1 ((a).length) ((a).length))), (4, .v (.int .i64 (((i : Nat) : Int)))), (0, .v (.slice pa ((a).length) ca))], fun | (xsout, out, i) => [], fun | (xsout, out, i) => [(7, ⟨12, p1, (a).length, ((a).length), xsout⟩)], fun | (xsout, out, i) => [(0, MF.rs .stb pa ca a), (1, MF.ol xsout (out : List PacketInFlight))]⟩ ((zrep ((a).length) [.int .i64 (0), .int .i64 (0), .bool false, .slice none (0) 0, .int .i64 (0), .int .i64 (0), .int .i64 (0), .slice none (0) 0, .slice none (0) 0, .slice none (0) 0, .int .i64 (0), .int .i64 (0)]), ((List.replicate ((a).length) (PacketInFlight.mk 0 0 false (Interest.mk (Name.mk ([])) 0 0 0) (DataP.mk (Name.mk ([])) ([]) (Name.mk ([])) 0 0))) : List PacketInFlight), 0) ⟨(Nat.zero_le _), (by simp), (all_rep (And.intro (show I64 0 from (by unfold I64; omega)) (And.intro (show I64 0 from (by unfold I64; omega)) (And.intro trivial (And.intro (And.intro (ok_nil (α := Str)) (And.intro (show I64 0 from (by unfold I64; omega)) (And.intro (show I64 0 from (by unfold I64; omega)) (show I64 0 from (by unfold I64; omega))))) (And.intro (ok_nil (α := Str)) (And.intro (ok_nil (α := UInt8)) (And.intro (ok_nil (α := Str)) (And.intro (show I64 0 from (by unfold I64; omega)) (show I64 0 from (by unfold I64; omega))))))))))), rfl⟩
    (.cons rfl (.cons rfl (.cons rfl (.nil)))) .nil (.cons rfl (.nil)) [0, 1] rfl ?_
  rintro ⟨xsout, out, i⟩ hpre
  have hpre_ : (i ≤ (a).length) ∧ (out.length = (a).length) ∧ (∀ z_ ∈ out, GoT.ok n z_) ∧ (laws_toPacketInFlightS_L1 a 0 ((List.replicate ((a).length) (PacketInFlight.mk 0 0 false (Interest.mk (Name.mk ([])) 0 0 0) (DataP.mk (Name.mk ([])) ([]) (Name.mk ([])) 0 0))) : List PacketInFlight) = laws_toPacketInFlightS_L1 ((a).drop i) i out) := hpre
  clear hpre
  obtain ⟨v1, v2, v3, v4⟩ := hpre_
  refine WX.run ttOk rfl ?_
  refine WX.cases 11 rfl (fun h1 => ?_) (fun h1 => ?_)
  · skip
    have h1d := B.dt h1
    have e1i : i < (a).length := (by omega)
    obtain ⟨e1, e1h⟩ : ∃ e1, (a)[i]? = some e1 := ⟨_, List.getElem?_eq_getElem e1i⟩
    have ok1 : GoT.ok n e1 := (okl hoka).2 _ (List.mem_of_getElem? e1h)
    refine WX.run ttOk rfl ?_
    refine WX.idx 0 i ttOk rfl rfl rfl rfl rfl rfl rfl rfl rfl rfl e1i ?_
    rintro ad1 rfl
    refine WX.ldE 0 2 e1 ttOk rfl rfl rfl rfl rfl rfl rfl rfl e1h (fun _ => rfl) (fun _ => rfl) ?_
    rintro ⟨⟨⟩, ⟨⟩, ⟨⟩, ⟨⟨p2, c1⟩, ⟨⟩, ⟨⟩, ⟨⟩⟩, ⟨⟨p3, c2⟩, ⟨p4, c3⟩, ⟨p5, c4⟩, ⟨⟩, ⟨⟩⟩⟩
    refine WX.callF 6 (fun _ _ h => GoT.ow_rd h) (fun _ f hf => GoT.fak f hf) rfl rfl rfl rfl rfl (fun _ => rfl) rfl (fun w G bs hI hΓ => f231 w n (by omega) e1 p2 c1 (hΓ.get 2 rfl) p3 c2 (hΓ.get 3 rfl) p4 c3 (hΓ.get 4 rfl) p5 c4 (hΓ.get 5 rfl) ok1) (fun _ => rfl) (fun _ => rfl) ?_
    rintro ⟨⟨⟩, ⟨⟩, ⟨⟩, ⟨⟨p6, c5⟩, ⟨⟩, ⟨⟩, ⟨⟩⟩, ⟨⟨p7, c6⟩, ⟨p8, c7⟩, ⟨p9, c8⟩, ⟨⟩, ⟨⟩⟩⟩ hq1
    have hr1 : i < (a).length := (by first | assumption | omega)
    refine WX.idxR 7 i ttOk rfl rfl rfl rfl rfl rfl rfl rfl rfl hr1 ?_
    rintro ad2 rfl
    have e2i : i < (out).length := (by first | assumption | omega)
    obtain ⟨e2, e2h⟩ : ∃ e2, (out)[i]? = some e2 := ⟨_, List.getElem?_eq_getElem e2i⟩
    have ok2 : GoT.ok n e2 := v3 _ (List.mem_of_getElem? e2h)
    refine WX.opnE (α := PacketInFlight) (e := e2) 7 1 14 i rfl rfl rfl e2h (fun _ => rfl) (fun _ _ _ => rfl) (fun _ _ _ => rfl) ?_
    rintro A1 B1 ⟨⟨⟩, ⟨⟩, ⟨⟩, ⟨⟨p10, c9⟩, ⟨⟩, ⟨⟩, ⟨⟩⟩, ⟨⟨p11, c10⟩, ⟨p12, c11⟩, ⟨p13, c12⟩, ⟨⟩, ⟨⟩⟩⟩ hA1 hB1
    refine WX.stA 7 ttOk rfl rfl rfl rfl rfl rfl rfl rfl rfl rfl rfl rfl rfl rfl hA1 hr1 rfl rfl rfl rfl (by simp) rfl ?_
    refine WX.run ttOk rfl ?_
    refine WX.see rfl rfl rfl (fun _ hΓ => looks_arith rfl rfl rfl rfl (by unfold I64; first | omega | (dsimp only; omega))) ?_
    refine WX.run ttOk rfl ?_
    refine WX.turn [10, 11, 12, 13, 22, 23] 24 rfl (fun h hs => cl_elem (α := PacketInFlight) (e := (laws_toPacketInFlight e1)) (x := ((), (), (), ((p6, c5), (), (), ()), ((p7, c6), (p8, c7), (p9, c8), (), ()))) e2i hs) (gs := [MF.ol (A1 ++ [.int .i64 ((laws_toPacketInFlight e1).to), .int .i64 ((laws_toPacketInFlight e1).face), .bool ((laws_toPacketInFlight e1).isInterest), .slice p6 (((laws_toPacketInFlight e1).interest.name.parts).length) c5, .int .i64 ((laws_toPacketInFlight e1).interest.nonce), .int .i64 ((laws_toPacketInFlight e1).interest.hopLimit), .int .i64 ((laws_toPacketInFlight e1).interest.lifetime), .slice p7 (((laws_toPacketInFlight e1).data.name.parts).length) c6, .slice p8 (((laws_toPacketInFlight e1).data.content).length) c7, .slice p9 (((laws_toPacketInFlight e1).data.keyName.parts).length) c8, .int .i64 ((laws_toPacketInFlight e1).data.freshUntil), .int .i64 ((laws_toPacketInFlight e1).data.signature)] ++ B1) (out.set i (laws_toPacketInFlight e1))]) rfl ?_
    refine WX.turn [24] 1 rfl (fun _ h => h) rfl ?_
    exact WX.iter ((A1 ++ [.int .i64 ((laws_toPacketInFlight e1).to), .int .i64 ((laws_toPacketInFlight e1).face), .bool ((laws_toPacketInFlight e1).isInterest), .slice p6 (((laws_toPacketInFlight e1).interest.name.parts).length) c5, .int .i64 ((laws_toPacketInFlight e1).interest.nonce), .int .i64 ((laws_toPacketInFlight e1).interest.hopLimit), .int .i64 ((laws_toPacketInFlight e1).interest.lifetime), .slice p7 (((laws_toPacketInFlight e1).data.name.parts).length) c6, .slice p8 (((laws_toPacketInFlight e1).data.content).length) c7, .slice p9 (((laws_toPacketInFlight e1).data.keyName.parts).length) c8, .int .i64 ((laws_toPacketInFlight e1).data.freshUntil), .int .i64 ((laws_toPacketInFlight e1).data.signature)] ++ B1), ((out.set i (laws_toPacketInFlight e1)) : List PacketInFlight), i + 1) ⟨(by omega), (by first | assumption | omega | (simp only [List.length_append, List.length_cons, List.length_nil, List.length_set, List.length_map, List.length_take, List.length_drop]; omega) | (simp; omega)), (all_set v3 (show GoT.ok n ((laws_toPacketInFlight e1) : PacketInFlight) from hq1)), (by rw [v4, drop_get e1h]; simp only [laws_toPacketInFlightS_L1, e2h, cond_true, cond_false])⟩ (by dsimp only; omega) (.cons rfl (.cons rfl (.cons rfl (.nil)))) .nil (.cons rfl (.nil)) [0, 1] rfl
  · skip
    have h1d := B.df h1
    refine WX.run ttOk rfl ?_
    have hX1 : laws_toPacketInFlightS_L1 a 0 ((List.replicate ((a).length) (PacketInFlight.mk 0 0 false (Interest.mk (Name.mk ([])) 0 0 0) (DataP.mk (Name.mk ([])) ([]) (Name.mk ([])) 0 0))) : List PacketInFlight) = ((out) : List PacketInFlight) := by rw [v4, List.drop_eq_nil_of_le (show (a).length ≤ i by omega)]; simp only [laws_toPacketInFlightS_L1, cond_true, cond_false]
    refine WX.seal 7 1 25 rfl rfl (show (a).length = (out).length from by omega) rfl rfl ?_
    refine WX.slot 2 (y := .v (.slice p1 (out).length ((a).length))) rfl (fun _ => by show (Value.slice p1 ((a).length) ((a).length) : Value) = Value.slice p1 (out).length ((a).length); rw [(show (a).length = (out).length from by omega)]) ?_
    refine WX.slot 22 (y := .v (.slice p1 (out).length ((a).length))) rfl (fun _ => by show (Value.slice p1 ((a).length) ((a).length) : Value) = Value.slice p1 (out).length ((a).length); rw [(show (a).length = (out).length from by omega)]) ?_
    refine WX.slot 3 (y := .v (.slice p1 (out).length ((a).length))) rfl (fun _ => by show (Value.slice p1 ((a).length) ((a).length) : Value) = Value.slice p1 (out).length ((a).length); rw [(show (a).length = (out).length from by omega)]) ?_
    have hP1 : laws_toPacketInFlightS a = out := by simp only [laws_toPacketInFlightS, hX1, cond_true, cond_false]
    refine WX.ret ttOk rfl ?_
    intro w1 G bs hI hΓ
    rw [hP1]
    exact Post.of [26] (p1, ((a).length)) hI hΓ rfl rfl rfl (okl_mk (by omega) v3 : GoT.ok n (out : List PacketInFlight))
theorem f130 (w : World) (n : Nat) (hn : n + 0 ≤ 9) (a : (List Consumer)) (pa : Option Addr) (ca : Nat) (hpa : RdSl (hp w) pa ca a) (hoka : GoT.ok n a) :
    Does Tryz.prog 130 #[.slice pa ((a).length) ca] w emp (Post w emp (fun x : GoT.X ((List Consumer)) => (GoT.sh ((laws_toConsumerS a) : (List Consumer)) x).headD undef) (fun x => GoT.oa ((laws_toConsumerS a) : (List Consumer)) x) (GoT.ok n ((laws_toConsumerS a) : (List Consumer)))) := by
  have hbP := bd_pos n
  have hbB := bd_big (n := n) (by omega)
  refine WX.enter (tt := tt) (Γ := [(0, MF.rs .stb pa ca a)]) Tryz.func130 rfl (by kernel_rfl) rfl (allS_cons rfl hpa allS_nil) ?_
  refine WX.run ttOk rfl ?_
  have r1 : (a).length ≤ bd n := (okl hoka).1
  refine WX.mkS ((a).length) ttOk rfl rfl rfl rfl rfl rfl rfl (by omega) (by omega) rfl ?_
  intro p1
  refine WX.free 1 (MF.ol (zrep ((a).length) [.int .i64 (0), .int .i64 (0), .slice none (0) 0, .int .i64 (0), .int .i64 (0), .bool false, .slice none (0) 0, .slice none (0) 0, .slice none (0) 0, .int .i64 (0), .int .i64 (0)]) ((List.replicate ((a).length) (Consumer.mk 0 0 (Name.mk ([])) 0 0 false (DataP.mk (Name.mk ([])) ([]) (Name.mk ([])) 0 0))) : List Consumer)) (ol_zrep (α := Consumer) (z0 := (Consumer.mk 0 0 (Name.mk ([])) 0 0 false (DataP.mk (Name.mk ([])) ([]) (Name.mk ([])) 0 0))) (x0 := ((), (), (none, 0), (), (), (), ((none, 0), (none, 0), (none, 0), (), ()))) rfl (sep_emp_cons (owSl_nil _ _) (sep_emp_cons (owSl_nil _ _) (sep_emp_cons (owSl_nil _ _) (sep_emp_cons (owSl_nil _ _) trivial)))) _) ?_
  refine WX.run ttOk rfl ?_
  refine WX.loop (ι := (List Value) × (List Consumer) × Nat) ⟨fun | (xsout, out, i) => (i ≤ (a).length) ∧ (out.length = (a).length) ∧ (∀ z_ ∈ out, GoT.ok n z_) ∧ (laws_toConsumerS_L1 a 0 ((List.replicate ((a).length) (Consumer.mk 0 0 (Name.mk ([])) 0 0 false (DataP.mk (Name.mk ([])) ([]) (Name.mk ([])) 0 0))) : List Consumer) = laws_toConsumerS_L1 ((a).drop i) i out), fun | (xsout, out, i) => (a).length - i, fun | (xsout, out, i) => [(3, .v (.slice p1 ((a).length) ((a).length))), (4, .v (.int .i64 (((i : Nat) : Int)))), (0, .v (.slice pa ((a).length) ca))], fun | (xsout, out, i) => [], fun | (xsout, out, i) => [(7, ⟨11, p1, (a).length, ((a).length), xsout⟩)], fun | (xsout, out, i) => [(0, MF.rs .stb pa ca a), (1, MF.ol xsout (out : List Consumer))]⟩ ((zrep ((a).length) [.int .i64 (0), .int .i64 (0), .slice none (0) 0, .int .i64 (0), .int .i64 (0), .bool false, .slice none (0) 0, .slice none (0) 0, .slice none (0) 0, .int .i64 (0), .int .i64 (0)]), ((List.replicate ((a).length) (Consumer.mk 0 0 (Name.mk ([])) 0 0 false (DataP.mk (Name.mk ([])) ([]) (Name.mk ([])) 0 0))) : List Consumer), 0) ⟨(Nat.zero_le _), (by simp), (all_rep (And.intro (show I64 0 from (by unfold I64; omega)) (And.intro (show I64 0 from (by unfold I64; omega)) (And.intro (ok_nil (α := Str)) (And.intro (show I64 0 from (by unfold I64; omega)) (And.intro (show I64 0 from (by unfold I64; omega)) (And.intro trivial (And.intro (ok_nil (α := Str)) (And.intro (ok_nil (α := UInt8)) (And.intro (ok_nil (α := Str)) (And.intro (show I64 0 from (by unfold I64; omega)) (show I64 0 from (by unfold I64; omega))))))))))))), rfl⟩
    (.cons rfl (.cons rfl (.cons rfl (.nil)))) .nil (.cons rfl (.nil)) [0, 1] rfl ?_
  rintro ⟨xsout, out, i⟩ hpre
  have hpre_ : (i ≤ (a).length) ∧ (out.length = (a).length) ∧ (∀ z_ ∈ out, GoT.ok n z_) ∧ (laws_toConsumerS_L1 a 0 ((List.replicate ((a).length) (Consumer.mk 0 0 (Name.mk ([])) 0 0 false (DataP.mk (Name.mk ([])) ([]) (Name.mk ([])) 0 0))) : List Consumer) = laws_toConsumerS_L1 ((a).drop i) i out) := hpre
  clear hpre
  obtain ⟨v1, v2, v3, v4⟩ := hpre_
  refine WX.run ttOk rfl ?_
  refine WX.cases 11 rfl (fun h1 => ?_) (fun h1 => ?_)
  · skip
    have h1d := B.dt h1
    have e1i : i < (a).length := (by omega)
    obtain ⟨e1, e1h⟩ : ∃ e1, (a)[i]? = some e1 := ⟨_, List.getElem?_eq_getElem e1i⟩
    have ok1 : GoT.ok n e1 := (okl hoka).2 _ (List.mem_of_getElem? e1h)
    refine WX.run ttOk rfl ?_
    refine WX.idx 0 i ttOk rfl rfl rfl rfl rfl rfl rfl rfl rfl rfl e1i ?_
    rintro ad1 rfl
    refine WX.ldE 0 2 e1 ttOk rfl rfl rfl rfl rfl rfl rfl rfl e1h (fun _ => rfl) (fun _ => rfl) ?_
    rintro ⟨⟨⟩, ⟨⟩, ⟨p2, c1⟩, ⟨⟩, ⟨⟩, ⟨⟩, ⟨⟨p3, c2⟩, ⟨p4, c3⟩, ⟨p5, c4⟩, ⟨⟩, ⟨⟩⟩⟩
    refine WX.callF 6 (fun _ _ h => GoT.ow_rd h) (fun _ f hf => GoT.fak f hf) rfl rfl rfl rfl rfl (fun _ => rfl) rfl (fun w G bs hI hΓ => f32 w n (by omega) e1 p2 c1 (hΓ.get 2 rfl) p3 c2 (hΓ.get 3 rfl) p4 c3 (hΓ.get 4 rfl) p5 c4 (hΓ.get 5 rfl) ok1) (fun _ => rfl) (fun _ => rfl) ?_
    rintro ⟨⟨⟩, ⟨⟩, ⟨p6, c5⟩, ⟨⟩, ⟨⟩, ⟨⟩, ⟨⟨p7, c6⟩, ⟨p8, c7⟩, ⟨p9, c8⟩, ⟨⟩, ⟨⟩⟩⟩ hq1
    have hr1 : i < (a).length := (by first | assumption | omega)
    refine WX.idxR 7 i ttOk rfl rfl rfl rfl rfl rfl rfl rfl rfl hr1 ?_
    rintro ad2 rfl
    have e2i : i < (out).length := (by first | assumption | omega)
    obtain ⟨e2, e2h⟩ : ∃ e2, (out)[i]? = some e2 := ⟨_, List.getElem?_eq_getElem e2i⟩
    have ok2 : GoT.ok n e2 := v3 _ (List.mem_of_getElem? e2h)
    refine WX.opnE (α := Consumer) (e := e2) 7 1 14 i rfl rfl rfl e2h (fun _ => rfl) (fun _ _ _ => rfl) (fun _ _ _ => rfl) ?_
    rintro A1 B1 ⟨⟨⟩, ⟨⟩, ⟨p10, c9⟩, ⟨⟩, ⟨⟩, ⟨⟩, ⟨⟨p11, c10⟩, ⟨p12, c11⟩, ⟨p13, c12⟩, ⟨⟩, ⟨⟩⟩⟩ hA1 hB1
    refine WX.stA 7 ttOk rfl rfl rfl rfl rfl rfl rfl rfl rfl rfl rfl rfl rfl rfl hA1 hr1 rfl rfl rfl rfl (by simp) rfl ?_
    refine WX.run ttOk rfl ?_
    refine WX.see rfl rfl rfl (fun _ hΓ => looks_arith rfl rfl rfl rfl (by unfold I64; first | omega | (dsimp only; omega))) ?_
    refine WX.run ttOk rfl ?_
    refine WX.turn [10, 11, 12, 13, 22, 23] 24 rfl (fun h hs => cl_elem (α := Consumer) (e := (laws_toConsumer e1)) (x := ((), (), (p6, c5), (), (), (), ((p7, c6), (p8, c7), (p9, c8), (), ()))) e2i hs) (gs := [MF.ol (A1 ++ [.int .i64 ((laws_toConsumer e1).node), .int .i64 ((laws_toConsumer e1).index), .slice p6 (((laws_toConsumer e1).name.parts).length) c5, .int .i64 ((laws_toConsumer e1).attempts), .int .i64 ((laws_toConsumer e1).wait), .bool ((laws_toConsumer e1).satisfied), .slice p7 (((laws_toConsumer e1).data.name.parts).length) c6, .slice p8 (((laws_toConsumer e1).data.content).length) c7, .slice p9 (((laws_toConsumer e1).data.keyName.parts).length) c8, .int .i64 ((laws_toConsumer e1).data.freshUntil), .int .i64 ((laws_toConsumer e1).data.signature)] ++ B1) (out.set i (laws_toConsumer e1))]) rfl ?_
    refine WX.turn [24] 1 rfl (fun _ h => h) rfl ?_
    exact WX.iter ((A1 ++ [.int .i64 ((laws_toConsumer e1).node), .int .i64 ((laws_toConsumer e1).index), .slice p6 (((laws_toConsumer e1).name.parts).length) c5, .int .i64 ((laws_toConsumer e1).attempts), .int .i64 ((laws_toConsumer e1).wait), .bool ((laws_toConsumer e1).satisfied), .slice p7 (((laws_toConsumer e1).data.name.parts).length) c6, .slice p8 (((laws_toConsumer e1).data.content).length) c7, .slice p9 (((laws_toConsumer e1).data.keyName.parts).length) c8, .int .i64 ((laws_toConsumer e1).data.freshUntil), .int .i64 ((laws_toConsumer e1).data.signature)] ++ B1), ((out.set i (laws_toConsumer e1)) : List Consumer), i + 1) ⟨(by omega), (by first | assumption | omega | (simp only [List.length_append, List.length_cons, List.length_nil, List.length_set, List.length_map, List.length_take, List.length_drop]; omega) | (simp; omega)), (all_set v3 (show GoT.ok n ((laws_toConsumer e1) : Consumer) from hq1)), (by rw [v4, drop_get e1h]; simp only [laws_toConsumerS_L1, e2h, cond_true, cond_false])⟩ (by dsimp only; omega) (.cons rfl (.cons rfl (.cons rfl (.nil)))) .nil (.cons rfl (.nil)) [0, 1] rfl
  · skip
    have h1d := B.df h1
    refine WX.run ttOk rfl ?_
    have hX1 : laws_toConsumerS_L1 a 0 ((List.replicate ((a).length) (Consumer.mk 0 0 (Name.mk ([])) 0 0 false (DataP.mk (Name.mk ([])) ([]) (Name.mk ([])) 0 0))) : List Consumer) = ((out) : List Consumer) := by rw [v4, List.drop_eq_nil_of_le (show (a).length ≤ i by omega)]; simp only [laws_toConsumerS_L1, cond_true, cond_false]
    refine WX.seal 7 1 25 rfl rfl (show (a).length = (out).length from by omega) rfl rfl ?_
    refine WX.slot 2 (y := .v (.slice p1 (out).length ((a).length))) rfl (fun _ => by show (Value.slice p1 ((a).length) ((a).length) : Value) = Value.slice p1 (out).length ((a).length); rw [(show (a).length = (out).length from by omega)]) ?_
    refine WX.slot 22 (y := .v (.slice p1 (out).length ((a).length))) rfl (fun _ => by show (Value.slice p1 ((a).length) ((a).length) : Value) = Value.slice p1 (out).length ((a).length); rw [(show (a).length = (out).length from by omega)]) ?_
    refine WX.slot 3 (y := .v (.slice p1 (out).length ((a).length))) rfl (fun _ => by show (Value.slice p1 ((a).length) ((a).length) : Value) = Value.slice p1 (out).length ((a).length); rw [(show (a).length = (out).length from by omega)]) ?_
    have hP1 : laws_toConsumerS a = out := by simp only [laws_toConsumerS, hX1, cond_true, cond_false]
    refine WX.ret ttOk rfl ?_
    intro w1 G bs hI hΓ
    rw [hP1]
    exact Post.of [26] (p1, ((a).length)) hI hΓ rfl rfl rfl (okl_mk (by omega) v3 : GoT.ok n (out : List Consumer))
theorem f45 (w : World) (n : Nat) (hn : n + 0 ≤ 9) (a : Network) (paTopologyLinks : Option Addr) (caTopologyLinks : Nat) (hpaTopologyLinks : RdSl (hp w) paTopologyLinks caTopologyLinks a.topology.links) (paTrustKeys : Option Addr) (caTrustKeys : Nat) (hpaTrustKeys : RdSl (hp w) paTrustKeys caTrustKeys a.trust.keys) (paTrustRules : Option Addr) (caTrustRules : Nat) (hpaTrustRules : RdSl (hp w) paTrustRules caTrustRules a.trust.rules) (paTrustAnchors : Option Addr) (caTrustAnchors : Nat) (hpaTrustAnchors : RdSl (hp w) paTrustAnchors caTrustAnchors a.trust.anchors) (paTrustCertificates : Option Addr) (caTrustCertificates : Nat) (hpaTrustCertificates : RdSl (hp w) paTrustCertificates caTrustCertificates a.trust.certificates) (paProducers : Option Addr) (caProducers : Nat) (hpaProducers : RdSl (hp w) paProducers caProducers a.producers) (paNodes : Option Addr) (caNodes : Nat) (hpaNodes : RdSl (hp w) paNodes caNodes a.nodes) (paFailedLinks : Option Addr) (caFailedLinks : Nat) (hpaFailedLinks : RdSl (hp w) paFailedLinks caFailedLinks a.failedLinks) (paInFlight : Option Addr) (caInFlight : Nat) (hpaInFlight : RdSl (hp w) paInFlight caInFlight a.inFlight) (paConsumers : Option Addr) (caConsumers : Nat) (hpaConsumers : RdSl (hp w) paConsumers caConsumers a.consumers) (hoka : GoT.ok n a) :
    Does Tryz.prog 45 #[.agg #[.int .i64 (a.topology.size), .slice paTopologyLinks ((a.topology.links).length) caTopologyLinks, .slice paTrustKeys ((a.trust.keys).length) caTrustKeys, .slice paTrustRules ((a.trust.rules).length) caTrustRules, .slice paTrustAnchors ((a.trust.anchors).length) caTrustAnchors, .slice paTrustCertificates ((a.trust.certificates).length) caTrustCertificates, .slice paProducers ((a.producers).length) caProducers, .slice paNodes ((a.nodes).length) caNodes, .int .i64 (a.downNodes), .slice paFailedLinks ((a.failedLinks).length) caFailedLinks, .slice paInFlight ((a.inFlight).length) caInFlight, .slice paConsumers ((a.consumers).length) caConsumers, .int .i64 (a.now), .int .i64 (a.dropped)]] w emp (Post w emp (fun x : GoT.X (Network) => .agg ⟨GoT.sh ((laws_toNetwork a) : Network) x⟩) (fun x => GoT.oa ((laws_toNetwork a) : Network) x) (GoT.ok n ((laws_toNetwork a) : Network))) := by
  have hbP := bd_pos n
  have hbB := bd_big (n := n) (by omega)
  refine WX.enter (tt := tt) (Γ := [(0, MF.rs .stb paTopologyLinks caTopologyLinks a.topology.links), (1, MF.rs .stb paTrustKeys caTrustKeys a.trust.keys), (2, MF.rs .stb paTrustRules caTrustRules a.trust.rules), (3, MF.rs .stb paTrustAnchors caTrustAnchors a.trust.anchors), (4, MF.rs .stb paTrustCertificates caTrustCertificates a.trust.certificates), (5, MF.rs .stb paProducers caProducers a.producers), (6, MF.rs .stb paNodes caNodes a.nodes), (7, MF.rs .stb paFailedLinks caFailedLinks a.failedLinks), (8, MF.rs .stb paInFlight caInFlight a.inFlight), (9, MF.rs .stb paConsumers caConsumers a.consumers)]) Tryz.func45 rfl (by kernel_rfl) rfl (allS_cons rfl hpaTopologyLinks (allS_cons rfl hpaTrustKeys (allS_cons rfl hpaTrustRules (allS_cons rfl hpaTrustAnchors (allS_cons rfl hpaTrustCertificates (allS_cons rfl hpaProducers (allS_cons rfl hpaNodes (allS_cons rfl hpaFailedLinks (allS_cons rfl hpaInFlight (allS_cons rfl hpaConsumers allS_nil)))))))))) ?_
  refine WX.run ttOk rfl ?_
  refine WX.callF 10 (fun _ _ h => GoT.ow_rd h) (fun _ f hf => GoT.fak f hf) rfl rfl rfl rfl rfl (fun _ => rfl) rfl (fun w G bs hI hΓ => f125 w n (by omega) a.topology paTopologyLinks caTopologyLinks (hΓ.get 0 rfl) ((ok_Network hoka).1)) (fun _ => rfl) (fun _ => rfl) ?_
  rintro ⟨⟨⟩, ⟨p1, c1⟩⟩ hq1
  refine WX.run ttOk rfl ?_
  refine WX.callF 12 (fun _ _ h => GoT.ow_rd h) (fun _ f hf => GoT.fak f hf) rfl rfl rfl rfl rfl (fun _ => rfl) rfl (fun w G bs hI hΓ => f33 w n (by omega) a.trust paTrustKeys caTrustKeys (hΓ.get 1 rfl) paTrustRules caTrustRules (hΓ.get 2 rfl) paTrustAnchors caTrustAnchors (hΓ.get 3 rfl) paTrustCertificates caTrustCertificates (hΓ.get 4 rfl) ((ok_Network hoka).2.1)) (fun _ => rfl) (fun _ => rfl) ?_
  rintro ⟨⟨p2, c2⟩, ⟨p3, c3⟩, ⟨p4, c4⟩, ⟨p5, c5⟩⟩ hq2
  refine WX.run ttOk rfl ?_
  refine WX.callF 20 (fun _ _ h => GoT.ow_rd h) (fun _ f hf => GoT.fak f hf) rfl rfl rfl rfl rfl (fun _ => rfl) rfl (fun w G bs hI hΓ => f126 w n (by omega) a.producers paProducers caProducers (hΓ.get 5 rfl) ((ok_Network hoka).2.2.1)) (fun _ => rfl) (fun _ => rfl) ?_
  rintro ⟨p6, c6⟩ hq3
  refine WX.run ttOk rfl ?_
  refine WX.callF 22 (fun _ _ h => GoT.ow_rd h) (fun _ f hf => GoT.fak f hf) rfl rfl rfl rfl rfl (fun _ => rfl) rfl (fun w G bs hI hΓ => f127 w n (by omega) a.nodes paNodes caNodes (hΓ.get 6 rfl) ((ok_Network hoka).2.2.2.1)) (fun _ => rfl) (fun _ => rfl) ?_
  rintro ⟨p7, c7⟩ hq4
  refine WX.run ttOk rfl ?_
  refine WX.callF 24 (fun _ _ h => GoT.ow_rd h) (fun _ f hf => GoT.fak f hf) rfl rfl rfl rfl rfl (fun _ => rfl) rfl (fun w G bs hI hΓ => f128 w n (by omega) a.failedLinks paFailedLinks caFailedLinks (hΓ.get 7 rfl) ((ok_Network hoka).2.2.2.2.2.1)) (fun _ => rfl) (fun _ => rfl) ?_
  rintro ⟨p8, c8⟩ hq5
  refine WX.run ttOk rfl ?_
  refine WX.callF 26 (fun _ _ h => GoT.ow_rd h) (fun _ f hf => GoT.fak f hf) rfl rfl rfl rfl rfl (fun _ => rfl) rfl (fun w G bs hI hΓ => f129 w n (by omega) a.inFlight paInFlight caInFlight (hΓ.get 8 rfl) ((ok_Network hoka).2.2.2.2.2.2.1)) (fun _ => rfl) (fun _ => rfl) ?_
  rintro ⟨p9, c9⟩ hq6
  refine WX.run ttOk rfl ?_
  refine WX.callF 28 (fun _ _ h => GoT.ow_rd h) (fun _ f hf => GoT.fak f hf) rfl rfl rfl rfl rfl (fun _ => rfl) rfl (fun w G bs hI hΓ => f130 w n (by omega) a.consumers paConsumers caConsumers (hΓ.get 9 rfl) ((ok_Network hoka).2.2.2.2.2.2.2.1)) (fun _ => rfl) (fun _ => rfl) ?_
  rintro ⟨p10, c10⟩ hq7
  refine WX.run ttOk rfl ?_
  have hP1 : laws_toNetwork a = (Network.mk (laws_toTopology a.topology) (laws_toTrustPolicy a.trust) (laws_toTableEntryS a.producers) (laws_toNodeS a.nodes) a.downNodes (laws_toIntS a.failedLinks) (laws_toPacketInFlightS a.inFlight) (laws_toConsumerS a.consumers) a.now a.dropped) := by simp only [laws_toNetwork, cond_true, cond_false]
  refine WX.ret ttOk rfl ?_
  intro w1 G bs hI hΓ
  rw [hP1]
  exact Post.of [11, 16, 17, 18, 19, 21, 23, 25, 27, 29] (((), (p1, c1)), ((p2, c2), (p3, c3), (p4, c4), (p5, c5)), (p6, c6), (p7, c7), (), (p8, c8), (p9, c9), (p10, c10), (), ()) hI hΓ rfl rfl rfl (And.intro hq1 (And.intro hq2 (And.intro hq3 (And.intro hq4 (And.intro (ok_Network hoka).2.2.2.2.1 (And.intro hq5 (And.intro hq6 (And.intro hq7 (And.intro (ok_Network hoka).2.2.2.2.2.2.2.2.1 (ok_Network hoka).2.2.2.2.2.2.2.2.2)))))))))
end Go.Proofs.YtfffongneoegbaaGreat

namespace Go.Stp
set_option linter.unusedVariables false
set_option linter.unusedSimpArgs false
def slices_Equal_string_L1 (s2 : (List Str)) : List Str → Nat → Option (Bool)
  | [], i => none
  | e1 :: rest_, i =>
    match (s2)[i]? with
      | none => default
      | some e2 =>
        bif (!((e1).toList == (e2).toList)) then
          (some false)
        else
          slices_Equal_string_L1 s2 rest_ (i + 1)
def slices_Equal_string (s1 : (List Str)) (s2 : (List Str)) : Bool :=
  bif ((((s1).length : Nat) : Int) != (((s2).length : Nat) : Int)) then
    false
  else
    match slices_Equal_string_L1 s2 s1 0 with
      | some r_ => r_
      | none =>
        true
def slices_Equal_byte_L1 (s2 : (List UInt8)) : List UInt8 → Nat → Option (Bool)
  | [], i => none
  | e1 :: rest_, i =>
    match (s2)[i]? with
      | none => default
      | some e2 =>
        bif (((e1).toNat : Int) != ((e2).toNat : Int)) then
          (some false)
        else
          slices_Equal_byte_L1 s2 rest_ (i + 1)
def slices_Equal_byte (s1 : (List UInt8)) (s2 : (List UInt8)) : Bool :=
  bif ((((s1).length : Nat) : Int) != (((s2).length : Nat) : Int)) then
    false
  else
    match slices_Equal_byte_L1 s2 s1 0 with
      | some r_ => r_
      | none =>
        true
def impl_EqualNames (a : Name) (b : Name) : Bool :=
  (slices_Equal_string a.parts b.parts)
def spec_l4Cmp (a : Str) (b : Str) : Int :=
  bif (Op.bytesLess (a).toList (b).toList) then
    (-1)
  else
    bif (!(Op.bytesLess (a).toList (b).toList || (a).toList == (b).toList)) then
      1
    else
      0
def spec_CompareNames_L1 (b : Name) : List Str → Nat → Option (Int)
  | [], i => none
  | e1 :: rest_, i =>
    bif decide (((i : Nat) : Int) < (((b.parts).length : Nat) : Int)) then
      match (b.parts)[i]? with
        | none => default
        | some e2 =>
          bif ((spec_l4Cmp e1 e2) != 0) then
            (some (spec_l4Cmp e1 e2))
          else
            spec_CompareNames_L1 b rest_ (i + 1)
    else
      none
def spec_CompareNames (a : Name) (b : Name) : Int :=
  match spec_CompareNames_L1 b a.parts 0 with
    | some r_ => r_
    | none =>
      bif decide ((((a.parts).length : Nat) : Int) < (((b.parts).length : Nat) : Int)) then
        (-1)
      else
        bif decide ((((a.parts).length : Nat) : Int) > (((b.parts).length : Nat) : Int)) then
          1
        else
          0
def spec_EqualNames (a : Name) (b : Name) : Bool :=
  ((spec_CompareNames a b) == 0)
def spec_EqualBytes (a : (List UInt8)) (b : (List UInt8)) : Bool :=
  (((bstr a)).toList == ((bstr b)).toList)
def impl_EqualData (a : DataP) (b : DataP) : Bool :=
  bif (impl_EqualNames a.name b.name) then
    bif (slices_Equal_byte a.content b.content) then
      bif (impl_EqualNames a.keyName b.keyName) then
        bif (a.freshUntil == b.freshUntil) then
          (a.signature == b.signature)
        else
          false
      else
        false
    else
      false
  else
    false
def spec_EqualData (a : DataP) (b : DataP) : Bool :=
  bif (spec_EqualNames a.name b.name) then
    bif (spec_EqualBytes a.content b.content) then
      bif (spec_EqualNames a.keyName b.keyName) then
        bif (a.freshUntil == b.freshUntil) then
          (a.signature == b.signature)
        else
          false
      else
        false
    else
      false
  else
    false
def impl_EqualConsumers (a : Consumer) (b : Consumer) : Bool :=
  bif (a.node == b.node) then
    bif (a.index == b.index) then
      bif (impl_EqualNames a.name b.name) then
        bif (a.attempts == b.attempts) then
          bif (a.wait == b.wait) then
            bif (a.satisfied == b.satisfied) then
              (impl_EqualData a.data b.data)
            else
              false
          else
            false
        else
          false
      else
        false
    else
      false
  else
    false
def spec_EqualConsumers (a : Consumer) (b : Consumer) : Bool :=
  bif (a.node == b.node) then
    bif (a.index == b.index) then
      bif (spec_EqualNames a.name b.name) then
        bif (a.attempts == b.attempts) then
          bif (a.wait == b.wait) then
            bif (a.satisfied == b.satisfied) then
              (spec_EqualData a.data b.data)
            else
              false
          else
            false
        else
          false
      else
        false
    else
      false
  else
    false
end Go.Stp

