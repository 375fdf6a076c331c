/-
  What the proof of one law needs: rules of the program logic, functions as Lean functions, contracts. No condition but what each says. Written by a program (pack.py) out of my own texts.
-/
import Derived.Test.YtdimfabadjfkiaaGreatKValidNetwork4
namespace Go.Proofs.YtdimfabadjfkiaaGreat
open Go.Stp
set_option linter.unusedVariables false
set_option linter.unusedSimpArgs false
theorem f251 (w : World) (n : Nat) (hn : n + 0 ≤ 9) (a : (List Str)) (pa : Option Addr) (ca : Nat) (N0 : RdSl (hp w) pa ca a) (hoka : GoT.ok n a) :
  Does Tryz.prog 251 #[.slice pa ((a).length) ca] w emp (Post w emp (fun x : GoT.X ((List Str)) => (GoT.sh ((laws_toStringS a) : (List Str)) x).headD undef) (fun x => GoT.oa ((laws_toStringS a) : (List Str)) x) (GoT.ok n ((laws_toStringS a) : (List Str)))) := by
 have hbP := bd_pos n
 have hbB := bd_big (n := n) (by omega)
 refine WX.enter (tt := tt) (Γ := [(0, MF.rs .stb pa ca a)]) Tryz.func251 rfl (by kernel_rfl) rfl (allS_cons rfl N0 allS_nil) ?_
 refine R0 ?_
 have r1 : (a).length ≤ bd n := (okl hoka).1
 refine WX.mkS ((a).length) ttOk rfl rfl rfl rfl rfl rfl rfl (by omega) (by omega) rfl ?_
 intro p1
 refine WX.free 1 (MF.ol (zrep ((a).length) [.string (⟨#[]⟩ : Str)]) ((List.replicate ((a).length) (⟨#[]⟩ : Str)) : List Str)) (ol_zrep (α := Str) (z0 := (⟨#[]⟩ : Str)) (x0 := ()) rfl trivial _) ?_
 refine R0 ?_
 refine WX.loop (ι := (List Value) × (List Str) × Nat) ⟨fun | (xsout, out, i) => (i ≤ (a).length) ∧ (out.length = (a).length) ∧ (∀ z_ ∈ out, GoT.ok n z_) ∧ (laws_toStringS_L1 a 0 ((List.replicate ((a).length) (⟨#[]⟩ : Str)) : List Str) = laws_toStringS_L1 ((a).drop i) i out), fun | (xsout, out, i) => (a).length - i, fun | (xsout, out, i) => [(3, .v (.slice p1 ((a).length) ((a).length))), (4, .v (.int .i64 (((i : Nat) : Int)))), (0, .v (.slice pa ((a).length) ca))], fun | (xsout, out, i) => [], fun | (xsout, out, i) => [(7, ⟨1, p1, (a).length, ((a).length), xsout⟩)], fun | (xsout, out, i) => [(0, MF.rs .stb pa ca a), (1, MF.ol xsout (out : List Str))]⟩ ((zrep ((a).length) [.string (⟨#[]⟩ : Str)]), ((List.replicate ((a).length) (⟨#[]⟩ : Str)) : List Str), 0) ⟨(Nat.zero_le _), (by simp), (all_rep (Nat.le_trans (by decide) (bd_pos _))), rfl⟩
  (.cons rfl (.cons rfl (.cons rfl (.nil)))) .nil (.cons rfl (.nil)) [0, 1] rfl ?_
 rintro ⟨xsout, out, i⟩ hpre
 have hpre_ : (i ≤ (a).length) ∧ (out.length = (a).length) ∧ (∀ z_ ∈ out, GoT.ok n z_) ∧ (laws_toStringS_L1 a 0 ((List.replicate ((a).length) (⟨#[]⟩ : Str)) : List Str) = laws_toStringS_L1 ((a).drop i) i out) := hpre
 clear hpre
 obtain ⟨v1, v2, v3, v4⟩ := hpre_
 refine R0 ?_
 refine WX.cases 11 rfl (fun h1 => ?_) (fun h1 => ?_)
 ·skip
  have h1d := B.dt h1
  have e1i : i < (a).length := (by omega)
  obtain ⟨e1, e1h⟩ : ∃ e1, (a)[i]? = some e1 := ⟨_, List.getElem?_eq_getElem e1i⟩
  have ok1 : GoT.ok n e1 := (okl hoka).2 _ (List.mem_of_getElem? e1h)
  refine R0 ?_
  refine WX.idx 0 i ttOk rfl rfl rfl rfl rfl rfl rfl rfl rfl rfl e1i ?_
  rintro ad1 rfl
  refine WX.ldE 0 2 e1 ttOk rfl rfl rfl rfl rfl rfl rfl rfl e1h (fun _ => rfl) (fun _ => rfl) ?_
  rintro ⟨⟩
  have hr1 : i < (a).length := (by first | assumption | omega)
  refine WX.idxR 7 i ttOk rfl rfl rfl rfl rfl rfl rfl rfl rfl hr1 ?_
  rintro ad2 rfl
  have e2i : i < (out).length := (by first | assumption | omega)
  obtain ⟨e2, e2h⟩ : ∃ e2, (out)[i]? = some e2 := ⟨_, List.getElem?_eq_getElem e2i⟩
  have ok2 : GoT.ok n e2 := v3 _ (List.mem_of_getElem? e2h)
  refine WX.opnE (α := Str) (e := e2) 7 1 2 i rfl rfl rfl e2h (fun _ => rfl) (fun _ _ _ => rfl) (fun _ _ _ => rfl) ?_
  rintro A1 B1 ⟨⟩ hA1 hB1
  refine WX.stA 7 ttOk rfl rfl rfl rfl rfl rfl rfl rfl rfl rfl rfl rfl rfl rfl hA1 hr1 rfl rfl rfl rfl (by simp) rfl ?_
  refine R0 ?_
  refine WX.see rfl rfl rfl (fun _ hΓ => looks_arith rfl rfl rfl rfl (by unfold I64; first | omega | (simp only [List.length_take] at *; omega))) ?_
  refine R0 ?_
  refine WX.turn [2, 3] 4 rfl (fun h hs => cl_elem (α := Str) (e := e1) (x := ()) e2i hs) (gs := [MF.ol (A1 ++ [.string e1] ++ B1) (out.set i e1)]) rfl ?_
  refine WX.turn [4] 1 rfl (fun _ h => h) rfl ?_
  exact WX.iter ((A1 ++ [.string e1] ++ B1), ((out.set i e1) : List Str), i + 1) ⟨(by omega), (by first | assumption | omega | (simp; omega)), (all_set v3 (show GoT.ok n (e1 : Str) from ok1)), (by rw [v4, drop_get e1h]; simp only [laws_toStringS_L1, e2h, ct, cf])⟩ (by first | (dsimp only; omega) | omega) (.cons rfl (.cons rfl (.cons rfl (.nil)))) .nil (.cons rfl (.nil)) [0, 1] rfl
 ·skip
  have h1d := B.df h1
  refine R0 ?_
  have hX1 : laws_toStringS_L1 a 0 ((List.replicate ((a).length) (⟨#[]⟩ : Str)) : List Str) = ((out) : List Str) := by rw [v4, List.drop_eq_nil_of_le (show (a).length ≤ i by omega)]; simp only [laws_toStringS_L1, ct, cf]
  refine WX.seal 7 1 5 rfl rfl (show (a).length = (out).length from by omega) rfl rfl ?_
  refine WX.slot 2 (y := .v (.slice p1 (out).length ((a).length))) rfl (fun _ => by show (Value.slice p1 ((a).length) ((a).length) : Value) = Value.slice p1 (out).length ((a).length); rw [(show (a).length = (out).length from by omega)]) ?_
  refine WX.slot 21 (y := .v (.slice p1 (out).length ((a).length))) rfl (fun _ => by show (Value.slice p1 ((a).length) ((a).length) : Value) = Value.slice p1 (out).length ((a).length); rw [(show (a).length = (out).length from by omega)]) ?_
  refine WX.slot 3 (y := .v (.slice p1 (out).length ((a).length))) rfl (fun _ => by show (Value.slice p1 ((a).length) ((a).length) : Value) = Value.slice p1 (out).length ((a).length); rw [(show (a).length = (out).length from by omega)]) ?_
  have hP1 : laws_toStringS a = out := by simp only [laws_toStringS, hX1, ct, cf]
  refine R1 ?_
  intro w1 G bs hI hΓ
  rw [hP1]
  exact Post.of [6] (p1, ((a).length)) hI hΓ rfl rfl rfl (okl_mk (by omega) v3 : GoT.ok n (out : List Str))
theorem f154 (w : World) (n : Nat) (hn : n + 0 ≤ 9) (a : Name) (pa : Option Addr) (ca : Nat) (N0 : RdSl (hp w) pa ca a.parts) (hoka : GoT.ok n a) :
  Does Tryz.prog 154 #[.agg #[.slice pa ((a.parts).length) ca]] w emp (Post w emp (fun x : GoT.X (Name) => .agg ⟨GoT.sh ((laws_toName a) : Name) x⟩) (fun x => GoT.oa ((laws_toName a) : Name) x) (GoT.ok n ((laws_toName a) : Name))) := by
 have hbP := bd_pos n
 have hbB := bd_big (n := n) (by omega)
 refine WX.enter (tt := tt) (Γ := [(0, MF.rs .stb pa ca a.parts)]) Tryz.func154 rfl (by kernel_rfl) rfl (allS_cons rfl N0 allS_nil) ?_
 refine R0 ?_
 refine WX.callF 1 (fun _ _ h => GoT.ow_rd h) (fun _ f hf => GoT.fak f hf) rfl rfl rfl rfl rfl (fun _ => rfl) rfl (fun w G bs hI hΓ => f251 w n (by omega) a.parts pa ca (hΓ.get 0 rfl) (ok_Name hoka)) (fun _ => rfl) (fun _ => rfl) ?_
 rintro ⟨p1, c1⟩ hq1
 refine R0 ?_
 have hP1 : laws_toName a = (Name.mk (laws_toStringS a.parts)) := by simp only [laws_toName, ct, cf]
 refine R1 ?_
 intro w1 G bs hI hΓ
 rw [hP1]
 exact Post.of [2] (p1, c1) hI hΓ rfl rfl rfl hq1
theorem f159 (w : World) (n : Nat) (hn : n + 0 ≤ 9) (a : (List UInt8)) (pa : Option Addr) (ca : Nat) (N0 : RdSl (hp w) pa ca a) (hoka : GoT.ok n a) :
  Does Tryz.prog 159 #[.slice pa ((a).length) ca] w emp (Post w emp (fun x : GoT.X ((List UInt8)) => (GoT.sh ((laws_toByteS a) : (List UInt8)) x).headD undef) (fun x => GoT.oa ((laws_toByteS a) : (List UInt8)) x) (GoT.ok n ((laws_toByteS a) : (List UInt8)))) := by
 have hbP := bd_pos n
 have hbB := bd_big (n := n) (by omega)
 refine WX.enter (tt := tt) (Γ := [(0, MF.rs .stb pa ca a)]) Tryz.func159 rfl (by kernel_rfl) rfl (allS_cons rfl N0 allS_nil) ?_
 refine R0 ?_
 have r1 : (a).length ≤ bd n := (okl hoka).1
 refine WX.mkS ((a).length) ttOk rfl rfl rfl rfl rfl rfl rfl (by omega) (by omega) rfl ?_
 intro p1
 refine WX.free 1 (MF.ol (zrep ((a).length) [.int .u8 (((0 : UInt8)).toNat : Nat)]) ((List.replicate ((a).length) (0 : UInt8)) : List UInt8)) (ol_zrep (α := UInt8) (z0 := (0 : UInt8)) (x0 := ()) rfl trivial _) ?_
 refine R0 ?_
 refine WX.loop (ι := (List Value) × (List UInt8) × Nat) ⟨fun | (xsout, out, i) => (i ≤ (a).length) ∧ (out.length = (a).length) ∧ (∀ z_ ∈ out, GoT.ok n z_) ∧ (laws_toByteS_L1 a 0 ((List.replicate ((a).length) (0 : UInt8)) : List UInt8) = laws_toByteS_L1 ((a).drop i) i out), fun | (xsout, out, i) => (a).length - i, fun | (xsout, out, i) => [(3, .v (.slice p1 ((a).length) ((a).length))), (4, .v (.int .i64 (((i : Nat) : Int)))), (0, .v (.slice pa ((a).length) ca))], fun | (xsout, out, i) => [], fun | (xsout, out, i) => [(7, ⟨1, p1, (a).length, ((a).length), xsout⟩)], fun | (xsout, out, i) => [(0, MF.rs .stb pa ca a), (1, MF.ol xsout (out : List UInt8))]⟩ ((zrep ((a).length) [.int .u8 (((0 : UInt8)).toNat : Nat)]), ((List.replicate ((a).length) (0 : UInt8)) : List UInt8), 0) ⟨(Nat.zero_le _), (by simp), (all_rep trivial), rfl⟩
  (.cons rfl (.cons rfl (.cons rfl (.nil)))) .nil (.cons rfl (.nil)) [0, 1] rfl ?_
 rintro ⟨xsout, out, i⟩ hpre
 have hpre_ : (i ≤ (a).length) ∧ (out.length = (a).length) ∧ (∀ z_ ∈ out, GoT.ok n z_) ∧ (laws_toByteS_L1 a 0 ((List.replicate ((a).length) (0 : UInt8)) : List UInt8) = laws_toByteS_L1 ((a).drop i) i out) := hpre
 clear hpre
 obtain ⟨v1, v2, v3, v4⟩ := hpre_
 refine R0 ?_
 refine WX.cases 11 rfl (fun h1 => ?_) (fun h1 => ?_)
 ·skip
  have h1d := B.dt h1
  have e1i : i < (a).length := (by omega)
  obtain ⟨e1, e1h⟩ : ∃ e1, (a)[i]? = some e1 := ⟨_, List.getElem?_eq_getElem e1i⟩
  refine R0 ?_
  refine WX.idx 0 i ttOk rfl rfl rfl rfl rfl rfl rfl rfl rfl rfl e1i ?_
  rintro ad1 rfl
  refine WX.ldE 0 2 e1 ttOk rfl rfl rfl rfl rfl rfl rfl rfl e1h (fun _ => rfl) (fun _ => rfl) ?_
  rintro ⟨⟩
  have hr1 : i < (a).length := (by first | assumption | omega)
  refine WX.idxR 7 i ttOk rfl rfl rfl rfl rfl rfl rfl rfl rfl hr1 ?_
  rintro ad2 rfl
  have e2i : i < (out).length := (by first | assumption | omega)
  obtain ⟨e2, e2h⟩ : ∃ e2, (out)[i]? = some e2 := ⟨_, List.getElem?_eq_getElem e2i⟩
  refine WX.opnE (α := UInt8) (e := e2) 7 1 2 i rfl rfl rfl e2h (fun _ => rfl) (fun _ _ _ => rfl) (fun _ _ _ => rfl) ?_
  rintro A1 B1 ⟨⟩ hA1 hB1
  refine WX.stA 7 ttOk rfl rfl rfl rfl rfl rfl rfl rfl rfl rfl rfl rfl rfl rfl hA1 hr1 rfl rfl rfl rfl (by simp) rfl ?_
  refine R0 ?_
  refine WX.see rfl rfl rfl (fun _ hΓ => looks_arith rfl rfl rfl rfl (by unfold I64; first | omega | (simp only [List.length_take] at *; omega))) ?_
  refine R0 ?_
  refine WX.turn [2, 3] 4 rfl (fun h hs => cl_elem (α := UInt8) (e := e1) (x := ()) e2i hs) (gs := [MF.ol (A1 ++ [.int .u8 ((e1).toNat : Nat)] ++ B1) (out.set i e1)]) rfl ?_
  refine WX.turn [4] 1 rfl (fun _ h => h) rfl ?_
  exact WX.iter ((A1 ++ [.int .u8 ((e1).toNat : Nat)] ++ B1), ((out.set i e1) : List UInt8), i + 1) ⟨(by omega), (by first | assumption | omega | (simp; omega)), (all_set v3 (show GoT.ok n (e1 : UInt8) from trivial)), (by rw [v4, drop_get e1h]; simp only [laws_toByteS_L1, e2h, ct, cf])⟩ (by first | (dsimp only; omega) | omega) (.cons rfl (.cons rfl (.cons rfl (.nil)))) .nil (.cons rfl (.nil)) [0, 1] rfl
 ·skip
  have h1d := B.df h1
  refine R0 ?_
  have hX1 : laws_toByteS_L1 a 0 ((List.replicate ((a).length) (0 : UInt8)) : List UInt8) = ((out) : List UInt8) := by rw [v4, List.drop_eq_nil_of_le (show (a).length ≤ i by omega)]; simp only [laws_toByteS_L1, ct, cf]
  refine WX.seal 7 1 5 rfl rfl (show (a).length = (out).length from by omega) rfl rfl ?_
  refine WX.slot 2 (y := .v (.slice p1 (out).length ((a).length))) rfl (fun _ => by show (Value.slice p1 ((a).length) ((a).length) : Value) = Value.slice p1 (out).length ((a).length); rw [(show (a).length = (out).length from by omega)]) ?_
  refine WX.slot 21 (y := .v (.slice p1 (out).length ((a).length))) rfl (fun _ => by show (Value.slice p1 ((a).length) ((a).length) : Value) = Value.slice p1 (out).length ((a).length); rw [(show (a).length = (out).length from by omega)]) ?_
  refine WX.slot 3 (y := .v (.slice p1 (out).length ((a).length))) rfl (fun _ => by show (Value.slice p1 ((a).length) ((a).length) : Value) = Value.slice p1 (out).length ((a).length); rw [(show (a).length = (out).length from by omega)]) ?_
  have hP1 : laws_toByteS a = out := by simp only [laws_toByteS, hX1, ct, cf]
  refine R1 ?_
  intro w1 G bs hI hΓ
  rw [hP1]
  exact Post.of [6] (p1, ((a).length)) hI hΓ rfl rfl rfl (okl_mk (by omega) v3 : GoT.ok n (out : List UInt8))
theorem f68 (w : World) (n : Nat) (hn : n + 0 ≤ 9) (a : DataP) (K0 : Option Addr) (M0 : Nat) (N0 : RdSl (hp w) K0 M0 a.name.parts) (K1 : Option Addr) (M1 : Nat) (N1 : RdSl (hp w) K1 M1 a.content) (K2 : Option Addr) (M2 : Nat) (N2 : RdSl (hp w) K2 M2 a.keyName.parts) (hoka : GoT.ok n a) :
  Does Tryz.prog 68 #[.agg #[.slice K0 ((a.name.parts).length) M0, .slice K1 ((a.content).length) M1, .slice K2 ((a.keyName.parts).length) M2, .int .i64 (a.freshUntil), .int .i64 (a.signature)]] w emp (Post w emp (fun x : GoT.X (DataP) => .agg ⟨GoT.sh ((laws_toData a) : DataP) x⟩) (fun x => GoT.oa ((laws_toData a) : DataP) x) (GoT.ok n ((laws_toData a) : DataP))) := by
 have hbP := bd_pos n
 have hbB := bd_big (n := n) (by omega)
 refine WX.enter (tt := tt) (Γ := [(0, MF.rs .stb K0 M0 a.name.parts), (1, MF.rs .stb K1 M1 a.content), (2, MF.rs .stb K2 M2 a.keyName.parts)]) Tryz.func68 rfl (by kernel_rfl) rfl (allS_cons rfl N0 (allS_cons rfl N1 (allS_cons rfl N2 allS_nil))) ?_
 refine R0 ?_
 refine WX.callF 3 (fun _ _ h => GoT.ow_rd h) (fun _ f hf => GoT.fak f hf) rfl rfl rfl rfl rfl (fun _ => rfl) rfl (fun w G bs hI hΓ => f154 w n (by omega) a.name K0 M0 (hΓ.get 0 rfl) ((ok_DataP hoka).1)) (fun _ => rfl) (fun _ => rfl) ?_
 rintro ⟨p1, c1⟩ hq1
 refine R0 ?_
 refine WX.callF 5 (fun _ _ h => GoT.ow_rd h) (fun _ f hf => GoT.fak f hf) rfl rfl rfl rfl rfl (fun _ => rfl) rfl (fun w G bs hI hΓ => f159 w n (by omega) a.content K1 M1 (hΓ.get 1 rfl) ((ok_DataP hoka).2.1)) (fun _ => rfl) (fun _ => rfl) ?_
 rintro ⟨p2, c2⟩ hq2
 refine R0 ?_
 refine WX.callF 7 (fun _ _ h => GoT.ow_rd h) (fun _ f hf => GoT.fak f hf) rfl rfl rfl rfl rfl (fun _ => rfl) rfl (fun w G bs hI hΓ => f154 w n (by omega) a.keyName K2 M2 (hΓ.get 2 rfl) ((ok_DataP hoka).2.2.1)) (fun _ => rfl) (fun _ => rfl) ?_
 rintro ⟨p3, c3⟩ hq3
 refine R0 ?_
 have hP1 : laws_toData a = (DataP.mk (laws_toName a.name) (laws_toByteS a.content) (laws_toName a.keyName) a.freshUntil a.signature) := by simp only [laws_toData, ct, cf]
 refine R1 ?_
 intro w1 G bs hI hΓ
 rw [hP1]
 exact Post.of [4, 6, 8] ((p1, c1), (p2, c2), (p3, c3), (), ()) hI hΓ rfl rfl rfl (And.intro hq1 (And.intro hq2 (And.intro hq3 (And.intro (ok_DataP hoka).2.2.2.1 (ok_DataP hoka).2.2.2.2))))
theorem f66 (w : World) (n : Nat) (hn : n + 0 ≤ 9) (a : Consumer) (K0 : Option Addr) (M0 : Nat) (N0 : RdSl (hp w) K0 M0 a.name.parts) (K1 : Option Addr) (M1 : Nat) (N1 : RdSl (hp w) K1 M1 a.data.name.parts) (K2 : Option Addr) (M2 : Nat) (N2 : RdSl (hp w) K2 M2 a.data.content) (K3 : Option Addr) (M3 : Nat) (N3 : RdSl (hp w) K3 M3 a.data.keyName.parts) (hoka : GoT.ok n a) :
  Does Tryz.prog 66 #[.agg #[.int .i64 (a.node), .int .i64 (a.index), .slice K0 ((a.name.parts).length) M0, .int .i64 (a.attempts), .int .i64 (a.wait), .bool a.satisfied, .slice K1 ((a.data.name.parts).length) M1, .slice K2 ((a.data.content).length) M2, .slice K3 ((a.data.keyName.parts).length) M3, .int .i64 (a.data.freshUntil), .int .i64 (a.data.signature)]] w emp (Post w emp (fun x : GoT.X (Consumer) => .agg ⟨GoT.sh ((laws_toConsumer a) : Consumer) x⟩) (fun x => GoT.oa ((laws_toConsumer a) : Consumer) x) (GoT.ok n ((laws_toConsumer a) : Consumer))) := by
 have hbP := bd_pos n
 have hbB := bd_big (n := n) (by omega)
 refine WX.enter (tt := tt) (Γ := [(0, MF.rs .stb K0 M0 a.name.parts), (1, MF.rs .stb K1 M1 a.data.name.parts), (2, MF.rs .stb K2 M2 a.data.content), (3, MF.rs .stb K3 M3 a.data.keyName.parts)]) Tryz.func66 rfl (by kernel_rfl) rfl (allS_cons rfl N0 (allS_cons rfl N1 (allS_cons rfl N2 (allS_cons rfl N3 allS_nil)))) ?_
 refine R0 ?_
 refine WX.callF 4 (fun _ _ h => GoT.ow_rd h) (fun _ f hf => GoT.fak f hf) rfl rfl rfl rfl rfl (fun _ => rfl) rfl (fun w G bs hI hΓ => f154 w n (by omega) a.name K0 M0 (hΓ.get 0 rfl) ((ok_Consumer hoka).2.2.1)) (fun _ => rfl) (fun _ => rfl) ?_
 rintro ⟨p1, c1⟩ hq1
 refine R0 ?_
 refine WX.callF 6 (fun _ _ h => GoT.ow_rd h) (fun _ f hf => GoT.fak f hf) rfl rfl rfl rfl rfl (fun _ => rfl) rfl (fun w G bs hI hΓ => f68 w n (by omega) a.data K1 M1 (hΓ.get 1 rfl) K2 M2 (hΓ.get 2 rfl) K3 M3 (hΓ.get 3 rfl) ((ok_Consumer hoka).2.2.2.2.2.2)) (fun _ => rfl) (fun _ => rfl) ?_
 rintro ⟨⟨p2, c2⟩, ⟨p3, c3⟩, ⟨p4, c4⟩, ⟨⟩, ⟨⟩⟩ hq2
 refine R0 ?_
 have hP1 : laws_toConsumer a = (Consumer.mk a.node a.index (laws_toName a.name) a.attempts a.wait a.satisfied (laws_toData a.data)) := by simp only [laws_toConsumer, ct, cf]
 refine R1 ?_
 intro w1 G bs hI hΓ
 rw [hP1]
 exact Post.of [5, 9, 10, 11] ((), (), (p1, c1), (), (), (), ((p2, c2), (p3, c3), (p4, c4), (), ())) hI hΓ rfl rfl rfl (And.intro (ok_Consumer hoka).1 (And.intro (ok_Consumer hoka).2.1 (And.intro hq1 (And.intro (ok_Consumer hoka).2.2.2.1 (And.intro (ok_Consumer hoka).2.2.2.2.1 (And.intro trivial hq2))))))
theorem f252 (w : World) (n : Nat) (hn : n + 0 ≤ 9) (a : Key) (K0 : Option Addr) (M0 : Nat) (N0 : RdSl (hp w) K0 M0 a.name.parts) (hoka : GoT.ok n a) :
  Does Tryz.prog 252 #[.agg #[.slice K0 ((a.name.parts).length) M0, .int .i64 (a.secret)]] w emp (Post w emp (fun x : GoT.X (Key) => .agg ⟨GoT.sh ((laws_toKey a) : Key) x⟩) (fun x => GoT.oa ((laws_toKey a) : Key) x) (GoT.ok n ((laws_toKey a) : Key))) := by
 have hbP := bd_pos n
 have hbB := bd_big (n := n) (by omega)
 refine WX.enter (tt := tt) (Γ := [(0, MF.rs .stb K0 M0 a.name.parts)]) Tryz.func252 rfl (by kernel_rfl) rfl (allS_cons rfl N0 allS_nil) ?_
 refine R0 ?_
 refine WX.callF 1 (fun _ _ h => GoT.ow_rd h) (fun _ f hf => GoT.fak f hf) rfl rfl rfl rfl rfl (fun _ => rfl) rfl (fun w G bs hI hΓ => f154 w n (by omega) a.name K0 M0 (hΓ.get 0 rfl) ((ok_Key hoka).1)) (fun _ => rfl) (fun _ => rfl) ?_
 rintro ⟨p1, c1⟩ hq1
 refine R0 ?_
 have hP1 : laws_toKey a = (Key.mk (laws_toName a.name) a.secret) := by simp only [laws_toKey, ct, cf]
 refine R1 ?_
 intro w1 G bs hI hΓ
 rw [hP1]
 exact Post.of [2] ((p1, c1), ()) hI hΓ rfl rfl rfl (And.intro hq1 (ok_Key hoka).2)
theorem f155 (w : World) (n : Nat) (hn : n + 0 ≤ 9) (a : (List Key)) (pa : Option Addr) (ca : Nat) (N0 : RdSl (hp w) pa ca a) (hoka : GoT.ok n a) :
  Does Tryz.prog 155 #[.slice pa ((a).length) ca] w emp (Post w emp (fun x : GoT.X ((List Key)) => (GoT.sh ((laws_toKeyS a) : (List Key)) x).headD undef) (fun x => GoT.oa ((laws_toKeyS a) : (List Key)) x) (GoT.ok n ((laws_toKeyS a) : (List Key)))) := by
 have hbP := bd_pos n
 have hbB := bd_big (n := n) (by omega)
 refine WX.enter (tt := tt) (Γ := [(0, MF.rs .stb pa ca a)]) Tryz.func155 rfl (by kernel_rfl) rfl (allS_cons rfl N0 allS_nil) ?_
 refine R0 ?_
 have r1 : (a).length ≤ bd n := (okl hoka).1
 refine WX.mkS ((a).length) ttOk rfl rfl rfl rfl rfl rfl rfl (by omega) (by omega) rfl ?_
 intro p1
 refine WX.free 1 (MF.ol (zrep ((a).length) [.slice none (0) 0, .int .i64 (0)]) ((List.replicate ((a).length) (Key.mk (Name.mk ([])) 0)) : List Key)) (ol_zrep (α := Key) (z0 := (Key.mk (Name.mk ([])) 0)) (x0 := ((none, 0), ())) rfl (sep_emp_cons (owSl_nil _ _) trivial) _) ?_
 refine R0 ?_
 refine WX.loop (ι := (List Value) × (List Key) × Nat) ⟨fun | (xsout, out, i) => (i ≤ (a).length) ∧ (out.length = (a).length) ∧ (∀ z_ ∈ out, GoT.ok n z_) ∧ (laws_toKeyS_L1 a 0 ((List.replicate ((a).length) (Key.mk (Name.mk ([])) 0)) : List Key) = laws_toKeyS_L1 ((a).drop i) i out), fun | (xsout, out, i) => (a).length - i, fun | (xsout, out, i) => [(3, .v (.slice p1 ((a).length) ((a).length))), (4, .v (.int .i64 (((i : Nat) : Int)))), (0, .v (.slice pa ((a).length) ca))], fun | (xsout, out, i) => [], fun | (xsout, out, i) => [(7, ⟨2, p1, (a).length, ((a).length), xsout⟩)], fun | (xsout, out, i) => [(0, MF.rs .stb pa ca a), (1, MF.ol xsout (out : List Key))]⟩ ((zrep ((a).length) [.slice none (0) 0, .int .i64 (0)]), ((List.replicate ((a).length) (Key.mk (Name.mk ([])) 0)) : List Key), 0) ⟨(Nat.zero_le _), (by simp), (all_rep (And.intro (ok_nil (α := Str)) (show I64 0 from (by unfold I64; omega)))), rfl⟩
  (.cons rfl (.cons rfl (.cons rfl (.nil)))) .nil (.cons rfl (.nil)) [0, 1] rfl ?_
 rintro ⟨xsout, out, i⟩ hpre
 have hpre_ : (i ≤ (a).length) ∧ (out.length = (a).length) ∧ (∀ z_ ∈ out, GoT.ok n z_) ∧ (laws_toKeyS_L1 a 0 ((List.replicate ((a).length) (Key.mk (Name.mk ([])) 0)) : List Key) = laws_toKeyS_L1 ((a).drop i) i out) := hpre
 clear hpre
 obtain ⟨v1, v2, v3, v4⟩ := hpre_
 refine R0 ?_
 refine WX.cases 11 rfl (fun h1 => ?_) (fun h1 => ?_)
 ·skip
  have h1d := B.dt h1
  have e1i : i < (a).length := (by omega)
  obtain ⟨e1, e1h⟩ : ∃ e1, (a)[i]? = some e1 := ⟨_, List.getElem?_eq_getElem e1i⟩
  have ok1 : GoT.ok n e1 := (okl hoka).2 _ (List.mem_of_getElem? e1h)
  refine R0 ?_
  refine WX.idx 0 i ttOk rfl rfl rfl rfl rfl rfl rfl rfl rfl rfl e1i ?_
  rintro ad1 rfl
  refine WX.ldE 0 2 e1 ttOk rfl rfl rfl rfl rfl rfl rfl rfl e1h (fun _ => rfl) (fun _ => rfl) ?_
  rintro ⟨⟨p2, c1⟩, ⟨⟩⟩
  refine WX.callF 3 (fun _ _ h => GoT.ow_rd h) (fun _ f hf => GoT.fak f hf) rfl rfl rfl rfl rfl (fun _ => rfl) rfl (fun w G bs hI hΓ => f252 w n (by omega) e1 p2 c1 (hΓ.get 2 rfl) ok1) (fun _ => rfl) (fun _ => rfl) ?_
  rintro ⟨⟨p3, c2⟩, ⟨⟩⟩ hq1
  have hr1 : i < (a).length := (by first | assumption | omega)
  refine WX.idxR 7 i ttOk rfl rfl rfl rfl rfl rfl rfl rfl rfl hr1 ?_
  rintro ad2 rfl
  have e2i : i < (out).length := (by first | assumption | omega)
  obtain ⟨e2, e2h⟩ : ∃ e2, (out)[i]? = some e2 := ⟨_, List.getElem?_eq_getElem e2i⟩
  have ok2 : GoT.ok n e2 := v3 _ (List.mem_of_getElem? e2h)
  refine WX.opnE (α := Key) (e := e2) 7 1 5 i rfl rfl rfl e2h (fun _ => rfl) (fun _ _ _ => rfl) (fun _ _ _ => rfl) ?_
  rintro A1 B1 ⟨⟨p4, c3⟩, ⟨⟩⟩ hA1 hB1
  refine WX.stA 7 ttOk rfl rfl rfl rfl rfl rfl rfl rfl rfl rfl rfl rfl rfl rfl hA1 hr1 rfl rfl rfl rfl (by simp) rfl ?_
  refine R0 ?_
  refine WX.see rfl rfl rfl (fun _ hΓ => looks_arith rfl rfl rfl rfl (by unfold I64; first | omega | (simp only [List.length_take] at *; omega))) ?_
  refine R0 ?_
  refine WX.turn [4, 7, 8] 9 rfl (fun h hs => cl_elem (α := Key) (e := (laws_toKey e1)) (x := ((p3, c2), ())) e2i hs) (gs := [MF.ol (A1 ++ [.slice p3 (((laws_toKey e1).name.parts).length) c2, .int .i64 ((laws_toKey e1).secret)] ++ B1) (out.set i (laws_toKey e1))]) rfl ?_
  refine WX.turn [9] 1 rfl (fun _ h => h) rfl ?_
  exact WX.iter ((A1 ++ [.slice p3 (((laws_toKey e1).name.parts).length) c2, .int .i64 ((laws_toKey e1).secret)] ++ B1), ((out.set i (laws_toKey e1)) : List Key), i + 1) ⟨(by omega), (by first | assumption | omega | (simp; omega)), (all_set v3 (show GoT.ok n ((laws_toKey e1) : Key) from hq1)), (by rw [v4, drop_get e1h]; simp only [laws_toKeyS_L1, e2h, ct, cf])⟩ (by first | (dsimp only; omega) | omega) (.cons rfl (.cons rfl (.cons rfl (.nil)))) .nil (.cons rfl (.nil)) [0, 1] rfl
 ·skip
  have h1d := B.df h1
  refine R0 ?_
  have hX1 : laws_toKeyS_L1 a 0 ((List.replicate ((a).length) (Key.mk (Name.mk ([])) 0)) : List Key) = ((out) : List Key) := by rw [v4, List.drop_eq_nil_of_le (show (a).length ≤ i by omega)]; simp only [laws_toKeyS_L1, ct, cf]
  refine WX.seal 7 1 10 rfl rfl (show (a).length = (out).length from by omega) rfl rfl ?_
  refine WX.slot 2 (y := .v (.slice p1 (out).length ((a).length))) rfl (fun _ => by show (Value.slice p1 ((a).length) ((a).length) : Value) = Value.slice p1 (out).length ((a).length); rw [(show (a).length = (out).length from by omega)]) ?_
  refine WX.slot 22 (y := .v (.slice p1 (out).length ((a).length))) rfl (fun _ => by show (Value.slice p1 ((a).length) ((a).length) : Value) = Value.slice p1 (out).length ((a).length); rw [(show (a).length = (out).length from by omega)]) ?_
  refine WX.slot 3 (y := .v (.slice p1 (out).length ((a).length))) rfl (fun _ => by show (Value.slice p1 ((a).length) ((a).length) : Value) = Value.slice p1 (out).length ((a).length); rw [(show (a).length = (out).length from by omega)]) ?_
  have hP1 : laws_toKeyS a = out := by simp only [laws_toKeyS, hX1, ct, cf]
  refine R1 ?_
  intro w1 G bs hI hΓ
  rw [hP1]
  exact Post.of [11] (p1, ((a).length)) hI hΓ rfl rfl rfl (okl_mk (by omega) v3 : GoT.ok n (out : List Key))
theorem f312 (w : World) (n : Nat) (hn : n + 0 ≤ 9) (a : Pattern) (pa : Option Addr) (ca : Nat) (N0 : RdSl (hp w) pa ca a.parts) (hoka : GoT.ok n a) :
  Does Tryz.prog 312 #[.agg #[.slice pa ((a.parts).length) ca]] w emp (Post w emp (fun x : GoT.X (Pattern) => .agg ⟨GoT.sh ((laws_toPattern a) : Pattern) x⟩) (fun x => GoT.oa ((laws_toPattern a) : Pattern) x) (GoT.ok n ((laws_toPattern a) : Pattern))) := by
 have hbP := bd_pos n
 have hbB := bd_big (n := n) (by omega)
 refine WX.enter (tt := tt) (Γ := [(0, MF.rs .stb pa ca a.parts)]) Tryz.func312 rfl (by kernel_rfl) rfl (allS_cons rfl N0 allS_nil) ?_
 refine R0 ?_
 refine WX.callF 1 (fun _ _ h => GoT.ow_rd h) (fun _ f hf => GoT.fak f hf) rfl rfl rfl rfl rfl (fun _ => rfl) rfl (fun w G bs hI hΓ => f251 w n (by omega) a.parts pa ca (hΓ.get 0 rfl) (ok_Pattern hoka)) (fun _ => rfl) (fun _ => rfl) ?_
 rintro ⟨p1, c1⟩ hq1
 refine R0 ?_
 have hP1 : laws_toPattern a = (Pattern.mk (laws_toStringS a.parts)) := by simp only [laws_toPattern, ct, cf]
 refine R1 ?_
 intro w1 G bs hI hΓ
 rw [hP1]
 exact Post.of [2] (p1, c1) hI hΓ rfl rfl rfl hq1
theorem f253 (w : World) (n : Nat) (hn : n + 0 ≤ 9) (a : Rule) (K0 : Option Addr) (M0 : Nat) (N0 : RdSl (hp w) K0 M0 a.dataPattern.parts) (K1 : Option Addr) (M1 : Nat) (N1 : RdSl (hp w) K1 M1 a.keyPattern.parts) (hoka : GoT.ok n a) :
  Does Tryz.prog 253 #[.agg #[.slice K0 ((a.dataPattern.parts).length) M0, .slice K1 ((a.keyPattern.parts).length) M1]] w emp (Post w emp (fun x : GoT.X (Rule) => .agg ⟨GoT.sh ((laws_toRule a) : Rule) x⟩) (fun x => GoT.oa ((laws_toRule a) : Rule) x) (GoT.ok n ((laws_toRule a) : Rule))) := by
 have hbP := bd_pos n
 have hbB := bd_big (n := n) (by omega)
 refine WX.enter (tt := tt) (Γ := [(0, MF.rs .stb K0 M0 a.dataPattern.parts), (1, MF.rs .stb K1 M1 a.keyPattern.parts)]) Tryz.func253 rfl (by kernel_rfl) rfl (allS_cons rfl N0 (allS_cons rfl N1 allS_nil)) ?_
 refine R0 ?_
 refine WX.callF 2 (fun _ _ h => GoT.ow_rd h) (fun _ f hf => GoT.fak f hf) rfl rfl rfl rfl rfl (fun _ => rfl) rfl (fun w G bs hI hΓ => f312 w n (by omega) a.dataPattern K0 M0 (hΓ.get 0 rfl) ((ok_Rule hoka).1)) (fun _ => rfl) (fun _ => rfl) ?_
 rintro ⟨p1, c1⟩ hq1
 refine R0 ?_
 refine WX.callF 4 (fun _ _ h => GoT.ow_rd h) (fun _ f hf => GoT.fak f hf) rfl rfl rfl rfl rfl (fun _ => rfl) rfl (fun w G bs hI hΓ => f312 w n (by omega) a.keyPattern K1 M1 (hΓ.get 1 rfl) ((ok_Rule hoka).2)) (fun _ => rfl) (fun _ => rfl) ?_
 rintro ⟨p2, c2⟩ hq2
 refine R0 ?_
 have hP1 : laws_toRule a = (Rule.mk (laws_toPattern a.dataPattern) (laws_toPattern a.keyPattern)) := by simp only [laws_toRule, ct, cf]
 refine R1 ?_
 intro w1 G bs hI hΓ
 rw [hP1]
 exact Post.of [3, 5] ((p1, c1), (p2, c2)) hI hΓ rfl rfl rfl (And.intro hq1 hq2)
theorem f156 (w : World) (n : Nat) (hn : n + 0 ≤ 9) (a : (List Rule)) (pa : Option Addr) (ca : Nat) (N0 : RdSl (hp w) pa ca a) (hoka : GoT.ok n a) :
  Does Tryz.prog 156 #[.slice pa ((a).length) ca] w emp (Post w emp (fun x : GoT.X ((List Rule)) => (GoT.sh ((laws_toRuleS a) : (List Rule)) x).headD undef) (fun x => GoT.oa ((laws_toRuleS a) : (List Rule)) x) (GoT.ok n ((laws_toRuleS a) : (List Rule)))) := by
 have hbP := bd_pos n
 have hbB := bd_big (n := n) (by omega)
 refine WX.enter (tt := tt) (Γ := [(0, MF.rs .stb pa ca a)]) Tryz.func156 rfl (by kernel_rfl) rfl (allS_cons rfl N0 allS_nil) ?_
 refine R0 ?_
 have r1 : (a).length ≤ bd n := (okl hoka).1
 refine WX.mkS ((a).length) ttOk rfl rfl rfl rfl rfl rfl rfl (by omega) (by omega) rfl ?_
 intro p1
 refine WX.free 1 (MF.ol (zrep ((a).length) [.slice none (0) 0, .slice none (0) 0]) ((List.replicate ((a).length) (Rule.mk (Pattern.mk ([])) (Pattern.mk ([])))) : List Rule)) (ol_zrep (α := Rule) (z0 := (Rule.mk (Pattern.mk ([])) (Pattern.mk ([])))) (x0 := ((none, 0), (none, 0))) rfl (sep_emp_cons (owSl_nil _ _) (sep_emp_cons (owSl_nil _ _) trivial)) _) ?_
 refine R0 ?_
 refine WX.loop (ι := (List Value) × (List Rule) × Nat) ⟨fun | (xsout, out, i) => (i ≤ (a).length) ∧ (out.length = (a).length) ∧ (∀ z_ ∈ out, GoT.ok n z_) ∧ (laws_toRuleS_L1 a 0 ((List.replicate ((a).length) (Rule.mk (Pattern.mk ([])) (Pattern.mk ([])))) : List Rule) = laws_toRuleS_L1 ((a).drop i) i out), fun | (xsout, out, i) => (a).length - i, fun | (xsout, out, i) => [(3, .v (.slice p1 ((a).length) ((a).length))), (4, .v (.int .i64 (((i : Nat) : Int)))), (0, .v (.slice pa ((a).length) ca))], fun | (xsout, out, i) => [], fun | (xsout, out, i) => [(7, ⟨2, p1, (a).length, ((a).length), xsout⟩)], fun | (xsout, out, i) => [(0, MF.rs .stb pa ca a), (1, MF.ol xsout (out : List Rule))]⟩ ((zrep ((a).length) [.slice none (0) 0, .slice none (0) 0]), ((List.replicate ((a).length) (Rule.mk (Pattern.mk ([])) (Pattern.mk ([])))) : List Rule), 0) ⟨(Nat.zero_le _), (by simp), (all_rep (And.intro (ok_nil (α := Str)) (ok_nil (α := Str)))), rfl⟩
  (.cons rfl (.cons rfl (.cons rfl (.nil)))) .nil (.cons rfl (.nil)) [0, 1] rfl ?_
 rintro ⟨xsout, out, i⟩ hpre
 have hpre_ : (i ≤ (a).length) ∧ (out.length = (a).length) ∧ (∀ z_ ∈ out, GoT.ok n z_) ∧ (laws_toRuleS_L1 a 0 ((List.replicate ((a).length) (Rule.mk (Pattern.mk ([])) (Pattern.mk ([])))) : List Rule) = laws_toRuleS_L1 ((a).drop i) i out) := hpre
 clear hpre
 obtain ⟨v1, v2, v3, v4⟩ := hpre_
 refine R0 ?_
 refine WX.cases 11 rfl (fun h1 => ?_) (fun h1 => ?_)
 ·skip
  have h1d := B.dt h1
  have e1i : i < (a).length := (by omega)
  obtain ⟨e1, e1h⟩ : ∃ e1, (a)[i]? = some e1 := ⟨_, List.getElem?_eq_getElem e1i⟩
  have ok1 : GoT.ok n e1 := (okl hoka).2 _ (List.mem_of_getElem? e1h)
  refine R0 ?_
  refine WX.idx 0 i ttOk rfl rfl rfl rfl rfl rfl rfl rfl rfl rfl e1i ?_
  rintro ad1 rfl
  refine WX.ldE 0 2 e1 ttOk rfl rfl rfl rfl rfl rfl rfl rfl e1h (fun _ => rfl) (fun _ => rfl) ?_
  rintro ⟨⟨p2, c1⟩, ⟨p3, c2⟩⟩
  refine WX.callF 4 (fun _ _ h => GoT.ow_rd h) (fun _ f hf => GoT.fak f hf) rfl rfl rfl rfl rfl (fun _ => rfl) rfl (fun w G bs hI hΓ => f253 w n (by omega) e1 p2 c1 (hΓ.get 2 rfl) p3 c2 (hΓ.get 3 rfl) ok1) (fun _ => rfl) (fun _ => rfl) ?_
  rintro ⟨⟨p4, c3⟩, ⟨p5, c4⟩⟩ hq1
  have hr1 : i < (a).length := (by first | assumption | omega)
  refine WX.idxR 7 i ttOk rfl rfl rfl rfl rfl rfl rfl rfl rfl hr1 ?_
  rintro ad2 rfl
  have e2i : i < (out).length := (by first | assumption | omega)
  obtain ⟨e2, e2h⟩ : ∃ e2, (out)[i]? = some e2 := ⟨_, List.getElem?_eq_getElem e2i⟩
  have ok2 : GoT.ok n e2 := v3 _ (List.mem_of_getElem? e2h)
  refine WX.opnE (α := Rule) (e := e2) 7 1 8 i rfl rfl rfl e2h (fun _ => rfl) (fun _ _ _ => rfl) (fun _ _ _ => rfl) ?_
  rintro A1 B1 ⟨⟨p6, c5⟩, ⟨p7, c6⟩⟩ hA1 hB1
  refine WX.stA 7 ttOk rfl rfl rfl rfl rfl rfl rfl rfl rfl rfl rfl rfl rfl rfl hA1 hr1 rfl rfl rfl rfl (by simp) rfl ?_
  refine R0 ?_
  refine WX.see rfl rfl rfl (fun _ hΓ => looks_arith rfl rfl rfl rfl (by unfold I64; first | omega | (simp only [List.length_take] at *; omega))) ?_
  refine R0 ?_
  refine WX.turn [6, 7, 12, 13] 14 rfl (fun h hs => cl_elem (α := Rule) (e := (laws_toRule e1)) (x := ((p4, c3), (p5, c4))) e2i hs) (gs := [MF.ol (A1 ++ [.slice p4 (((laws_toRule e1).dataPattern.parts).length) c3, .slice p5 (((laws_toRule e1).keyPattern.parts).length) c4] ++ B1) (out.set i (laws_toRule e1))]) rfl ?_
  refine WX.turn [14] 1 rfl (fun _ h => h) rfl ?_
  exact WX.iter ((A1 ++ [.slice p4 (((laws_toRule e1).dataPattern.parts).length) c3, .slice p5 (((laws_toRule e1).keyPattern.parts).length) c4] ++ B1), ((out.set i (laws_toRule e1)) : List Rule), i + 1) ⟨(by omega), (by first | assumption | omega | (simp; omega)), (all_set v3 (show GoT.ok n ((laws_toRule e1) : Rule) from hq1)), (by rw [v4, drop_get e1h]; simp only [laws_toRuleS_L1, e2h, ct, cf])⟩ (by first | (dsimp only; omega) | omega) (.cons rfl (.cons rfl (.cons rfl (.nil)))) .nil (.cons rfl (.nil)) [0, 1] rfl
 ·skip
  have h1d := B.df h1
  refine R0 ?_
  have hX1 : laws_toRuleS_L1 a 0 ((List.replicate ((a).length) (Rule.mk (Pattern.mk ([])) (Pattern.mk ([])))) : List Rule) = ((out) : List Rule) := by rw [v4, List.drop_eq_nil_of_le (show (a).length ≤ i by omega)]; simp only [laws_toRuleS_L1, ct, cf]
  refine WX.seal 7 1 15 rfl rfl (show (a).length = (out).length from by omega) rfl rfl ?_
  refine WX.slot 2 (y := .v (.slice p1 (out).length ((a).length))) rfl (fun _ => by show (Value.slice p1 ((a).length) ((a).length) : Value) = Value.slice p1 (out).length ((a).length); rw [(show (a).length = (out).length from by omega)]) ?_
  refine WX.slot 22 (y := .v (.slice p1 (out).length ((a).length))) rfl (fun _ => by show (Value.slice p1 ((a).length) ((a).length) : Value) = Value.slice p1 (out).length ((a).length); rw [(show (a).length = (out).length from by omega)]) ?_
  refine WX.slot 3 (y := .v (.slice p1 (out).length ((a).length))) rfl (fun _ => by show (Value.slice p1 ((a).length) ((a).length) : Value) = Value.slice p1 (out).length ((a).length); rw [(show (a).length = (out).length from by omega)]) ?_
  have hP1 : laws_toRuleS a = out := by simp only [laws_toRuleS, hX1, ct, cf]
  refine R1 ?_
  intro w1 G bs hI hΓ
  rw [hP1]
  exact Post.of [16] (p1, ((a).length)) hI hΓ rfl rfl rfl (okl_mk (by omega) v3 : GoT.ok n (out : List Rule))
theorem f157 (w : World) (n : Nat) (hn : n + 0 ≤ 9) (a : (List Name)) (pa : Option Addr) (ca : Nat) (N0 : RdSl (hp w) pa ca a) (hoka : GoT.ok n a) :
  Does Tryz.prog 157 #[.slice pa ((a).length) ca] w emp (Post w emp (fun x : GoT.X ((List Name)) => (GoT.sh ((laws_toNameS a) : (List Name)) x).headD undef) (fun x => GoT.oa ((laws_toNameS a) : (List Name)) x) (GoT.ok n ((laws_toNameS a) : (List Name)))) := by
 have hbP := bd_pos n
 have hbB := bd_big (n := n) (by omega)
 refine WX.enter (tt := tt) (Γ := [(0, MF.rs .stb pa ca a)]) Tryz.func157 rfl (by kernel_rfl) rfl (allS_cons rfl N0 allS_nil) ?_
 refine R0 ?_
 have r1 : (a).length ≤ bd n := (okl hoka).1
 refine WX.mkS ((a).length) ttOk rfl rfl rfl rfl rfl rfl rfl (by omega) (by omega) rfl ?_
 intro p1
 refine WX.free 1 (MF.ol (zrep ((a).length) [.slice none (0) 0]) ((List.replicate ((a).length) (Name.mk ([]))) : List Name)) (ol_zrep (α := Name) (z0 := (Name.mk ([]))) (x0 := (none, 0)) rfl (sep_emp_cons (owSl_nil _ _) trivial) _) ?_
 refine R0 ?_
 refine WX.loop (ι := (List Value) × (List Name) × Nat) ⟨fun | (xsout, out, i) => (i ≤ (a).length) ∧ (out.length = (a).length) ∧ (∀ z_ ∈ out, GoT.ok n z_) ∧ (laws_toNameS_L1 a 0 ((List.replicate ((a).length) (Name.mk ([]))) : List Name) = laws_toNameS_L1 ((a).drop i) i out), fun | (xsout, out, i) => (a).length - i, fun | (xsout, out, i) => [(3, .v (.slice p1 ((a).length) ((a).length))), (4, .v (.int .i64 (((i : Nat) : Int)))), (0, .v (.slice pa ((a).length) ca))], fun | (xsout, out, i) => [], fun | (xsout, out, i) => [(7, ⟨1, p1, (a).length, ((a).length), xsout⟩)], fun | (xsout, out, i) => [(0, MF.rs .stb pa ca a), (1, MF.ol xsout (out : List Name))]⟩ ((zrep ((a).length) [.slice none (0) 0]), ((List.replicate ((a).length) (Name.mk ([]))) : List Name), 0) ⟨(Nat.zero_le _), (by simp), (all_rep (ok_nil (α := Str))), rfl⟩
  (.cons rfl (.cons rfl (.cons rfl (.nil)))) .nil (.cons rfl (.nil)) [0, 1] rfl ?_
 rintro ⟨xsout, out, i⟩ hpre
 have hpre_ : (i ≤ (a).length) ∧ (out.length = (a).length) ∧ (∀ z_ ∈ out, GoT.ok n z_) ∧ (laws_toNameS_L1 a 0 ((List.replicate ((a).length) (Name.mk ([]))) : List Name) = laws_toNameS_L1 ((a).drop i) i out) := hpre
 clear hpre
 obtain ⟨v1, v2, v3, v4⟩ := hpre_
 refine R0 ?_
 refine WX.cases 11 rfl (fun h1 => ?_) (fun h1 => ?_)
 ·skip
  have h1d := B.dt h1
  have e1i : i < (a).length := (by omega)
  obtain ⟨e1, e1h⟩ : ∃ e1, (a)[i]? = some e1 := ⟨_, List.getElem?_eq_getElem e1i⟩
  have ok1 : GoT.ok n e1 := (okl hoka).2 _ (List.mem_of_getElem? e1h)
  refine R0 ?_
  refine WX.idx 0 i ttOk rfl rfl rfl rfl rfl rfl rfl rfl rfl rfl e1i ?_
  rintro ad1 rfl
  refine WX.ldE 0 2 e1 ttOk rfl rfl rfl rfl rfl rfl rfl rfl e1h (fun _ => rfl) (fun _ => rfl) ?_
  rintro ⟨p2, c1⟩
  refine WX.callF 3 (fun _ _ h => GoT.ow_rd h) (fun _ f hf => GoT.fak f hf) rfl rfl rfl rfl rfl (fun _ => rfl) rfl (fun w G bs hI hΓ => f154 w n (by omega) e1 p2 c1 (hΓ.get 2 rfl) ok1) (fun _ => rfl) (fun _ => rfl) ?_
  rintro ⟨p3, c2⟩ hq1
  have hr1 : i < (a).length := (by first | assumption | omega)
  refine WX.idxR 7 i ttOk rfl rfl rfl rfl rfl rfl rfl rfl rfl hr1 ?_
  rintro ad2 rfl
  have e2i : i < (out).length := (by first | assumption | omega)
  obtain ⟨e2, e2h⟩ : ∃ e2, (out)[i]? = some e2 := ⟨_, List.getElem?_eq_getElem e2i⟩
  have ok2 : GoT.ok n e2 := v3 _ (List.mem_of_getElem? e2h)
  refine WX.opnE (α := Name) (e := e2) 7 1 5 i rfl rfl rfl e2h (fun _ => rfl) (fun _ _ _ => rfl) (fun _ _ _ => rfl) ?_
  rintro A1 B1 ⟨p4, c3⟩ hA1 hB1
  refine WX.stA 7 ttOk rfl rfl rfl rfl rfl rfl rfl rfl rfl rfl rfl rfl rfl rfl hA1 hr1 rfl rfl rfl rfl (by simp) rfl ?_
  refine R0 ?_
  refine WX.see rfl rfl rfl (fun _ hΓ => looks_arith rfl rfl rfl rfl (by unfold I64; first | omega | (simp only [List.length_take] at *; omega))) ?_
  refine R0 ?_
  refine WX.turn [4, 7, 8] 9 rfl (fun h hs => cl_elem (α := Name) (e := (laws_toName e1)) (x := (p3, c2)) e2i hs) (gs := [MF.ol (A1 ++ [.slice p3 (((laws_toName e1).parts).length) c2] ++ B1) (out.set i (laws_toName e1))]) rfl ?_
  refine WX.turn [9] 1 rfl (fun _ h => h) rfl ?_
  exact WX.iter ((A1 ++ [.slice p3 (((laws_toName e1).parts).length) c2] ++ B1), ((out.set i (laws_toName e1)) : List Name), i + 1) ⟨(by omega), (by first | assumption | omega | (simp; omega)), (all_set v3 (show GoT.ok n ((laws_toName e1) : Name) from hq1)), (by rw [v4, drop_get e1h]; simp only [laws_toNameS_L1, e2h, ct, cf])⟩ (by first | (dsimp only; omega) | omega) (.cons rfl (.cons rfl (.cons rfl (.nil)))) .nil (.cons rfl (.nil)) [0, 1] rfl
 ·skip
  have h1d := B.df h1
  refine R0 ?_
  have hX1 : laws_toNameS_L1 a 0 ((List.replicate ((a).length) (Name.mk ([]))) : List Name) = ((out) : List Name) := by rw [v4, List.drop_eq_nil_of_le (show (a).length ≤ i by omega)]; simp only [laws_toNameS_L1, ct, cf]
  refine WX.seal 7 1 10 rfl rfl (show (a).length = (out).length from by omega) rfl rfl ?_
  refine WX.slot 2 (y := .v (.slice p1 (out).length ((a).length))) rfl (fun _ => by show (Value.slice p1 ((a).length) ((a).length) : Value) = Value.slice p1 (out).length ((a).length); rw [(show (a).length = (out).length from by omega)]) ?_
  refine WX.slot 22 (y := .v (.slice p1 (out).length ((a).length))) rfl (fun _ => by show (Value.slice p1 ((a).length) ((a).length) : Value) = Value.slice p1 (out).length ((a).length); rw [(show (a).length = (out).length from by omega)]) ?_
  refine WX.slot 3 (y := .v (.slice p1 (out).length ((a).length))) rfl (fun _ => by show (Value.slice p1 ((a).length) ((a).length) : Value) = Value.slice p1 (out).length ((a).length); rw [(show (a).length = (out).length from by omega)]) ?_
  have hP1 : laws_toNameS a = out := by simp only [laws_toNameS, hX1, ct, cf]
  refine R1 ?_
  intro w1 G bs hI hΓ
  rw [hP1]
  exact Post.of [11] (p1, ((a).length)) hI hΓ rfl rfl rfl (okl_mk (by omega) v3 : GoT.ok n (out : List Name))
theorem f158 (w : World) (n : Nat) (hn : n + 0 ≤ 9) (a : (List DataP)) (pa : Option Addr) (ca : Nat) (N0 : RdSl (hp w) pa ca a) (hoka : GoT.ok n a) :
  Does Tryz.prog 158 #[.slice pa ((a).length) ca] w emp (Post w emp (fun x : GoT.X ((List DataP)) => (GoT.sh ((laws_toDataS a) : (List DataP)) x).headD undef) (fun x => GoT.oa ((laws_toDataS a) : (List DataP)) x) (GoT.ok n ((laws_toDataS a) : (List DataP)))) := by
 have hbP := bd_pos n
 have hbB := bd_big (n := n) (by omega)
 refine WX.enter (tt := tt) (Γ := [(0, MF.rs .stb pa ca a)]) Tryz.func158 rfl (by kernel_rfl) rfl (allS_cons rfl N0 allS_nil) ?_
 refine R0 ?_
 have r1 : (a).length ≤ bd n := (okl hoka).1
 refine WX.mkS ((a).length) ttOk rfl rfl rfl rfl rfl rfl rfl (by omega) (by omega) rfl ?_
 intro p1
 refine WX.free 1 (MF.ol (zrep ((a).length) [.slice none (0) 0, .slice none (0) 0, .slice none (0) 0, .int .i64 (0), .int .i64 (0)]) ((List.replicate ((a).length) (DataP.mk (Name.mk ([])) ([]) (Name.mk ([])) 0 0)) : List DataP)) (ol_zrep (α := DataP) (z0 := (DataP.mk (Name.mk ([])) ([]) (Name.mk ([])) 0 0)) (x0 := ((none, 0), (none, 0), (none, 0), (), ())) rfl (sep_emp_cons (owSl_nil _ _) (sep_emp_cons (owSl_nil _ _) (sep_emp_cons (owSl_nil _ _) trivial))) _) ?_
 refine R0 ?_
 refine WX.loop (ι := (List Value) × (List DataP) × Nat) ⟨fun | (xsout, out, i) => (i ≤ (a).length) ∧ (out.length = (a).length) ∧ (∀ z_ ∈ out, GoT.ok n z_) ∧ (laws_toDataS_L1 a 0 ((List.replicate ((a).length) (DataP.mk (Name.mk ([])) ([]) (Name.mk ([])) 0 0)) : List DataP) = laws_toDataS_L1 ((a).drop i) i out), fun | (xsout, out, i) => (a).length - i, fun | (xsout, out, i) => [(3, .v (.slice p1 ((a).length) ((a).length))), (4, .v (.int .i64 (((i : Nat) : Int)))), (0, .v (.slice pa ((a).length) ca))], fun | (xsout, out, i) => [], fun | (xsout, out, i) => [(7, ⟨5, p1, (a).length, ((a).length), xsout⟩)], fun | (xsout, out, i) => [(0, MF.rs .stb pa ca a), (1, MF.ol xsout (out : List DataP))]⟩ ((zrep ((a).length) [.slice none (0) 0, .slice none (0) 0, .slice none (0) 0, .int .i64 (0), .int .i64 (0)]), ((List.replicate ((a).length) (DataP.mk (Name.mk ([])) ([]) (Name.mk ([])) 0 0)) : List DataP), 0) ⟨(Nat.zero_le _), (by simp), (all_rep (And.intro (ok_nil (α := Str)) (And.intro (ok_nil (α := UInt8)) (And.intro (ok_nil (α := Str)) (And.intro (show I64 0 from (by unfold I64; omega)) (show I64 0 from (by unfold I64; omega))))))), rfl⟩
  (.cons rfl (.cons rfl (.cons rfl (.nil)))) .nil (.cons rfl (.nil)) [0, 1] rfl ?_
 rintro ⟨xsout, out, i⟩ hpre
 have hpre_ : (i ≤ (a).length) ∧ (out.length = (a).length) ∧ (∀ z_ ∈ out, GoT.ok n z_) ∧ (laws_toDataS_L1 a 0 ((List.replicate ((a).length) (DataP.mk (Name.mk ([])) ([]) (Name.mk ([])) 0 0)) : List DataP) = laws_toDataS_L1 ((a).drop i) i out) := hpre
 clear hpre
 obtain ⟨v1, v2, v3, v4⟩ := hpre_
 refine R0 ?_
 refine WX.cases 11 rfl (fun h1 => ?_) (fun h1 => ?_)
 ·skip
  have h1d := B.dt h1
  have e1i : i < (a).length := (by omega)
  obtain ⟨e1, e1h⟩ : ∃ e1, (a)[i]? = some e1 := ⟨_, List.getElem?_eq_getElem e1i⟩
  have ok1 : GoT.ok n e1 := (okl hoka).2 _ (List.mem_of_getElem? e1h)
  refine R0 ?_
  refine WX.idx 0 i ttOk rfl rfl rfl rfl rfl rfl rfl rfl rfl rfl e1i ?_
  rintro ad1 rfl
  refine WX.ldE 0 2 e1 ttOk rfl rfl rfl rfl rfl rfl rfl rfl e1h (fun _ => rfl) (fun _ => rfl) ?_
  rintro ⟨⟨p2, c1⟩, ⟨p3, c2⟩, ⟨p4, c3⟩, ⟨⟩, ⟨⟩⟩
  refine WX.callF 5 (fun _ _ h => GoT.ow_rd h) (fun _ f hf => GoT.fak f hf) rfl rfl rfl rfl rfl (fun _ => rfl) rfl (fun w G bs hI hΓ => f68 w n (by omega) e1 p2 c1 (hΓ.get 2 rfl) p3 c2 (hΓ.get 3 rfl) p4 c3 (hΓ.get 4 rfl) ok1) (fun _ => rfl) (fun _ => rfl) ?_
  rintro ⟨⟨p5, c4⟩, ⟨p6, c5⟩, ⟨p7, c6⟩, ⟨⟩, ⟨⟩⟩ hq1
  have hr1 : i < (a).length := (by first | assumption | omega)
  refine WX.idxR 7 i ttOk rfl rfl rfl rfl rfl rfl rfl rfl rfl hr1 ?_
  rintro ad2 rfl
  have e2i : i < (out).length := (by first | assumption | omega)
  obtain ⟨e2, e2h⟩ : ∃ e2, (out)[i]? = some e2 := ⟨_, List.getElem?_eq_getElem e2i⟩
  have ok2 : GoT.ok n e2 := v3 _ (List.mem_of_getElem? e2h)
  refine WX.opnE (α := DataP) (e := e2) 7 1 11 i rfl rfl rfl e2h (fun _ => rfl) (fun _ _ _ => rfl) (fun _ _ _ => rfl) ?_
  rintro A1 B1 ⟨⟨p8, c7⟩, ⟨p9, c8⟩, ⟨p10, c9⟩, ⟨⟩, ⟨⟩⟩ hA1 hB1
  refine WX.stA 7 ttOk rfl rfl rfl rfl rfl rfl rfl rfl rfl rfl rfl rfl rfl rfl hA1 hr1 rfl rfl rfl rfl (by simp) rfl ?_
  refine R0 ?_
  refine WX.see rfl rfl rfl (fun _ hΓ => looks_arith rfl rfl rfl rfl (by unfold I64; first | omega | (simp only [List.length_take] at *; omega))) ?_
  refine R0 ?_
  refine WX.turn [8, 9, 10, 17, 18] 19 rfl (fun h hs => cl_elem (α := DataP) (e := (laws_toData e1)) (x := ((p5, c4), (p6, c5), (p7, c6), (), ())) e2i hs) (gs := [MF.ol (A1 ++ [.slice p5 (((laws_toData e1).name.parts).length) c4, .slice p6 (((laws_toData e1).content).length) c5, .slice p7 (((laws_toData e1).keyName.parts).length) c6, .int .i64 ((laws_toData e1).freshUntil), .int .i64 ((laws_toData e1).signature)] ++ B1) (out.set i (laws_toData e1))]) rfl ?_
  refine WX.turn [19] 1 rfl (fun _ h => h) rfl ?_
  exact WX.iter ((A1 ++ [.slice p5 (((laws_toData e1).name.parts).length) c4, .slice p6 (((laws_toData e1).content).length) c5, .slice p7 (((laws_toData e1).keyName.parts).length) c6, .int .i64 ((laws_toData e1).freshUntil), .int .i64 ((laws_toData e1).signature)] ++ B1), ((out.set i (laws_toData e1)) : List DataP), i + 1) ⟨(by omega), (by first | assumption | omega | (simp; omega)), (all_set v3 (show GoT.ok n ((laws_toData e1) : DataP) from hq1)), (by rw [v4, drop_get e1h]; simp only [laws_toDataS_L1, e2h, ct, cf])⟩ (by first | (dsimp only; omega) | omega) (.cons rfl (.cons rfl (.cons rfl (.nil)))) .nil (.cons rfl (.nil)) [0, 1] rfl
 ·skip
  have h1d := B.df h1
  refine R0 ?_
  have hX1 : laws_toDataS_L1 a 0 ((List.replicate ((a).length) (DataP.mk (Name.mk ([])) ([]) (Name.mk ([])) 0 0)) : List DataP) = ((out) : List DataP) := by rw [v4, List.drop_eq_nil_of_le (show (a).length ≤ i by omega)]; simp only [laws_toDataS_L1, ct, cf]
  refine WX.seal 7 1 20 rfl rfl (show (a).length = (out).length from by omega) rfl rfl ?_
  refine WX.slot 2 (y := .v (.slice p1 (out).length ((a).length))) rfl (fun _ => by show (Value.slice p1 ((a).length) ((a).length) : Value) = Value.slice p1 (out).length ((a).length); rw [(show (a).length = (out).length from by omega)]) ?_
  refine WX.slot 22 (y := .v (.slice p1 (out).length ((a).length))) rfl (fun _ => by show (Value.slice p1 ((a).length) ((a).length) : Value) = Value.slice p1 (out).length ((a).length); rw [(show (a).length = (out).length from by omega)]) ?_
  refine WX.slot 3 (y := .v (.slice p1 (out).length ((a).length))) rfl (fun _ => by show (Value.slice p1 ((a).length) ((a).length) : Value) = Value.slice p1 (out).length ((a).length); rw [(show (a).length = (out).length from by omega)]) ?_
  have hP1 : laws_toDataS a = out := by simp only [laws_toDataS, hX1, ct, cf]
  refine R1 ?_
  intro w1 G bs hI hΓ
  rw [hP1]
  exact Post.of [21] (p1, ((a).length)) hI hΓ rfl rfl rfl (okl_mk (by omega) v3 : GoT.ok n (out : List DataP))
theorem f67 (w : World) (n : Nat) (hn : n + 0 ≤ 9) (a : TrustPolicy) (K0 : Option Addr) (M0 : Nat) (N0 : RdSl (hp w) K0 M0 a.keys) (K1 : Option Addr) (M1 : Nat) (N1 : RdSl (hp w) K1 M1 a.rules) (K2 : Option Addr) (M2 : Nat) (N2 : RdSl (hp w) K2 M2 a.anchors) (K3 : Option Addr) (M3 : Nat) (N3 : RdSl (hp w) K3 M3 a.certificates) (hoka : GoT.ok n a) :
  Does Tryz.prog 67 #[.agg #[.slice K0 ((a.keys).length) M0, .slice K1 ((a.rules).length) M1, .slice K2 ((a.anchors).length) M2, .slice K3 ((a.certificates).length) M3]] w emp (Post w emp (fun x : GoT.X (TrustPolicy) => .agg ⟨GoT.sh ((laws_toTrustPolicy a) : TrustPolicy) x⟩) (fun x => GoT.oa ((laws_toTrustPolicy a) : TrustPolicy) x) (GoT.ok n ((laws_toTrustPolicy a) : TrustPolicy))) := by
 have hbP := bd_pos n
 have hbB := bd_big (n := n) (by omega)
 refine WX.enter (tt := tt) (Γ := [(0, MF.rs .stb K0 M0 a.keys), (1, MF.rs .stb K1 M1 a.rules), (2, MF.rs .stb K2 M2 a.anchors), (3, MF.rs .stb K3 M3 a.certificates)]) Tryz.func67 rfl (by kernel_rfl) rfl (allS_cons rfl N0 (allS_cons rfl N1 (allS_cons rfl N2 (allS_cons rfl N3 allS_nil)))) ?_
 refine R0 ?_
 refine WX.callF 4 (fun _ _ h => GoT.ow_rd h) (fun _ f hf => GoT.fak f hf) rfl rfl rfl rfl rfl (fun _ => rfl) rfl (fun w G bs hI hΓ => f155 w n (by omega) a.keys K0 M0 (hΓ.get 0 rfl) ((ok_TrustPolicy hoka).1)) (fun _ => rfl) (fun _ => rfl) ?_
 rintro ⟨p1, c1⟩ hq1
 refine R0 ?_
 refine WX.callF 6 (fun _ _ h => GoT.ow_rd h) (fun _ f hf => GoT.fak f hf) rfl rfl rfl rfl rfl (fun _ => rfl) rfl (fun w G bs hI hΓ => f156 w n (by omega) a.rules K1 M1 (hΓ.get 1 rfl) ((ok_TrustPolicy hoka).2.1)) (fun _ => rfl) (fun _ => rfl) ?_
 rintro ⟨p2, c2⟩ hq2
 refine R0 ?_
 refine WX.callF 8 (fun _ _ h => GoT.ow_rd h) (fun _ f hf => GoT.fak f hf) rfl rfl rfl rfl rfl (fun _ => rfl) rfl (fun w G bs hI hΓ => f157 w n (by omega) a.anchors K2 M2 (hΓ.get 2 rfl) ((ok_TrustPolicy hoka).2.2.1)) (fun _ => rfl) (fun _ => rfl) ?_
 rintro ⟨p3, c3⟩ hq3
 refine R0 ?_
 refine WX.callF 10 (fun _ _ h => GoT.ow_rd h) (fun _ f hf => GoT.fak f hf) rfl rfl rfl rfl rfl (fun _ => rfl) rfl (fun w G bs hI hΓ => f158 w n (by omega) a.certificates K3 M3 (hΓ.get 3 rfl) ((ok_TrustPolicy hoka).2.2.2)) (fun _ => rfl) (fun _ => rfl) ?_
 rintro ⟨p4, c4⟩ hq4
 refine R0 ?_
 have hP1 : laws_toTrustPolicy a = (TrustPolicy.mk (laws_toKeyS a.keys) (laws_toRuleS a.rules) (laws_toNameS a.anchors) (laws_toDataS a.certificates)) := by simp only [laws_toTrustPolicy, ct, cf]
 refine R1 ?_
 intro w1 G bs hI hΓ
 rw [hP1]
 exact Post.of [5, 7, 9, 11] ((p1, c1), (p2, c2), (p3, c3), (p4, c4)) hI hΓ rfl rfl rfl (And.intro hq1 (And.intro hq2 (And.intro hq3 hq4)))
theorem f332 (w : World) (n : Nat) (hn : n + 0 ≤ 9) (a : Link) (hoka : GoT.ok n a) :
  Does Tryz.prog 332 #[.agg #[.int .i64 (a.a), .int .i64 (a.b)]] w emp (fun (rv : Value) (_ : World) => rv = .agg #[.int .i64 ((laws_toLink a).a), .int .i64 ((laws_toLink a).b)] ∧ GoT.ok n ((laws_toLink a) : Link)) := by
 refine WX.enter (tt := tt) (Γ := []) Tryz.func332 rfl (by kernel_rfl) rfl allS_nil ?_
 refine R0 ?_
 have hP1 : laws_toLink a = a := by simp only [laws_toLink, ct, cf]
 refine R1 ?_
 intro w1 G bs hI hΓ
 rw [hP1]
 exact ⟨rfl, hoka⟩
theorem f274 (w : World) (n : Nat) (hn : n + 0 ≤ 9) (a : (List Link)) (pa : Option Addr) (ca : Nat) (N0 : RdSl (hp w) pa ca a) (hoka : GoT.ok n a) :
  Does Tryz.prog 274 #[.slice pa ((a).length) ca] w emp (Post w emp (fun x : GoT.X ((List Link)) => (GoT.sh ((laws_toLinkS a) : (List Link)) x).headD undef) (fun x => GoT.oa ((laws_toLinkS a) : (List Link)) x) (GoT.ok n ((laws_toLinkS a) : (List Link)))) := by
 have hbP := bd_pos n
 have hbB := bd_big (n := n) (by omega)
 refine WX.enter (tt := tt) (Γ := [(0, MF.rs .stb pa ca a)]) Tryz.func274 rfl (by kernel_rfl) rfl (allS_cons rfl N0 allS_nil) ?_
 refine R0 ?_
 have r1 : (a).length ≤ bd n := (okl hoka).1
 refine WX.mkS ((a).length) ttOk rfl rfl rfl rfl rfl rfl rfl (by omega) (by omega) rfl ?_
 intro p1
 refine WX.free 1 (MF.ol (zrep ((a).length) [.int .i64 (0), .int .i64 (0)]) ((List.replicate ((a).length) (Link.mk 0 0)) : List Link)) (ol_zrep (α := Link) (z0 := (Link.mk 0 0)) (x0 := ((), ())) rfl trivial _) ?_
 refine R0 ?_
 refine WX.loop (ι := (List Value) × (List Link) × Nat) ⟨fun | (xsout, out, i) => (i ≤ (a).length) ∧ (out.length = (a).length) ∧ (∀ z_ ∈ out, GoT.ok n z_) ∧ (laws_toLinkS_L1 a 0 ((List.replicate ((a).length) (Link.mk 0 0)) : List Link) = laws_toLinkS_L1 ((a).drop i) i out), fun | (xsout, out, i) => (a).length - i, fun | (xsout, out, i) => [(3, .v (.slice p1 ((a).length) ((a).length))), (4, .v (.int .i64 (((i : Nat) : Int)))), (0, .v (.slice pa ((a).length) ca))], fun | (xsout, out, i) => [], fun | (xsout, out, i) => [(7, ⟨2, p1, (a).length, ((a).length), xsout⟩)], fun | (xsout, out, i) => [(0, MF.rs .stb pa ca a), (1, MF.ol xsout (out : List Link))]⟩ ((zrep ((a).length) [.int .i64 (0), .int .i64 (0)]), ((List.replicate ((a).length) (Link.mk 0 0)) : List Link), 0) ⟨(Nat.zero_le _), (by simp), (all_rep (And.intro (show I64 0 from (by unfold I64; omega)) (show I64 0 from (by unfold I64; omega)))), rfl⟩
  (.cons rfl (.cons rfl (.cons rfl (.nil)))) .nil (.cons rfl (.nil)) [0, 1] rfl ?_
 rintro ⟨xsout, out, i⟩ hpre
 have hpre_ : (i ≤ (a).length) ∧ (out.length = (a).length) ∧ (∀ z_ ∈ out, GoT.ok n z_) ∧ (laws_toLinkS_L1 a 0 ((List.replicate ((a).length) (Link.mk 0 0)) : List Link) = laws_toLinkS_L1 ((a).drop i) i out) := hpre
 clear hpre
 obtain ⟨v1, v2, v3, v4⟩ := hpre_
 refine R0 ?_
 refine WX.cases 11 rfl (fun h1 => ?_) (fun h1 => ?_)
 ·skip
  have h1d := B.dt h1
  have e1i : i < (a).length := (by omega)
  obtain ⟨e1, e1h⟩ : ∃ e1, (a)[i]? = some e1 := ⟨_, List.getElem?_eq_getElem e1i⟩
  have ok1 : GoT.ok n e1 := (okl hoka).2 _ (List.mem_of_getElem? e1h)
  refine R0 ?_
  refine WX.idx 0 i ttOk rfl rfl rfl rfl rfl rfl rfl rfl rfl rfl e1i ?_
  rintro ad1 rfl
  refine WX.ldE 0 2 e1 ttOk rfl rfl rfl rfl rfl rfl rfl rfl e1h (fun _ => rfl) (fun _ => rfl) ?_
  rintro ⟨⟨⟩, ⟨⟩⟩
  refine WX.callV rfl rfl rfl rfl rfl (fun _ => rfl) rfl (fun w G bs hI hΓ => f332 w n (by omega) e1 ok1) ?_
  intro hq1
  have hr1 : i < (a).length := (by first | assumption | omega)
  refine WX.idxR 7 i ttOk rfl rfl rfl rfl rfl rfl rfl rfl rfl hr1 ?_
  rintro ad2 rfl
  have e2i : i < (out).length := (by first | assumption | omega)
  obtain ⟨e2, e2h⟩ : ∃ e2, (out)[i]? = some e2 := ⟨_, List.getElem?_eq_getElem e2i⟩
  have ok2 : GoT.ok n e2 := v3 _ (List.mem_of_getElem? e2h)
  refine WX.opnE (α := Link) (e := e2) 7 1 2 i rfl rfl rfl e2h (fun _ => rfl) (fun _ _ _ => rfl) (fun _ _ _ => rfl) ?_
  rintro A1 B1 ⟨⟨⟩, ⟨⟩⟩ hA1 hB1
  refine WX.stA 7 ttOk rfl rfl rfl rfl rfl rfl rfl rfl rfl rfl rfl rfl rfl rfl hA1 hr1 rfl rfl rfl rfl (by simp) rfl ?_
  refine R0 ?_
  refine WX.see rfl rfl rfl (fun _ hΓ => looks_arith rfl rfl rfl rfl (by unfold I64; first | omega | (simp only [List.length_take] at *; omega))) ?_
  refine R0 ?_
  refine WX.turn [2, 3] 4 rfl (fun h hs => cl_elem (α := Link) (e := (laws_toLink e1)) (x := ((), ())) e2i hs) (gs := [MF.ol (A1 ++ [.int .i64 ((laws_toLink e1).a), .int .i64 ((laws_toLink e1).b)] ++ B1) (out.set i (laws_toLink e1))]) rfl ?_
  refine WX.turn [4] 1 rfl (fun _ h => h) rfl ?_
  exact WX.iter ((A1 ++ [.int .i64 ((laws_toLink e1).a), .int .i64 ((laws_toLink e1).b)] ++ B1), ((out.set i (laws_toLink e1)) : List Link), i + 1) ⟨(by omega), (by first | assumption | omega | (simp; omega)), (all_set v3 (show GoT.ok n ((laws_toLink e1) : Link) from hq1)), (by rw [v4, drop_get e1h]; simp only [laws_toLinkS_L1, e2h, ct, cf])⟩ (by first | (dsimp only; omega) | omega) (.cons rfl (.cons rfl (.cons rfl (.nil)))) .nil (.cons rfl (.nil)) [0, 1] rfl
 ·skip
  have h1d := B.df h1
  refine R0 ?_
  have hX1 : laws_toLinkS_L1 a 0 ((List.replicate ((a).length) (Link.mk 0 0)) : List Link) = ((out) : List Link) := by rw [v4, List.drop_eq_nil_of_le (show (a).length ≤ i by omega)]; simp only [laws_toLinkS_L1, ct, cf]
  refine WX.seal 7 1 5 rfl rfl (show (a).length = (out).length from by omega) rfl rfl ?_
  refine WX.slot 2 (y := .v (.slice p1 (out).length ((a).length))) rfl (fun _ => by show (Value.slice p1 ((a).length) ((a).length) : Value) = Value.slice p1 (out).length ((a).length); rw [(show (a).length = (out).length from by omega)]) ?_
  refine WX.slot 22 (y := .v (.slice p1 (out).length ((a).length))) rfl (fun _ => by show (Value.slice p1 ((a).length) ((a).length) : Value) = Value.slice p1 (out).length ((a).length); rw [(show (a).length = (out).length from by omega)]) ?_
  refine WX.slot 3 (y := .v (.slice p1 (out).length ((a).length))) rfl (fun _ => by show (Value.slice p1 ((a).length) ((a).length) : Value) = Value.slice p1 (out).length ((a).length); rw [(show (a).length = (out).length from by omega)]) ?_
  have hP1 : laws_toLinkS a = out := by simp only [laws_toLinkS, hX1, ct, cf]
  refine R1 ?_
  intro w1 G bs hI hΓ
  rw [hP1]
  exact Post.of [6] (p1, ((a).length)) hI hΓ rfl rfl rfl (okl_mk (by omega) v3 : GoT.ok n (out : List Link))
theorem f189 (w : World) (n : Nat) (hn : n + 0 ≤ 9) (a : Topology) (K0 : Option Addr) (M0 : Nat) (N0 : RdSl (hp w) K0 M0 a.links) (hoka : GoT.ok n a) :
  Does Tryz.prog 189 #[.agg #[.int .i64 (a.size), .slice K0 ((a.links).length) M0]] w emp (Post w emp (fun x : GoT.X (Topology) => .agg ⟨GoT.sh ((laws_toTopology a) : Topology) x⟩) (fun x => GoT.oa ((laws_toTopology a) : Topology) x) (GoT.ok n ((laws_toTopology a) : Topology))) := by
 have hbP := bd_pos n
 have hbB := bd_big (n := n) (by omega)
 refine WX.enter (tt := tt) (Γ := [(0, MF.rs .stb K0 M0 a.links)]) Tryz.func189 rfl (by kernel_rfl) rfl (allS_cons rfl N0 allS_nil) ?_
 refine R0 ?_
 refine WX.callF 1 (fun _ _ h => GoT.ow_rd h) (fun _ f hf => GoT.fak f hf) rfl rfl rfl rfl rfl (fun _ => rfl) rfl (fun w G bs hI hΓ => f274 w n (by omega) a.links K0 M0 (hΓ.get 0 rfl) ((ok_Topology hoka).2)) (fun _ => rfl) (fun _ => rfl) ?_
 rintro ⟨p1, c1⟩ hq1
 refine R0 ?_
 have hP1 : laws_toTopology a = (Topology.mk a.size (laws_toLinkS a.links)) := by simp only [laws_toTopology, ct, cf]
 refine R1 ?_
 intro w1 G bs hI hΓ
 rw [hP1]
 exact Post.of [2] ((), (p1, c1)) hI hΓ rfl rfl rfl (And.intro (ok_Topology hoka).1 hq1)
theorem f275 (w : World) (n : Nat) (hn : n + 0 ≤ 9) (a : TableEntry) (K0 : Option Addr) (M0 : Nat) (N0 : RdSl (hp w) K0 M0 a.name.parts) (hoka : GoT.ok n a) :
  Does Tryz.prog 275 #[.agg #[.slice K0 ((a.name.parts).length) M0, .int .i64 (a.value)]] w emp (Post w emp (fun x : GoT.X (TableEntry) => .agg ⟨GoT.sh ((laws_toTableEntry a) : TableEntry) x⟩) (fun x => GoT.oa ((laws_toTableEntry a) : TableEntry) x) (GoT.ok n ((laws_toTableEntry a) : TableEntry))) := by
 have hbP := bd_pos n
 have hbB := bd_big (n := n) (by omega)
 refine WX.enter (tt := tt) (Γ := [(0, MF.rs .stb K0 M0 a.name.parts)]) Tryz.func275 rfl (by kernel_rfl) rfl (allS_cons rfl N0 allS_nil) ?_
 refine R0 ?_
 refine WX.callF 1 (fun _ _ h => GoT.ow_rd h) (fun _ f hf => GoT.fak f hf) rfl rfl rfl rfl rfl (fun _ => rfl) rfl (fun w G bs hI hΓ => f154 w n (by omega) a.name K0 M0 (hΓ.get 0 rfl) ((ok_TableEntry hoka).1)) (fun _ => rfl) (fun _ => rfl) ?_
 rintro ⟨p1, c1⟩ hq1
 refine R0 ?_
 have hP1 : laws_toTableEntry a = (TableEntry.mk (laws_toName a.name) a.value) := by simp only [laws_toTableEntry, ct, cf]
 refine R1 ?_
 intro w1 G bs hI hΓ
 rw [hP1]
 exact Post.of [2] ((p1, c1), ()) hI hΓ rfl rfl rfl (And.intro hq1 (ok_TableEntry hoka).2)
theorem f190 (w : World) (n : Nat) (hn : n + 0 ≤ 9) (a : (List TableEntry)) (pa : Option Addr) (ca : Nat) (N0 : RdSl (hp w) pa ca a) (hoka : GoT.ok n a) :
  Does Tryz.prog 190 #[.slice pa ((a).length) ca] w emp (Post w emp (fun x : GoT.X ((List TableEntry)) => (GoT.sh ((laws_toTableEntryS a) : (List TableEntry)) x).headD undef) (fun x => GoT.oa ((laws_toTableEntryS a) : (List TableEntry)) x) (GoT.ok n ((laws_toTableEntryS a) : (List TableEntry)))) := by
 have hbP := bd_pos n
 have hbB := bd_big (n := n) (by omega)
 refine WX.enter (tt := tt) (Γ := [(0, MF.rs .stb pa ca a)]) Tryz.func190 rfl (by kernel_rfl) rfl (allS_cons rfl N0 allS_nil) ?_
 refine R0 ?_
 have r1 : (a).length ≤ bd n := (okl hoka).1
 refine WX.mkS ((a).length) ttOk rfl rfl rfl rfl rfl rfl rfl (by omega) (by omega) rfl ?_
 intro p1
 refine WX.free 1 (MF.ol (zrep ((a).length) [.slice none (0) 0, .int .i64 (0)]) ((List.replicate ((a).length) (TableEntry.mk (Name.mk ([])) 0)) : List TableEntry)) (ol_zrep (α := TableEntry) (z0 := (TableEntry.mk (Name.mk ([])) 0)) (x0 := ((none, 0), ())) rfl (sep_emp_cons (owSl_nil _ _) trivial) _) ?_
 refine R0 ?_
 refine WX.loop (ι := (List Value) × (List TableEntry) × Nat) ⟨fun | (xsout, out, i) => (i ≤ (a).length) ∧ (out.length = (a).length) ∧ (∀ z_ ∈ out, GoT.ok n z_) ∧ (laws_toTableEntryS_L1 a 0 ((List.replicate ((a).length) (TableEntry.mk (Name.mk ([])) 0)) : List TableEntry) = laws_toTableEntryS_L1 ((a).drop i) i out), fun | (xsout, out, i) => (a).length - i, fun | (xsout, out, i) => [(3, .v (.slice p1 ((a).length) ((a).length))), (4, .v (.int .i64 (((i : Nat) : Int)))), (0, .v (.slice pa ((a).length) ca))], fun | (xsout, out, i) => [], fun | (xsout, out, i) => [(7, ⟨2, p1, (a).length, ((a).length), xsout⟩)], fun | (xsout, out, i) => [(0, MF.rs .stb pa ca a), (1, MF.ol xsout (out : List TableEntry))]⟩ ((zrep ((a).length) [.slice none (0) 0, .int .i64 (0)]), ((List.replicate ((a).length) (TableEntry.mk (Name.mk ([])) 0)) : List TableEntry), 0) ⟨(Nat.zero_le _), (by simp), (all_rep (And.intro (ok_nil (α := Str)) (show I64 0 from (by unfold I64; omega)))), rfl⟩
  (.cons rfl (.cons rfl (.cons rfl (.nil)))) .nil (.cons rfl (.nil)) [0, 1] rfl ?_
 rintro ⟨xsout, out, i⟩ hpre
 have hpre_ : (i ≤ (a).length) ∧ (out.length = (a).length) ∧ (∀ z_ ∈ out, GoT.ok n z_) ∧ (laws_toTableEntryS_L1 a 0 ((List.replicate ((a).length) (TableEntry.mk (Name.mk ([])) 0)) : List TableEntry) = laws_toTableEntryS_L1 ((a).drop i) i out) := hpre
 clear hpre
 obtain ⟨v1, v2, v3, v4⟩ := hpre_
 refine R0 ?_
 refine WX.cases 11 rfl (fun h1 => ?_) (fun h1 => ?_)
 ·skip
  have h1d := B.dt h1
  have e1i : i < (a).length := (by omega)
  obtain ⟨e1, e1h⟩ : ∃ e1, (a)[i]? = some e1 := ⟨_, List.getElem?_eq_getElem e1i⟩
  have ok1 : GoT.ok n e1 := (okl hoka).2 _ (List.mem_of_getElem? e1h)
  refine R0 ?_
  refine WX.idx 0 i ttOk rfl rfl rfl rfl rfl rfl rfl rfl rfl rfl e1i ?_
  rintro ad1 rfl
  refine WX.ldE 0 2 e1 ttOk rfl rfl rfl rfl rfl rfl rfl rfl e1h (fun _ => rfl) (fun _ => rfl) ?_
  rintro ⟨⟨p2, c1⟩, ⟨⟩⟩
  refine WX.callF 3 (fun _ _ h => GoT.ow_rd h) (fun _ f hf => GoT.fak f hf) rfl rfl rfl rfl rfl (fun _ => rfl) rfl (fun w G bs hI hΓ => f275 w n (by omega) e1 p2 c1 (hΓ.get 2 rfl) ok1) (fun _ => rfl) (fun _ => rfl) ?_
  rintro ⟨⟨p3, c2⟩, ⟨⟩⟩ hq1
  have hr1 : i < (a).length := (by first | assumption | omega)
  refine WX.idxR 7 i ttOk rfl rfl rfl rfl rfl rfl rfl rfl rfl hr1 ?_
  rintro ad2 rfl
  have e2i : i < (out).length := (by first | assumption | omega)
  obtain ⟨e2, e2h⟩ : ∃ e2, (out)[i]? = some e2 := ⟨_, List.getElem?_eq_getElem e2i⟩
  have ok2 : GoT.ok n e2 := v3 _ (List.mem_of_getElem? e2h)
  refine WX.opnE (α := TableEntry) (e := e2) 7 1 5 i rfl rfl rfl e2h (fun _ => rfl) (fun _ _ _ => rfl) (fun _ _ _ => rfl) ?_
  rintro A1 B1 ⟨⟨p4, c3⟩, ⟨⟩⟩ hA1 hB1
  refine WX.stA 7 ttOk rfl rfl rfl rfl rfl rfl rfl rfl rfl rfl rfl rfl rfl rfl hA1 hr1 rfl rfl rfl rfl (by simp) rfl ?_
  refine R0 ?_
  refine WX.see rfl rfl rfl (fun _ hΓ => looks_arith rfl rfl rfl rfl (by unfold I64; first | omega | (simp only [List.length_take] at *; omega))) ?_
  refine R0 ?_
  refine WX.turn [4, 7, 8] 9 rfl (fun h hs => cl_elem (α := TableEntry) (e := (laws_toTableEntry e1)) (x := ((p3, c2), ())) e2i hs) (gs := [MF.ol (A1 ++ [.slice p3 (((laws_toTableEntry e1).name.parts).length) c2, .int .i64 ((laws_toTableEntry e1).value)] ++ B1) (out.set i (laws_toTableEntry e1))]) rfl ?_
  refine WX.turn [9] 1 rfl (fun _ h => h) rfl ?_
  exact WX.iter ((A1 ++ [.slice p3 (((laws_toTableEntry e1).name.parts).length) c2, .int .i64 ((laws_toTableEntry e1).value)] ++ B1), ((out.set i (laws_toTableEntry e1)) : List TableEntry), i + 1) ⟨(by omega), (by first | assumption | omega | (simp; omega)), (all_set v3 (show GoT.ok n ((laws_toTableEntry e1) : TableEntry) from hq1)), (by rw [v4, drop_get e1h]; simp only [laws_toTableEntryS_L1, e2h, ct, cf])⟩ (by first | (dsimp only; omega) | omega) (.cons rfl (.cons rfl (.cons rfl (.nil)))) .nil (.cons rfl (.nil)) [0, 1] rfl
 ·skip
  have h1d := B.df h1
  refine R0 ?_
  have hX1 : laws_toTableEntryS_L1 a 0 ((List.replicate ((a).length) (TableEntry.mk (Name.mk ([])) 0)) : List TableEntry) = ((out) : List TableEntry) := by rw [v4, List.drop_eq_nil_of_le (show (a).length ≤ i by omega)]; simp only [laws_toTableEntryS_L1, ct, cf]
  refine WX.seal 7 1 10 rfl rfl (show (a).length = (out).length from by omega) rfl rfl ?_
  refine WX.slot 2 (y := .v (.slice p1 (out).length ((a).length))) rfl (fun _ => by show (Value.slice p1 ((a).length) ((a).length) : Value) = Value.slice p1 (out).length ((a).length); rw [(show (a).length = (out).length from by omega)]) ?_
  refine WX.slot 22 (y := .v (.slice p1 (out).length ((a).length))) rfl (fun _ => by show (Value.slice p1 ((a).length) ((a).length) : Value) = Value.slice p1 (out).length ((a).length); rw [(show (a).length = (out).length from by omega)]) ?_
  refine WX.slot 3 (y := .v (.slice p1 (out).length ((a).length))) rfl (fun _ => by show (Value.slice p1 ((a).length) ((a).length) : Value) = Value.slice p1 (out).length ((a).length); rw [(show (a).length = (out).length from by omega)]) ?_
  have hP1 : laws_toTableEntryS a = out := by simp only [laws_toTableEntryS, hX1, ct, cf]
  refine R1 ?_
  intro w1 G bs hI hΓ
  rw [hP1]
  exact Post.of [11] (p1, ((a).length)) hI hΓ rfl rfl rfl (okl_mk (by omega) v3 : GoT.ok n (out : List TableEntry))
theorem f424 (w : World) (n : Nat) (hn : n + 0 ≤ 9) (a : CacheEntry) (K0 : Option Addr) (M0 : Nat) (N0 : RdSl (hp w) K0 M0 a.data.name.parts) (K1 : Option Addr) (M1 : Nat) (N1 : RdSl (hp w) K1 M1 a.data.content) (K2 : Option Addr) (M2 : Nat) (N2 : RdSl (hp w) K2 M2 a.data.keyName.parts) (hoka : GoT.ok n a) :
  Does Tryz.prog 424 #[.agg #[.slice K0 ((a.data.name.parts).length) M0, .slice K1 ((a.data.content).length) M1, .slice K2 ((a.data.keyName.parts).length) M2, .int .i64 (a.data.freshUntil), .int .i64 (a.data.signature), .int .i64 (a.lastUsed)]] w emp (Post w emp (fun x : GoT.X (CacheEntry) => .agg ⟨GoT.sh ((laws_toCacheEntry a) : CacheEntry) x⟩) (fun x => GoT.oa ((laws_toCacheEntry a) : CacheEntry) x) (GoT.ok n ((laws_toCacheEntry a) : CacheEntry))) := by
 have hbP := bd_pos n
 have hbB := bd_big (n := n) (by omega)
 refine WX.enter (tt := tt) (Γ := [(0, MF.rs .stb K0 M0 a.data.name.parts), (1, MF.rs .stb K1 M1 a.data.content), (2, MF.rs .stb K2 M2 a.data.keyName.parts)]) Tryz.func424 rfl (by kernel_rfl) rfl (allS_cons rfl N0 (allS_cons rfl N1 (allS_cons rfl N2 allS_nil))) ?_
 refine R0 ?_
 refine WX.callF 3 (fun _ _ h => GoT.ow_rd h) (fun _ f hf => GoT.fak f hf) rfl rfl rfl rfl rfl (fun _ => rfl) rfl (fun w G bs hI hΓ => f68 w n (by omega) a.data K0 M0 (hΓ.get 0 rfl) K1 M1 (hΓ.get 1 rfl) K2 M2 (hΓ.get 2 rfl) ((ok_CacheEntry hoka).1)) (fun _ => rfl) (fun _ => rfl) ?_
 rintro ⟨⟨p1, c1⟩, ⟨p2, c2⟩, ⟨p3, c3⟩, ⟨⟩, ⟨⟩⟩ hq1
 refine R0 ?_
 have hP1 : laws_toCacheEntry a = (CacheEntry.mk (laws_toData a.data) a.lastUsed) := by simp only [laws_toCacheEntry, ct, cf]
 refine R1 ?_
 intro w1 G bs hI hΓ
 rw [hP1]
 exact Post.of [6, 7, 8] (((p1, c1), (p2, c2), (p3, c3), (), ()), ()) hI hΓ rfl rfl rfl (And.intro hq1 (ok_CacheEntry hoka).2)
theorem f386 (w : World) (n : Nat) (hn : n + 0 ≤ 9) (a : (List CacheEntry)) (pa : Option Addr) (ca : Nat) (N0 : RdSl (hp w) pa ca a) (hoka : GoT.ok n a) :
  Does Tryz.prog 386 #[.slice pa ((a).length) ca] w emp (Post w emp (fun x : GoT.X ((List CacheEntry)) => (GoT.sh ((laws_toCacheEntryS a) : (List CacheEntry)) x).headD undef) (fun x => GoT.oa ((laws_toCacheEntryS a) : (List CacheEntry)) x) (GoT.ok n ((laws_toCacheEntryS a) : (List CacheEntry)))) := by
 have hbP := bd_pos n
 have hbB := bd_big (n := n) (by omega)
 refine WX.enter (tt := tt) (Γ := [(0, MF.rs .stb pa ca a)]) Tryz.func386 rfl (by kernel_rfl) rfl (allS_cons rfl N0 allS_nil) ?_
 refine R0 ?_
 have r1 : (a).length ≤ bd n := (okl hoka).1
 refine WX.mkS ((a).length) ttOk rfl rfl rfl rfl rfl rfl rfl (by omega) (by omega) rfl ?_
 intro p1
 refine WX.free 1 (MF.ol (zrep ((a).length) [.slice none (0) 0, .slice none (0) 0, .slice none (0) 0, .int .i64 (0), .int .i64 (0), .int .i64 (0)]) ((List.replicate ((a).length) (CacheEntry.mk (DataP.mk (Name.mk ([])) ([]) (Name.mk ([])) 0 0) 0)) : List CacheEntry)) (ol_zrep (α := CacheEntry) (z0 := (CacheEntry.mk (DataP.mk (Name.mk ([])) ([]) (Name.mk ([])) 0 0) 0)) (x0 := (((none, 0), (none, 0), (none, 0), (), ()), ())) rfl (sep_emp_cons (owSl_nil _ _) (sep_emp_cons (owSl_nil _ _) (sep_emp_cons (owSl_nil _ _) trivial))) _) ?_
 refine R0 ?_
 refine WX.loop (ι := (List Value) × (List CacheEntry) × Nat) ⟨fun | (xsout, out, i) => (i ≤ (a).length) ∧ (out.length = (a).length) ∧ (∀ z_ ∈ out, GoT.ok n z_) ∧ (laws_toCacheEntryS_L1 a 0 ((List.replicate ((a).length) (CacheEntry.mk (DataP.mk (Name.mk ([])) ([]) (Name.mk ([])) 0 0) 0)) : List CacheEntry) = laws_toCacheEntryS_L1 ((a).drop i) i out), fun | (xsout, out, i) => (a).length - i, fun | (xsout, out, i) => [(3, .v (.slice p1 ((a).length) ((a).length))), (4, .v (.int .i64 (((i : Nat) : Int)))), (0, .v (.slice pa ((a).length) ca))], fun | (xsout, out, i) => [], fun | (xsout, out, i) => [(7, ⟨6, p1, (a).length, ((a).length), xsout⟩)], fun | (xsout, out, i) => [(0, MF.rs .stb pa ca a), (1, MF.ol xsout (out : List CacheEntry))]⟩ ((zrep ((a).length) [.slice none (0) 0, .slice none (0) 0, .slice none (0) 0, .int .i64 (0), .int .i64 (0), .int .i64 (0)]), ((List.replicate ((a).length) (CacheEntry.mk (DataP.mk (Name.mk ([])) ([]) (Name.mk ([])) 0 0) 0)) : List CacheEntry), 0) ⟨(Nat.zero_le _), (by simp), (all_rep (And.intro (And.intro (ok_nil (α := Str)) (And.intro (ok_nil (α := UInt8)) (And.intro (ok_nil (α := Str)) (And.intro (show I64 0 from (by unfold I64; omega)) (show I64 0 from (by unfold I64; omega)))))) (show I64 0 from (by unfold I64; omega)))), rfl⟩
  (.cons rfl (.cons rfl (.cons rfl (.nil)))) .nil (.cons rfl (.nil)) [0, 1] rfl ?_
 rintro ⟨xsout, out, i⟩ hpre
 have hpre_ : (i ≤ (a).length) ∧ (out.length = (a).length) ∧ (∀ z_ ∈ out, GoT.ok n z_) ∧ (laws_toCacheEntryS_L1 a 0 ((List.replicate ((a).length) (CacheEntry.mk (DataP.mk (Name.mk ([])) ([]) (Name.mk ([])) 0 0) 0)) : List CacheEntry) = laws_toCacheEntryS_L1 ((a).drop i) i out) := hpre
 clear hpre
 obtain ⟨v1, v2, v3, v4⟩ := hpre_
 refine R0 ?_
 refine WX.cases 11 rfl (fun h1 => ?_) (fun h1 => ?_)
 ·skip
  have h1d := B.dt h1
  have e1i : i < (a).length := (by omega)
  obtain ⟨e1, e1h⟩ : ∃ e1, (a)[i]? = some e1 := ⟨_, List.getElem?_eq_getElem e1i⟩
  have ok1 : GoT.ok n e1 := (okl hoka).2 _ (List.mem_of_getElem? e1h)
  refine R0 ?_
  refine WX.idx 0 i ttOk rfl rfl rfl rfl rfl rfl rfl rfl rfl rfl e1i ?_
  rintro ad1 rfl
  refine WX.ldE 0 2 e1 ttOk rfl rfl rfl rfl rfl rfl rfl rfl e1h (fun _ => rfl) (fun _ => rfl) ?_
  rintro ⟨⟨⟨p2, c1⟩, ⟨p3, c2⟩, ⟨p4, c3⟩, ⟨⟩, ⟨⟩⟩, ⟨⟩⟩
  refine WX.callF 5 (fun _ _ h => GoT.ow_rd h) (fun _ f hf => GoT.fak f hf) rfl rfl rfl rfl rfl (fun _ => rfl) rfl (fun w G bs hI hΓ => f424 w n (by omega) e1 p2 c1 (hΓ.get 2 rfl) p3 c2 (hΓ.get 3 rfl) p4 c3 (hΓ.get 4 rfl) ok1) (fun _ => rfl) (fun _ => rfl) ?_
  rintro ⟨⟨⟨p5, c4⟩, ⟨p6, c5⟩, ⟨p7, c6⟩, ⟨⟩, ⟨⟩⟩, ⟨⟩⟩ hq1
  have hr1 : i < (a).length := (by first | assumption | omega)
  refine WX.idxR 7 i ttOk rfl rfl rfl rfl rfl rfl rfl rfl rfl hr1 ?_
  rintro ad2 rfl
  have e2i : i < (out).length := (by first | assumption | omega)
  obtain ⟨e2, e2h⟩ : ∃ e2, (out)[i]? = some e2 := ⟨_, List.getElem?_eq_getElem e2i⟩
  have ok2 : GoT.ok n e2 := v3 _ (List.mem_of_getElem? e2h)
  refine WX.opnE (α := CacheEntry) (e := e2) 7 1 11 i rfl rfl rfl e2h (fun _ => rfl) (fun _ _ _ => rfl) (fun _ _ _ => rfl) ?_
  rintro A1 B1 ⟨⟨⟨p8, c7⟩, ⟨p9, c8⟩, ⟨p10, c9⟩, ⟨⟩, ⟨⟩⟩, ⟨⟩⟩ hA1 hB1
  refine WX.stA 7 ttOk rfl rfl rfl rfl rfl rfl rfl rfl rfl rfl rfl rfl rfl rfl hA1 hr1 rfl rfl rfl rfl (by simp) rfl ?_
  refine R0 ?_
  refine WX.see rfl rfl rfl (fun _ hΓ => looks_arith rfl rfl rfl rfl (by unfold I64; first | omega | (simp only [List.length_take] at *; omega))) ?_
  refine R0 ?_
  refine WX.turn [8, 9, 10, 17, 18] 19 rfl (fun h hs => cl_elem (α := CacheEntry) (e := (laws_toCacheEntry e1)) (x := (((p5, c4), (p6, c5), (p7, c6), (), ()), ())) e2i hs) (gs := [MF.ol (A1 ++ [.slice p5 (((laws_toCacheEntry e1).data.name.parts).length) c4, .slice p6 (((laws_toCacheEntry e1).data.content).length) c5, .slice p7 (((laws_toCacheEntry e1).data.keyName.parts).length) c6, .int .i64 ((laws_toCacheEntry e1).data.freshUntil), .int .i64 ((laws_toCacheEntry e1).data.signature), .int .i64 ((laws_toCacheEntry e1).lastUsed)] ++ B1) (out.set i (laws_toCacheEntry e1))]) rfl ?_
  refine WX.turn [19] 1 rfl (fun _ h => h) rfl ?_
  exact WX.iter ((A1 ++ [.slice p5 (((laws_toCacheEntry e1).data.name.parts).length) c4, .slice p6 (((laws_toCacheEntry e1).data.content).length) c5, .slice p7 (((laws_toCacheEntry e1).data.keyName.parts).length) c6, .int .i64 ((laws_toCacheEntry e1).data.freshUntil), .int .i64 ((laws_toCacheEntry e1).data.signature), .int .i64 ((laws_toCacheEntry e1).lastUsed)] ++ B1), ((out.set i (laws_toCacheEntry e1)) : List CacheEntry), i + 1) ⟨(by omega), (by first | assumption | omega | (simp; omega)), (all_set v3 (show GoT.ok n ((laws_toCacheEntry e1) : CacheEntry) from hq1)), (by rw [v4, drop_get e1h]; simp only [laws_toCacheEntryS_L1, e2h, ct, cf])⟩ (by first | (dsimp only; omega) | omega) (.cons rfl (.cons rfl (.cons rfl (.nil)))) .nil (.cons rfl (.nil)) [0, 1] rfl
 ·skip
  have h1d := B.df h1
  refine R0 ?_
  have hX1 : laws_toCacheEntryS_L1 a 0 ((List.replicate ((a).length) (CacheEntry.mk (DataP.mk (Name.mk ([])) ([]) (Name.mk ([])) 0 0) 0)) : List CacheEntry) = ((out) : List CacheEntry) := by rw [v4, List.drop_eq_nil_of_le (show (a).length ≤ i by omega)]; simp only [laws_toCacheEntryS_L1, ct, cf]
  refine WX.seal 7 1 20 rfl rfl (show (a).length = (out).length from by omega) rfl rfl ?_
  refine WX.slot 2 (y := .v (.slice p1 (out).length ((a).length))) rfl (fun _ => by show (Value.slice p1 ((a).length) ((a).length) : Value) = Value.slice p1 (out).length ((a).length); rw [(show (a).length = (out).length from by omega)]) ?_
  refine WX.slot 22 (y := .v (.slice p1 (out).length ((a).length))) rfl (fun _ => by show (Value.slice p1 ((a).length) ((a).length) : Value) = Value.slice p1 (out).length ((a).length); rw [(show (a).length = (out).length from by omega)]) ?_
  refine WX.slot 3 (y := .v (.slice p1 (out).length ((a).length))) rfl (fun _ => by show (Value.slice p1 ((a).length) ((a).length) : Value) = Value.slice p1 (out).length ((a).length); rw [(show (a).length = (out).length from by omega)]) ?_
  have hP1 : laws_toCacheEntryS a = out := by simp only [laws_toCacheEntryS, hX1, ct, cf]
  refine R1 ?_
  intro w1 G bs hI hΓ
  rw [hP1]
  exact Post.of [21] (p1, ((a).length)) hI hΓ rfl rfl rfl (okl_mk (by omega) v3 : GoT.ok n (out : List CacheEntry))
theorem f333 (w : World) (n : Nat) (hn : n + 0 ≤ 9) (a : ContentStore) (K0 : Option Addr) (M0 : Nat) (N0 : RdSl (hp w) K0 M0 a.entries) (hoka : GoT.ok n a) :
  Does Tryz.prog 333 #[.agg #[.int .i64 (a.capacity), .slice K0 ((a.entries).length) M0]] w emp (Post w emp (fun x : GoT.X (ContentStore) => .agg ⟨GoT.sh ((laws_toContentStore a) : ContentStore) x⟩) (fun x => GoT.oa ((laws_toContentStore a) : ContentStore) x) (GoT.ok n ((laws_toContentStore a) : ContentStore))) := by
 have hbP := bd_pos n
 have hbB := bd_big (n := n) (by omega)
 refine WX.enter (tt := tt) (Γ := [(0, MF.rs .stb K0 M0 a.entries)]) Tryz.func333 rfl (by kernel_rfl) rfl (allS_cons rfl N0 allS_nil) ?_
 refine R0 ?_
 refine WX.callF 1 (fun _ _ h => GoT.ow_rd h) (fun _ f hf => GoT.fak f hf) rfl rfl rfl rfl rfl (fun _ => rfl) rfl (fun w G bs hI hΓ => f386 w n (by omega) a.entries K0 M0 (hΓ.get 0 rfl) ((ok_ContentStore hoka).2)) (fun _ => rfl) (fun _ => rfl) ?_
 rintro ⟨p1, c1⟩ hq1
 refine R0 ?_
 have hP1 : laws_toContentStore a = (ContentStore.mk a.capacity (laws_toCacheEntryS a.entries)) := by simp only [laws_toContentStore, ct, cf]
 refine R1 ?_
 intro w1 G bs hI hΓ
 rw [hP1]
 exact Post.of [2] ((), (p1, c1)) hI hΓ rfl rfl rfl (And.intro (ok_ContentStore hoka).1 hq1)
theorem f438 (w : World) (n : Nat) (hn : n + 0 ≤ 9) (a : Requester) (hoka : GoT.ok n a) :
  Does Tryz.prog 438 #[.agg #[.int .i64 (a.face), .int .i64 (a.nonce), .int .i64 (a.expiry)]] w emp (fun (rv : Value) (_ : World) => rv = .agg #[.int .i64 ((laws_toRequester a).face), .int .i64 ((laws_toRequester a).nonce), .int .i64 ((laws_toRequester a).expiry)] ∧ GoT.ok n ((laws_toRequester a) : Requester)) := by
 refine WX.enter (tt := tt) (Γ := []) Tryz.func438 rfl (by kernel_rfl) rfl allS_nil ?_
 refine R0 ?_
 have hP1 : laws_toRequester a = a := by simp only [laws_toRequester, ct, cf]
 refine R1 ?_
 intro w1 G bs hI hΓ
 rw [hP1]
 exact ⟨rfl, hoka⟩
theorem f425 (w : World) (n : Nat) (hn : n + 0 ≤ 9) (a : (List Requester)) (pa : Option Addr) (ca : Nat) (N0 : RdSl (hp w) pa ca a) (hoka : GoT.ok n a) :
  Does Tryz.prog 425 #[.slice pa ((a).length) ca] w emp (Post w emp (fun x : GoT.X ((List Requester)) => (GoT.sh ((laws_toRequesterS a) : (List Requester)) x).headD undef) (fun x => GoT.oa ((laws_toRequesterS a) : (List Requester)) x) (GoT.ok n ((laws_toRequesterS a) : (List Requester)))) := by
 have hbP := bd_pos n
 have hbB := bd_big (n := n) (by omega)
 refine WX.enter (tt := tt) (Γ := [(0, MF.rs .stb pa ca a)]) Tryz.func425 rfl (by kernel_rfl) rfl (allS_cons rfl N0 allS_nil) ?_
 refine R0 ?_
 have r1 : (a).length ≤ bd n := (okl hoka).1
 refine WX.mkS ((a).length) ttOk rfl rfl rfl rfl rfl rfl rfl (by omega) (by omega) rfl ?_
 intro p1
 refine WX.free 1 (MF.ol (zrep ((a).length) [.int .i64 (0), .int .i64 (0), .int .i64 (0)]) ((List.replicate ((a).length) (Requester.mk 0 0 0)) : List Requester)) (ol_zrep (α := Requester) (z0 := (Requester.mk 0 0 0)) (x0 := ((), (), ())) rfl trivial _) ?_
 refine R0 ?_
 refine WX.loop (ι := (List Value) × (List Requester) × Nat) ⟨fun | (xsout, out, i) => (i ≤ (a).length) ∧ (out.length = (a).length) ∧ (∀ z_ ∈ out, GoT.ok n z_) ∧ (laws_toRequesterS_L1 a 0 ((List.replicate ((a).length) (Requester.mk 0 0 0)) : List Requester) = laws_toRequesterS_L1 ((a).drop i) i out), fun | (xsout, out, i) => (a).length - i, fun | (xsout, out, i) => [(3, .v (.slice p1 ((a).length) ((a).length))), (4, .v (.int .i64 (((i : Nat) : Int)))), (0, .v (.slice pa ((a).length) ca))], fun | (xsout, out, i) => [], fun | (xsout, out, i) => [(7, ⟨3, p1, (a).length, ((a).length), xsout⟩)], fun | (xsout, out, i) => [(0, MF.rs .stb pa ca a), (1, MF.ol xsout (out : List Requester))]⟩ ((zrep ((a).length) [.int .i64 (0), .int .i64 (0), .int .i64 (0)]), ((List.replicate ((a).length) (Requester.mk 0 0 0)) : List Requester), 0) ⟨(Nat.zero_le _), (by simp), (all_rep (And.intro (show I64 0 from (by unfold I64; omega)) (And.intro (show I64 0 from (by unfold I64; omega)) (show I64 0 from (by unfold I64; omega))))), rfl⟩
  (.cons rfl (.cons rfl (.cons rfl (.nil)))) .nil (.cons rfl (.nil)) [0, 1] rfl ?_
 rintro ⟨xsout, out, i⟩ hpre
 have hpre_ : (i ≤ (a).length) ∧ (out.length = (a).length) ∧ (∀ z_ ∈ out, GoT.ok n z_) ∧ (laws_toRequesterS_L1 a 0 ((List.replicate ((a).length) (Requester.mk 0 0 0)) : List Requester) = laws_toRequesterS_L1 ((a).drop i) i out) := hpre
 clear hpre
 obtain ⟨v1, v2, v3, v4⟩ := hpre_
 refine R0 ?_
 refine WX.cases 11 rfl (fun h1 => ?_) (fun h1 => ?_)
 ·skip
  have h1d := B.dt h1
  have e1i : i < (a).length := (by omega)
  obtain ⟨e1, e1h⟩ : ∃ e1, (a)[i]? = some e1 := ⟨_, List.getElem?_eq_getElem e1i⟩
  have ok1 : GoT.ok n e1 := (okl hoka).2 _ (List.mem_of_getElem? e1h)
  refine R0 ?_
  refine WX.idx 0 i ttOk rfl rfl rfl rfl rfl rfl rfl rfl rfl rfl e1i ?_
  rintro ad1 rfl
  refine WX.ldE 0 2 e1 ttOk rfl rfl rfl rfl rfl rfl rfl rfl e1h (fun _ => rfl) (fun _ => rfl) ?_
  rintro ⟨⟨⟩, ⟨⟩, ⟨⟩⟩
  refine WX.callV rfl rfl rfl rfl rfl (fun _ => rfl) rfl (fun w G bs hI hΓ => f438 w n (by omega) e1 ok1) ?_
  intro hq1
  have hr1 : i < (a).length := (by first | assumption | omega)
  refine WX.idxR 7 i ttOk rfl rfl rfl rfl rfl rfl rfl rfl rfl hr1 ?_
  rintro ad2 rfl
  have e2i : i < (out).length := (by first | assumption | omega)
  obtain ⟨e2, e2h⟩ : ∃ e2, (out)[i]? = some e2 := ⟨_, List.getElem?_eq_getElem e2i⟩
  have ok2 : GoT.ok n e2 := v3 _ (List.mem_of_getElem? e2h)
  refine WX.opnE (α := Requester) (e := e2) 7 1 2 i rfl rfl rfl e2h (fun _ => rfl) (fun _ _ _ => rfl) (fun _ _ _ => rfl) ?_
  rintro A1 B1 ⟨⟨⟩, ⟨⟩, ⟨⟩⟩ hA1 hB1
  refine WX.stA 7 ttOk rfl rfl rfl rfl rfl rfl rfl rfl rfl rfl rfl rfl rfl rfl hA1 hr1 rfl rfl rfl rfl (by simp) rfl ?_
  refine R0 ?_
  refine WX.see rfl rfl rfl (fun _ hΓ => looks_arith rfl rfl rfl rfl (by unfold I64; first | omega | (simp only [List.length_take] at *; omega))) ?_
  refine R0 ?_
  refine WX.turn [2, 3] 4 rfl (fun h hs => cl_elem (α := Requester) (e := (laws_toRequester e1)) (x := ((), (), ())) e2i hs) (gs := [MF.ol (A1 ++ [.int .i64 ((laws_toRequester e1).face), .int .i64 ((laws_toRequester e1).nonce), .int .i64 ((laws_toRequester e1).expiry)] ++ B1) (out.set i (laws_toRequester e1))]) rfl ?_
  refine WX.turn [4] 1 rfl (fun _ h => h) rfl ?_
  exact WX.iter ((A1 ++ [.int .i64 ((laws_toRequester e1).face), .int .i64 ((laws_toRequester e1).nonce), .int .i64 ((laws_toRequester e1).expiry)] ++ B1), ((out.set i (laws_toRequester e1)) : List Requester), i + 1) ⟨(by omega), (by first | assumption | omega | (simp; omega)), (all_set v3 (show GoT.ok n ((laws_toRequester e1) : Requester) from hq1)), (by rw [v4, drop_get e1h]; simp only [laws_toRequesterS_L1, e2h, ct, cf])⟩ (by first | (dsimp only; omega) | omega) (.cons rfl (.cons rfl (.cons rfl (.nil)))) .nil (.cons rfl (.nil)) [0, 1] rfl
 ·skip
  have h1d := B.df h1
  refine R0 ?_
  have hX1 : laws_toRequesterS_L1 a 0 ((List.replicate ((a).length) (Requester.mk 0 0 0)) : List Requester) = ((out) : List Requester) := by rw [v4, List.drop_eq_nil_of_le (show (a).length ≤ i by omega)]; simp only [laws_toRequesterS_L1, ct, cf]
  refine WX.seal 7 1 5 rfl rfl (show (a).length = (out).length from by omega) rfl rfl ?_
  refine WX.slot 2 (y := .v (.slice p1 (out).length ((a).length))) rfl (fun _ => by show (Value.slice p1 ((a).length) ((a).length) : Value) = Value.slice p1 (out).length ((a).length); rw [(show (a).length = (out).length from by omega)]) ?_
  refine WX.slot 22 (y := .v (.slice p1 (out).length ((a).length))) rfl (fun _ => by show (Value.slice p1 ((a).length) ((a).length) : Value) = Value.slice p1 (out).length ((a).length); rw [(show (a).length = (out).length from by omega)]) ?_
  refine WX.slot 3 (y := .v (.slice p1 (out).length ((a).length))) rfl (fun _ => by show (Value.slice p1 ((a).length) ((a).length) : Value) = Value.slice p1 (out).length ((a).length); rw [(show (a).length = (out).length from by omega)]) ?_
  have hP1 : laws_toRequesterS a = out := by simp only [laws_toRequesterS, hX1, ct, cf]
  refine R1 ?_
  intro w1 G bs hI hΓ
  rw [hP1]
  exact Post.of [6] (p1, ((a).length)) hI hΓ rfl rfl rfl (okl_mk (by omega) v3 : GoT.ok n (out : List Requester))
theorem f387 (w : World) (n : Nat) (hn : n + 0 ≤ 9) (a : PendingInterest) (K0 : Option Addr) (M0 : Nat) (N0 : RdSl (hp w) K0 M0 a.name.parts) (K1 : Option Addr) (M1 : Nat) (N1 : RdSl (hp w) K1 M1 a.requesters) (hoka : GoT.ok n a) :
  Does Tryz.prog 387 #[.agg #[.slice K0 ((a.name.parts).length) M0, .slice K1 ((a.requesters).length) M1, .int .i64 (a.lastSent)]] w emp (Post w emp (fun x : GoT.X (PendingInterest) => .agg ⟨GoT.sh ((laws_toPendingInterest a) : PendingInterest) x⟩) (fun x => GoT.oa ((laws_toPendingInterest a) : PendingInterest) x) (GoT.ok n ((laws_toPendingInterest a) : PendingInterest))) := by
 have hbP := bd_pos n
 have hbB := bd_big (n := n) (by omega)
 refine WX.enter (tt := tt) (Γ := [(0, MF.rs .stb K0 M0 a.name.parts), (1, MF.rs .stb K1 M1 a.requesters)]) Tryz.func387 rfl (by kernel_rfl) rfl (allS_cons rfl N0 (allS_cons rfl N1 allS_nil)) ?_
 refine R0 ?_
 refine WX.callF 2 (fun _ _ h => GoT.ow_rd h) (fun _ f hf => GoT.fak f hf) rfl rfl rfl rfl rfl (fun _ => rfl) rfl (fun w G bs hI hΓ => f154 w n (by omega) a.name K0 M0 (hΓ.get 0 rfl) ((ok_PendingInterest hoka).1)) (fun _ => rfl) (fun _ => rfl) ?_
 rintro ⟨p1, c1⟩ hq1
 refine R0 ?_
 refine WX.callF 4 (fun _ _ h => GoT.ow_rd h) (fun _ f hf => GoT.fak f hf) rfl rfl rfl rfl rfl (fun _ => rfl) rfl (fun w G bs hI hΓ => f425 w n (by omega) a.requesters K1 M1 (hΓ.get 1 rfl) ((ok_PendingInterest hoka).2.1)) (fun _ => rfl) (fun _ => rfl) ?_
 rintro ⟨p2, c2⟩ hq2
 refine R0 ?_
 have hP1 : laws_toPendingInterest a = (PendingInterest.mk (laws_toName a.name) (laws_toRequesterS a.requesters) a.lastSent) := by simp only [laws_toPendingInterest, ct, cf]
 refine R1 ?_
 intro w1 G bs hI hΓ
 rw [hP1]
 exact Post.of [3, 5] ((p1, c1), (p2, c2), ()) hI hΓ rfl rfl rfl (And.intro hq1 (And.intro hq2 (ok_PendingInterest hoka).2.2))
theorem f334 (w : World) (n : Nat) (hn : n + 0 ≤ 9) (a : (List PendingInterest)) (pa : Option Addr) (ca : Nat) (N0 : RdSl (hp w) pa ca a) (hoka : GoT.ok n a) :
  Does Tryz.prog 334 #[.slice pa ((a).length) ca] w emp (Post w emp (fun x : GoT.X ((List PendingInterest)) => (GoT.sh ((laws_toPendingInterestS a) : (List PendingInterest)) x).headD undef) (fun x => GoT.oa ((laws_toPendingInterestS a) : (List PendingInterest)) x) (GoT.ok n ((laws_toPendingInterestS a) : (List PendingInterest)))) := by
 have hbP := bd_pos n
 have hbB := bd_big (n := n) (by omega)
 refine WX.enter (tt := tt) (Γ := [(0, MF.rs .stb pa ca a)]) Tryz.func334 rfl (by kernel_rfl) rfl (allS_cons rfl N0 allS_nil) ?_
 refine R0 ?_
 have r1 : (a).length ≤ bd n := (okl hoka).1
 refine WX.mkS ((a).length) ttOk rfl rfl rfl rfl rfl rfl rfl (by omega) (by omega) rfl ?_
 intro p1
 refine WX.free 1 (MF.ol (zrep ((a).length) [.slice none (0) 0, .slice none (0) 0, .int .i64 (0)]) ((List.replicate ((a).length) (PendingInterest.mk (Name.mk ([])) ([]) 0)) : List PendingInterest)) (ol_zrep (α := PendingInterest) (z0 := (PendingInterest.mk (Name.mk ([])) ([]) 0)) (x0 := ((none, 0), (none, 0), ())) rfl (sep_emp_cons (owSl_nil _ _) (sep_emp_cons (owSl_nil _ _) trivial)) _) ?_
 refine R0 ?_
 refine WX.loop (ι := (List Value) × (List PendingInterest) × Nat) ⟨fun | (xsout, out, i) => (i ≤ (a).length) ∧ (out.length = (a).length) ∧ (∀ z_ ∈ out, GoT.ok n z_) ∧ (laws_toPendingInterestS_L1 a 0 ((List.replicate ((a).length) (PendingInterest.mk (Name.mk ([])) ([]) 0)) : List PendingInterest) = laws_toPendingInterestS_L1 ((a).drop i) i out), fun | (xsout, out, i) => (a).length - i, fun | (xsout, out, i) => [(3, .v (.slice p1 ((a).length) ((a).length))), (4, .v (.int .i64 (((i : Nat) : Int)))), (0, .v (.slice pa ((a).length) ca))], fun | (xsout, out, i) => [], fun | (xsout, out, i) => [(7, ⟨3, p1, (a).length, ((a).length), xsout⟩)], fun | (xsout, out, i) => [(0, MF.rs .stb pa ca a), (1, MF.ol xsout (out : List PendingInterest))]⟩ ((zrep ((a).length) [.slice none (0) 0, .slice none (0) 0, .int .i64 (0)]), ((List.replicate ((a).length) (PendingInterest.mk (Name.mk ([])) ([]) 0)) : List PendingInterest), 0) ⟨(Nat.zero_le _), (by simp), (all_rep (And.intro (ok_nil (α := Str)) (And.intro (ok_nil (α := Requester)) (show I64 0 from (by unfold I64; omega))))), rfl⟩
  (.cons rfl (.cons rfl (.cons rfl (.nil)))) .nil (.cons rfl (.nil)) [0, 1] rfl ?_
 rintro ⟨xsout, out, i⟩ hpre
 have hpre_ : (i ≤ (a).length) ∧ (out.length = (a).length) ∧ (∀ z_ ∈ out, GoT.ok n z_) ∧ (laws_toPendingInterestS_L1 a 0 ((List.replicate ((a).length) (PendingInterest.mk (Name.mk ([])) ([]) 0)) : List PendingInterest) = laws_toPendingInterestS_L1 ((a).drop i) i out) := hpre
 clear hpre
 obtain ⟨v1, v2, v3, v4⟩ := hpre_
 refine R0 ?_
 refine WX.cases 11 rfl (fun h1 => ?_) (fun h1 => ?_)
 ·skip
  have h1d := B.dt h1
  have e1i : i < (a).length := (by omega)
  obtain ⟨e1, e1h⟩ : ∃ e1, (a)[i]? = some e1 := ⟨_, List.getElem?_eq_getElem e1i⟩
  have ok1 : GoT.ok n e1 := (okl hoka).2 _ (List.mem_of_getElem? e1h)
  refine R0 ?_
  refine WX.idx 0 i ttOk rfl rfl rfl rfl rfl rfl rfl rfl rfl rfl e1i ?_
  rintro ad1 rfl
  refine WX.ldE 0 2 e1 ttOk rfl rfl rfl rfl rfl rfl rfl rfl e1h (fun _ => rfl) (fun _ => rfl) ?_
  rintro ⟨⟨p2, c1⟩, ⟨p3, c2⟩, ⟨⟩⟩
  refine WX.callF 4 (fun _ _ h => GoT.ow_rd h) (fun _ f hf => GoT.fak f hf) rfl rfl rfl rfl rfl (fun _ => rfl) rfl (fun w G bs hI hΓ => f387 w n (by omega) e1 p2 c1 (hΓ.get 2 rfl) p3 c2 (hΓ.get 3 rfl) ok1) (fun _ => rfl) (fun _ => rfl) ?_
  rintro ⟨⟨p4, c3⟩, ⟨p5, c4⟩, ⟨⟩⟩ hq1
  have hr1 : i < (a).length := (by first | assumption | omega)
  refine WX.idxR 7 i ttOk rfl rfl rfl rfl rfl rfl rfl rfl rfl hr1 ?_
  rintro ad2 rfl
  have e2i : i < (out).length := (by first | assumption | omega)
  obtain ⟨e2, e2h⟩ : ∃ e2, (out)[i]? = some e2 := ⟨_, List.getElem?_eq_getElem e2i⟩
  have ok2 : GoT.ok n e2 := v3 _ (List.mem_of_getElem? e2h)
  refine WX.opnE (α := PendingInterest) (e := e2) 7 1 8 i rfl rfl rfl e2h (fun _ => rfl) (fun _ _ _ => rfl) (fun _ _ _ => rfl) ?_
  rintro A1 B1 ⟨⟨p6, c5⟩, ⟨p7, c6⟩, ⟨⟩⟩ hA1 hB1
  refine WX.stA 7 ttOk rfl rfl rfl rfl rfl rfl rfl rfl rfl rfl rfl rfl rfl rfl hA1 hr1 rfl rfl rfl rfl (by simp) rfl ?_
  refine R0 ?_
  refine WX.see rfl rfl rfl (fun _ hΓ => looks_arith rfl rfl rfl rfl (by unfold I64; first | omega | (simp only [List.length_take] at *; omega))) ?_
  refine R0 ?_
  refine WX.turn [6, 7, 12, 13] 14 rfl (fun h hs => cl_elem (α := PendingInterest) (e := (laws_toPendingInterest e1)) (x := ((p4, c3), (p5, c4), ())) e2i hs) (gs := [MF.ol (A1 ++ [.slice p4 (((laws_toPendingInterest e1).name.parts).length) c3, .slice p5 (((laws_toPendingInterest e1).requesters).length) c4, .int .i64 ((laws_toPendingInterest e1).lastSent)] ++ B1) (out.set i (laws_toPendingInterest e1))]) rfl ?_
  refine WX.turn [14] 1 rfl (fun _ h => h) rfl ?_
  exact WX.iter ((A1 ++ [.slice p4 (((laws_toPendingInterest e1).name.parts).length) c3, .slice p5 (((laws_toPendingInterest e1).requesters).length) c4, .int .i64 ((laws_toPendingInterest e1).lastSent)] ++ B1), ((out.set i (laws_toPendingInterest e1)) : List PendingInterest), i + 1) ⟨(by omega), (by first | assumption | omega | (simp; omega)), (all_set v3 (show GoT.ok n ((laws_toPendingInterest e1) : PendingInterest) from hq1)), (by rw [v4, drop_get e1h]; simp only [laws_toPendingInterestS_L1, e2h, ct, cf])⟩ (by first | (dsimp only; omega) | omega) (.cons rfl (.cons rfl (.cons rfl (.nil)))) .nil (.cons rfl (.nil)) [0, 1] rfl
 ·skip
  have h1d := B.df h1
  refine R0 ?_
  have hX1 : laws_toPendingInterestS_L1 a 0 ((List.replicate ((a).length) (PendingInterest.mk (Name.mk ([])) ([]) 0)) : List PendingInterest) = ((out) : List PendingInterest) := by rw [v4, List.drop_eq_nil_of_le (show (a).length ≤ i by omega)]; simp only [laws_toPendingInterestS_L1, ct, cf]
  refine WX.seal 7 1 15 rfl rfl (show (a).length = (out).length from by omega) rfl rfl ?_
  refine WX.slot 2 (y := .v (.slice p1 (out).length ((a).length))) rfl (fun _ => by show (Value.slice p1 ((a).length) ((a).length) : Value) = Value.slice p1 (out).length ((a).length); rw [(show (a).length = (out).length from by omega)]) ?_
  refine WX.slot 22 (y := .v (.slice p1 (out).length ((a).length))) rfl (fun _ => by show (Value.slice p1 ((a).length) ((a).length) : Value) = Value.slice p1 (out).length ((a).length); rw [(show (a).length = (out).length from by omega)]) ?_
  refine WX.slot 3 (y := .v (.slice p1 (out).length ((a).length))) rfl (fun _ => by show (Value.slice p1 ((a).length) ((a).length) : Value) = Value.slice p1 (out).length ((a).length); rw [(show (a).length = (out).length from by omega)]) ?_
  have hP1 : laws_toPendingInterestS a = out := by simp only [laws_toPendingInterestS, hX1, ct, cf]
  refine R1 ?_
  intro w1 G bs hI hΓ
  rw [hP1]
  exact Post.of [16] (p1, ((a).length)) hI hΓ rfl rfl rfl (okl_mk (by omega) v3 : GoT.ok n (out : List PendingInterest))
theorem f388 (w : World) (n : Nat) (hn : n + 0 ≤ 9) (a : SeenNonce) (K0 : Option Addr) (M0 : Nat) (N0 : RdSl (hp w) K0 M0 a.name.parts) (hoka : GoT.ok n a) :
  Does Tryz.prog 388 #[.agg #[.slice K0 ((a.name.parts).length) M0, .int .i64 (a.nonce)]] w emp (Post w emp (fun x : GoT.X (SeenNonce) => .agg ⟨GoT.sh ((laws_toSeenNonce a) : SeenNonce) x⟩) (fun x => GoT.oa ((laws_toSeenNonce a) : SeenNonce) x) (GoT.ok n ((laws_toSeenNonce a) : SeenNonce))) := by
 have hbP := bd_pos n
 have hbB := bd_big (n := n) (by omega)
 refine WX.enter (tt := tt) (Γ := [(0, MF.rs .stb K0 M0 a.name.parts)]) Tryz.func388 rfl (by kernel_rfl) rfl (allS_cons rfl N0 allS_nil) ?_
 refine R0 ?_
 refine WX.callF 1 (fun _ _ h => GoT.ow_rd h) (fun _ f hf => GoT.fak f hf) rfl rfl rfl rfl rfl (fun _ => rfl) rfl (fun w G bs hI hΓ => f154 w n (by omega) a.name K0 M0 (hΓ.get 0 rfl) ((ok_SeenNonce hoka).1)) (fun _ => rfl) (fun _ => rfl) ?_
 rintro ⟨p1, c1⟩ hq1
 refine R0 ?_
 have hP1 : laws_toSeenNonce a = (SeenNonce.mk (laws_toName a.name) a.nonce) := by simp only [laws_toSeenNonce, ct, cf]
 refine R1 ?_
 intro w1 G bs hI hΓ
 rw [hP1]
 exact Post.of [2] ((p1, c1), ()) hI hΓ rfl rfl rfl (And.intro hq1 (ok_SeenNonce hoka).2)
theorem f335 (w : World) (n : Nat) (hn : n + 0 ≤ 9) (a : (List SeenNonce)) (pa : Option Addr) (ca : Nat) (N0 : RdSl (hp w) pa ca a) (hoka : GoT.ok n a) :
  Does Tryz.prog 335 #[.slice pa ((a).length) ca] w emp (Post w emp (fun x : GoT.X ((List SeenNonce)) => (GoT.sh ((laws_toSeenNonceS a) : (List SeenNonce)) x).headD undef) (fun x => GoT.oa ((laws_toSeenNonceS a) : (List SeenNonce)) x) (GoT.ok n ((laws_toSeenNonceS a) : (List SeenNonce)))) := by
 have hbP := bd_pos n
 have hbB := bd_big (n := n) (by omega)
 refine WX.enter (tt := tt) (Γ := [(0, MF.rs .stb pa ca a)]) Tryz.func335 rfl (by kernel_rfl) rfl (allS_cons rfl N0 allS_nil) ?_
 refine R0 ?_
 have r1 : (a).length ≤ bd n := (okl hoka).1
 refine WX.mkS ((a).length) ttOk rfl rfl rfl rfl rfl rfl rfl (by omega) (by omega) rfl ?_
 intro p1
 refine WX.free 1 (MF.ol (zrep ((a).length) [.slice none (0) 0, .int .i64 (0)]) ((List.replicate ((a).length) (SeenNonce.mk (Name.mk ([])) 0)) : List SeenNonce)) (ol_zrep (α := SeenNonce) (z0 := (SeenNonce.mk (Name.mk ([])) 0)) (x0 := ((none, 0), ())) rfl (sep_emp_cons (owSl_nil _ _) trivial) _) ?_
 refine R0 ?_
 refine WX.loop (ι := (List Value) × (List SeenNonce) × Nat) ⟨fun | (xsout, out, i) => (i ≤ (a).length) ∧ (out.length = (a).length) ∧ (∀ z_ ∈ out, GoT.ok n z_) ∧ (laws_toSeenNonceS_L1 a 0 ((List.replicate ((a).length) (SeenNonce.mk (Name.mk ([])) 0)) : List SeenNonce) = laws_toSeenNonceS_L1 ((a).drop i) i out), fun | (xsout, out, i) => (a).length - i, fun | (xsout, out, i) => [(3, .v (.slice p1 ((a).length) ((a).length))), (4, .v (.int .i64 (((i : Nat) : Int)))), (0, .v (.slice pa ((a).length) ca))], fun | (xsout, out, i) => [], fun | (xsout, out, i) => [(7, ⟨2, p1, (a).length, ((a).length), xsout⟩)], fun | (xsout, out, i) => [(0, MF.rs .stb pa ca a), (1, MF.ol xsout (out : List SeenNonce))]⟩ ((zrep ((a).length) [.slice none (0) 0, .int .i64 (0)]), ((List.replicate ((a).length) (SeenNonce.mk (Name.mk ([])) 0)) : List SeenNonce), 0) ⟨(Nat.zero_le _), (by simp), (all_rep (And.intro (ok_nil (α := Str)) (show I64 0 from (by unfold I64; omega)))), rfl⟩
  (.cons rfl (.cons rfl (.cons rfl (.nil)))) .nil (.cons rfl (.nil)) [0, 1] rfl ?_
 rintro ⟨xsout, out, i⟩ hpre
 have hpre_ : (i ≤ (a).length) ∧ (out.length = (a).length) ∧ (∀ z_ ∈ out, GoT.ok n z_) ∧ (laws_toSeenNonceS_L1 a 0 ((List.replicate ((a).length) (SeenNonce.mk (Name.mk ([])) 0)) : List SeenNonce) = laws_toSeenNonceS_L1 ((a).drop i) i out) := hpre
 clear hpre
 obtain ⟨v1, v2, v3, v4⟩ := hpre_
 refine R0 ?_
 refine WX.cases 11 rfl (fun h1 => ?_) (fun h1 => ?_)
 ·skip
  have h1d := B.dt h1
  have e1i : i < (a).length := (by omega)
  obtain ⟨e1, e1h⟩ : ∃ e1, (a)[i]? = some e1 := ⟨_, List.getElem?_eq_getElem e1i⟩
  have ok1 : GoT.ok n e1 := (okl hoka).2 _ (List.mem_of_getElem? e1h)
  refine R0 ?_
  refine WX.idx 0 i ttOk rfl rfl rfl rfl rfl rfl rfl rfl rfl rfl e1i ?_
  rintro ad1 rfl
  refine WX.ldE 0 2 e1 ttOk rfl rfl rfl rfl rfl rfl rfl rfl e1h (fun _ => rfl) (fun _ => rfl) ?_
  rintro ⟨⟨p2, c1⟩, ⟨⟩⟩
  refine WX.callF 3 (fun _ _ h => GoT.ow_rd h) (fun _ f hf => GoT.fak f hf) rfl rfl rfl rfl rfl (fun _ => rfl) rfl (fun w G bs hI hΓ => f388 w n (by omega) e1 p2 c1 (hΓ.get 2 rfl) ok1) (fun _ => rfl) (fun _ => rfl) ?_
  rintro ⟨⟨p3, c2⟩, ⟨⟩⟩ hq1
  have hr1 : i < (a).length := (by first | assumption | omega)
  refine WX.idxR 7 i ttOk rfl rfl rfl rfl rfl rfl rfl rfl rfl hr1 ?_
  rintro ad2 rfl
  have e2i : i < (out).length := (by first | assumption | omega)
  obtain ⟨e2, e2h⟩ : ∃ e2, (out)[i]? = some e2 := ⟨_, List.getElem?_eq_getElem e2i⟩
  have ok2 : GoT.ok n e2 := v3 _ (List.mem_of_getElem? e2h)
  refine WX.opnE (α := SeenNonce) (e := e2) 7 1 5 i rfl rfl rfl e2h (fun _ => rfl) (fun _ _ _ => rfl) (fun _ _ _ => rfl) ?_
  rintro A1 B1 ⟨⟨p4, c3⟩, ⟨⟩⟩ hA1 hB1
  refine WX.stA 7 ttOk rfl rfl rfl rfl rfl rfl rfl rfl rfl rfl rfl rfl rfl rfl hA1 hr1 rfl rfl rfl rfl (by simp) rfl ?_
  refine R0 ?_
  refine WX.see rfl rfl rfl (fun _ hΓ => looks_arith rfl rfl rfl rfl (by unfold I64; first | omega | (simp only [List.length_take] at *; omega))) ?_
  refine R0 ?_
  refine WX.turn [4, 7, 8] 9 rfl (fun h hs => cl_elem (α := SeenNonce) (e := (laws_toSeenNonce e1)) (x := ((p3, c2), ())) e2i hs) (gs := [MF.ol (A1 ++ [.slice p3 (((laws_toSeenNonce e1).name.parts).length) c2, .int .i64 ((laws_toSeenNonce e1).nonce)] ++ B1) (out.set i (laws_toSeenNonce e1))]) rfl ?_
  refine WX.turn [9] 1 rfl (fun _ h => h) rfl ?_
  exact WX.iter ((A1 ++ [.slice p3 (((laws_toSeenNonce e1).name.parts).length) c2, .int .i64 ((laws_toSeenNonce e1).nonce)] ++ B1), ((out.set i (laws_toSeenNonce e1)) : List SeenNonce), i + 1) ⟨(by omega), (by first | assumption | omega | (simp; omega)), (all_set v3 (show GoT.ok n ((laws_toSeenNonce e1) : SeenNonce) from hq1)), (by rw [v4, drop_get e1h]; simp only [laws_toSeenNonceS_L1, e2h, ct, cf])⟩ (by first | (dsimp only; omega) | omega) (.cons rfl (.cons rfl (.cons rfl (.nil)))) .nil (.cons rfl (.nil)) [0, 1] rfl
 ·skip
  have h1d := B.df h1
  refine R0 ?_
  have hX1 : laws_toSeenNonceS_L1 a 0 ((List.replicate ((a).length) (SeenNonce.mk (Name.mk ([])) 0)) : List SeenNonce) = ((out) : List SeenNonce) := by rw [v4, List.drop_eq_nil_of_le (show (a).length ≤ i by omega)]; simp only [laws_toSeenNonceS_L1, ct, cf]
  refine WX.seal 7 1 10 rfl rfl (show (a).length = (out).length from by omega) rfl rfl ?_
  refine WX.slot 2 (y := .v (.slice p1 (out).length ((a).length))) rfl (fun _ => by show (Value.slice p1 ((a).length) ((a).length) : Value) = Value.slice p1 (out).length ((a).length); rw [(show (a).length = (out).length from by omega)]) ?_
  refine WX.slot 22 (y := .v (.slice p1 (out).length ((a).length))) rfl (fun _ => by show (Value.slice p1 ((a).length) ((a).length) : Value) = Value.slice p1 (out).length ((a).length); rw [(show (a).length = (out).length from by omega)]) ?_
  refine WX.slot 3 (y := .v (.slice p1 (out).length ((a).length))) rfl (fun _ => by show (Value.slice p1 ((a).length) ((a).length) : Value) = Value.slice p1 (out).length ((a).length); rw [(show (a).length = (out).length from by omega)]) ?_
  have hP1 : laws_toSeenNonceS a = out := by simp only [laws_toSeenNonceS, hX1, ct, cf]
  refine R1 ?_
  intro w1 G bs hI hΓ
  rw [hP1]
  exact Post.of [11] (p1, ((a).length)) hI hΓ rfl rfl rfl (okl_mk (by omega) v3 : GoT.ok n (out : List SeenNonce))
theorem f389 (w : World) (n : Nat) (hn : n + 0 ≤ 9) (a : Route) (K0 : Option Addr) (M0 : Nat) (N0 : RdSl (hp w) K0 M0 a.pfx.parts) (hoka : GoT.ok n a) :
  Does Tryz.prog 389 #[.agg #[.slice K0 ((a.pfx.parts).length) M0, .int .i64 (a.face), .int .i64 (a.cost)]] w emp (Post w emp (fun x : GoT.X (Route) => .agg ⟨GoT.sh ((laws_toRoute a) : Route) x⟩) (fun x => GoT.oa ((laws_toRoute a) : Route) x) (GoT.ok n ((laws_toRoute a) : Route))) := by
 have hbP := bd_pos n
 have hbB := bd_big (n := n) (by omega)
 refine WX.enter (tt := tt) (Γ := [(0, MF.rs .stb K0 M0 a.pfx.parts)]) Tryz.func389 rfl (by kernel_rfl) rfl (allS_cons rfl N0 allS_nil) ?_
 refine R0 ?_
 refine WX.callF 1 (fun _ _ h => GoT.ow_rd h) (fun _ f hf => GoT.fak f hf) rfl rfl rfl rfl rfl (fun _ => rfl) rfl (fun w G bs hI hΓ => f154 w n (by omega) a.pfx K0 M0 (hΓ.get 0 rfl) ((ok_Route hoka).1)) (fun _ => rfl) (fun _ => rfl) ?_
 rintro ⟨p1, c1⟩ hq1
 refine R0 ?_
 have hP1 : laws_toRoute a = (Route.mk (laws_toName a.pfx) a.face a.cost) := by simp only [laws_toRoute, ct, cf]
 refine R1 ?_
 intro w1 G bs hI hΓ
 rw [hP1]
 exact Post.of [2] ((p1, c1), (), ()) hI hΓ rfl rfl rfl (And.intro hq1 (And.intro (ok_Route hoka).2.1 (ok_Route hoka).2.2))
theorem f336 (w : World) (n : Nat) (hn : n + 0 ≤ 9) (a : (List Route)) (pa : Option Addr) (ca : Nat) (N0 : RdSl (hp w) pa ca a) (hoka : GoT.ok n a) :
  Does Tryz.prog 336 #[.slice pa ((a).length) ca] w emp (Post w emp (fun x : GoT.X ((List Route)) => (GoT.sh ((laws_toRouteS a) : (List Route)) x).headD undef) (fun x => GoT.oa ((laws_toRouteS a) : (List Route)) x) (GoT.ok n ((laws_toRouteS a) : (List Route)))) := by
 have hbP := bd_pos n
 have hbB := bd_big (n := n) (by omega)
 refine WX.enter (tt := tt) (Γ := [(0, MF.rs .stb pa ca a)]) Tryz.func336 rfl (by kernel_rfl) rfl (allS_cons rfl N0 allS_nil) ?_
 refine R0 ?_
 have r1 : (a).length ≤ bd n := (okl hoka).1
 refine WX.mkS ((a).length) ttOk rfl rfl rfl rfl rfl rfl rfl (by omega) (by omega) rfl ?_
 intro p1
 refine WX.free 1 (MF.ol (zrep ((a).length) [.slice none (0) 0, .int .i64 (0), .int .i64 (0)]) ((List.replicate ((a).length) (Route.mk (Name.mk ([])) 0 0)) : List Route)) (ol_zrep (α := Route) (z0 := (Route.mk (Name.mk ([])) 0 0)) (x0 := ((none, 0), (), ())) rfl (sep_emp_cons (owSl_nil _ _) trivial) _) ?_
 refine R0 ?_
 refine WX.loop (ι := (List Value) × (List Route) × Nat) ⟨fun | (xsout, out, i) => (i ≤ (a).length) ∧ (out.length = (a).length) ∧ (∀ z_ ∈ out, GoT.ok n z_) ∧ (laws_toRouteS_L1 a 0 ((List.replicate ((a).length) (Route.mk (Name.mk ([])) 0 0)) : List Route) = laws_toRouteS_L1 ((a).drop i) i out), fun | (xsout, out, i) => (a).length - i, fun | (xsout, out, i) => [(3, .v (.slice p1 ((a).length) ((a).length))), (4, .v (.int .i64 (((i : Nat) : Int)))), (0, .v (.slice pa ((a).length) ca))], fun | (xsout, out, i) => [], fun | (xsout, out, i) => [(7, ⟨3, p1, (a).length, ((a).length), xsout⟩)], fun | (xsout, out, i) => [(0, MF.rs .stb pa ca a), (1, MF.ol xsout (out : List Route))]⟩ ((zrep ((a).length) [.slice none (0) 0, .int .i64 (0), .int .i64 (0)]), ((List.replicate ((a).length) (Route.mk (Name.mk ([])) 0 0)) : List Route), 0) ⟨(Nat.zero_le _), (by simp), (all_rep (And.intro (ok_nil (α := Str)) (And.intro (show I64 0 from (by unfold I64; omega)) (show I64 0 from (by unfold I64; omega))))), rfl⟩
  (.cons rfl (.cons rfl (.cons rfl (.nil)))) .nil (.cons rfl (.nil)) [0, 1] rfl ?_
 rintro ⟨xsout, out, i⟩ hpre
 have hpre_ : (i ≤ (a).length) ∧ (out.length = (a).length) ∧ (∀ z_ ∈ out, GoT.ok n z_) ∧ (laws_toRouteS_L1 a 0 ((List.replicate ((a).length) (Route.mk (Name.mk ([])) 0 0)) : List Route) = laws_toRouteS_L1 ((a).drop i) i out) := hpre
 clear hpre
 obtain ⟨v1, v2, v3, v4⟩ := hpre_
 refine R0 ?_
 refine WX.cases 11 rfl (fun h1 => ?_) (fun h1 => ?_)
 ·skip
  have h1d := B.dt h1
  have e1i : i < (a).length := (by omega)
  obtain ⟨e1, e1h⟩ : ∃ e1, (a)[i]? = some e1 := ⟨_, List.getElem?_eq_getElem e1i⟩
  have ok1 : GoT.ok n e1 := (okl hoka).2 _ (List.mem_of_getElem? e1h)
  refine R0 ?_
  refine WX.idx 0 i ttOk rfl rfl rfl rfl rfl rfl rfl rfl rfl rfl e1i ?_
  rintro ad1 rfl
  refine WX.ldE 0 2 e1 ttOk rfl rfl rfl rfl rfl rfl rfl rfl e1h (fun _ => rfl) (fun _ => rfl) ?_
  rintro ⟨⟨p2, c1⟩, ⟨⟩, ⟨⟩⟩
  refine WX.callF 3 (fun _ _ h => GoT.ow_rd h) (fun _ f hf => GoT.fak f hf) rfl rfl rfl rfl rfl (fun _ => rfl) rfl (fun w G bs hI hΓ => f389 w n (by omega) e1 p2 c1 (hΓ.get 2 rfl) ok1) (fun _ => rfl) (fun _ => rfl) ?_
  rintro ⟨⟨p3, c2⟩, ⟨⟩, ⟨⟩⟩ hq1
  have hr1 : i < (a).length := (by first | assumption | omega)
  refine WX.idxR 7 i ttOk rfl rfl rfl rfl rfl rfl rfl rfl rfl hr1 ?_
  rintro ad2 rfl
  have e2i : i < (out).length := (by first | assumption | omega)
  obtain ⟨e2, e2h⟩ : ∃ e2, (out)[i]? = some e2 := ⟨_, List.getElem?_eq_getElem e2i⟩
  have ok2 : GoT.ok n e2 := v3 _ (List.mem_of_getElem? e2h)
  refine WX.opnE (α := Route) (e := e2) 7 1 5 i rfl rfl rfl e2h (fun _ => rfl) (fun _ _ _ => rfl) (fun _ _ _ => rfl) ?_
  rintro A1 B1 ⟨⟨p4, c3⟩, ⟨⟩, ⟨⟩⟩ hA1 hB1
  refine WX.stA 7 ttOk rfl rfl rfl rfl rfl rfl rfl rfl rfl rfl rfl rfl rfl rfl hA1 hr1 rfl rfl rfl rfl (by simp) rfl ?_
  refine R0 ?_
  refine WX.see rfl rfl rfl (fun _ hΓ => looks_arith rfl rfl rfl rfl (by unfold I64; first | omega | (simp only [List.length_take] at *; omega))) ?_
  refine R0 ?_
  refine WX.turn [4, 7, 8] 9 rfl (fun h hs => cl_elem (α := Route) (e := (laws_toRoute e1)) (x := ((p3, c2), (), ())) e2i hs) (gs := [MF.ol (A1 ++ [.slice p3 (((laws_toRoute e1).pfx.parts).length) c2, .int .i64 ((laws_toRoute e1).face), .int .i64 ((laws_toRoute e1).cost)] ++ B1) (out.set i (laws_toRoute e1))]) rfl ?_
  refine WX.turn [9] 1 rfl (fun _ h => h) rfl ?_
  exact WX.iter ((A1 ++ [.slice p3 (((laws_toRoute e1).pfx.parts).length) c2, .int .i64 ((laws_toRoute e1).face), .int .i64 ((laws_toRoute e1).cost)] ++ B1), ((out.set i (laws_toRoute e1)) : List Route), i + 1) ⟨(by omega), (by first | assumption | omega | (simp; omega)), (all_set v3 (show GoT.ok n ((laws_toRoute e1) : Route) from hq1)), (by rw [v4, drop_get e1h]; simp only [laws_toRouteS_L1, e2h, ct, cf])⟩ (by first | (dsimp only; omega) | omega) (.cons rfl (.cons rfl (.cons rfl (.nil)))) .nil (.cons rfl (.nil)) [0, 1] rfl
 ·skip
  have h1d := B.df h1
  refine R0 ?_
  have hX1 : laws_toRouteS_L1 a 0 ((List.replicate ((a).length) (Route.mk (Name.mk ([])) 0 0)) : List Route) = ((out) : List Route) := by rw [v4, List.drop_eq_nil_of_le (show (a).length ≤ i by omega)]; simp only [laws_toRouteS_L1, ct, cf]
  refine WX.seal 7 1 10 rfl rfl (show (a).length = (out).length from by omega) rfl rfl ?_
  refine WX.slot 2 (y := .v (.slice p1 (out).length ((a).length))) rfl (fun _ => by show (Value.slice p1 ((a).length) ((a).length) : Value) = Value.slice p1 (out).length ((a).length); rw [(show (a).length = (out).length from by omega)]) ?_
  refine WX.slot 22 (y := .v (.slice p1 (out).length ((a).length))) rfl (fun _ => by show (Value.slice p1 ((a).length) ((a).length) : Value) = Value.slice p1 (out).length ((a).length); rw [(show (a).length = (out).length from by omega)]) ?_
  refine WX.slot 3 (y := .v (.slice p1 (out).length ((a).length))) rfl (fun _ => by show (Value.slice p1 ((a).length) ((a).length) : Value) = Value.slice p1 (out).length ((a).length); rw [(show (a).length = (out).length from by omega)]) ?_
  have hP1 : laws_toRouteS a = out := by simp only [laws_toRouteS, hX1, ct, cf]
  refine R1 ?_
  intro w1 G bs hI hΓ
  rw [hP1]
  exact Post.of [11] (p1, ((a).length)) hI hΓ rfl rfl rfl (okl_mk (by omega) v3 : GoT.ok n (out : List Route))
theorem f390 (w : World) (n : Nat) (hn : n + 0 ≤ 9) (a : Measurement) (K0 : Option Addr) (M0 : Nat) (N0 : RdSl (hp w) K0 M0 a.pfx.parts) (hoka : GoT.ok n a) :
  Does Tryz.prog 390 #[.agg #[.slice K0 ((a.pfx.parts).length) M0, .int .i64 (a.face), .int .i64 (a.failures)]] w emp (Post w emp (fun x : GoT.X (Measurement) => .agg ⟨GoT.sh ((laws_toMeasurement a) : Measurement) x⟩) (fun x => GoT.oa ((laws_toMeasurement a) : Measurement) x) (GoT.ok n ((laws_toMeasurement a) : Measurement))) := by
 have hbP := bd_pos n
 have hbB := bd_big (n := n) (by omega)
 refine WX.enter (tt := tt) (Γ := [(0, MF.rs .stb K0 M0 a.pfx.parts)]) Tryz.func390 rfl (by kernel_rfl) rfl (allS_cons rfl N0 allS_nil) ?_
 refine R0 ?_
 refine WX.callF 1 (fun _ _ h => GoT.ow_rd h) (fun _ f hf => GoT.fak f hf) rfl rfl rfl rfl rfl (fun _ => rfl) rfl (fun w G bs hI hΓ => f154 w n (by omega) a.pfx K0 M0 (hΓ.get 0 rfl) ((ok_Measurement hoka).1)) (fun _ => rfl) (fun _ => rfl) ?_
 rintro ⟨p1, c1⟩ hq1
 refine R0 ?_
 have hP1 : laws_toMeasurement a = (Measurement.mk (laws_toName a.pfx) a.face a.failures) := by simp only [laws_toMeasurement, ct, cf]
 refine R1 ?_
 intro w1 G bs hI hΓ
 rw [hP1]
 exact Post.of [2] ((p1, c1), (), ()) hI hΓ rfl rfl rfl (And.intro hq1 (And.intro (ok_Measurement hoka).2.1 (ok_Measurement hoka).2.2))
theorem f337 (w : World) (n : Nat) (hn : n + 0 ≤ 9) (a : (List Measurement)) (pa : Option Addr) (ca : Nat) (N0 : RdSl (hp w) pa ca a) (hoka : GoT.ok n a) :
  Does Tryz.prog 337 #[.slice pa ((a).length) ca] w emp (Post w emp (fun x : GoT.X ((List Measurement)) => (GoT.sh ((laws_toMeasurementS a) : (List Measurement)) x).headD undef) (fun x => GoT.oa ((laws_toMeasurementS a) : (List Measurement)) x) (GoT.ok n ((laws_toMeasurementS a) : (List Measurement)))) := by
 have hbP := bd_pos n
 have hbB := bd_big (n := n) (by omega)
 refine WX.enter (tt := tt) (Γ := [(0, MF.rs .stb pa ca a)]) Tryz.func337 rfl (by kernel_rfl) rfl (allS_cons rfl N0 allS_nil) ?_
 refine R0 ?_
 have r1 : (a).length ≤ bd n := (okl hoka).1
 refine WX.mkS ((a).length) ttOk rfl rfl rfl rfl rfl rfl rfl (by omega) (by omega) rfl ?_
 intro p1
 refine WX.free 1 (MF.ol (zrep ((a).length) [.slice none (0) 0, .int .i64 (0), .int .i64 (0)]) ((List.replicate ((a).length) (Measurement.mk (Name.mk ([])) 0 0)) : List Measurement)) (ol_zrep (α := Measurement) (z0 := (Measurement.mk (Name.mk ([])) 0 0)) (x0 := ((none, 0), (), ())) rfl (sep_emp_cons (owSl_nil _ _) trivial) _) ?_
 refine R0 ?_
 refine WX.loop (ι := (List Value) × (List Measurement) × Nat) ⟨fun | (xsout, out, i) => (i ≤ (a).length) ∧ (out.length = (a).length) ∧ (∀ z_ ∈ out, GoT.ok n z_) ∧ (laws_toMeasurementS_L1 a 0 ((List.replicate ((a).length) (Measurement.mk (Name.mk ([])) 0 0)) : List Measurement) = laws_toMeasurementS_L1 ((a).drop i) i out), fun | (xsout, out, i) => (a).length - i, fun | (xsout, out, i) => [(3, .v (.slice p1 ((a).length) ((a).length))), (4, .v (.int .i64 (((i : Nat) : Int)))), (0, .v (.slice pa ((a).length) ca))], fun | (xsout, out, i) => [], fun | (xsout, out, i) => [(7, ⟨3, p1, (a).length, ((a).length), xsout⟩)], fun | (xsout, out, i) => [(0, MF.rs .stb pa ca a), (1, MF.ol xsout (out : List Measurement))]⟩ ((zrep ((a).length) [.slice none (0) 0, .int .i64 (0), .int .i64 (0)]), ((List.replicate ((a).length) (Measurement.mk (Name.mk ([])) 0 0)) : List Measurement), 0) ⟨(Nat.zero_le _), (by simp), (all_rep (And.intro (ok_nil (α := Str)) (And.intro (show I64 0 from (by unfold I64; omega)) (show I64 0 from (by unfold I64; omega))))), rfl⟩
  (.cons rfl (.cons rfl (.cons rfl (.nil)))) .nil (.cons rfl (.nil)) [0, 1] rfl ?_
 rintro ⟨xsout, out, i⟩ hpre
 have hpre_ : (i ≤ (a).length) ∧ (out.length = (a).length) ∧ (∀ z_ ∈ out, GoT.ok n z_) ∧ (laws_toMeasurementS_L1 a 0 ((List.replicate ((a).length) (Measurement.mk (Name.mk ([])) 0 0)) : List Measurement) = laws_toMeasurementS_L1 ((a).drop i) i out) := hpre
 clear hpre
 obtain ⟨v1, v2, v3, v4⟩ := hpre_
 refine R0 ?_
 refine WX.cases 11 rfl (fun h1 => ?_) (fun h1 => ?_)
 ·skip
  have h1d := B.dt h1
  have e1i : i < (a).length := (by omega)
  obtain ⟨e1, e1h⟩ : ∃ e1, (a)[i]? = some e1 := ⟨_, List.getElem?_eq_getElem e1i⟩
  have ok1 : GoT.ok n e1 := (okl hoka).2 _ (List.mem_of_getElem? e1h)
  refine R0 ?_
  refine WX.idx 0 i ttOk rfl rfl rfl rfl rfl rfl rfl rfl rfl rfl e1i ?_
  rintro ad1 rfl
  refine WX.ldE 0 2 e1 ttOk rfl rfl rfl rfl rfl rfl rfl rfl e1h (fun _ => rfl) (fun _ => rfl) ?_
  rintro ⟨⟨p2, c1⟩, ⟨⟩, ⟨⟩⟩
  refine WX.callF 3 (fun _ _ h => GoT.ow_rd h) (fun _ f hf => GoT.fak f hf) rfl rfl rfl rfl rfl (fun _ => rfl) rfl (fun w G bs hI hΓ => f390 w n (by omega) e1 p2 c1 (hΓ.get 2 rfl) ok1) (fun _ => rfl) (fun _ => rfl) ?_
  rintro ⟨⟨p3, c2⟩, ⟨⟩, ⟨⟩⟩ hq1
  have hr1 : i < (a).length := (by first | assumption | omega)
  refine WX.idxR 7 i ttOk rfl rfl rfl rfl rfl rfl rfl rfl rfl hr1 ?_
  rintro ad2 rfl
  have e2i : i < (out).length := (by first | assumption | omega)
  obtain ⟨e2, e2h⟩ : ∃ e2, (out)[i]? = some e2 := ⟨_, List.getElem?_eq_getElem e2i⟩
  have ok2 : GoT.ok n e2 := v3 _ (List.mem_of_getElem? e2h)
  refine WX.opnE (α := Measurement) (e := e2) 7 1 5 i rfl rfl rfl e2h (fun _ => rfl) (fun _ _ _ => rfl) (fun _ _ _ => rfl) ?_
  rintro A1 B1 ⟨⟨p4, c3⟩, ⟨⟩, ⟨⟩⟩ hA1 hB1
  refine WX.stA 7 ttOk rfl rfl rfl rfl rfl rfl rfl rfl rfl rfl rfl rfl rfl rfl hA1 hr1 rfl rfl rfl rfl (by simp) rfl ?_
  refine R0 ?_
  refine WX.see rfl rfl rfl (fun _ hΓ => looks_arith rfl rfl rfl rfl (by unfold I64; first | omega | (simp only [List.length_take] at *; omega))) ?_
  refine R0 ?_
  refine WX.turn [4, 7, 8] 9 rfl (fun h hs => cl_elem (α := Measurement) (e := (laws_toMeasurement e1)) (x := ((p3, c2), (), ())) e2i hs) (gs := [MF.ol (A1 ++ [.slice p3 (((laws_toMeasurement e1).pfx.parts).length) c2, .int .i64 ((laws_toMeasurement e1).face), .int .i64 ((laws_toMeasurement e1).failures)] ++ B1) (out.set i (laws_toMeasurement e1))]) rfl ?_
  refine WX.turn [9] 1 rfl (fun _ h => h) rfl ?_
  exact WX.iter ((A1 ++ [.slice p3 (((laws_toMeasurement e1).pfx.parts).length) c2, .int .i64 ((laws_toMeasurement e1).face), .int .i64 ((laws_toMeasurement e1).failures)] ++ B1), ((out.set i (laws_toMeasurement e1)) : List Measurement), i + 1) ⟨(by omega), (by first | assumption | omega | (simp; omega)), (all_set v3 (show GoT.ok n ((laws_toMeasurement e1) : Measurement) from hq1)), (by rw [v4, drop_get e1h]; simp only [laws_toMeasurementS_L1, e2h, ct, cf])⟩ (by first | (dsimp only; omega) | omega) (.cons rfl (.cons rfl (.cons rfl (.nil)))) .nil (.cons rfl (.nil)) [0, 1] rfl
 ·skip
  have h1d := B.df h1
  refine R0 ?_
  have hX1 : laws_toMeasurementS_L1 a 0 ((List.replicate ((a).length) (Measurement.mk (Name.mk ([])) 0 0)) : List Measurement) = ((out) : List Measurement) := by rw [v4, List.drop_eq_nil_of_le (show (a).length ≤ i by omega)]; simp only [laws_toMeasurementS_L1, ct, cf]
  refine WX.seal 7 1 10 rfl rfl (show (a).length = (out).length from by omega) rfl rfl ?_
  refine WX.slot 2 (y := .v (.slice p1 (out).length ((a).length))) rfl (fun _ => by show (Value.slice p1 ((a).length) ((a).length) : Value) = Value.slice p1 (out).length ((a).length); rw [(show (a).length = (out).length from by omega)]) ?_
  refine WX.slot 22 (y := .v (.slice p1 (out).length ((a).length))) rfl (fun _ => by show (Value.slice p1 ((a).length) ((a).length) : Value) = Value.slice p1 (out).length ((a).length); rw [(show (a).length = (out).length from by omega)]) ?_
  refine WX.slot 3 (y := .v (.slice p1 (out).length ((a).length))) rfl (fun _ => by show (Value.slice p1 ((a).length) ((a).length) : Value) = Value.slice p1 (out).length ((a).length); rw [(show (a).length = (out).length from by omega)]) ?_
  have hP1 : laws_toMeasurementS a = out := by simp only [laws_toMeasurementS, hX1, ct, cf]
  refine R1 ?_
  intro w1 G bs hI hΓ
  rw [hP1]
  exact Post.of [11] (p1, ((a).length)) hI hΓ rfl rfl rfl (okl_mk (by omega) v3 : GoT.ok n (out : List Measurement))
theorem f276 (w : World) (n : Nat) (hn : n + 0 ≤ 9) (a : NodeP) (K0 : Option Addr) (M0 : Nat) (N0 : RdSl (hp w) K0 M0 a.locl) (K1 : Option Addr) (M1 : Nat) (N1 : RdSl (hp w) K1 M1 a.cache.entries) (K2 : Option Addr) (M2 : Nat) (N2 : RdSl (hp w) K2 M2 a.pending) (K3 : Option Addr) (M3 : Nat) (N3 : RdSl (hp w) K3 M3 a.seen) (K4 : Option Addr) (M4 : Nat) (N4 : RdSl (hp w) K4 M4 a.routes) (K5 : Option Addr) (M5 : Nat) (N5 : RdSl (hp w) K5 M5 a.measurements) (hoka : GoT.ok n a) :
  Does Tryz.prog 276 #[.agg #[.slice K0 ((a.locl).length) M0, .int .i64 (a.cache.capacity), .slice K1 ((a.cache.entries).length) M1, .slice K2 ((a.pending).length) M2, .slice K3 ((a.seen).length) M3, .slice K4 ((a.routes).length) M4, .slice K5 ((a.measurements).length) M5, .int .i64 (a.dropped)]] w emp (Post w emp (fun x : GoT.X (NodeP) => .agg ⟨GoT.sh ((laws_toNode a) : NodeP) x⟩) (fun x => GoT.oa ((laws_toNode a) : NodeP) x) (GoT.ok n ((laws_toNode a) : NodeP))) := by
 have hbP := bd_pos n
 have hbB := bd_big (n := n) (by omega)
 refine WX.enter (tt := tt) (Γ := [(0, MF.rs .stb K0 M0 a.locl), (1, MF.rs .stb K1 M1 a.cache.entries), (2, MF.rs .stb K2 M2 a.pending), (3, MF.rs .stb K3 M3 a.seen), (4, MF.rs .stb K4 M4 a.routes), (5, MF.rs .stb K5 M5 a.measurements)]) Tryz.func276 rfl (by kernel_rfl) rfl (allS_cons rfl N0 (allS_cons rfl N1 (allS_cons rfl N2 (allS_cons rfl N3 (allS_cons rfl N4 (allS_cons rfl N5 allS_nil)))))) ?_
 refine R0 ?_
 refine WX.callF 6 (fun _ _ h => GoT.ow_rd h) (fun _ f hf => GoT.fak f hf) rfl rfl rfl rfl rfl (fun _ => rfl) rfl (fun w G bs hI hΓ => f158 w n (by omega) a.locl K0 M0 (hΓ.get 0 rfl) ((ok_NodeP hoka).1)) (fun _ => rfl) (fun _ => rfl) ?_
 rintro ⟨p1, c1⟩ hq1
 refine R0 ?_
 refine WX.callF 8 (fun _ _ h => GoT.ow_rd h) (fun _ f hf => GoT.fak f hf) rfl rfl rfl rfl rfl (fun _ => rfl) rfl (fun w G bs hI hΓ => f333 w n (by omega) a.cache K1 M1 (hΓ.get 1 rfl) ((ok_NodeP hoka).2.1)) (fun _ => rfl) (fun _ => rfl) ?_
 rintro ⟨⟨⟩, ⟨p2, c2⟩⟩ hq2
 refine R0 ?_
 refine WX.callF 10 (fun _ _ h => GoT.ow_rd h) (fun _ f hf => GoT.fak f hf) rfl rfl rfl rfl rfl (fun _ => rfl) rfl (fun w G bs hI hΓ => f334 w n (by omega) a.pending K2 M2 (hΓ.get 2 rfl) ((ok_NodeP hoka).2.2.1)) (fun _ => rfl) (fun _ => rfl) ?_
 rintro ⟨p3, c3⟩ hq3
 refine R0 ?_
 refine WX.callF 12 (fun _ _ h => GoT.ow_rd h) (fun _ f hf => GoT.fak f hf) rfl rfl rfl rfl rfl (fun _ => rfl) rfl (fun w G bs hI hΓ => f335 w n (by omega) a.seen K3 M3 (hΓ.get 3 rfl) ((ok_NodeP hoka).2.2.2.1)) (fun _ => rfl) (fun _ => rfl) ?_
 rintro ⟨p4, c4⟩ hq4
 refine R0 ?_
 refine WX.callF 14 (fun _ _ h => GoT.ow_rd h) (fun _ f hf => GoT.fak f hf) rfl rfl rfl rfl rfl (fun _ => rfl) rfl (fun w G bs hI hΓ => f336 w n (by omega) a.routes K4 M4 (hΓ.get 4 rfl) ((ok_NodeP hoka).2.2.2.2.1)) (fun _ => rfl) (fun _ => rfl) ?_
 rintro ⟨p5, c5⟩ hq5
 refine R0 ?_
 refine WX.callF 16 (fun _ _ h => GoT.ow_rd h) (fun _ f hf => GoT.fak f hf) rfl rfl rfl rfl rfl (fun _ => rfl) rfl (fun w G bs hI hΓ => f337 w n (by omega) a.measurements K5 M5 (hΓ.get 5 rfl) ((ok_NodeP hoka).2.2.2.2.2.1)) (fun _ => rfl) (fun _ => rfl) ?_
 rintro ⟨p6, c6⟩ hq6
 refine R0 ?_
 have hP1 : laws_toNode a = (NodeP.mk (laws_toDataS a.locl) (laws_toContentStore a.cache) (laws_toPendingInterestS a.pending) (laws_toSeenNonceS a.seen) (laws_toRouteS a.routes) (laws_toMeasurementS a.measurements) a.dropped) := by simp only [laws_toNode, ct, cf]
 refine R1 ?_
 intro w1 G bs hI hΓ
 rw [hP1]
 exact Post.of [7, 9, 11, 13, 15, 17] ((p1, c1), ((), (p2, c2)), (p3, c3), (p4, c4), (p5, c5), (p6, c6), ()) hI hΓ rfl rfl rfl (And.intro hq1 (And.intro hq2 (And.intro hq3 (And.intro hq4 (And.intro hq5 (And.intro hq6 (ok_NodeP hoka).2.2.2.2.2.2))))))
theorem f191 (w : World) (n : Nat) (hn : n + 0 ≤ 9) (a : (List NodeP)) (pa : Option Addr) (ca : Nat) (N0 : RdSl (hp w) pa ca a) (hoka : GoT.ok n a) :
  Does Tryz.prog 191 #[.slice pa ((a).length) ca] w emp (Post w emp (fun x : GoT.X ((List NodeP)) => (GoT.sh ((laws_toNodeS a) : (List NodeP)) x).headD undef) (fun x => GoT.oa ((laws_toNodeS a) : (List NodeP)) x) (GoT.ok n ((laws_toNodeS a) : (List NodeP)))) := by
 have hbP := bd_pos n
 have hbB := bd_big (n := n) (by omega)
 refine WX.enter (tt := tt) (Γ := [(0, MF.rs .stb pa ca a)]) Tryz.func191 rfl (by kernel_rfl) rfl (allS_cons rfl N0 allS_nil) ?_
 refine R0 ?_
 have r1 : (a).length ≤ bd n := (okl hoka).1
 refine WX.mkS ((a).length) ttOk rfl rfl rfl rfl rfl rfl rfl (by omega) (by omega) rfl ?_
 intro p1
 refine WX.free 1 (MF.ol (zrep ((a).length) [.slice none (0) 0, .int .i64 (0), .slice none (0) 0, .slice none (0) 0, .slice none (0) 0, .slice none (0) 0, .slice none (0) 0, .int .i64 (0)]) ((List.replicate ((a).length) (NodeP.mk ([]) (ContentStore.mk 0 ([])) ([]) ([]) ([]) ([]) 0)) : List NodeP)) (ol_zrep (α := NodeP) (z0 := (NodeP.mk ([]) (ContentStore.mk 0 ([])) ([]) ([]) ([]) ([]) 0)) (x0 := ((none, 0), ((), (none, 0)), (none, 0), (none, 0), (none, 0), (none, 0), ())) rfl (sep_emp_cons (owSl_nil _ _) (sep_emp_cons (owSl_nil _ _) (sep_emp_cons (owSl_nil _ _) (sep_emp_cons (owSl_nil _ _) (sep_emp_cons (owSl_nil _ _) (sep_emp_cons (owSl_nil _ _) trivial)))))) _) ?_
 refine R0 ?_
 refine WX.loop (ι := (List Value) × (List NodeP) × Nat) ⟨fun | (xsout, out, i) => (i ≤ (a).length) ∧ (out.length = (a).length) ∧ (∀ z_ ∈ out, GoT.ok n z_) ∧ (laws_toNodeS_L1 a 0 ((List.replicate ((a).length) (NodeP.mk ([]) (ContentStore.mk 0 ([])) ([]) ([]) ([]) ([]) 0)) : List NodeP) = laws_toNodeS_L1 ((a).drop i) i out), fun | (xsout, out, i) => (a).length - i, fun | (xsout, out, i) => [(3, .v (.slice p1 ((a).length) ((a).length))), (4, .v (.int .i64 (((i : Nat) : Int)))), (0, .v (.slice pa ((a).length) ca))], fun | (xsout, out, i) => [], fun | (xsout, out, i) => [(7, ⟨8, p1, (a).length, ((a).length), xsout⟩)], fun | (xsout, out, i) => [(0, MF.rs .stb pa ca a), (1, MF.ol xsout (out : List NodeP))]⟩ ((zrep ((a).length) [.slice none (0) 0, .int .i64 (0), .slice none (0) 0, .slice none (0) 0, .slice none (0) 0, .slice none (0) 0, .slice none (0) 0, .int .i64 (0)]), ((List.replicate ((a).length) (NodeP.mk ([]) (ContentStore.mk 0 ([])) ([]) ([]) ([]) ([]) 0)) : List NodeP), 0) ⟨(Nat.zero_le _), (by simp), (all_rep (And.intro (ok_nil (α := DataP)) (And.intro (And.intro (show I64 0 from (by unfold I64; omega)) (ok_nil (α := CacheEntry))) (And.intro (ok_nil (α := PendingInterest)) (And.intro (ok_nil (α := SeenNonce)) (And.intro (ok_nil (α := Route)) (And.intro (ok_nil (α := Measurement)) (show I64 0 from (by unfold I64; omega))))))))), rfl⟩
  (.cons rfl (.cons rfl (.cons rfl (.nil)))) .nil (.cons rfl (.nil)) [0, 1] rfl ?_
 rintro ⟨xsout, out, i⟩ hpre
 have hpre_ : (i ≤ (a).length) ∧ (out.length = (a).length) ∧ (∀ z_ ∈ out, GoT.ok n z_) ∧ (laws_toNodeS_L1 a 0 ((List.replicate ((a).length) (NodeP.mk ([]) (ContentStore.mk 0 ([])) ([]) ([]) ([]) ([]) 0)) : List NodeP) = laws_toNodeS_L1 ((a).drop i) i out) := hpre
 clear hpre
 obtain ⟨v1, v2, v3, v4⟩ := hpre_
 refine R0 ?_
 refine WX.cases 11 rfl (fun h1 => ?_) (fun h1 => ?_)
 ·skip
  have h1d := B.dt h1
  have e1i : i < (a).length := (by omega)
  obtain ⟨e1, e1h⟩ : ∃ e1, (a)[i]? = some e1 := ⟨_, List.getElem?_eq_getElem e1i⟩
  have ok1 : GoT.ok n e1 := (okl hoka).2 _ (List.mem_of_getElem? e1h)
  refine R0 ?_
  refine WX.idx 0 i ttOk rfl rfl rfl rfl rfl rfl rfl rfl rfl rfl e1i ?_
  rintro ad1 rfl
  refine WX.ldE 0 2 e1 ttOk rfl rfl rfl rfl rfl rfl rfl rfl e1h (fun _ => rfl) (fun _ => rfl) ?_
  rintro ⟨⟨p2, c1⟩, ⟨⟨⟩, ⟨p3, c2⟩⟩, ⟨p4, c3⟩, ⟨p5, c4⟩, ⟨p6, c5⟩, ⟨p7, c6⟩, ⟨⟩⟩
  refine WX.callF 8 (fun _ _ h => GoT.ow_rd h) (fun _ f hf => GoT.fak f hf) rfl rfl rfl rfl rfl (fun _ => rfl) rfl (fun w G bs hI hΓ => f276 w n (by omega) e1 p2 c1 (hΓ.get 2 rfl) p3 c2 (hΓ.get 3 rfl) p4 c3 (hΓ.get 4 rfl) p5 c4 (hΓ.get 5 rfl) p6 c5 (hΓ.get 6 rfl) p7 c6 (hΓ.get 7 rfl) ok1) (fun _ => rfl) (fun _ => rfl) ?_
  rintro ⟨⟨p8, c7⟩, ⟨⟨⟩, ⟨p9, c8⟩⟩, ⟨p10, c9⟩, ⟨p11, c10⟩, ⟨p12, c11⟩, ⟨p13, c12⟩, ⟨⟩⟩ hq1
  have hr1 : i < (a).length := (by first | assumption | omega)
  refine WX.idxR 7 i ttOk rfl rfl rfl rfl rfl rfl rfl rfl rfl hr1 ?_
  rintro ad2 rfl
  have e2i : i < (out).length := (by first | assumption | omega)
  obtain ⟨e2, e2h⟩ : ∃ e2, (out)[i]? = some e2 := ⟨_, List.getElem?_eq_getElem e2i⟩
  have ok2 : GoT.ok n e2 := v3 _ (List.mem_of_getElem? e2h)
  refine WX.opnE (α := NodeP) (e := e2) 7 1 20 i rfl rfl rfl e2h (fun _ => rfl) (fun _ _ _ => rfl) (fun _ _ _ => rfl) ?_
  rintro A1 B1 ⟨⟨p14, c13⟩, ⟨⟨⟩, ⟨p15, c14⟩⟩, ⟨p16, c15⟩, ⟨p17, c16⟩, ⟨p18, c17⟩, ⟨p19, c18⟩, ⟨⟩⟩ hA1 hB1
  refine WX.stA 7 ttOk rfl rfl rfl rfl rfl rfl rfl rfl rfl rfl rfl rfl rfl rfl hA1 hr1 rfl rfl rfl rfl (by simp) rfl ?_
  refine R0 ?_
  refine WX.see rfl rfl rfl (fun _ hΓ => looks_arith rfl rfl rfl rfl (by unfold I64; first | omega | (simp only [List.length_take] at *; omega))) ?_
  refine R0 ?_
  refine WX.turn [14, 15, 16, 17, 18, 19, 32, 33] 34 rfl (fun h hs => cl_elem (α := NodeP) (e := (laws_toNode e1)) (x := ((p8, c7), ((), (p9, c8)), (p10, c9), (p11, c10), (p12, c11), (p13, c12), ())) e2i hs) (gs := [MF.ol (A1 ++ [.slice p8 (((laws_toNode e1).locl).length) c7, .int .i64 ((laws_toNode e1).cache.capacity), .slice p9 (((laws_toNode e1).cache.entries).length) c8, .slice p10 (((laws_toNode e1).pending).length) c9, .slice p11 (((laws_toNode e1).seen).length) c10, .slice p12 (((laws_toNode e1).routes).length) c11, .slice p13 (((laws_toNode e1).measurements).length) c12, .int .i64 ((laws_toNode e1).dropped)] ++ B1) (out.set i (laws_toNode e1))]) rfl ?_
  refine WX.turn [34] 1 rfl (fun _ h => h) rfl ?_
  exact WX.iter ((A1 ++ [.slice p8 (((laws_toNode e1).locl).length) c7, .int .i64 ((laws_toNode e1).cache.capacity), .slice p9 (((laws_toNode e1).cache.entries).length) c8, .slice p10 (((laws_toNode e1).pending).length) c9, .slice p11 (((laws_toNode e1).seen).length) c10, .slice p12 (((laws_toNode e1).routes).length) c11, .slice p13 (((laws_toNode e1).measurements).length) c12, .int .i64 ((laws_toNode e1).dropped)] ++ B1), ((out.set i (laws_toNode e1)) : List NodeP), i + 1) ⟨(by omega), (by first | assumption | omega | (simp; omega)), (all_set v3 (show GoT.ok n ((laws_toNode e1) : NodeP) from hq1)), (by rw [v4, drop_get e1h]; simp only [laws_toNodeS_L1, e2h, ct, cf])⟩ (by first | (dsimp only; omega) | omega) (.cons rfl (.cons rfl (.cons rfl (.nil)))) .nil (.cons rfl (.nil)) [0, 1] rfl
 ·skip
  have h1d := B.df h1
  refine R0 ?_
  have hX1 : laws_toNodeS_L1 a 0 ((List.replicate ((a).length) (NodeP.mk ([]) (ContentStore.mk 0 ([])) ([]) ([]) ([]) ([]) 0)) : List NodeP) = ((out) : List NodeP) := by rw [v4, List.drop_eq_nil_of_le (show (a).length ≤ i by omega)]; simp only [laws_toNodeS_L1, ct, cf]
  refine WX.seal 7 1 35 rfl rfl (show (a).length = (out).length from by omega) rfl rfl ?_
  refine WX.slot 2 (y := .v (.slice p1 (out).length ((a).length))) rfl (fun _ => by show (Value.slice p1 ((a).length) ((a).length) : Value) = Value.slice p1 (out).length ((a).length); rw [(show (a).length = (out).length from by omega)]) ?_
  refine WX.slot 22 (y := .v (.slice p1 (out).length ((a).length))) rfl (fun _ => by show (Value.slice p1 ((a).length) ((a).length) : Value) = Value.slice p1 (out).length ((a).length); rw [(show (a).length = (out).length from by omega)]) ?_
  refine WX.slot 3 (y := .v (.slice p1 (out).length ((a).length))) rfl (fun _ => by show (Value.slice p1 ((a).length) ((a).length) : Value) = Value.slice p1 (out).length ((a).length); rw [(show (a).length = (out).length from by omega)]) ?_
  have hP1 : laws_toNodeS a = out := by simp only [laws_toNodeS, hX1, ct, cf]
  refine R1 ?_
  intro w1 G bs hI hΓ
  rw [hP1]
  exact Post.of [36] (p1, ((a).length)) hI hΓ rfl rfl rfl (okl_mk (by omega) v3 : GoT.ok n (out : List NodeP))
theorem f192 (w : World) (n : Nat) (hn : n + 0 ≤ 9) (a : (List Int)) (pa : Option Addr) (ca : Nat) (N0 : RdSl (hp w) pa ca a) (hoka : GoT.ok n a) :
  Does Tryz.prog 192 #[.slice pa ((a).length) ca] w emp (Post w emp (fun x : GoT.X ((List Int)) => (GoT.sh ((laws_toIntS a) : (List Int)) x).headD undef) (fun x => GoT.oa ((laws_toIntS a) : (List Int)) x) (GoT.ok n ((laws_toIntS a) : (List Int)))) := by
 have hbP := bd_pos n
 have hbB := bd_big (n := n) (by omega)
 refine WX.enter (tt := tt) (Γ := [(0, MF.rs .stb pa ca a)]) Tryz.func192 rfl (by kernel_rfl) rfl (allS_cons rfl N0 allS_nil) ?_
 refine R0 ?_
 have r1 : (a).length ≤ bd n := (okl hoka).1
 refine WX.mkS ((a).length) ttOk rfl rfl rfl rfl rfl rfl rfl (by omega) (by omega) rfl ?_
 intro p1
 refine WX.free 1 (MF.ol (zrep ((a).length) [.int .i64 (0)]) ((List.replicate ((a).length) 0) : List Int)) (ol_zrep (α := Int) (z0 := 0) (x0 := ()) rfl trivial _) ?_
 refine R0 ?_
 refine WX.loop (ι := (List Value) × (List Int) × Nat) ⟨fun | (xsout, out, i) => (i ≤ (a).length) ∧ (out.length = (a).length) ∧ (∀ z_ ∈ out, GoT.ok n z_) ∧ (laws_toIntS_L1 a 0 ((List.replicate ((a).length) 0) : List Int) = laws_toIntS_L1 ((a).drop i) i out), fun | (xsout, out, i) => (a).length - i, fun | (xsout, out, i) => [(3, .v (.slice p1 ((a).length) ((a).length))), (4, .v (.int .i64 (((i : Nat) : Int)))), (0, .v (.slice pa ((a).length) ca))], fun | (xsout, out, i) => [], fun | (xsout, out, i) => [(7, ⟨1, p1, (a).length, ((a).length), xsout⟩)], fun | (xsout, out, i) => [(0, MF.rs .stb pa ca a), (1, MF.ol xsout (out : List Int))]⟩ ((zrep ((a).length) [.int .i64 (0)]), ((List.replicate ((a).length) 0) : List Int), 0) ⟨(Nat.zero_le _), (by simp), (all_rep (show I64 0 from (by unfold I64; omega))), rfl⟩
  (.cons rfl (.cons rfl (.cons rfl (.nil)))) .nil (.cons rfl (.nil)) [0, 1] rfl ?_
 rintro ⟨xsout, out, i⟩ hpre
 have hpre_ : (i ≤ (a).length) ∧ (out.length = (a).length) ∧ (∀ z_ ∈ out, GoT.ok n z_) ∧ (laws_toIntS_L1 a 0 ((List.replicate ((a).length) 0) : List Int) = laws_toIntS_L1 ((a).drop i) i out) := hpre
 clear hpre
 obtain ⟨v1, v2, v3, v4⟩ := hpre_
 refine R0 ?_
 refine WX.cases 11 rfl (fun h1 => ?_) (fun h1 => ?_)
 ·skip
  have h1d := B.dt h1
  have e1i : i < (a).length := (by omega)
  obtain ⟨e1, e1h⟩ : ∃ e1, (a)[i]? = some e1 := ⟨_, List.getElem?_eq_getElem e1i⟩
  have ok1 : GoT.ok n e1 := (okl hoka).2 _ (List.mem_of_getElem? e1h)
  refine R0 ?_
  refine WX.idx 0 i ttOk rfl rfl rfl rfl rfl rfl rfl rfl rfl rfl e1i ?_
  rintro ad1 rfl
  refine WX.ldE 0 2 e1 ttOk rfl rfl rfl rfl rfl rfl rfl rfl e1h (fun _ => rfl) (fun _ => rfl) ?_
  rintro ⟨⟩
  have hr1 : i < (a).length := (by first | assumption | omega)
  refine WX.idxR 7 i ttOk rfl rfl rfl rfl rfl rfl rfl rfl rfl hr1 ?_
  rintro ad2 rfl
  have e2i : i < (out).length := (by first | assumption | omega)
  obtain ⟨e2, e2h⟩ : ∃ e2, (out)[i]? = some e2 := ⟨_, List.getElem?_eq_getElem e2i⟩
  have ok2 : GoT.ok n e2 := v3 _ (List.mem_of_getElem? e2h)
  refine WX.opnE (α := Int) (e := e2) 7 1 2 i rfl rfl rfl e2h (fun _ => rfl) (fun _ _ _ => rfl) (fun _ _ _ => rfl) ?_
  rintro A1 B1 ⟨⟩ hA1 hB1
  refine WX.stA 7 ttOk rfl rfl rfl rfl rfl rfl rfl rfl rfl rfl rfl rfl rfl rfl hA1 hr1 rfl rfl rfl rfl (by simp) rfl ?_
  refine R0 ?_
  refine WX.see rfl rfl rfl (fun _ hΓ => looks_arith rfl rfl rfl rfl (by unfold I64; first | omega | (simp only [List.length_take] at *; omega))) ?_
  refine R0 ?_
  refine WX.turn [2, 3] 4 rfl (fun h hs => cl_elem (α := Int) (e := e1) (x := ()) e2i hs) (gs := [MF.ol (A1 ++ [.int .i64 (e1)] ++ B1) (out.set i e1)]) rfl ?_
  refine WX.turn [4] 1 rfl (fun _ h => h) rfl ?_
  exact WX.iter ((A1 ++ [.int .i64 (e1)] ++ B1), ((out.set i e1) : List Int), i + 1) ⟨(by omega), (by first | assumption | omega | (simp; omega)), (all_set v3 (show GoT.ok n (e1 : Int) from ok1)), (by rw [v4, drop_get e1h]; simp only [laws_toIntS_L1, e2h, ct, cf])⟩ (by first | (dsimp only; omega) | omega) (.cons rfl (.cons rfl (.cons rfl (.nil)))) .nil (.cons rfl (.nil)) [0, 1] rfl
 ·skip
  have h1d := B.df h1
  refine R0 ?_
  have hX1 : laws_toIntS_L1 a 0 ((List.replicate ((a).length) 0) : List Int) = ((out) : List Int) := by rw [v4, List.drop_eq_nil_of_le (show (a).length ≤ i by omega)]; simp only [laws_toIntS_L1, ct, cf]
  refine WX.seal 7 1 5 rfl rfl (show (a).length = (out).length from by omega) rfl rfl ?_
  refine WX.slot 2 (y := .v (.slice p1 (out).length ((a).length))) rfl (fun _ => by show (Value.slice p1 ((a).length) ((a).length) : Value) = Value.slice p1 (out).length ((a).length); rw [(show (a).length = (out).length from by omega)]) ?_
  refine WX.slot 21 (y := .v (.slice p1 (out).length ((a).length))) rfl (fun _ => by show (Value.slice p1 ((a).length) ((a).length) : Value) = Value.slice p1 (out).length ((a).length); rw [(show (a).length = (out).length from by omega)]) ?_
  refine WX.slot 3 (y := .v (.slice p1 (out).length ((a).length))) rfl (fun _ => by show (Value.slice p1 ((a).length) ((a).length) : Value) = Value.slice p1 (out).length ((a).length); rw [(show (a).length = (out).length from by omega)]) ?_
  have hP1 : laws_toIntS a = out := by simp only [laws_toIntS, hX1, ct, cf]
  refine R1 ?_
  intro w1 G bs hI hΓ
  rw [hP1]
  exact Post.of [6] (p1, ((a).length)) hI hΓ rfl rfl rfl (okl_mk (by omega) v3 : GoT.ok n (out : List Int))
theorem f338 (w : World) (n : Nat) (hn : n + 0 ≤ 9) (a : Interest) (K0 : Option Addr) (M0 : Nat) (N0 : RdSl (hp w) K0 M0 a.name.parts) (hoka : GoT.ok n a) :
  Does Tryz.prog 338 #[.agg #[.slice K0 ((a.name.parts).length) M0, .int .i64 (a.nonce), .int .i64 (a.hopLimit), .int .i64 (a.lifetime)]] w emp (Post w emp (fun x : GoT.X (Interest) => .agg ⟨GoT.sh ((laws_toInterest a) : Interest) x⟩) (fun x => GoT.oa ((laws_toInterest a) : Interest) x) (GoT.ok n ((laws_toInterest a) : Interest))) := by
 have hbP := bd_pos n
 have hbB := bd_big (n := n) (by omega)
 refine WX.enter (tt := tt) (Γ := [(0, MF.rs .stb K0 M0 a.name.parts)]) Tryz.func338 rfl (by kernel_rfl) rfl (allS_cons rfl N0 allS_nil) ?_
 refine R0 ?_
 refine WX.callF 1 (fun _ _ h => GoT.ow_rd h) (fun _ f hf => GoT.fak f hf) rfl rfl rfl rfl rfl (fun _ => rfl) rfl (fun w G bs hI hΓ => f154 w n (by omega) a.name K0 M0 (hΓ.get 0 rfl) ((ok_Interest hoka).1)) (fun _ => rfl) (fun _ => rfl) ?_
 rintro ⟨p1, c1⟩ hq1
 refine R0 ?_
 have hP1 : laws_toInterest a = (Interest.mk (laws_toName a.name) a.nonce a.hopLimit a.lifetime) := by simp only [laws_toInterest, ct, cf]
 refine R1 ?_
 intro w1 G bs hI hΓ
 rw [hP1]
 exact Post.of [2] ((p1, c1), (), (), ()) hI hΓ rfl rfl rfl (And.intro hq1 (And.intro (ok_Interest hoka).2.1 (And.intro (ok_Interest hoka).2.2.1 (ok_Interest hoka).2.2.2)))
theorem f277 (w : World) (n : Nat) (hn : n + 0 ≤ 9) (a : PacketInFlight) (K0 : Option Addr) (M0 : Nat) (N0 : RdSl (hp w) K0 M0 a.interest.name.parts) (K1 : Option Addr) (M1 : Nat) (N1 : RdSl (hp w) K1 M1 a.data.name.parts) (K2 : Option Addr) (M2 : Nat) (N2 : RdSl (hp w) K2 M2 a.data.content) (K3 : Option Addr) (M3 : Nat) (N3 : RdSl (hp w) K3 M3 a.data.keyName.parts) (hoka : GoT.ok n a) :
  Does Tryz.prog 277 #[.agg #[.int .i64 (a.to), .int .i64 (a.face), .bool a.isInterest, .slice K0 ((a.interest.name.parts).length) M0, .int .i64 (a.interest.nonce), .int .i64 (a.interest.hopLimit), .int .i64 (a.interest.lifetime), .slice K1 ((a.data.name.parts).length) M1, .slice K2 ((a.data.content).length) M2, .slice K3 ((a.data.keyName.parts).length) M3, .int .i64 (a.data.freshUntil), .int .i64 (a.data.signature)]] w emp (Post w emp (fun x : GoT.X (PacketInFlight) => .agg ⟨GoT.sh ((laws_toPacketInFlight a) : PacketInFlight) x⟩) (fun x => GoT.oa ((laws_toPacketInFlight a) : PacketInFlight) x) (GoT.ok n ((laws_toPacketInFlight a) : PacketInFlight))) := by
 have hbP := bd_pos n
 have hbB := bd_big (n := n) (by omega)
 refine WX.enter (tt := tt) (Γ := [(0, MF.rs .stb K0 M0 a.interest.name.parts), (1, MF.rs .stb K1 M1 a.data.name.parts), (2, MF.rs .stb K2 M2 a.data.content), (3, MF.rs .stb K3 M3 a.data.keyName.parts)]) Tryz.func277 rfl (by kernel_rfl) rfl (allS_cons rfl N0 (allS_cons rfl N1 (allS_cons rfl N2 (allS_cons rfl N3 allS_nil)))) ?_
 refine R0 ?_
 refine WX.callF 4 (fun _ _ h => GoT.ow_rd h) (fun _ f hf => GoT.fak f hf) rfl rfl rfl rfl rfl (fun _ => rfl) rfl (fun w G bs hI hΓ => f338 w n (by omega) a.interest K0 M0 (hΓ.get 0 rfl) ((ok_PacketInFlight hoka).2.2.2.1)) (fun _ => rfl) (fun _ => rfl) ?_
 rintro ⟨⟨p1, c1⟩, ⟨⟩, ⟨⟩, ⟨⟩⟩ hq1
 refine R0 ?_
 refine WX.callF 6 (fun _ _ h => GoT.ow_rd h) (fun _ f hf => GoT.fak f hf) rfl rfl rfl rfl rfl (fun _ => rfl) rfl (fun w G bs hI hΓ => f68 w n (by omega) a.data K1 M1 (hΓ.get 1 rfl) K2 M2 (hΓ.get 2 rfl) K3 M3 (hΓ.get 3 rfl) ((ok_PacketInFlight hoka).2.2.2.2)) (fun _ => rfl) (fun _ => rfl) ?_
 rintro ⟨⟨p2, c2⟩, ⟨p3, c3⟩, ⟨p4, c4⟩, ⟨⟩, ⟨⟩⟩ hq2
 refine R0 ?_
 have hP1 : laws_toPacketInFlight a = (PacketInFlight.mk a.to a.face a.isInterest (laws_toInterest a.interest) (laws_toData a.data)) := by simp only [laws_toPacketInFlight, ct, cf]
 refine R1 ?_
 intro w1 G bs hI hΓ
 rw [hP1]
 exact Post.of [5, 9, 10, 11] ((), (), (), ((p1, c1), (), (), ()), ((p2, c2), (p3, c3), (p4, c4), (), ())) hI hΓ rfl rfl rfl (And.intro (ok_PacketInFlight hoka).1 (And.intro (ok_PacketInFlight hoka).2.1 (And.intro trivial (And.intro hq1 hq2))))
theorem f193 (w : World) (n : Nat) (hn : n + 0 ≤ 9) (a : (List PacketInFlight)) (pa : Option Addr) (ca : Nat) (N0 : RdSl (hp w) pa ca a) (hoka : GoT.ok n a) :
  Does Tryz.prog 193 #[.slice pa ((a).length) ca] w emp (Post w emp (fun x : GoT.X ((List PacketInFlight)) => (GoT.sh ((laws_toPacketInFlightS a) : (List PacketInFlight)) x).headD undef) (fun x => GoT.oa ((laws_toPacketInFlightS a) : (List PacketInFlight)) x) (GoT.ok n ((laws_toPacketInFlightS a) : (List PacketInFlight)))) := by
 have hbP := bd_pos n
 have hbB := bd_big (n := n) (by omega)
 refine WX.enter (tt := tt) (Γ := [(0, MF.rs .stb pa ca a)]) Tryz.func193 rfl (by kernel_rfl) rfl (allS_cons rfl N0 allS_nil) ?_
 refine R0 ?_
 have r1 : (a).length ≤ bd n := (okl hoka).1
 refine WX.mkS ((a).length) ttOk rfl rfl rfl rfl rfl rfl rfl (by omega) (by omega) rfl ?_
 intro p1
 refine WX.free 1 (MF.ol (zrep ((a).length) [.int .i64 (0), .int .i64 (0), .bool false, .slice none (0) 0, .int .i64 (0), .int .i64 (0), .int .i64 (0), .slice none (0) 0, .slice none (0) 0, .slice none (0) 0, .int .i64 (0), .int .i64 (0)]) ((List.replicate ((a).length) (PacketInFlight.mk 0 0 false (Interest.mk (Name.mk ([])) 0 0 0) (DataP.mk (Name.mk ([])) ([]) (Name.mk ([])) 0 0))) : List PacketInFlight)) (ol_zrep (α := PacketInFlight) (z0 := (PacketInFlight.mk 0 0 false (Interest.mk (Name.mk ([])) 0 0 0) (DataP.mk (Name.mk ([])) ([]) (Name.mk ([])) 0 0))) (x0 := ((), (), (), ((none, 0), (), (), ()), ((none, 0), (none, 0), (none, 0), (), ()))) rfl (sep_emp_cons (owSl_nil _ _) (sep_emp_cons (owSl_nil _ _) (sep_emp_cons (owSl_nil _ _) (sep_emp_cons (owSl_nil _ _) trivial)))) _) ?_
 refine R0 ?_
 refine WX.loop (ι := (List Value) × (List PacketInFlight) × Nat) ⟨fun | (xsout, out, i) => (i ≤ (a).length) ∧ (out.length = (a).length) ∧ (∀ z_ ∈ out, GoT.ok n z_) ∧ (laws_toPacketInFlightS_L1 a 0 ((List.replicate ((a).length) (PacketInFlight.mk 0 0 false (Interest.mk (Name.mk ([])) 0 0 0) (DataP.mk (Name.mk ([])) ([]) (Name.mk ([])) 0 0))) : List PacketInFlight) = laws_toPacketInFlightS_L1 ((a).drop i) i out), fun | (xsout, out, i) => (a).length - i, fun | (xsout, out, i) => [(3, .v (.slice p1 ((a).length) ((a).length))), (4, .v (.int .i64 (((i : Nat) : Int)))), (0, .v (.slice pa ((a).length) ca))], fun | (xsout, out, i) => [], fun | (xsout, out, i) => [(7, ⟨12, p1, (a).length, ((a).length), xsout⟩)], fun | (xsout, out, i) => [(0, MF.rs .stb pa ca a), (1, MF.ol xsout (out : List PacketInFlight))]⟩ ((zrep ((a).length) [.int .i64 (0), .int .i64 (0), .bool false, .slice none (0) 0, .int .i64 (0), .int .i64 (0), .int .i64 (0), .slice none (0) 0, .slice none (0) 0, .slice none (0) 0, .int .i64 (0), .int .i64 (0)]), ((List.replicate ((a).length) (PacketInFlight.mk 0 0 false (Interest.mk (Name.mk ([])) 0 0 0) (DataP.mk (Name.mk ([])) ([]) (Name.mk ([])) 0 0))) : List PacketInFlight), 0) ⟨(Nat.zero_le _), (by simp), (all_rep (And.intro (show I64 0 from (by unfold I64; omega)) (And.intro (show I64 0 from (by unfold I64; omega)) (And.intro trivial (And.intro (And.intro (ok_nil (α := Str)) (And.intro (show I64 0 from (by unfold I64; omega)) (And.intro (show I64 0 from (by unfold I64; omega)) (show I64 0 from (by unfold I64; omega))))) (And.intro (ok_nil (α := Str)) (And.intro (ok_nil (α := UInt8)) (And.intro (ok_nil (α := Str)) (And.intro (show I64 0 from (by unfold I64; omega)) (show I64 0 from (by unfold I64; omega))))))))))), rfl⟩
  (.cons rfl (.cons rfl (.cons rfl (.nil)))) .nil (.cons rfl (.nil)) [0, 1] rfl ?_
 rintro ⟨xsout, out, i⟩ hpre
 have hpre_ : (i ≤ (a).length) ∧ (out.length = (a).length) ∧ (∀ z_ ∈ out, GoT.ok n z_) ∧ (laws_toPacketInFlightS_L1 a 0 ((List.replicate ((a).length) (PacketInFlight.mk 0 0 false (Interest.mk (Name.mk ([])) 0 0 0) (DataP.mk (Name.mk ([])) ([]) (Name.mk ([])) 0 0))) : List PacketInFlight) = laws_toPacketInFlightS_L1 ((a).drop i) i out) := hpre
 clear hpre
 obtain ⟨v1, v2, v3, v4⟩ := hpre_
 refine R0 ?_
 refine WX.cases 11 rfl (fun h1 => ?_) (fun h1 => ?_)
 ·skip
  have h1d := B.dt h1
  have e1i : i < (a).length := (by omega)
  obtain ⟨e1, e1h⟩ : ∃ e1, (a)[i]? = some e1 := ⟨_, List.getElem?_eq_getElem e1i⟩
  have ok1 : GoT.ok n e1 := (okl hoka).2 _ (List.mem_of_getElem? e1h)
  refine R0 ?_
  refine WX.idx 0 i ttOk rfl rfl rfl rfl rfl rfl rfl rfl rfl rfl e1i ?_
  rintro ad1 rfl
  refine WX.ldE 0 2 e1 ttOk rfl rfl rfl rfl rfl rfl rfl rfl e1h (fun _ => rfl) (fun _ => rfl) ?_
  rintro ⟨⟨⟩, ⟨⟩, ⟨⟩, ⟨⟨p2, c1⟩, ⟨⟩, ⟨⟩, ⟨⟩⟩, ⟨⟨p3, c2⟩, ⟨p4, c3⟩, ⟨p5, c4⟩, ⟨⟩, ⟨⟩⟩⟩
  refine WX.callF 6 (fun _ _ h => GoT.ow_rd h) (fun _ f hf => GoT.fak f hf) rfl rfl rfl rfl rfl (fun _ => rfl) rfl (fun w G bs hI hΓ => f277 w n (by omega) e1 p2 c1 (hΓ.get 2 rfl) p3 c2 (hΓ.get 3 rfl) p4 c3 (hΓ.get 4 rfl) p5 c4 (hΓ.get 5 rfl) ok1) (fun _ => rfl) (fun _ => rfl) ?_
  rintro ⟨⟨⟩, ⟨⟩, ⟨⟩, ⟨⟨p6, c5⟩, ⟨⟩, ⟨⟩, ⟨⟩⟩, ⟨⟨p7, c6⟩, ⟨p8, c7⟩, ⟨p9, c8⟩, ⟨⟩, ⟨⟩⟩⟩ hq1
  have hr1 : i < (a).length := (by first | assumption | omega)
  refine WX.idxR 7 i ttOk rfl rfl rfl rfl rfl rfl rfl rfl rfl hr1 ?_
  rintro ad2 rfl
  have e2i : i < (out).length := (by first | assumption | omega)
  obtain ⟨e2, e2h⟩ : ∃ e2, (out)[i]? = some e2 := ⟨_, List.getElem?_eq_getElem e2i⟩
  have ok2 : GoT.ok n e2 := v3 _ (List.mem_of_getElem? e2h)
  refine WX.opnE (α := PacketInFlight) (e := e2) 7 1 14 i rfl rfl rfl e2h (fun _ => rfl) (fun _ _ _ => rfl) (fun _ _ _ => rfl) ?_
  rintro A1 B1 ⟨⟨⟩, ⟨⟩, ⟨⟩, ⟨⟨p10, c9⟩, ⟨⟩, ⟨⟩, ⟨⟩⟩, ⟨⟨p11, c10⟩, ⟨p12, c11⟩, ⟨p13, c12⟩, ⟨⟩, ⟨⟩⟩⟩ hA1 hB1
  refine WX.stA 7 ttOk rfl rfl rfl rfl rfl rfl rfl rfl rfl rfl rfl rfl rfl rfl hA1 hr1 rfl rfl rfl rfl (by simp) rfl ?_
  refine R0 ?_
  refine WX.see rfl rfl rfl (fun _ hΓ => looks_arith rfl rfl rfl rfl (by unfold I64; first | omega | (simp only [List.length_take] at *; omega))) ?_
  refine R0 ?_
  refine WX.turn [10, 11, 12, 13, 22, 23] 24 rfl (fun h hs => cl_elem (α := PacketInFlight) (e := (laws_toPacketInFlight e1)) (x := ((), (), (), ((p6, c5), (), (), ()), ((p7, c6), (p8, c7), (p9, c8), (), ()))) e2i hs) (gs := [MF.ol (A1 ++ [.int .i64 ((laws_toPacketInFlight e1).to), .int .i64 ((laws_toPacketInFlight e1).face), .bool ((laws_toPacketInFlight e1).isInterest), .slice p6 (((laws_toPacketInFlight e1).interest.name.parts).length) c5, .int .i64 ((laws_toPacketInFlight e1).interest.nonce), .int .i64 ((laws_toPacketInFlight e1).interest.hopLimit), .int .i64 ((laws_toPacketInFlight e1).interest.lifetime), .slice p7 (((laws_toPacketInFlight e1).data.name.parts).length) c6, .slice p8 (((laws_toPacketInFlight e1).data.content).length) c7, .slice p9 (((laws_toPacketInFlight e1).data.keyName.parts).length) c8, .int .i64 ((laws_toPacketInFlight e1).data.freshUntil), .int .i64 ((laws_toPacketInFlight e1).data.signature)] ++ B1) (out.set i (laws_toPacketInFlight e1))]) rfl ?_
  refine WX.turn [24] 1 rfl (fun _ h => h) rfl ?_
  exact WX.iter ((A1 ++ [.int .i64 ((laws_toPacketInFlight e1).to), .int .i64 ((laws_toPacketInFlight e1).face), .bool ((laws_toPacketInFlight e1).isInterest), .slice p6 (((laws_toPacketInFlight e1).interest.name.parts).length) c5, .int .i64 ((laws_toPacketInFlight e1).interest.nonce), .int .i64 ((laws_toPacketInFlight e1).interest.hopLimit), .int .i64 ((laws_toPacketInFlight e1).interest.lifetime), .slice p7 (((laws_toPacketInFlight e1).data.name.parts).length) c6, .slice p8 (((laws_toPacketInFlight e1).data.content).length) c7, .slice p9 (((laws_toPacketInFlight e1).data.keyName.parts).length) c8, .int .i64 ((laws_toPacketInFlight e1).data.freshUntil), .int .i64 ((laws_toPacketInFlight e1).data.signature)] ++ B1), ((out.set i (laws_toPacketInFlight e1)) : List PacketInFlight), i + 1) ⟨(by omega), (by first | assumption | omega | (simp; omega)), (all_set v3 (show GoT.ok n ((laws_toPacketInFlight e1) : PacketInFlight) from hq1)), (by rw [v4, drop_get e1h]; simp only [laws_toPacketInFlightS_L1, e2h, ct, cf])⟩ (by first | (dsimp only; omega) | omega) (.cons rfl (.cons rfl (.cons rfl (.nil)))) .nil (.cons rfl (.nil)) [0, 1] rfl
 ·skip
  have h1d := B.df h1
  refine R0 ?_
  have hX1 : laws_toPacketInFlightS_L1 a 0 ((List.replicate ((a).length) (PacketInFlight.mk 0 0 false (Interest.mk (Name.mk ([])) 0 0 0) (DataP.mk (Name.mk ([])) ([]) (Name.mk ([])) 0 0))) : List PacketInFlight) = ((out) : List PacketInFlight) := by rw [v4, List.drop_eq_nil_of_le (show (a).length ≤ i by omega)]; simp only [laws_toPacketInFlightS_L1, ct, cf]
  refine WX.seal 7 1 25 rfl rfl (show (a).length = (out).length from by omega) rfl rfl ?_
  refine WX.slot 2 (y := .v (.slice p1 (out).length ((a).length))) rfl (fun _ => by show (Value.slice p1 ((a).length) ((a).length) : Value) = Value.slice p1 (out).length ((a).length); rw [(show (a).length = (out).length from by omega)]) ?_
  refine WX.slot 22 (y := .v (.slice p1 (out).length ((a).length))) rfl (fun _ => by show (Value.slice p1 ((a).length) ((a).length) : Value) = Value.slice p1 (out).length ((a).length); rw [(show (a).length = (out).length from by omega)]) ?_
  refine WX.slot 3 (y := .v (.slice p1 (out).length ((a).length))) rfl (fun _ => by show (Value.slice p1 ((a).length) ((a).length) : Value) = Value.slice p1 (out).length ((a).length); rw [(show (a).length = (out).length from by omega)]) ?_
  have hP1 : laws_toPacketInFlightS a = out := by simp only [laws_toPacketInFlightS, hX1, ct, cf]
  refine R1 ?_
  intro w1 G bs hI hΓ
  rw [hP1]
  exact Post.of [26] (p1, ((a).length)) hI hΓ rfl rfl rfl (okl_mk (by omega) v3 : GoT.ok n (out : List PacketInFlight))
theorem f194 (w : World) (n : Nat) (hn : n + 0 ≤ 9) (a : (List Consumer)) (pa : Option Addr) (ca : Nat) (N0 : RdSl (hp w) pa ca a) (hoka : GoT.ok n a) :
  Does Tryz.prog 194 #[.slice pa ((a).length) ca] w emp (Post w emp (fun x : GoT.X ((List Consumer)) => (GoT.sh ((laws_toConsumerS a) : (List Consumer)) x).headD undef) (fun x => GoT.oa ((laws_toConsumerS a) : (List Consumer)) x) (GoT.ok n ((laws_toConsumerS a) : (List Consumer)))) := by
 have hbP := bd_pos n
 have hbB := bd_big (n := n) (by omega)
 refine WX.enter (tt := tt) (Γ := [(0, MF.rs .stb pa ca a)]) Tryz.func194 rfl (by kernel_rfl) rfl (allS_cons rfl N0 allS_nil) ?_
 refine R0 ?_
 have r1 : (a).length ≤ bd n := (okl hoka).1
 refine WX.mkS ((a).length) ttOk rfl rfl rfl rfl rfl rfl rfl (by omega) (by omega) rfl ?_
 intro p1
 refine WX.free 1 (MF.ol (zrep ((a).length) [.int .i64 (0), .int .i64 (0), .slice none (0) 0, .int .i64 (0), .int .i64 (0), .bool false, .slice none (0) 0, .slice none (0) 0, .slice none (0) 0, .int .i64 (0), .int .i64 (0)]) ((List.replicate ((a).length) (Consumer.mk 0 0 (Name.mk ([])) 0 0 false (DataP.mk (Name.mk ([])) ([]) (Name.mk ([])) 0 0))) : List Consumer)) (ol_zrep (α := Consumer) (z0 := (Consumer.mk 0 0 (Name.mk ([])) 0 0 false (DataP.mk (Name.mk ([])) ([]) (Name.mk ([])) 0 0))) (x0 := ((), (), (none, 0), (), (), (), ((none, 0), (none, 0), (none, 0), (), ()))) rfl (sep_emp_cons (owSl_nil _ _) (sep_emp_cons (owSl_nil _ _) (sep_emp_cons (owSl_nil _ _) (sep_emp_cons (owSl_nil _ _) trivial)))) _) ?_
 refine R0 ?_
 refine WX.loop (ι := (List Value) × (List Consumer) × Nat) ⟨fun | (xsout, out, i) => (i ≤ (a).length) ∧ (out.length = (a).length) ∧ (∀ z_ ∈ out, GoT.ok n z_) ∧ (laws_toConsumerS_L1 a 0 ((List.replicate ((a).length) (Consumer.mk 0 0 (Name.mk ([])) 0 0 false (DataP.mk (Name.mk ([])) ([]) (Name.mk ([])) 0 0))) : List Consumer) = laws_toConsumerS_L1 ((a).drop i) i out), fun | (xsout, out, i) => (a).length - i, fun | (xsout, out, i) => [(3, .v (.slice p1 ((a).length) ((a).length))), (4, .v (.int .i64 (((i : Nat) : Int)))), (0, .v (.slice pa ((a).length) ca))], fun | (xsout, out, i) => [], fun | (xsout, out, i) => [(7, ⟨11, p1, (a).length, ((a).length), xsout⟩)], fun | (xsout, out, i) => [(0, MF.rs .stb pa ca a), (1, MF.ol xsout (out : List Consumer))]⟩ ((zrep ((a).length) [.int .i64 (0), .int .i64 (0), .slice none (0) 0, .int .i64 (0), .int .i64 (0), .bool false, .slice none (0) 0, .slice none (0) 0, .slice none (0) 0, .int .i64 (0), .int .i64 (0)]), ((List.replicate ((a).length) (Consumer.mk 0 0 (Name.mk ([])) 0 0 false (DataP.mk (Name.mk ([])) ([]) (Name.mk ([])) 0 0))) : List Consumer), 0) ⟨(Nat.zero_le _), (by simp), (all_rep (And.intro (show I64 0 from (by unfold I64; omega)) (And.intro (show I64 0 from (by unfold I64; omega)) (And.intro (ok_nil (α := Str)) (And.intro (show I64 0 from (by unfold I64; omega)) (And.intro (show I64 0 from (by unfold I64; omega)) (And.intro trivial (And.intro (ok_nil (α := Str)) (And.intro (ok_nil (α := UInt8)) (And.intro (ok_nil (α := Str)) (And.intro (show I64 0 from (by unfold I64; omega)) (show I64 0 from (by unfold I64; omega))))))))))))), rfl⟩
  (.cons rfl (.cons rfl (.cons rfl (.nil)))) .nil (.cons rfl (.nil)) [0, 1] rfl ?_
 rintro ⟨xsout, out, i⟩ hpre
 have hpre_ : (i ≤ (a).length) ∧ (out.length = (a).length) ∧ (∀ z_ ∈ out, GoT.ok n z_) ∧ (laws_toConsumerS_L1 a 0 ((List.replicate ((a).length) (Consumer.mk 0 0 (Name.mk ([])) 0 0 false (DataP.mk (Name.mk ([])) ([]) (Name.mk ([])) 0 0))) : List Consumer) = laws_toConsumerS_L1 ((a).drop i) i out) := hpre
 clear hpre
 obtain ⟨v1, v2, v3, v4⟩ := hpre_
 refine R0 ?_
 refine WX.cases 11 rfl (fun h1 => ?_) (fun h1 => ?_)
 ·skip
  have h1d := B.dt h1
  have e1i : i < (a).length := (by omega)
  obtain ⟨e1, e1h⟩ : ∃ e1, (a)[i]? = some e1 := ⟨_, List.getElem?_eq_getElem e1i⟩
  have ok1 : GoT.ok n e1 := (okl hoka).2 _ (List.mem_of_getElem? e1h)
  refine R0 ?_
  refine WX.idx 0 i ttOk rfl rfl rfl rfl rfl rfl rfl rfl rfl rfl e1i ?_
  rintro ad1 rfl
  refine WX.ldE 0 2 e1 ttOk rfl rfl rfl rfl rfl rfl rfl rfl e1h (fun _ => rfl) (fun _ => rfl) ?_
  rintro ⟨⟨⟩, ⟨⟩, ⟨p2, c1⟩, ⟨⟩, ⟨⟩, ⟨⟩, ⟨⟨p3, c2⟩, ⟨p4, c3⟩, ⟨p5, c4⟩, ⟨⟩, ⟨⟩⟩⟩
  refine WX.callF 6 (fun _ _ h => GoT.ow_rd h) (fun _ f hf => GoT.fak f hf) rfl rfl rfl rfl rfl (fun _ => rfl) rfl (fun w G bs hI hΓ => f66 w n (by omega) e1 p2 c1 (hΓ.get 2 rfl) p3 c2 (hΓ.get 3 rfl) p4 c3 (hΓ.get 4 rfl) p5 c4 (hΓ.get 5 rfl) ok1) (fun _ => rfl) (fun _ => rfl) ?_
  rintro ⟨⟨⟩, ⟨⟩, ⟨p6, c5⟩, ⟨⟩, ⟨⟩, ⟨⟩, ⟨⟨p7, c6⟩, ⟨p8, c7⟩, ⟨p9, c8⟩, ⟨⟩, ⟨⟩⟩⟩ hq1
  have hr1 : i < (a).length := (by first | assumption | omega)
  refine WX.idxR 7 i ttOk rfl rfl rfl rfl rfl rfl rfl rfl rfl hr1 ?_
  rintro ad2 rfl
  have e2i : i < (out).length := (by first | assumption | omega)
  obtain ⟨e2, e2h⟩ : ∃ e2, (out)[i]? = some e2 := ⟨_, List.getElem?_eq_getElem e2i⟩
  have ok2 : GoT.ok n e2 := v3 _ (List.mem_of_getElem? e2h)
  refine WX.opnE (α := Consumer) (e := e2) 7 1 14 i rfl rfl rfl e2h (fun _ => rfl) (fun _ _ _ => rfl) (fun _ _ _ => rfl) ?_
  rintro A1 B1 ⟨⟨⟩, ⟨⟩, ⟨p10, c9⟩, ⟨⟩, ⟨⟩, ⟨⟩, ⟨⟨p11, c10⟩, ⟨p12, c11⟩, ⟨p13, c12⟩, ⟨⟩, ⟨⟩⟩⟩ hA1 hB1
  refine WX.stA 7 ttOk rfl rfl rfl rfl rfl rfl rfl rfl rfl rfl rfl rfl rfl rfl hA1 hr1 rfl rfl rfl rfl (by simp) rfl ?_
  refine R0 ?_
  refine WX.see rfl rfl rfl (fun _ hΓ => looks_arith rfl rfl rfl rfl (by unfold I64; first | omega | (simp only [List.length_take] at *; omega))) ?_
  refine R0 ?_
  refine WX.turn [10, 11, 12, 13, 22, 23] 24 rfl (fun h hs => cl_elem (α := Consumer) (e := (laws_toConsumer e1)) (x := ((), (), (p6, c5), (), (), (), ((p7, c6), (p8, c7), (p9, c8), (), ()))) e2i hs) (gs := [MF.ol (A1 ++ [.int .i64 ((laws_toConsumer e1).node), .int .i64 ((laws_toConsumer e1).index), .slice p6 (((laws_toConsumer e1).name.parts).length) c5, .int .i64 ((laws_toConsumer e1).attempts), .int .i64 ((laws_toConsumer e1).wait), .bool ((laws_toConsumer e1).satisfied), .slice p7 (((laws_toConsumer e1).data.name.parts).length) c6, .slice p8 (((laws_toConsumer e1).data.content).length) c7, .slice p9 (((laws_toConsumer e1).data.keyName.parts).length) c8, .int .i64 ((laws_toConsumer e1).data.freshUntil), .int .i64 ((laws_toConsumer e1).data.signature)] ++ B1) (out.set i (laws_toConsumer e1))]) rfl ?_
  refine WX.turn [24] 1 rfl (fun _ h => h) rfl ?_
  exact WX.iter ((A1 ++ [.int .i64 ((laws_toConsumer e1).node), .int .i64 ((laws_toConsumer e1).index), .slice p6 (((laws_toConsumer e1).name.parts).length) c5, .int .i64 ((laws_toConsumer e1).attempts), .int .i64 ((laws_toConsumer e1).wait), .bool ((laws_toConsumer e1).satisfied), .slice p7 (((laws_toConsumer e1).data.name.parts).length) c6, .slice p8 (((laws_toConsumer e1).data.content).length) c7, .slice p9 (((laws_toConsumer e1).data.keyName.parts).length) c8, .int .i64 ((laws_toConsumer e1).data.freshUntil), .int .i64 ((laws_toConsumer e1).data.signature)] ++ B1), ((out.set i (laws_toConsumer e1)) : List Consumer), i + 1) ⟨(by omega), (by first | assumption | omega | (simp; omega)), (all_set v3 (show GoT.ok n ((laws_toConsumer e1) : Consumer) from hq1)), (by rw [v4, drop_get e1h]; simp only [laws_toConsumerS_L1, e2h, ct, cf])⟩ (by first | (dsimp only; omega) | omega) (.cons rfl (.cons rfl (.cons rfl (.nil)))) .nil (.cons rfl (.nil)) [0, 1] rfl
 ·skip
  have h1d := B.df h1
  refine R0 ?_
  have hX1 : laws_toConsumerS_L1 a 0 ((List.replicate ((a).length) (Consumer.mk 0 0 (Name.mk ([])) 0 0 false (DataP.mk (Name.mk ([])) ([]) (Name.mk ([])) 0 0))) : List Consumer) = ((out) : List Consumer) := by rw [v4, List.drop_eq_nil_of_le (show (a).length ≤ i by omega)]; simp only [laws_toConsumerS_L1, ct, cf]
  refine WX.seal 7 1 25 rfl rfl (show (a).length = (out).length from by omega) rfl rfl ?_
  refine WX.slot 2 (y := .v (.slice p1 (out).length ((a).length))) rfl (fun _ => by show (Value.slice p1 ((a).length) ((a).length) : Value) = Value.slice p1 (out).length ((a).length); rw [(show (a).length = (out).length from by omega)]) ?_
  refine WX.slot 22 (y := .v (.slice p1 (out).length ((a).length))) rfl (fun _ => by show (Value.slice p1 ((a).length) ((a).length) : Value) = Value.slice p1 (out).length ((a).length); rw [(show (a).length = (out).length from by omega)]) ?_
  refine WX.slot 3 (y := .v (.slice p1 (out).length ((a).length))) rfl (fun _ => by show (Value.slice p1 ((a).length) ((a).length) : Value) = Value.slice p1 (out).length ((a).length); rw [(show (a).length = (out).length from by omega)]) ?_
  have hP1 : laws_toConsumerS a = out := by simp only [laws_toConsumerS, hX1, ct, cf]
  refine R1 ?_
  intro w1 G bs hI hΓ
  rw [hP1]
  exact Post.of [26] (p1, ((a).length)) hI hΓ rfl rfl rfl (okl_mk (by omega) v3 : GoT.ok n (out : List Consumer))
theorem f79 (w : World) (n : Nat) (hn : n + 0 ≤ 9) (a : Network) (K0 : Option Addr) (M0 : Nat) (N0 : RdSl (hp w) K0 M0 a.topology.links) (K1 : Option Addr) (M1 : Nat) (N1 : RdSl (hp w) K1 M1 a.trust.keys) (K2 : Option Addr) (M2 : Nat) (N2 : RdSl (hp w) K2 M2 a.trust.rules) (K3 : Option Addr) (M3 : Nat) (N3 : RdSl (hp w) K3 M3 a.trust.anchors) (K4 : Option Addr) (M4 : Nat) (N4 : RdSl (hp w) K4 M4 a.trust.certificates) (K5 : Option Addr) (M5 : Nat) (N5 : RdSl (hp w) K5 M5 a.producers) (K6 : Option Addr) (M6 : Nat) (N6 : RdSl (hp w) K6 M6 a.nodes) (K7 : Option Addr) (M7 : Nat) (N7 : RdSl (hp w) K7 M7 a.failedLinks) (K8 : Option Addr) (M8 : Nat) (N8 : RdSl (hp w) K8 M8 a.inFlight) (K9 : Option Addr) (M9 : Nat) (N9 : RdSl (hp w) K9 M9 a.consumers) (hoka : GoT.ok n a) :
  Does Tryz.prog 79 #[.agg #[.int .i64 (a.topology.size), .slice K0 ((a.topology.links).length) M0, .slice K1 ((a.trust.keys).length) M1, .slice K2 ((a.trust.rules).length) M2, .slice K3 ((a.trust.anchors).length) M3, .slice K4 ((a.trust.certificates).length) M4, .slice K5 ((a.producers).length) M5, .slice K6 ((a.nodes).length) M6, .int .i64 (a.downNodes), .slice K7 ((a.failedLinks).length) M7, .slice K8 ((a.inFlight).length) M8, .slice K9 ((a.consumers).length) M9, .int .i64 (a.now), .int .i64 (a.dropped)]] w emp (Post w emp (fun x : GoT.X (Network) => .agg ⟨GoT.sh ((laws_toNetwork a) : Network) x⟩) (fun x => GoT.oa ((laws_toNetwork a) : Network) x) (GoT.ok n ((laws_toNetwork a) : Network))) := by
 have hbP := bd_pos n
 have hbB := bd_big (n := n) (by omega)
 refine WX.enter (tt := tt) (Γ := [(0, MF.rs .stb K0 M0 a.topology.links), (1, MF.rs .stb K1 M1 a.trust.keys), (2, MF.rs .stb K2 M2 a.trust.rules), (3, MF.rs .stb K3 M3 a.trust.anchors), (4, MF.rs .stb K4 M4 a.trust.certificates), (5, MF.rs .stb K5 M5 a.producers), (6, MF.rs .stb K6 M6 a.nodes), (7, MF.rs .stb K7 M7 a.failedLinks), (8, MF.rs .stb K8 M8 a.inFlight), (9, MF.rs .stb K9 M9 a.consumers)]) Tryz.func79 rfl (by kernel_rfl) rfl (allS_cons rfl N0 (allS_cons rfl N1 (allS_cons rfl N2 (allS_cons rfl N3 (allS_cons rfl N4 (allS_cons rfl N5 (allS_cons rfl N6 (allS_cons rfl N7 (allS_cons rfl N8 (allS_cons rfl N9 allS_nil)))))))))) ?_
 refine R0 ?_
 refine WX.callF 10 (fun _ _ h => GoT.ow_rd h) (fun _ f hf => GoT.fak f hf) rfl rfl rfl rfl rfl (fun _ => rfl) rfl (fun w G bs hI hΓ => f189 w n (by omega) a.topology K0 M0 (hΓ.get 0 rfl) ((ok_Network hoka).1)) (fun _ => rfl) (fun _ => rfl) ?_
 rintro ⟨⟨⟩, ⟨p1, c1⟩⟩ hq1
 refine R0 ?_
 refine WX.callF 12 (fun _ _ h => GoT.ow_rd h) (fun _ f hf => GoT.fak f hf) rfl rfl rfl rfl rfl (fun _ => rfl) rfl (fun w G bs hI hΓ => f67 w n (by omega) a.trust K1 M1 (hΓ.get 1 rfl) K2 M2 (hΓ.get 2 rfl) K3 M3 (hΓ.get 3 rfl) K4 M4 (hΓ.get 4 rfl) ((ok_Network hoka).2.1)) (fun _ => rfl) (fun _ => rfl) ?_
 rintro ⟨⟨p2, c2⟩, ⟨p3, c3⟩, ⟨p4, c4⟩, ⟨p5, c5⟩⟩ hq2
 refine R0 ?_
 refine WX.callF 20 (fun _ _ h => GoT.ow_rd h) (fun _ f hf => GoT.fak f hf) rfl rfl rfl rfl rfl (fun _ => rfl) rfl (fun w G bs hI hΓ => f190 w n (by omega) a.producers K5 M5 (hΓ.get 5 rfl) ((ok_Network hoka).2.2.1)) (fun _ => rfl) (fun _ => rfl) ?_
 rintro ⟨p6, c6⟩ hq3
 refine R0 ?_
 refine WX.callF 22 (fun _ _ h => GoT.ow_rd h) (fun _ f hf => GoT.fak f hf) rfl rfl rfl rfl rfl (fun _ => rfl) rfl (fun w G bs hI hΓ => f191 w n (by omega) a.nodes K6 M6 (hΓ.get 6 rfl) ((ok_Network hoka).2.2.2.1)) (fun _ => rfl) (fun _ => rfl) ?_
 rintro ⟨p7, c7⟩ hq4
 refine R0 ?_
 refine WX.callF 24 (fun _ _ h => GoT.ow_rd h) (fun _ f hf => GoT.fak f hf) rfl rfl rfl rfl rfl (fun _ => rfl) rfl (fun w G bs hI hΓ => f192 w n (by omega) a.failedLinks K7 M7 (hΓ.get 7 rfl) ((ok_Network hoka).2.2.2.2.2.1)) (fun _ => rfl) (fun _ => rfl) ?_
 rintro ⟨p8, c8⟩ hq5
 refine R0 ?_
 refine WX.callF 26 (fun _ _ h => GoT.ow_rd h) (fun _ f hf => GoT.fak f hf) rfl rfl rfl rfl rfl (fun _ => rfl) rfl (fun w G bs hI hΓ => f193 w n (by omega) a.inFlight K8 M8 (hΓ.get 8 rfl) ((ok_Network hoka).2.2.2.2.2.2.1)) (fun _ => rfl) (fun _ => rfl) ?_
 rintro ⟨p9, c9⟩ hq6
 refine R0 ?_
 refine WX.callF 28 (fun _ _ h => GoT.ow_rd h) (fun _ f hf => GoT.fak f hf) rfl rfl rfl rfl rfl (fun _ => rfl) rfl (fun w G bs hI hΓ => f194 w n (by omega) a.consumers K9 M9 (hΓ.get 9 rfl) ((ok_Network hoka).2.2.2.2.2.2.2.1)) (fun _ => rfl) (fun _ => rfl) ?_
 rintro ⟨p10, c10⟩ hq7
 refine R0 ?_
 have hP1 : laws_toNetwork a = (Network.mk (laws_toTopology a.topology) (laws_toTrustPolicy a.trust) (laws_toTableEntryS a.producers) (laws_toNodeS a.nodes) a.downNodes (laws_toIntS a.failedLinks) (laws_toPacketInFlightS a.inFlight) (laws_toConsumerS a.consumers) a.now a.dropped) := by simp only [laws_toNetwork, ct, cf]
 refine R1 ?_
 intro w1 G bs hI hΓ
 rw [hP1]
 exact Post.of [11, 16, 17, 18, 19, 21, 23, 25, 27, 29] (((), (p1, c1)), ((p2, c2), (p3, c3), (p4, c4), (p5, c5)), (p6, c6), (p7, c7), (), (p8, c8), (p9, c9), (p10, c10), (), ()) hI hΓ rfl rfl rfl (And.intro hq1 (And.intro hq2 (And.intro hq3 (And.intro hq4 (And.intro (ok_Network hoka).2.2.2.2.1 (And.intro hq5 (And.intro hq6 (And.intro hq7 (And.intro (ok_Network hoka).2.2.2.2.2.2.2.2.1 (ok_Network hoka).2.2.2.2.2.2.2.2.2)))))))))
end Go.Proofs.YtdimfabadjfkiaaGreat

namespace Go.Stp
set_option linter.unusedVariables false
set_option linter.unusedSimpArgs false
def slices_Equal_string_L1 (s2 : (List Str)) : List Str → Nat → Option (Bool)
  | [], i => none
  | e1 :: rest_, i =>
    match (s2)[i]? with
      | none => default
      | some e2 =>
        bif (!((e1).toList == (e2).toList)) then
          (some false)
        else
          slices_Equal_string_L1 s2 rest_ (i + 1)
def slices_Equal_string (s1 : (List Str)) (s2 : (List Str)) : Bool :=
  bif ((((s1).length : Nat) : Int) != (((s2).length : Nat) : Int)) then
    false
  else
    match slices_Equal_string_L1 s2 s1 0 with
      | some r_ => r_
      | none =>
        true
def slices_Equal_byte_L1 (s2 : (List UInt8)) : List UInt8 → Nat → Option (Bool)
  | [], i => none
  | e1 :: rest_, i =>
    match (s2)[i]? with
      | none => default
      | some e2 =>
        bif (((e1).toNat : Int) != ((e2).toNat : Int)) then
          (some false)
        else
          slices_Equal_byte_L1 s2 rest_ (i + 1)
def slices_Equal_byte (s1 : (List UInt8)) (s2 : (List UInt8)) : Bool :=
  bif ((((s1).length : Nat) : Int) != (((s2).length : Nat) : Int)) then
    false
  else
    match slices_Equal_byte_L1 s2 s1 0 with
      | some r_ => r_
      | none =>
        true
def impl_EqualNames (a : Name) (b : Name) : Bool :=
  (slices_Equal_string a.parts b.parts)
def spec_l4Cmp (a : Str) (b : Str) : Int :=
  bif (Op.bytesLess (a).toList (b).toList) then
    (-1)
  else
    bif (!(Op.bytesLess (a).toList (b).toList || (a).toList == (b).toList)) then
      1
    else
      0
def spec_CompareNames_L1 (b : Name) : List Str → Nat → Option (Int)
  | [], i => none
  | e1 :: rest_, i =>
    bif decide (((i : Nat) : Int) < (((b.parts).length : Nat) : Int)) then
      match (b.parts)[i]? with
        | none => default
        | some e2 =>
          bif ((spec_l4Cmp e1 e2) != 0) then
            (some (spec_l4Cmp e1 e2))
          else
            spec_CompareNames_L1 b rest_ (i + 1)
    else
      none
def spec_CompareNames (a : Name) (b : Name) : Int :=
  match spec_CompareNames_L1 b a.parts 0 with
    | some r_ => r_
    | none =>
      bif decide ((((a.parts).length : Nat) : Int) < (((b.parts).length : Nat) : Int)) then
        (-1)
      else
        bif decide ((((a.parts).length : Nat) : Int) > (((b.parts).length : Nat) : Int)) then
          1
        else
          0
def spec_EqualNames (a : Name) (b : Name) : Bool :=
  ((spec_CompareNames a b) == 0)
def spec_EqualBytes (a : (List UInt8)) (b : (List UInt8)) : Bool :=
  (((bstr a)).toList == ((bstr b)).toList)
def impl_EqualData (a : DataP) (b : DataP) : Bool :=
  bif (impl_EqualNames a.name b.name) then
    bif (slices_Equal_byte a.content b.content) then
      bif (impl_EqualNames a.keyName b.keyName) then
        bif (a.freshUntil == b.freshUntil) then
          (a.signature == b.signature)
        else
          false
      else
        false
    else
      false
  else
    false
def spec_EqualData (a : DataP) (b : DataP) : Bool :=
  bif (spec_EqualNames a.name b.name) then
    bif (spec_EqualBytes a.content b.content) then
      bif (spec_EqualNames a.keyName b.keyName) then
        bif (a.freshUntil == b.freshUntil) then
          (a.signature == b.signature)
        else
          false
      else
        false
    else
      false
  else
    false
end Go.Stp

namespace Go.Proofs.YtdimfabadjfkiaaGreat
open Go.Stp
set_option linter.unusedVariables false
set_option linter.unusedSimpArgs false
theorem f213 (w : World) (n : Nat) (hn : n + 0 ≤ 9) (s1 : (List Str)) (K0 : Option Addr) (M0 : Nat) (N0 : RdSl (hp w) K0 M0 s1) (s2 : (List Str)) (K1 : Option Addr) (M1 : Nat) (N1 : RdSl (hp w) K1 M1 s2) (hoks1 : GoT.ok n s1) (hoks2 : GoT.ok n s2) :
  Does Tryz.prog 213 #[.slice K0 ((s1).length) M0, .slice K1 ((s2).length) M1] w emp (fun (rv : Value) (_ : World) => rv = .bool (slices_Equal_string s1 s2) ∧ True) := by
 have hbP := bd_pos n
 have hbB := bd_big (n := n) (by omega)
 refine WX.enter (tt := tt) (Γ := [(0, MF.rs .stb K0 M0 s1), (1, MF.rs .stb K1 M1 s2)]) Tryz.func213 rfl (by kernel_rfl) rfl (allS_cons rfl N0 (allS_cons rfl N1 allS_nil)) ?_
 refine R0 ?_
 refine WX.cases 10 rfl (fun h1 => ?_) (fun h1 => ?_)
 ·skip
  have h1d := B.nt' h1
  refine R0 ?_
  have hP1 : slices_Equal_string s1 s2 = false := by simp only [slices_Equal_string, h1, ct, cf]
  exact R3 hP1
 ·skip
  have h1d := B.nf' h1
  refine R0 ?_
  have r1 : (s1).length ≤ bd n := (okl hoks1).1
  refine WX.loop (ι := Nat) ⟨fun i => (i ≤ (s1).length) ∧ (slices_Equal_string_L1 s2 s1 0 = slices_Equal_string_L1 s2 ((s1).drop i) i), fun i => (s1).length - i, fun i => [(13, .v (.int .i64 (((i : Nat) : Int)))), (12, .v (.int .i64 ((((s1).length : Nat) : Int)))), (0, .v (.slice K0 ((s1).length) M0)), (1, .v (.slice K1 ((s2).length) M1))], fun i => [], fun i => [], fun i => [(0, MF.rs .stb K0 M0 s1), (1, MF.rs .stb K1 M1 s2)]⟩ 0 ⟨(Nat.zero_le _), rfl⟩
   (.cons rfl (.cons rfl (.cons rfl (.cons rfl (.nil))))) .nil .nil [0, 1] rfl ?_
  rintro i hpre
  have hpre_ : (i ≤ (s1).length) ∧ (slices_Equal_string_L1 s2 s1 0 = slices_Equal_string_L1 s2 ((s1).drop i) i) := hpre
  clear hpre
  obtain ⟨v1, v2⟩ := hpre_
  refine R0 ?_
  refine WX.cases 14 rfl (fun h2 => ?_) (fun h2 => ?_)
  ·skip
   have h2d := B.dt h2
   have e1i : i < (s1).length := (by omega)
   obtain ⟨e1, e1h⟩ : ∃ e1, (s1)[i]? = some e1 := ⟨_, List.getElem?_eq_getElem e1i⟩
   have ok1 : GoT.ok n e1 := (okl hoks1).2 _ (List.mem_of_getElem? e1h)
   refine R0 ?_
   refine WX.draw [] mixed ?_
   intro bs G0 hΓ0
   refine DX.takes (fuel := 7) ttOk [(0, true), (1, true)] (by kernel_rfl) rfl ?_
   refine DX.idx 2 0 i ttOk hΓ0 (by kernel_rfl) rfl rfl rfl rfl rfl rfl rfl rfl rfl rfl rfl e1i ?_
   rintro ad1 rfl
   refine DX.ldE 3 0 2 e1 ttOk hΓ0 (by kernel_rfl) rfl rfl rfl rfl rfl rfl rfl rfl e1h (fun _ => rfl) (fun _ => rfl) ?_
   rintro ⟨⟩
   refine DX.takes (fuel := 3) ttOk [(4, true), (5, true)] (by kernel_rfl) rfl ?_
   have e2i : i < (s2).length := (by first | assumption | omega)
   obtain ⟨e2, e2h⟩ : ∃ e2, (s2)[i]? = some e2 := ⟨_, List.getElem?_eq_getElem e2i⟩
   have ok2 : GoT.ok n e2 := (okl hoks2).2 _ (List.mem_of_getElem? e2h)
   refine DX.idx 6 1 i ttOk hΓ0 (by kernel_rfl) rfl rfl rfl rfl rfl rfl rfl rfl rfl rfl rfl e2i ?_
   rintro ad2 rfl
   refine DX.ldE 7 1 2 e2 ttOk hΓ0 (by kernel_rfl) rfl rfl rfl rfl rfl rfl rfl rfl e2h (fun _ => rfl) (fun _ => rfl) ?_
   rintro ⟨⟩
   refine DX.takes (fuel := 0) ttOk [(8, true)] (by kernel_rfl) rfl ?_
   refine DX.tail2 [] rfl rfl (by kernel_rfl) ?_
   refine R0 ?_
   refine WX.cases 24 rfl (fun h3 => ?_) (fun h3 => ?_)
   ·skip
    have h3d := B.ef (B.nt h3)
    refine R0 ?_
    have hP2 : slices_Equal_string_L1 s2 s1 0 = (some false) := by rw [v2, drop_get e1h]; simp only [slices_Equal_string_L1, e2h, h3, ct, cf]
    have hP3 : slices_Equal_string s1 s2 = false := by simp only [slices_Equal_string, h1, hP2, ct, cf]
    exact R3 hP3
   ·skip
    have h3d := B.et (B.nf h3)
    refine R0 ?_
    refine WX.see rfl rfl rfl (fun _ hΓ => looks_arith rfl rfl rfl rfl (by unfold I64; first | omega | (simp only [List.length_take] at *; omega))) ?_
    refine R0 ?_
    exact WX.iter (i + 1) ⟨(by omega), (by rw [v2, drop_get e1h]; simp only [slices_Equal_string_L1, e2h, h3, ct, cf])⟩ (by first | (dsimp only; omega) | omega) (.cons rfl (.cons rfl (.cons rfl (.cons rfl (.nil))))) .nil .nil [0, 1] rfl
  ·skip
   have h2d := B.df h2
   refine R0 ?_
   have hX1 : slices_Equal_string_L1 s2 s1 0 = none := by rw [v2, List.drop_eq_nil_of_le (show (s1).length ≤ i by omega)]; simp only [slices_Equal_string_L1, ct, cf]
   have hP4 : slices_Equal_string s1 s2 = true := by simp only [slices_Equal_string, h1, hX1, ct, cf]
   exact R3 hP4
theorem f217 (w : World) (n : Nat) (hn : n + 0 ≤ 9) (s1 : (List UInt8)) (K0 : Option Addr) (M0 : Nat) (N0 : RdSl (hp w) K0 M0 s1) (s2 : (List UInt8)) (K1 : Option Addr) (M1 : Nat) (N1 : RdSl (hp w) K1 M1 s2) (hoks1 : GoT.ok n s1) (hoks2 : GoT.ok n s2) :
  Does Tryz.prog 217 #[.slice K0 ((s1).length) M0, .slice K1 ((s2).length) M1] w emp (fun (rv : Value) (_ : World) => rv = .bool (slices_Equal_byte s1 s2) ∧ True) := by
 have hbP := bd_pos n
 have hbB := bd_big (n := n) (by omega)
 refine WX.enter (tt := tt) (Γ := [(0, MF.rs .stb K0 M0 s1), (1, MF.rs .stb K1 M1 s2)]) Tryz.func217 rfl (by kernel_rfl) rfl (allS_cons rfl N0 (allS_cons rfl N1 allS_nil)) ?_
 refine R0 ?_
 refine WX.cases 10 rfl (fun h1 => ?_) (fun h1 => ?_)
 ·skip
  have h1d := B.nt' h1
  refine R0 ?_
  have hP1 : slices_Equal_byte s1 s2 = false := by simp only [slices_Equal_byte, h1, ct, cf]
  exact R3 hP1
 ·skip
  have h1d := B.nf' h1
  refine R0 ?_
  have r1 : (s1).length ≤ bd n := (okl hoks1).1
  refine WX.loop (ι := Nat) ⟨fun i => (i ≤ (s1).length) ∧ (slices_Equal_byte_L1 s2 s1 0 = slices_Equal_byte_L1 s2 ((s1).drop i) i), fun i => (s1).length - i, fun i => [(13, .v (.int .i64 (((i : Nat) : Int)))), (12, .v (.int .i64 ((((s1).length : Nat) : Int)))), (0, .v (.slice K0 ((s1).length) M0)), (1, .v (.slice K1 ((s2).length) M1))], fun i => [], fun i => [], fun i => [(0, MF.rs .stb K0 M0 s1), (1, MF.rs .stb K1 M1 s2)]⟩ 0 ⟨(Nat.zero_le _), rfl⟩
   (.cons rfl (.cons rfl (.cons rfl (.cons rfl (.nil))))) .nil .nil [0, 1] rfl ?_
  rintro i hpre
  have hpre_ : (i ≤ (s1).length) ∧ (slices_Equal_byte_L1 s2 s1 0 = slices_Equal_byte_L1 s2 ((s1).drop i) i) := hpre
  clear hpre
  obtain ⟨v1, v2⟩ := hpre_
  refine R0 ?_
  refine WX.cases 14 rfl (fun h2 => ?_) (fun h2 => ?_)
  ·skip
   have h2d := B.dt h2
   have e1i : i < (s1).length := (by omega)
   obtain ⟨e1, e1h⟩ : ∃ e1, (s1)[i]? = some e1 := ⟨_, List.getElem?_eq_getElem e1i⟩
   refine R0 ?_
   refine WX.draw [] mixed ?_
   intro bs G0 hΓ0
   refine DX.takes (fuel := 7) ttOk [(0, true), (1, true)] (by kernel_rfl) rfl ?_
   refine DX.idx 2 0 i ttOk hΓ0 (by kernel_rfl) rfl rfl rfl rfl rfl rfl rfl rfl rfl rfl rfl e1i ?_
   rintro ad1 rfl
   refine DX.ldE 3 0 2 e1 ttOk hΓ0 (by kernel_rfl) rfl rfl rfl rfl rfl rfl rfl rfl e1h (fun _ => rfl) (fun _ => rfl) ?_
   rintro ⟨⟩
   refine DX.takes (fuel := 3) ttOk [(4, true), (5, true)] (by kernel_rfl) rfl ?_
   have e2i : i < (s2).length := (by first | assumption | omega)
   obtain ⟨e2, e2h⟩ : ∃ e2, (s2)[i]? = some e2 := ⟨_, List.getElem?_eq_getElem e2i⟩
   refine DX.idx 6 1 i ttOk hΓ0 (by kernel_rfl) rfl rfl rfl rfl rfl rfl rfl rfl rfl rfl rfl e2i ?_
   rintro ad2 rfl
   refine DX.ldE 7 1 2 e2 ttOk hΓ0 (by kernel_rfl) rfl rfl rfl rfl rfl rfl rfl rfl e2h (fun _ => rfl) (fun _ => rfl) ?_
   rintro ⟨⟩
   refine DX.takes (fuel := 0) ttOk [(8, true)] (by kernel_rfl) rfl ?_
   refine DX.tail2 [] rfl rfl (by kernel_rfl) ?_
   refine R0 ?_
   refine WX.cases 24 rfl (fun h3 => ?_) (fun h3 => ?_)
   ·skip
    have h3d := B.nt' h3
    refine R0 ?_
    have hP2 : slices_Equal_byte_L1 s2 s1 0 = (some false) := by rw [v2, drop_get e1h]; simp only [slices_Equal_byte_L1, e2h, h3, ct, cf]
    have hP3 : slices_Equal_byte s1 s2 = false := by simp only [slices_Equal_byte, h1, hP2, ct, cf]
    exact R3 hP3
   ·skip
    have h3d := B.nf' h3
    refine R0 ?_
    refine WX.see rfl rfl rfl (fun _ hΓ => looks_arith rfl rfl rfl rfl (by unfold I64; first | omega | (simp only [List.length_take] at *; omega))) ?_
    refine R0 ?_
    exact WX.iter (i + 1) ⟨(by omega), (by rw [v2, drop_get e1h]; simp only [slices_Equal_byte_L1, e2h, h3, ct, cf])⟩ (by first | (dsimp only; omega) | omega) (.cons rfl (.cons rfl (.cons rfl (.cons rfl (.nil))))) .nil .nil [0, 1] rfl
  ·skip
   have h2d := B.df h2
   refine R0 ?_
   have hX1 : slices_Equal_byte_L1 s2 s1 0 = none := by rw [v2, List.drop_eq_nil_of_le (show (s1).length ≤ i by omega)]; simp only [slices_Equal_byte_L1, ct, cf]
   have hP4 : slices_Equal_byte s1 s2 = true := by simp only [slices_Equal_byte, h1, hX1, ct, cf]
   exact R3 hP4
theorem f100 (w : World) (n : Nat) (hn : n + 0 ≤ 9) (a : Name) (pa : Option Addr) (ca : Nat) (N0 : RdSl (hp w) pa ca a.parts) (b : Name) (pb : Option Addr) (cb : Nat) (N1 : RdSl (hp w) pb cb b.parts) (hoka : GoT.ok n a) (hokb : GoT.ok n b) :
  Does Tryz.prog 100 #[.agg #[.slice pa ((a.parts).length) ca], .agg #[.slice pb ((b.parts).length) cb]] w emp (fun (rv : Value) (_ : World) => rv = .bool (impl_EqualNames a b) ∧ True) := by
 have hbP := bd_pos n
 have hbB := bd_big (n := n) (by omega)
 refine WX.enter (tt := tt) (Γ := [(0, MF.rs .stb pa ca a.parts), (1, MF.rs .stb pb cb b.parts)]) Tryz.func100 rfl (by kernel_rfl) rfl (allS_cons rfl N0 (allS_cons rfl N1 allS_nil)) ?_
 refine R0 ?_
 refine WX.callV rfl rfl rfl rfl rfl (fun _ => rfl) rfl (fun w G bs hI hΓ => f213 w n (by omega) a.parts pa ca (hΓ.get 0 rfl) b.parts pb cb (hΓ.get 1 rfl) (ok_Name hoka) (ok_Name hokb)) ?_
 intro hq1
 refine R0 ?_
 have hP1 : impl_EqualNames a b = (slices_Equal_string a.parts b.parts) := by simp only [impl_EqualNames, ct, cf]
 exact R3 hP1
theorem f305 (w : World) (n : Nat) (hn : n + 0 ≤ 9) (a : Str) (b : Str) (hoka : GoT.ok n a) (hokb : GoT.ok n b) :
  Does Tryz.prog 305 #[.string a, .string b] w emp (fun (rv : Value) (_ : World) => rv = .int .i64 ((spec_l4Cmp a b)) ∧ GoT.ok n ((spec_l4Cmp a b) : Int)) := by
 have hbP := bd_pos n
 have hbB := bd_big (n := n) (by omega)
 refine WX.enter (tt := tt) (Γ := []) Tryz.func305 rfl (by kernel_rfl) rfl allS_nil ?_
 refine R0 ?_
 refine WX.cases 5 rfl (fun h1 => ?_) (fun h1 => ?_)
 ·skip
  refine R0 ?_
  have hP1 : spec_l4Cmp a b = (-1) := by simp only [spec_l4Cmp, h1, ct, cf]
  refine R1 ?_
  intro w1 G bs hI hΓ
  rw [hP1]
  exact ⟨rfl, (show I64 (-1) from (by unfold I64; omega))⟩
 ·skip
  refine R0 ?_
  refine WX.cases 9 rfl (fun h2 => ?_) (fun h2 => ?_)
  ·skip
   refine R0 ?_
   have hP2 : spec_l4Cmp a b = 1 := by first | (simp only [spec_l4Cmp, h1, h2, ct, cf]; done) | (unfold spec_l4Cmp; rw [h2, h1]; simp only [ct, cf])
   refine R1 ?_
   intro w1 G bs hI hΓ
   rw [hP2]
   exact ⟨rfl, (show I64 1 from (by unfold I64; omega))⟩
  ·skip
   refine R0 ?_
   have hP3 : spec_l4Cmp a b = 0 := by first | (simp only [spec_l4Cmp, h1, h2, ct, cf]; done) | (unfold spec_l4Cmp; rw [h2, h1]; simp only [ct, cf])
   refine R1 ?_
   intro w1 G bs hI hΓ
   rw [hP3]
   exact ⟨rfl, (show I64 0 from (by unfold I64; omega))⟩
theorem f232 (w : World) (n : Nat) (hn : n + 0 ≤ 9) (a : Name) (pa : Option Addr) (ca : Nat) (N0 : RdSl (hp w) pa ca a.parts) (b : Name) (pb : Option Addr) (cb : Nat) (N1 : RdSl (hp w) pb cb b.parts) (hoka : GoT.ok n a) (hokb : GoT.ok n b) :
  Does Tryz.prog 232 #[.agg #[.slice pa ((a.parts).length) ca], .agg #[.slice pb ((b.parts).length) cb]] w emp (fun (rv : Value) (_ : World) => rv = .int .i64 ((spec_CompareNames a b)) ∧ GoT.ok n ((spec_CompareNames a b) : Int)) := by
 have hbP := bd_pos n
 have hbB := bd_big (n := n) (by omega)
 refine WX.enter (tt := tt) (Γ := [(0, MF.rs .stb pa ca a.parts), (1, MF.rs .stb pb cb b.parts)]) Tryz.func232 rfl (by kernel_rfl) rfl (allS_cons rfl N0 (allS_cons rfl N1 allS_nil)) ?_
 refine R0 ?_
 have r1 : (a.parts).length ≤ bd n := (okl (ok_Name hoka)).1
 refine WX.loop (ι := Nat) ⟨fun i => (i ≤ (a.parts).length) ∧ (spec_CompareNames_L1 b a.parts 0 = spec_CompareNames_L1 b ((a.parts).drop i) i), fun i => (a.parts).length - i, fun i => [(5, .v (.int .i64 (((i : Nat) : Int)))), (3, .p 3 0), (2, .p 2 0)], fun i => [(3, ⟨30, [.slice pb ((b.parts).length) cb]⟩), (2, ⟨30, [.slice pa ((a.parts).length) ca]⟩)], fun i => [], fun i => [(0, MF.rs .stb pa ca a.parts), (1, MF.rs .stb pb cb b.parts)]⟩ 0 ⟨(Nat.zero_le _), rfl⟩
  (.cons rfl (.cons rfl (.cons rfl (.nil)))) (.cons rfl (.cons rfl (.nil))) .nil [0, 1] rfl ?_
 rintro i hpre
 have hpre_ : (i ≤ (a.parts).length) ∧ (spec_CompareNames_L1 b a.parts 0 = spec_CompareNames_L1 b ((a.parts).drop i) i) := hpre
 clear hpre
 obtain ⟨v1, v2⟩ := hpre_
 refine R0 ?_
 refine WX.cases 12 rfl (fun h1 => ?_) (fun h1 => ?_)
 ·skip
  have h1d := B.dt h1
  have e1i : i < (a.parts).length := (by omega)
  obtain ⟨e1, e1h⟩ : ∃ e1, (a.parts)[i]? = some e1 := ⟨_, List.getElem?_eq_getElem e1i⟩
  have ok1 : GoT.ok n e1 := (okl (ok_Name hoka)).2 _ (List.mem_of_getElem? e1h)
  refine R0 ?_
  refine WX.cases 18 rfl (fun h2 => ?_) (fun h2 => ?_)
  ·skip
   have h2d := B.dt h2
   refine R0 ?_
   refine WX.draw [] mixed ?_
   intro bs G0 hΓ0
   refine DX.takes (fuel := 9) ttOk [(0, true), (1, false), (2, true)] (by kernel_rfl) rfl ?_
   refine DX.idx 3 0 i ttOk hΓ0 (by kernel_rfl) rfl rfl rfl rfl rfl rfl rfl rfl rfl rfl rfl e1i ?_
   rintro ad1 rfl
   refine DX.ldE 4 0 2 e1 ttOk hΓ0 (by kernel_rfl) rfl rfl rfl rfl rfl rfl rfl rfl e1h (fun _ => rfl) (fun _ => rfl) ?_
   rintro ⟨⟩
   refine DX.takes (fuel := 4) ttOk [(5, true), (6, false), (7, true)] (by kernel_rfl) rfl ?_
   have e2i : i < (b.parts).length := (by first | assumption | omega)
   obtain ⟨e2, e2h⟩ : ∃ e2, (b.parts)[i]? = some e2 := ⟨_, List.getElem?_eq_getElem e2i⟩
   have ok2 : GoT.ok n e2 := (okl (ok_Name hokb)).2 _ (List.mem_of_getElem? e2h)
   refine DX.idx 8 1 i ttOk hΓ0 (by kernel_rfl) rfl rfl rfl rfl rfl rfl rfl rfl rfl rfl rfl e2i ?_
   rintro ad2 rfl
   refine DX.ldE 9 1 2 e2 ttOk hΓ0 (by kernel_rfl) rfl rfl rfl rfl rfl rfl rfl rfl e2h (fun _ => rfl) (fun _ => rfl) ?_
   rintro ⟨⟩
   refine DX.callV 10 rfl (by kernel_rfl) rfl rfl rfl rfl rfl rfl (fun _ => rfl) rfl (fun w G bs hI hΓ => f305 w n (by omega) e1 e2 ok1 ok2) ?_
   intro hq1
   refine DX.takes (fuel := 0) ttOk [(11, true)] (by kernel_rfl) rfl ?_
   refine DX.tail2 [] rfl rfl (by kernel_rfl) ?_
   refine R0 ?_
   refine WX.cases 33 rfl (fun h3 => ?_) (fun h3 => ?_)
   ·skip
    have h3d := B.nt' h3
    refine R0 ?_
    have hP1 : spec_CompareNames_L1 b a.parts 0 = (some (spec_l4Cmp e1 e2)) := by rw [v2, drop_get e1h]; simp only [spec_CompareNames_L1, h2, e2h, h3, ct, cf]
    have hP2 : spec_CompareNames a b = (spec_l4Cmp e1 e2) := by simp only [spec_CompareNames, hP1, ct, cf]
    refine R1 ?_
    intro w1 G bs hI hΓ
    rw [hP2]
    exact ⟨rfl, hq1⟩
   ·skip
    have h3d := B.nf' h3
    refine R0 ?_
    refine WX.see rfl rfl rfl (fun _ hΓ => looks_arith rfl rfl rfl rfl (by unfold I64; first | omega | (simp only [List.length_take] at *; omega))) ?_
    refine R0 ?_
    exact WX.iter (i + 1) ⟨(by omega), (by rw [v2, drop_get e1h]; simp only [spec_CompareNames_L1, h2, e2h, h3, ct, cf])⟩ (by first | (dsimp only; omega) | omega) (.cons rfl (.cons rfl (.cons rfl (.nil)))) (.cons rfl (.cons rfl (.nil))) .nil [0, 1] rfl
  ·skip
   have h2d := B.df h2
   refine R0 ?_
   have hX1 : spec_CompareNames_L1 b a.parts 0 = none := by rw [v2, drop_get e1h]; simp only [spec_CompareNames_L1, h2, ct, cf]
   refine WX.cases 35 rfl (fun h4 => ?_) (fun h4 => ?_)
   ·skip
    have h4d := B.dt h4
    refine R0 ?_
    have hP3 : spec_CompareNames a b = (-1) := by simp only [spec_CompareNames, hX1, h4, ct, cf]
    refine R1 ?_
    intro w1 G bs hI hΓ
    rw [hP3]
    exact ⟨rfl, (show I64 (-1) from (by unfold I64; omega))⟩
   ·skip
    have h4d := B.df h4
    refine R0 ?_
    refine WX.cases 43 rfl (fun h5 => ?_) (fun h5 => ?_)
    ·skip
     have h5d := B.dt h5
     refine R0 ?_
     have hP4 : spec_CompareNames a b = 1 := by simp only [spec_CompareNames, hX1, h4, h5, ct, cf]
     refine R1 ?_
     intro w1 G bs hI hΓ
     rw [hP4]
     exact ⟨rfl, (show I64 1 from (by unfold I64; omega))⟩
    ·skip
     have h5d := B.df h5
     refine R0 ?_
     have hP5 : spec_CompareNames a b = 0 := by simp only [spec_CompareNames, hX1, h4, h5, ct, cf]
     refine R1 ?_
     intro w1 G bs hI hΓ
     rw [hP5]
     exact ⟨rfl, (show I64 0 from (by unfold I64; omega))⟩
 ·skip
  have h1d := B.df h1
  refine R0 ?_
  have hX2 : spec_CompareNames_L1 b a.parts 0 = none := by rw [v2, List.drop_eq_nil_of_le (show (a.parts).length ≤ i by omega)]; simp only [spec_CompareNames_L1, ct, cf]
  refine WX.cases 35 rfl (fun h6 => ?_) (fun h6 => ?_)
  ·skip
   have h6d := B.dt h6
   refine R0 ?_
   have hP6 : spec_CompareNames a b = (-1) := by simp only [spec_CompareNames, hX2, h6, ct, cf]
   refine R1 ?_
   intro w1 G bs hI hΓ
   rw [hP6]
   exact ⟨rfl, (show I64 (-1) from (by unfold I64; omega))⟩
  ·skip
   have h6d := B.df h6
   refine R0 ?_
   refine WX.cases 43 rfl (fun h7 => ?_) (fun h7 => ?_)
   ·skip
    have h7d := B.dt h7
    refine R0 ?_
    have hP7 : spec_CompareNames a b = 1 := by simp only [spec_CompareNames, hX2, h6, h7, ct, cf]
    refine R1 ?_
    intro w1 G bs hI hΓ
    rw [hP7]
    exact ⟨rfl, (show I64 1 from (by unfold I64; omega))⟩
   ·skip
    have h7d := B.df h7
    refine R0 ?_
    have hP8 : spec_CompareNames a b = 0 := by simp only [spec_CompareNames, hX2, h6, h7, ct, cf]
    refine R1 ?_
    intro w1 G bs hI hΓ
    rw [hP8]
    exact ⟨rfl, (show I64 0 from (by unfold I64; omega))⟩
theorem f152 (w : World) (n : Nat) (hn : n + 0 ≤ 9) (a : Name) (pa : Option Addr) (ca : Nat) (N0 : RdSl (hp w) pa ca a.parts) (b : Name) (pb : Option Addr) (cb : Nat) (N1 : RdSl (hp w) pb cb b.parts) (hoka : GoT.ok n a) (hokb : GoT.ok n b) :
  Does Tryz.prog 152 #[.agg #[.slice pa ((a.parts).length) ca], .agg #[.slice pb ((b.parts).length) cb]] w emp (fun (rv : Value) (_ : World) => rv = .bool (spec_EqualNames a b) ∧ True) := by
 have hbP := bd_pos n
 have hbB := bd_big (n := n) (by omega)
 refine WX.enter (tt := tt) (Γ := [(0, MF.rs .stb pa ca a.parts), (1, MF.rs .stb pb cb b.parts)]) Tryz.func152 rfl (by kernel_rfl) rfl (allS_cons rfl N0 (allS_cons rfl N1 allS_nil)) ?_
 refine R0 ?_
 refine WX.callV rfl rfl rfl rfl rfl (fun _ => rfl) rfl (fun w G bs hI hΓ => f232 w n (by omega) a pa ca (hΓ.get 0 rfl) b pb cb (hΓ.get 1 rfl) hoka hokb) ?_
 intro hq1
 refine R0 ?_
 have hP1 : spec_EqualNames a b = ((spec_CompareNames a b) == 0) := by simp only [spec_EqualNames, ct, cf]
 exact R3 hP1
theorem f219 (w : World) (n : Nat) (hn : n + 0 ≤ 9) (a : (List UInt8)) (pa : Option Addr) (ca : Nat) (N0 : RdSl (hp w) pa ca a) (b : (List UInt8)) (pb : Option Addr) (cb : Nat) (N1 : RdSl (hp w) pb cb b) (hoka : GoT.ok n a) (hokb : GoT.ok n b) :
  Does Tryz.prog 219 #[.slice pa ((a).length) ca, .slice pb ((b).length) cb] w emp (fun (rv : Value) (_ : World) => rv = .bool (spec_EqualBytes a b) ∧ True) := by
 refine WX.enter (tt := tt) (Γ := [(0, MF.rs .stb pa ca a), (1, MF.rs .stb pb cb b)]) Tryz.func219 rfl (by kernel_rfl) rfl (allS_cons rfl N0 (allS_cons rfl N1 allS_nil)) ?_
 refine R0 ?_
 refine WX.see rfl rfl rfl (fun _ hΓ => looks_toStr ttOk (hΓ.get 0 rfl) rfl rfl rfl rfl rfl rfl rfl rfl rfl) ?_
 refine R0 ?_
 refine WX.see rfl rfl rfl (fun _ hΓ => looks_toStr ttOk (hΓ.get 1 rfl) rfl rfl rfl rfl rfl rfl rfl rfl rfl) ?_
 refine R0 ?_
 have hP1 : spec_EqualBytes a b = (((bstr a)).toList == ((bstr b)).toList) := by simp only [spec_EqualBytes, ct, cf]
 exact R3 hP1
theorem f104 (w : World) (n : Nat) (hn : n + 0 ≤ 9) (a : DataP) (K0 : Option Addr) (M0 : Nat) (N0 : RdSl (hp w) K0 M0 a.name.parts) (K1 : Option Addr) (M1 : Nat) (N1 : RdSl (hp w) K1 M1 a.content) (K2 : Option Addr) (M2 : Nat) (N2 : RdSl (hp w) K2 M2 a.keyName.parts) (b : DataP) (K3 : Option Addr) (M3 : Nat) (N3 : RdSl (hp w) K3 M3 b.name.parts) (K4 : Option Addr) (M4 : Nat) (N4 : RdSl (hp w) K4 M4 b.content) (K5 : Option Addr) (M5 : Nat) (N5 : RdSl (hp w) K5 M5 b.keyName.parts) (hoka : GoT.ok n a) (hokb : GoT.ok n b) :
  Does Tryz.prog 104 #[.agg #[.slice K0 ((a.name.parts).length) M0, .slice K1 ((a.content).length) M1, .slice K2 ((a.keyName.parts).length) M2, .int .i64 (a.freshUntil), .int .i64 (a.signature)], .agg #[.slice K3 ((b.name.parts).length) M3, .slice K4 ((b.content).length) M4, .slice K5 ((b.keyName.parts).length) M5, .int .i64 (b.freshUntil), .int .i64 (b.signature)]] w emp (fun (rv : Value) (_ : World) => rv = .bool (impl_EqualData a b) ∧ True) := by
 have hbP := bd_pos n
 have hbB := bd_big (n := n) (by omega)
 refine WX.enter (tt := tt) (Γ := [(0, MF.rs .stb K0 M0 a.name.parts), (1, MF.rs .stb K1 M1 a.content), (2, MF.rs .stb K2 M2 a.keyName.parts), (3, MF.rs .stb K3 M3 b.name.parts), (4, MF.rs .stb K4 M4 b.content), (5, MF.rs .stb K5 M5 b.keyName.parts)]) Tryz.func104 rfl (by kernel_rfl) rfl (allS_cons rfl N0 (allS_cons rfl N1 (allS_cons rfl N2 (allS_cons rfl N3 (allS_cons rfl N4 (allS_cons rfl N5 allS_nil)))))) ?_
 refine R0 ?_
 refine WX.callV rfl rfl rfl rfl rfl (fun _ => rfl) rfl (fun w G bs hI hΓ => f100 w n (by omega) a.name K0 M0 (hΓ.get 0 rfl) b.name K3 M3 (hΓ.get 3 rfl) ((ok_DataP hoka).1) ((ok_DataP hokb).1)) ?_
 intro hq1
 refine R0 ?_
 refine WX.cases 10 rfl (fun h1 => ?_) (fun h1 => ?_)
 ·skip
  refine R0 ?_
  refine WX.callV rfl rfl rfl rfl rfl (fun _ => rfl) rfl (fun w G bs hI hΓ => f217 w n (by omega) a.content K1 M1 (hΓ.get 1 rfl) b.content K4 M4 (hΓ.get 4 rfl) ((ok_DataP hoka).2.1) ((ok_DataP hokb).2.1)) ?_
  intro hq2
  refine R0 ?_
  refine WX.cases 17 rfl (fun h2 => ?_) (fun h2 => ?_)
  ·skip
   refine R0 ?_
   refine WX.callV rfl rfl rfl rfl rfl (fun _ => rfl) rfl (fun w G bs hI hΓ => f100 w n (by omega) a.keyName K2 M2 (hΓ.get 2 rfl) b.keyName K5 M5 (hΓ.get 5 rfl) ((ok_DataP hoka).2.2.1) ((ok_DataP hokb).2.2.1)) ?_
   intro hq3
   refine R0 ?_
   refine WX.cases 24 rfl (fun h3 => ?_) (fun h3 => ?_)
   ·skip
    refine R0 ?_
    refine WX.cases 31 rfl (fun h4 => ?_) (fun h4 => ?_)
    ·skip
     have h4d := B.et h4
     refine R0 ?_
     have hP1 : impl_EqualData a b = (a.signature == b.signature) := by simp only [impl_EqualData, h1, h2, h3, h4, ct, cf]
     exact R3 hP1
    ·skip
     have h4d := B.ef h4
     refine R0 ?_
     have hP2 : impl_EqualData a b = false := by simp only [impl_EqualData, h1, h2, h3, h4, ct, cf]
     exact R3 hP2
   ·skip
    refine R0 ?_
    have hP3 : impl_EqualData a b = false := by simp only [impl_EqualData, h1, h2, h3, ct, cf]
    exact R3 hP3
  ·skip
   refine R0 ?_
   have hP4 : impl_EqualData a b = false := by simp only [impl_EqualData, h1, h2, ct, cf]
   exact R3 hP4
 ·skip
  refine R0 ?_
  have hP5 : impl_EqualData a b = false := by simp only [impl_EqualData, h1, ct, cf]
  exact R3 hP5
theorem f107 (w : World) (n : Nat) (hn : n + 0 ≤ 9) (a : DataP) (K0 : Option Addr) (M0 : Nat) (N0 : RdSl (hp w) K0 M0 a.name.parts) (K1 : Option Addr) (M1 : Nat) (N1 : RdSl (hp w) K1 M1 a.content) (K2 : Option Addr) (M2 : Nat) (N2 : RdSl (hp w) K2 M2 a.keyName.parts) (b : DataP) (K3 : Option Addr) (M3 : Nat) (N3 : RdSl (hp w) K3 M3 b.name.parts) (K4 : Option Addr) (M4 : Nat) (N4 : RdSl (hp w) K4 M4 b.content) (K5 : Option Addr) (M5 : Nat) (N5 : RdSl (hp w) K5 M5 b.keyName.parts) (hoka : GoT.ok n a) (hokb : GoT.ok n b) :
  Does Tryz.prog 107 #[.agg #[.slice K0 ((a.name.parts).length) M0, .slice K1 ((a.content).length) M1, .slice K2 ((a.keyName.parts).length) M2, .int .i64 (a.freshUntil), .int .i64 (a.signature)], .agg #[.slice K3 ((b.name.parts).length) M3, .slice K4 ((b.content).length) M4, .slice K5 ((b.keyName.parts).length) M5, .int .i64 (b.freshUntil), .int .i64 (b.signature)]] w emp (fun (rv : Value) (_ : World) => rv = .bool (spec_EqualData a b) ∧ True) := by
 have hbP := bd_pos n
 have hbB := bd_big (n := n) (by omega)
 refine WX.enter (tt := tt) (Γ := [(0, MF.rs .stb K0 M0 a.name.parts), (1, MF.rs .stb K1 M1 a.content), (2, MF.rs .stb K2 M2 a.keyName.parts), (3, MF.rs .stb K3 M3 b.name.parts), (4, MF.rs .stb K4 M4 b.content), (5, MF.rs .stb K5 M5 b.keyName.parts)]) Tryz.func107 rfl (by kernel_rfl) rfl (allS_cons rfl N0 (allS_cons rfl N1 (allS_cons rfl N2 (allS_cons rfl N3 (allS_cons rfl N4 (allS_cons rfl N5 allS_nil)))))) ?_
 refine R0 ?_
 refine WX.callV rfl rfl rfl rfl rfl (fun _ => rfl) rfl (fun w G bs hI hΓ => f152 w n (by omega) a.name K0 M0 (hΓ.get 0 rfl) b.name K3 M3 (hΓ.get 3 rfl) ((ok_DataP hoka).1) ((ok_DataP hokb).1)) ?_
 intro hq1
 refine R0 ?_
 refine WX.cases 10 rfl (fun h1 => ?_) (fun h1 => ?_)
 ·skip
  refine R0 ?_
  refine WX.callV rfl rfl rfl rfl rfl (fun _ => rfl) rfl (fun w G bs hI hΓ => f219 w n (by omega) a.content K1 M1 (hΓ.get 1 rfl) b.content K4 M4 (hΓ.get 4 rfl) ((ok_DataP hoka).2.1) ((ok_DataP hokb).2.1)) ?_
  intro hq2
  refine R0 ?_
  refine WX.cases 17 rfl (fun h2 => ?_) (fun h2 => ?_)
  ·skip
   refine R0 ?_
   refine WX.callV rfl rfl rfl rfl rfl (fun _ => rfl) rfl (fun w G bs hI hΓ => f152 w n (by omega) a.keyName K2 M2 (hΓ.get 2 rfl) b.keyName K5 M5 (hΓ.get 5 rfl) ((ok_DataP hoka).2.2.1) ((ok_DataP hokb).2.2.1)) ?_
   intro hq3
   refine R0 ?_
   refine WX.cases 24 rfl (fun h3 => ?_) (fun h3 => ?_)
   ·skip
    refine R0 ?_
    refine WX.cases 31 rfl (fun h4 => ?_) (fun h4 => ?_)
    ·skip
     have h4d := B.et h4
     refine R0 ?_
     have hP1 : spec_EqualData a b = (a.signature == b.signature) := by simp only [spec_EqualData, h1, h2, h3, h4, ct, cf]
     exact R3 hP1
    ·skip
     have h4d := B.ef h4
     refine R0 ?_
     have hP2 : spec_EqualData a b = false := by simp only [spec_EqualData, h1, h2, h3, h4, ct, cf]
     exact R3 hP2
   ·skip
    refine R0 ?_
    have hP3 : spec_EqualData a b = false := by simp only [spec_EqualData, h1, h2, h3, ct, cf]
    exact R3 hP3
  ·skip
   refine R0 ?_
   have hP4 : spec_EqualData a b = false := by simp only [spec_EqualData, h1, h2, ct, cf]
   exact R3 hP4
 ·skip
  refine R0 ?_
  have hP5 : spec_EqualData a b = false := by simp only [spec_EqualData, h1, ct, cf]
  exact R3 hP5
end Go.Proofs.YtdimfabadjfkiaaGreat

namespace Go.Stp
set_option linter.unusedVariables false
set_option linter.unusedSimpArgs false
def impl_ValidPart_L1 : List UInt8 → Option (Bool)
  | [] => none
  | e1 :: rest_ =>
    bif decide (((e1).toNat : Int) ≥ 97) then
      bif decide (((e1).toNat : Int) ≤ 122) then
        impl_ValidPart_L1 rest_
      else
        bif decide (((e1).toNat : Int) ≥ 48) then
          bif decide (((e1).toNat : Int) ≤ 57) then
            impl_ValidPart_L1 rest_
          else
            bif (!(((e1).toNat : Int) == 45)) then
              (some false)
            else
              impl_ValidPart_L1 rest_
        else
          bif (!(((e1).toNat : Int) == 45)) then
            (some false)
          else
            impl_ValidPart_L1 rest_
    else
      bif decide (((e1).toNat : Int) ≥ 48) then
        bif decide (((e1).toNat : Int) ≤ 57) then
          impl_ValidPart_L1 rest_
        else
          bif (!(((e1).toNat : Int) == 45)) then
            (some false)
          else
            impl_ValidPart_L1 rest_
      else
        bif (!(((e1).toNat : Int) == 45)) then
          (some false)
        else
          impl_ValidPart_L1 rest_
def impl_ValidPart (s : Str) : Bool :=
  match impl_ValidPart_L1 ((s).data.toList) with
    | some r_ => r_
    | none =>
      (impl_InRange (((s).size : Nat) : Int) 1 8)
def spec_ValidPart_L1 : List UInt8 → Option (Bool)
  | [] => none
  | e1 :: rest_ =>
    bif (!(spec_l1In ((e1).toNat : Int) 97 122)) then
      bif (!(spec_l1In ((e1).toNat : Int) 48 57)) then
        bif (((e1).toNat : Int) != 45) then
          (some false)
        else
          spec_ValidPart_L1 rest_
      else
        spec_ValidPart_L1 rest_
    else
      spec_ValidPart_L1 rest_
def spec_ValidPart (s : Str) : Bool :=
  bif (!(spec_l1In (((s).size : Nat) : Int) 1 8)) then
    false
  else
    match spec_ValidPart_L1 ((s).data.toList) with
      | some r_ => r_
      | none =>
        true
def slices_IndexFunc_string_L1 (fq : Str → Bool) : List Str → Nat → Option (Int)
  | [], i => none
  | e1 :: rest_, i =>
    bif fq e1 then
      (some ((i : Nat) : Int))
    else
      slices_IndexFunc_string_L1 fq rest_ (i + 1)
def slices_IndexFunc_string (s : (List Str)) (fq : Str → Bool) : Int :=
  match slices_IndexFunc_string_L1 fq s 0 with
    | some r_ => r_
    | none =>
      (-1)
def slices_ContainsFunc_string (s : (List Str)) (fq : Str → Bool) : Bool :=
  (decide ((slices_IndexFunc_string s fq) ≥ 0))
def impl_ValidName_c1 (p_ : Str) : Bool :=
  (!(impl_ValidPart p_))
def impl_ValidName (n_ : Name) : Bool :=
  bif decide ((((n_.parts).length : Nat) : Int) ≤ 6) then
    (!(slices_ContainsFunc_string n_.parts (fun e0_ => (impl_ValidName_c1 e0_))))
  else
    false
def spec_ValidName_L1 : List Str → Option (Bool)
  | [] => none
  | e1 :: rest_ =>
    bif (!(spec_ValidPart e1)) then
      (some false)
    else
      spec_ValidName_L1 rest_
def spec_ValidName (n_ : Name) : Bool :=
  match spec_ValidName_L1 n_.parts with
    | some r_ => r_
    | none =>
      (decide ((((n_.parts).length : Nat) : Int) ≤ 6))
def impl_ValidData (x_ : DataP) : Bool :=
  bif (impl_ValidName x_.name) then
    bif decide ((((x_.name.parts).length : Nat) : Int) > 0) then
      bif decide ((((x_.content).length : Nat) : Int) ≤ 60) then
        bif (impl_ValidName x_.keyName) then
          bif (impl_InRange x_.freshUntil 0 100000) then
            (impl_InRange x_.signature 0 2147483646)
          else
            false
        else
          false
      else
        false
    else
      false
  else
    false
def spec_ValidData (x_ : DataP) : Bool :=
  bif (spec_ValidName x_.name) then
    bif decide ((((x_.name.parts).length : Nat) : Int) > 0) then
      bif decide ((((x_.content).length : Nat) : Int) ≤ 60) then
        bif (spec_ValidName x_.keyName) then
          bif (spec_l1In x_.freshUntil 0 100000) then
            (spec_l1In x_.signature 0 2147483646)
          else
            false
        else
          false
      else
        false
    else
      false
  else
    false
def impl_ValidConsumer (a : Consumer) : Bool :=
  bif (!(impl_InRange a.node 0 5)) then
    false
  else
    bif (!(impl_InRange a.index 0 7)) then
      false
    else
      bif (!(impl_ValidName a.name)) then
        false
      else
        bif ((((a.name.parts).length : Nat) : Int) == 0) then
          false
        else
          bif (!(impl_InRange a.attempts 0 900)) then
            false
          else
            bif (!(impl_InRange a.wait 0 5)) then
              false
            else
              bif a.satisfied then
                bif (impl_ValidData a.data) then
                  (impl_EqualNames a.data.name a.name)
                else
                  false
              else
                (impl_EqualData a.data (DataP.mk (Name.mk ([])) ([]) (Name.mk ([])) 0 0))
def spec_ValidConsumer (a : Consumer) : Bool :=
  bif (!(spec_l1In a.node 0 5)) then
    false
  else
    bif (!(spec_l1In a.index 0 7)) then
      false
    else
      bif (!(spec_ValidName a.name)) then
        false
      else
        bif ((((a.name.parts).length : Nat) : Int) == 0) then
          false
        else
          bif (!(spec_l1In a.attempts 0 900)) then
            false
          else
            bif (!(spec_l1In a.wait 0 5)) then
              false
            else
              bif a.satisfied then
                bif (spec_ValidData a.data) then
                  (spec_EqualNames a.data.name a.name)
                else
                  false
              else
                (spec_EqualData a.data (DataP.mk (Name.mk ([])) ([]) (Name.mk ([])) 0 0))
end Go.Stp

