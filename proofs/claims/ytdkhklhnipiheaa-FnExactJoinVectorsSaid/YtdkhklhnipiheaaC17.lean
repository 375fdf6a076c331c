/-
  That functions of the program compute what the Lean functions do. No condition but what each says. Written by a program (gen2.py).
-/
import Derived.Test.YtdkhklhnipiheaaC16
import Derived.Test.YtdkhklhnipiheaaP17
namespace Go.Proofs.Ytdkhklhnipiheaa
open Go.Stp
set_option linter.unusedVariables false
set_option linter.unusedSimpArgs false
theorem f26 (w : World) (n : Nat) (hn : n + 2 ≤ 9) (a : StateVector) (pa : Option Addr) (ca : Nat) (hpa : RdSl (hp w) pa ca a.entries) (b : StateVector) (pb : Option Addr) (cb : Nat) (hpb : RdSl (hp w) pb cb b.entries) (hoka : GoT.ok n a) (hokb : GoT.ok n b) :
    Does Try.prog 26 #[.agg #[.slice pa ((a.entries).length) ca], .agg #[.slice pb ((b.entries).length) cb]] w emp (Post w emp (fun x : GoT.X (StateVector) => .agg ⟨GoT.sh ((impl_JoinVectors a b) : StateVector) x⟩) (fun x => GoT.oa ((impl_JoinVectors a b) : StateVector) x) (GoT.ok (n + 1) ((impl_JoinVectors a b) : StateVector))) := by
  have hbP := bd_pos n
  have hbS0 : bd (n + 1) = 4 * bd (n) := bd_succ (n := n) (by omega)
  have hbS1 : bd (n + 2) = 4 * bd (n + 1) := bd_succ (n := n + 1) (by omega)
  have hbB := bd_big (n := (n + 2)) (by omega)
  have hbM := bd_mono (show n ≤ n + 2 by omega)
  refine WX.enter (tt := tt) (Γ := [(0, MF.rs .stb pa ca a.entries), (1, MF.rs .stb pb cb b.entries)]) Try.func26 rfl (by kernel_rfl) rfl (allS_cons rfl hpa (allS_cons rfl hpb allS_nil)) ?_
  refine WX.run ttOk rfl ?_
  refine WX.callF 2 (fun _ _ h => GoT.ow_rd h) (fun _ f hf => GoT.fak f hf) rfl rfl rfl rfl rfl (fun _ => rfl) rfl (fun w G bs hI hΓ => f58 w n (by omega) a.entries pa ca (hΓ.get 0 rfl) (ok_StateVector hoka)) (fun _ => rfl) (fun _ => rfl) ?_
  rintro ⟨p1, c1⟩ hq1
  have q1 := len_copyTable a.entries
  refine WX.run ttOk rfl ?_
  have r1 : (b.entries).length ≤ bd n := (okl (ok_StateVector hokb)).1
  have hA0 : a.entries.length ≤ bd n := (okl (ok_StateVector hoka)).1
  refine WX.loop (ι := Nat × (Option Addr) × Nat × (List TableEntry)) ⟨fun | (i, pout, cout, out) => (i ≤ (b.entries).length) ∧ (out.length ≤ bd (n + 1) ∧ ∀ z_ ∈ out, GoT.ok (n + 1) z_) ∧ (out.length ≤ i + ((impl_copyTable a.entries)).length) ∧ (impl_JoinVectors_L1 b.entries ((impl_copyTable a.entries) : List TableEntry) = impl_JoinVectors_L1 ((b.entries).drop i) out), fun | (i, pout, cout, out) => (b.entries).length - i, fun | (i, pout, cout, out) => [(15, .v (.int .i64 (((i : Nat) : Int)))), (14, .v (.int .i64 ((((b.entries).length : Nat) : Int)))), (13, .v (.slice pb ((b.entries).length) cb)), (5, .p 5 0), (4, .p 4 0)], fun | (i, pout, cout, out) => [(5, ⟨35, [.slice pout ((out).length) cout]⟩), (4, ⟨35, [.slice none (0) 0]⟩)], fun | (i, pout, cout, out) => [], fun | (i, pout, cout, out) => [(0, MF.rs .stb pa ca a.entries), (1, MF.rs .stb pb cb b.entries), (3, MF.os pout cout out)]⟩ (0, p1, c1, ((impl_copyTable a.entries) : List TableEntry)) ⟨(Nat.zero_le _), (GoT.okm (α := List TableEntry) (by omega) hq1), (by simp), rfl⟩
    (.cons rfl (.cons rfl (.cons rfl (.cons rfl (.cons rfl (.nil)))))) (.cons rfl (.cons rfl (.nil))) .nil [0, 1, 3] rfl ?_
  rintro ⟨i, pout, cout, out⟩ hpre
  have hpre_ : (i ≤ (b.entries).length) ∧ (out.length ≤ bd (n + 1) ∧ ∀ z_ ∈ out, GoT.ok (n + 1) z_) ∧ (out.length ≤ i + ((impl_copyTable a.entries)).length) ∧ (impl_JoinVectors_L1 b.entries ((impl_copyTable a.entries) : List TableEntry) = impl_JoinVectors_L1 ((b.entries).drop i) out) := hpre
  clear hpre
  obtain ⟨v1, v2, v3, v4⟩ := hpre_
  have v2L := v2.1
  refine WX.run ttOk rfl ?_
  refine WX.cases 16 rfl (fun h1 => ?_) (fun h1 => ?_)
  · skip
    have h1d := B.dt h1
    have e1i : i < (b.entries).length := (by omega)
    obtain ⟨e1, e1h⟩ : ∃ e1, (b.entries)[i]? = some e1 := ⟨_, List.getElem?_eq_getElem e1i⟩
    have ok1 : GoT.ok n e1 := (okl (ok_StateVector hokb)).2 _ (List.mem_of_getElem? e1h)
    refine WX.run ttOk rfl ?_
    refine WX.idx 1 i ttOk rfl rfl rfl rfl rfl rfl rfl rfl rfl rfl e1i ?_
    rintro ad1 rfl
    refine WX.ldE 1 4 e1 ttOk rfl rfl rfl rfl rfl rfl rfl rfl e1h (fun _ => rfl) (fun _ => rfl) ?_
    rintro ⟨⟨p2, c2⟩, ⟨⟩⟩
    refine WX.run ttOk rfl ?_
    refine WX.der 5 (MF.rs .der pout cout out) rfl (fun _ hΓ => (hΓ.get 3 rfl : OwSl _ _ _ _).rd) ?_
    refine WX.draw [] mixed ?_
    intro bs G0 hΓ0
    refine DX.takes (fuel := 2) ttOk [(0, true), (1, false), (2, false), (3, true), (4, false)] (by kernel_rfl) rfl ?_
    refine DX.callV 5 rfl (by kernel_rfl) rfl rfl rfl rfl rfl rfl (fun _ => rfl) rfl (fun w G bs hI hΓ => f59 w (n + 1) (by omega) (StateVector.mk out) pout cout (hΓ.get 5 rfl) e1.name p2 c2 (hΓ.get 4 rfl) (okl_of v2) (GoT.okm (α := List Str) (by omega) (ok_Name (ok_TableEntry ok1).1))) ?_
    intro hq2
    refine DX.takes (fuel := 0) ttOk [(6, true)] (by kernel_rfl) rfl ?_
    refine DX.tail2 [] rfl rfl (by kernel_rfl) ?_
    refine WX.run ttOk rfl ?_
    refine WX.cases 25 rfl (fun h2 => ?_) (fun h2 => ?_)
    · skip
      have h2d := B.dt h2
      refine WX.run ttOk rfl ?_
      refine WX.callF 6 (fun _ _ h => GoT.ow_rd h) (fun _ f hf => GoT.fak f hf) rfl rfl rfl rfl rfl (fun _ => rfl) rfl (fun w G bs hI hΓ => f60 w (n + 1) (by omega) out pout cout (hΓ.get 5 rfl) e1.name p2 c2 (hΓ.get 4 rfl) e1.value (okl_of v2) (GoT.okm (α := List Str) (by omega) (ok_Name (ok_TableEntry ok1).1)) ((ok_TableEntry ok1).2)) (fun _ => rfl) (fun _ => rfl) ?_
      rintro ⟨p3, c3⟩ hq3
      have q2 := (put_impl out e1.name e1.value).len
      have hfx1 := (put_impl out e1.name e1.value).els (k := (n + 1)) v2.2 (GoT.okm (α := List Str) (by omega) (ok_Name (ok_TableEntry ok1).1)) (ok_TableEntry ok1).2
      refine WX.run ttOk rfl ?_
      refine WX.see rfl rfl rfl (fun _ hΓ => looks_arith rfl rfl rfl rfl (by unfold I64; first | omega | (dsimp only; omega))) ?_
      refine WX.run ttOk rfl ?_
      refine WX.turn [7] 3 rfl (fun _ h => h) rfl ?_
      have r2 : -9223372036854775808 ≤ e1.value ∧ e1.value ≤ 9223372036854775807 := (ok_TableEntry ok1).2
      have r3 : ((impl_PutEntry out e1.name e1.value).1).length ≤ bd (n + 2) := (okl hq3).1
      exact WX.iter (i + 1, p3, c3, (impl_PutEntry out e1.name e1.value).1) ⟨(by omega), (okl_mk (by omega) hfx1 : GoT.ok (n + 1) ((impl_PutEntry out e1.name e1.value).1 : List TableEntry)), (by first | assumption | omega | (simp only [List.length_append, List.length_cons, List.length_nil, List.length_set, List.length_map, List.length_take, List.length_drop]; omega) | (simp; omega)), (by rw [v4, drop_get e1h]; simp only [impl_JoinVectors_L1, h2, cond_true, cond_false])⟩ (by dsimp only; omega) (.cons rfl (.cons rfl (.cons rfl (.cons rfl (.cons rfl (.nil)))))) (.cons rfl (.cons rfl (.nil))) .nil [0, 1, 3] rfl
    · skip
      have h2d := B.df h2
      refine WX.run ttOk rfl ?_
      refine WX.see rfl rfl rfl (fun _ hΓ => looks_arith rfl rfl rfl rfl (by unfold I64; first | omega | (dsimp only; omega))) ?_
      refine WX.run ttOk rfl ?_
      exact WX.iter (i + 1, pout, cout, out) ⟨(by omega), (okl_of v2), (by first | assumption | omega | (simp only [List.length_append, List.length_cons, List.length_nil, List.length_set, List.length_map, List.length_take, List.length_drop]; omega) | (simp; omega)), (by rw [v4, drop_get e1h]; simp only [impl_JoinVectors_L1, h2, cond_true, cond_false])⟩ (by dsimp only; omega) (.cons rfl (.cons rfl (.cons rfl (.cons rfl (.cons rfl (.nil)))))) (.cons rfl (.cons rfl (.nil))) .nil [0, 1, 3] rfl
  · skip
    have h1d := B.df h1
    refine WX.run ttOk rfl ?_
    have hX1 : impl_JoinVectors_L1 b.entries ((impl_copyTable a.entries) : List TableEntry) = ((out) : List TableEntry) := by rw [v4, List.drop_eq_nil_of_le (show (b.entries).length ≤ i by omega)]; simp only [impl_JoinVectors_L1, cond_true, cond_false]
    have hP1 : impl_JoinVectors a b = (StateVector.mk out) := by simp only [impl_JoinVectors, hX1, cond_true, cond_false]
    refine WX.ret ttOk rfl ?_
    intro w1 G bs hI hΓ
    rw [hP1]
    exact Post.of [3] (pout, cout) hI hΓ rfl rfl rfl (okl_of v2)
theorem f25 (w : World) (n : Nat) (hn : n + 4 ≤ 9) (a : StateVector) (pa : Option Addr) (ca : Nat) (hpa : RdSl (hp w) pa ca a.entries) (b : StateVector) (pb : Option Addr) (cb : Nat) (hpb : RdSl (hp w) pb cb b.entries) (hoka : GoT.ok n a) (hokb : GoT.ok n b) :
    Does Try.prog 25 #[.agg #[.slice pa ((a.entries).length) ca], .agg #[.slice pb ((b.entries).length) cb]] w emp (Post w emp (fun x : GoT.X (StateVector) => .agg ⟨GoT.sh ((spec_JoinVectors a b) : StateVector) x⟩) (fun x => GoT.oa ((spec_JoinVectors a b) : StateVector) x) (GoT.ok (n + 1) ((spec_JoinVectors a b) : StateVector))) := by
  have hbP := bd_pos n
  have hbS0 : bd (n + 1) = 4 * bd (n) := bd_succ (n := n) (by omega)
  have hbS1 : bd (n + 2) = 4 * bd (n + 1) := bd_succ (n := n + 1) (by omega)
  have hbS2 : bd (n + 3) = 4 * bd (n + 2) := bd_succ (n := n + 2) (by omega)
  have hbS3 : bd (n + 4) = 4 * bd (n + 3) := bd_succ (n := n + 3) (by omega)
  have hbB := bd_big (n := (n + 4)) (by omega)
  have hbM := bd_mono (show n ≤ n + 4 by omega)
  refine WX.enter (tt := tt) (Γ := [(0, MF.rs .stb pa ca a.entries), (1, MF.rs .stb pb cb b.entries)]) Try.func25 rfl (by kernel_rfl) rfl (allS_cons rfl hpa (allS_cons rfl hpb allS_nil)) ?_
  refine WX.run ttOk rfl ?_
  refine WX.callF 2 (fun _ _ h => GoT.ow_rd h) (fun _ f hf => GoT.fak f hf) rfl rfl rfl rfl rfl (fun _ => rfl) rfl (fun w G bs hI hΓ => f55 w n (by omega) a.entries pa ca (hΓ.get 0 rfl) (ok_StateVector hoka)) (fun _ => rfl) (fun _ => rfl) ?_
  rintro ⟨p1, c1⟩ hq1
  have q1 := len_l6Copy a.entries
  refine WX.run ttOk rfl ?_
  have r1 : (b.entries).length ≤ bd n := (okl (ok_StateVector hokb)).1
  have hA0 : a.entries.length ≤ bd n := (okl (ok_StateVector hoka)).1
  refine WX.loop (ι := (Option Addr) × Nat × (List TableEntry) × Nat) ⟨fun | (pl, cl, l, i) => (i ≤ (b.entries).length) ∧ (l.length ≤ bd (n + 1) ∧ ∀ z_ ∈ l, GoT.ok (n + 1) z_) ∧ (l.length ≤ i + ((spec_l6Copy a.entries)).length) ∧ (spec_JoinVectors_L1 b.entries ((spec_l6Copy a.entries) : List TableEntry) = spec_JoinVectors_L1 ((b.entries).drop i) l), fun | (pl, cl, l, i) => (b.entries).length - i, fun | (pl, cl, l, i) => [(5, .v (.slice pl ((l).length) cl)), (6, .v (.int .i64 (((i : Nat) : Int)))), (4, .p 4 0), (3, .p 3 0)], fun | (pl, cl, l, i) => [(4, ⟨35, [.slice none (0) 0]⟩), (3, ⟨35, [.slice pb ((b.entries).length) cb]⟩)], fun | (pl, cl, l, i) => [], fun | (pl, cl, l, i) => [(0, MF.rs .stb pa ca a.entries), (1, MF.rs .stb pb cb b.entries), (3, MF.os pl cl l)]⟩ (p1, c1, ((spec_l6Copy a.entries) : List TableEntry), 0) ⟨(Nat.zero_le _), (GoT.okm (α := List TableEntry) (by omega) hq1), (by simp), rfl⟩
    (.cons rfl (.cons rfl (.cons rfl (.cons rfl (.nil))))) (.cons rfl (.cons rfl (.nil))) .nil [0, 1, 3] rfl ?_
  rintro ⟨pl, cl, l, i⟩ hpre
  have hpre_ : (i ≤ (b.entries).length) ∧ (l.length ≤ bd (n + 1) ∧ ∀ z_ ∈ l, GoT.ok (n + 1) z_) ∧ (l.length ≤ i + ((spec_l6Copy a.entries)).length) ∧ (spec_JoinVectors_L1 b.entries ((spec_l6Copy a.entries) : List TableEntry) = spec_JoinVectors_L1 ((b.entries).drop i) l) := hpre
  clear hpre
  obtain ⟨v1, v2, v3, v4⟩ := hpre_
  have v2L := v2.1
  refine WX.run ttOk rfl ?_
  refine WX.cases 16 rfl (fun h1 => ?_) (fun h1 => ?_)
  · skip
    have h1d := B.dt h1
    have e1i : i < (b.entries).length := (by omega)
    obtain ⟨e1, e1h⟩ : ∃ e1, (b.entries)[i]? = some e1 := ⟨_, List.getElem?_eq_getElem e1i⟩
    have ok1 : GoT.ok n e1 := (okl (ok_StateVector hokb)).2 _ (List.mem_of_getElem? e1h)
    refine WX.run ttOk rfl ?_
    refine WX.der 4 (MF.rs .der pl cl l) rfl (fun _ hΓ => (hΓ.get 3 rfl : OwSl _ _ _ _).rd) ?_
    refine WX.draw [] mixed ?_
    intro bs G0 hΓ0
    refine DX.takes (fuel := 13) ttOk [(0, true), (1, false), (2, true)] (by kernel_rfl) rfl ?_
    refine DX.idx 3 1 i ttOk hΓ0 (by kernel_rfl) rfl rfl rfl rfl rfl rfl rfl rfl rfl rfl rfl e1i ?_
    rintro ad1 rfl
    refine DX.takes (fuel := 11) ttOk [(4, true)] (by kernel_rfl) rfl ?_
    refine DX.ldE 5 1 5 e1 ttOk hΓ0 (by kernel_rfl) rfl rfl rfl rfl rfl rfl rfl rfl e1h (fun _ => rfl) (fun _ => rfl) ?_
    rintro ⟨⟨p2, c2⟩, ⟨⟩⟩
    refine DX.takes (fuel := 5) ttOk [(6, true), (7, true), (8, true), (9, false), (10, true)] (by kernel_rfl) rfl ?_
    refine DX.idx 11 1 i ttOk hΓ0 (by kernel_rfl) rfl rfl rfl rfl rfl rfl rfl rfl rfl rfl rfl e1i ?_
    rintro ad2 ⟨⟩
    refine DX.takes (fuel := 3) ttOk [(12, true)] (by kernel_rfl) rfl ?_
    refine DX.ldE 13 1 6 e1 ttOk hΓ0 (by kernel_rfl) rfl rfl rfl rfl rfl rfl rfl rfl e1h (fun _ => rfl) (fun _ => rfl) ?_
    rintro ⟨⟨p3, c3⟩, ⟨⟩⟩
    refine DX.callV 14 rfl (by kernel_rfl) rfl rfl rfl rfl rfl rfl (fun _ => rfl) rfl (fun w G bs hI hΓ => f56 w (n + 1) (by omega) (StateVector.mk l) pl cl (hΓ.get 4 rfl) e1.name p3 c3 (hΓ.get 6 rfl) (okl_of v2) (GoT.okm (α := List Str) (by omega) (ok_Name (ok_TableEntry ok1).1))) ?_
    intro hq2
    refine DX.takes (fuel := 0) ttOk [(15, true)] (by kernel_rfl) rfl ?_
    refine DX.tail2 [] rfl rfl (by kernel_rfl) ?_
    refine WX.run ttOk rfl ?_
    refine WX.cases 34 rfl (fun h2 => ?_) (fun h2 => ?_)
    · skip
      have h2d := B.dt h2
      refine WX.run ttOk rfl ?_
      refine WX.draw [] mixed ?_
      intro bs G0 hΓ0
      refine DX.takes (fuel := 15) ttOk [(0, true), (1, true), (2, false), (3, true)] (by kernel_rfl) rfl ?_
      refine DX.idx 4 1 i ttOk hΓ0 (by kernel_rfl) rfl rfl rfl rfl rfl rfl rfl rfl rfl rfl rfl e1i ?_
      rintro ad3 ⟨⟩
      refine DX.takes (fuel := 13) ttOk [(5, true)] (by kernel_rfl) rfl ?_
      refine DX.ldE 6 1 7 e1 ttOk hΓ0 (by kernel_rfl) rfl rfl rfl rfl rfl rfl rfl rfl e1h (fun _ => rfl) (fun _ => rfl) ?_
      rintro ⟨⟨p4, c4⟩, ⟨⟩⟩
      refine DX.takes (fuel := 9) ttOk [(7, true), (8, false), (9, true)] (by kernel_rfl) rfl ?_
      refine DX.idx 10 1 i ttOk hΓ0 (by kernel_rfl) rfl rfl rfl rfl rfl rfl rfl rfl rfl rfl rfl e1i ?_
      rintro ad4 ⟨⟩
      refine DX.takes (fuel := 7) ttOk [(11, true)] (by kernel_rfl) rfl ?_
      refine DX.ldE 12 1 8 e1 ttOk hΓ0 (by kernel_rfl) rfl rfl rfl rfl rfl rfl rfl rfl e1h (fun _ => rfl) (fun _ => rfl) ?_
      rintro ⟨⟨p5, c5⟩, ⟨⟩⟩
      refine DX.callF 13 9 (fun _ _ h => GoT.ow_rd h) (fun _ f hf => GoT.fak f hf) rfl (by kernel_rfl) rfl rfl rfl rfl rfl rfl (fun _ => rfl) rfl (fun w G bs hI hΓ => f57 w (n + 1) (by omega) l pl cl (hΓ.get 4 rfl) e1.name p4 c4 (hΓ.get 7 rfl) e1.value (okl_of v2) (GoT.okm (α := List Str) (by omega) (ok_Name (ok_TableEntry ok1).1)) ((ok_TableEntry ok1).2)) (fun _ => rfl) (fun _ => rfl) ?_
      rintro ⟨p6, c6⟩ hq3
      have q2 := (put_spec l e1.name e1.value).len
      have hfx1 := (put_spec l e1.name e1.value).els (k := (n + 1)) v2.2 (GoT.okm (α := List Str) (by omega) (ok_Name (ok_TableEntry ok1).1)) (ok_TableEntry ok1).2
      refine DX.takes (fuel := 0) ttOk [(14, true), (15, true), (16, true), (17, true), (18, true)] (by kernel_rfl) rfl ?_
      refine DX.tail2 [] rfl rfl (by kernel_rfl) ?_
      refine WX.run ttOk rfl ?_
      refine WX.see rfl rfl rfl (fun _ hΓ => looks_arith rfl rfl rfl rfl (by unfold I64; first | omega | (dsimp only; omega))) ?_
      refine WX.run ttOk rfl ?_
      refine WX.turn [10] 3 rfl (fun _ h => h) rfl ?_
      have r2 : -9223372036854775808 ≤ e1.value ∧ e1.value ≤ 9223372036854775807 := (ok_TableEntry ok1).2
      have r3 : ((spec_PutEntry l e1.name e1.value).1).length ≤ bd (n + 4) := (okl hq3).1
      exact WX.iter (p6, c6, (spec_PutEntry l e1.name e1.value).1, i + 1) ⟨(by omega), (okl_mk (by omega) hfx1 : GoT.ok (n + 1) ((spec_PutEntry l e1.name e1.value).1 : List TableEntry)), (by first | assumption | omega | (simp only [List.length_append, List.length_cons, List.length_nil, List.length_set, List.length_map, List.length_take, List.length_drop]; omega) | (simp; omega)), (by rw [v4, drop_get e1h]; simp only [spec_JoinVectors_L1, h2, cond_true, cond_false])⟩ (by dsimp only; omega) (.cons rfl (.cons rfl (.cons rfl (.cons rfl (.nil))))) (.cons rfl (.cons rfl (.nil))) .nil [0, 1, 3] rfl
    · skip
      have h2d := B.df h2
      refine WX.run ttOk rfl ?_
      refine WX.see rfl rfl rfl (fun _ hΓ => looks_arith rfl rfl rfl rfl (by unfold I64; first | omega | (dsimp only; omega))) ?_
      refine WX.run ttOk rfl ?_
      exact WX.iter (pl, cl, l, i + 1) ⟨(by omega), (okl_of v2), (by first | assumption | omega | (simp only [List.length_append, List.length_cons, List.length_nil, List.length_set, List.length_map, List.length_take, List.length_drop]; omega) | (simp; omega)), (by rw [v4, drop_get e1h]; simp only [spec_JoinVectors_L1, h2, cond_true, cond_false])⟩ (by dsimp only; omega) (.cons rfl (.cons rfl (.cons rfl (.cons rfl (.nil))))) (.cons rfl (.cons rfl (.nil))) .nil [0, 1, 3] rfl
  · skip
    have h1d := B.df h1
    refine WX.run ttOk rfl ?_
    have hX1 : spec_JoinVectors_L1 b.entries ((spec_l6Copy a.entries) : List TableEntry) = ((l) : List TableEntry) := by rw [v4, List.drop_eq_nil_of_le (show (b.entries).length ≤ i by omega)]; simp only [spec_JoinVectors_L1, cond_true, cond_false]
    have hP1 : spec_JoinVectors a b = (StateVector.mk l) := by simp only [spec_JoinVectors, hX1, cond_true, cond_false]
    refine WX.ret ttOk rfl ?_
    intro w1 G bs hI hΓ
    rw [hP1]
    exact Post.of [3] (pl, cl) hI hΓ rfl rfl rfl (okl_of v2)
end Go.Proofs.Ytdkhklhnipiheaa
