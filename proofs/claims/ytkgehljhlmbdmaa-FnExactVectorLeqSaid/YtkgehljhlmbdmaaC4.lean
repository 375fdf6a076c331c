/-
  Contracts of functions of the program: what each returns, for all arguments. Written by a program (gen.py) out of annotations.
-/
import Derived.Test.YtkgehljhlmbdmaaC3
import Derived.Test.YtkgehljhlmbdmaaFun
namespace Go.Proofs.Ytkgehljhlmbdmaa
open Go.Stp
set_option linter.unusedVariables false
set_option linter.unusedSimpArgs false
theorem f74 (w : World) (a : Str) (b : Str) :
    Does Try.prog 74 #[.string (a), .string (b)] w (fun rv _ => rv = .int .i64 (cmpTx a b)) := by
  refine WX.enter (tt := tt) (Γ := []) Try.func74 rfl (by kernel_rfl) rfl allK_nil ?_
  refine WX.run ttOk rfl ?_
  refine WX.cases 5 rfl (fun h1 => ?_) (fun h1 => ?_)
  · skip
    refine WX.run ttOk rfl ?_
    refine WX.ret ttOk rfl ?_
    intro w1 G bs hI hΓ
    first | (simp [tup, cmpTx, *]; done) | (simp_all [tup, cmpTx]; done)
  · skip
    refine WX.run ttOk rfl ?_
    refine WX.cases 9 rfl (fun h2 => ?_) (fun h2 => ?_)
    · skip
      refine WX.run ttOk rfl ?_
      refine WX.ret ttOk rfl ?_
      intro w1 G bs hI hΓ
      first | (simp [tup, cmpTx, *]; done) | (simp_all [tup, cmpTx]; done)
    · skip
      refine WX.run ttOk rfl ?_
      refine WX.ret ttOk rfl ?_
      intro w1 G bs hI hΓ
      first | (simp [tup, cmpTx, *]; done) | (simp_all [tup, cmpTx]; done)
theorem f55 (w : World) (a : Name) (pa : Option Addr) (ca : Nat) (hpa : RdSl (hp w) pa ca a.parts) (b : Name) (pb : Option Addr) (cb : Nat) (hpb : RdSl (hp w) pb cb b.parts) :
    Does Try.prog 55 #[.agg #[.slice pa ((a.parts).length) ca], .agg #[.slice pb ((b.parts).length) cb]] w (fun rv _ => rv = .int .i64 (cmpN a b)) := by
  have hpaL : _ ≤ 9223372036854775807 := hpa.2.1
  have hpbL : _ ≤ 9223372036854775807 := hpb.2.1
  refine WX.enter (tt := tt) (Γ := [(0, MF.rs pa ca a.parts), (1, MF.rs pb cb b.parts)]) Try.func55 rfl (by kernel_rfl) rfl (allK_cons hpa (allK_cons hpb allK_nil)) ?_
  refine WX.run ttOk rfl ?_
  refine WX.loop (ι := Nat) ⟨fun i => i ≤ a.parts.length ∧ i ≤ b.parts.length ∧ cmpN a b = cmpL (a.parts.drop i) (b.parts.drop i), fun i => a.parts.length - i, fun i => [(5, .v (.int .i64 (((i : Nat) : Int)))), (3, .p 3 0), (2, .p 2 0)], fun i => [(3, ⟨32, [.slice pb ((b.parts).length) cb]⟩), (2, ⟨32, [.slice pa ((a.parts).length) ca]⟩)], fun i => [], fun i => [(0, MF.rs pa ca a.parts), (1, MF.rs pb cb b.parts)]⟩ 0 ⟨by omega, by omega, by simp [cmpN]⟩
    (.cons rfl (.cons rfl (.cons rfl (.nil)))) (.cons rfl (.cons rfl (.nil))) .nil (.cons rfl (.cons rfl (.nil))) ?_
  rintro i hpre
  dsimp only at hpre
  refine WX.run ttOk rfl ?_
  refine WX.cases 12 rfl (fun h1 => ?_) (fun h1 => ?_)
  · skip
    replace h1 := B.dt h1
    refine WX.run ttOk rfl ?_
    refine WX.cases 18 rfl (fun h2 => ?_) (fun h2 => ?_)
    · skip
      replace h2 := B.dt h2
      refine WX.run ttOk rfl ?_
      refine WX.draw 11 mixed ?_
      intro bs G0 hΓ0
      refine DX.takes (fuel := 9) ttOk [0, 1, 2] (by kernel_rfl) rfl ?_
      have hi1 : i < (a.parts).length := (by first | assumption | omega)
      obtain ⟨e1, e1h⟩ : ∃ e1, (a.parts)[i]? = some e1 := ⟨_, List.getElem?_eq_getElem hi1⟩
      refine DX.idx 3 0 i ttOk hΓ0 (by kernel_rfl) rfl rfl rfl rfl rfl rfl rfl rfl rfl rfl rfl hi1 ?_
      rintro ad1 rfl
      refine DX.ldE 4 0 2 e1 ttOk hΓ0 (by kernel_rfl) rfl rfl rfl rfl rfl rfl rfl rfl e1h (fun _ => rfl) (fun _ => rfl) ?_
      rintro ⟨⟩ ok1
      have ok1s : (e1).size ≤ 9223372036854775807 := ok1
      refine DX.takes (fuel := 4) ttOk [5, 6, 7] (by kernel_rfl) rfl ?_
      have hi2 : i < (b.parts).length := (by first | assumption | omega)
      obtain ⟨e2, e2h⟩ : ∃ e2, (b.parts)[i]? = some e2 := ⟨_, List.getElem?_eq_getElem hi2⟩
      refine DX.idx 8 1 i ttOk hΓ0 (by kernel_rfl) rfl rfl rfl rfl rfl rfl rfl rfl rfl rfl rfl hi2 ?_
      rintro ad2 rfl
      refine DX.ldE 9 1 2 e2 ttOk hΓ0 (by kernel_rfl) rfl rfl rfl rfl rfl rfl rfl rfl e2h (fun _ => rfl) (fun _ => rfl) ?_
      rintro ⟨⟩ ok2
      have ok2s : (e2).size ≤ 9223372036854775807 := ok2
      refine DX.callV 10 (by kernel_rfl) rfl rfl rfl rfl rfl rfl (fun _ => rfl) rfl (fun w G bs hI hΓ => f74 w (e1) (e2)) ?_
      refine DX.tail rfl rfl (by kernel_rfl) ?_
      refine WX.run ttOk rfl ?_
      refine WX.cases 33 rfl (fun h3 => ?_) (fun h3 => ?_)
      · skip
        replace h3 := B.nt' h3
        refine WX.run ttOk rfl ?_
        refine WX.ret ttOk rfl ?_
        intro w1 G bs hI hΓ
        refine congrArg (Value.int .i64) ?_
        rw [hpre.2.2]
        first | (rw [drop_get e1h, drop_get e2h]; simp only [cmpL]; rw [if_neg (by omega)]) | (rw [List.drop_eq_nil_of_le (show a.parts.length ≤ i by omega), List.drop_eq_nil_of_le (show b.parts.length ≤ i by omega)]; rfl) | (rw [List.drop_eq_nil_of_le (show a.parts.length ≤ i by omega), List.drop_eq_getElem_cons (show i < b.parts.length by omega)]; rfl) | (rw [List.drop_eq_nil_of_le (show b.parts.length ≤ i by omega), List.drop_eq_getElem_cons (show i < a.parts.length by omega)]; rfl)
      · skip
        replace h3 := B.nf' h3
        refine WX.run ttOk rfl ?_
        refine WX.arith rfl rfl rfl rfl rfl rfl rfl (by unfold I64; omega) ?_
        refine WX.run ttOk rfl ?_
        refine WX.iter (i + 1) ⟨by omega, by omega, by rw [hpre.2.2, drop_get e1h, drop_get e2h]; simp only [cmpL]; rw [if_pos (by omega)]⟩ (by dsimp only; omega) (.cons rfl (.cons rfl (.cons rfl (.nil)))) (.cons rfl (.cons rfl (.nil))) .nil (.cons rfl (.cons rfl (.nil)))
    · skip
      replace h2 := B.df h2
      refine WX.run ttOk rfl ?_
      refine WX.cases 35 rfl (fun h4 => ?_) (fun h4 => ?_)
      · skip
        replace h4 := B.dt h4
        refine WX.run ttOk rfl ?_
        refine WX.ret ttOk rfl ?_
        intro w1 G bs hI hΓ
        refine congrArg (Value.int .i64) ?_
        rw [hpre.2.2]
        first | (rw [drop_get e1h, drop_get e2h]; simp only [cmpL]; rw [if_neg (by omega)]) | (rw [List.drop_eq_nil_of_le (show a.parts.length ≤ i by omega), List.drop_eq_nil_of_le (show b.parts.length ≤ i by omega)]; rfl) | (rw [List.drop_eq_nil_of_le (show a.parts.length ≤ i by omega), List.drop_eq_getElem_cons (show i < b.parts.length by omega)]; rfl) | (rw [List.drop_eq_nil_of_le (show b.parts.length ≤ i by omega), List.drop_eq_getElem_cons (show i < a.parts.length by omega)]; rfl)
      · skip
        replace h4 := B.df h4
        refine WX.run ttOk rfl ?_
        refine WX.cases 43 rfl (fun h5 => ?_) (fun h5 => ?_)
        · skip
          replace h5 := B.dt h5
          refine WX.run ttOk rfl ?_
          refine WX.ret ttOk rfl ?_
          intro w1 G bs hI hΓ
          refine congrArg (Value.int .i64) ?_
          rw [hpre.2.2]
          first | (rw [drop_get e1h, drop_get e2h]; simp only [cmpL]; rw [if_neg (by omega)]) | (rw [List.drop_eq_nil_of_le (show a.parts.length ≤ i by omega), List.drop_eq_nil_of_le (show b.parts.length ≤ i by omega)]; rfl) | (rw [List.drop_eq_nil_of_le (show a.parts.length ≤ i by omega), List.drop_eq_getElem_cons (show i < b.parts.length by omega)]; rfl) | (rw [List.drop_eq_nil_of_le (show b.parts.length ≤ i by omega), List.drop_eq_getElem_cons (show i < a.parts.length by omega)]; rfl)
        · skip
          replace h5 := B.df h5
          refine WX.run ttOk rfl ?_
          refine WX.ret ttOk rfl ?_
          intro w1 G bs hI hΓ
          refine congrArg (Value.int .i64) ?_
          rw [hpre.2.2]
          first | (rw [drop_get e1h, drop_get e2h]; simp only [cmpL]; rw [if_neg (by omega)]) | (rw [List.drop_eq_nil_of_le (show a.parts.length ≤ i by omega), List.drop_eq_nil_of_le (show b.parts.length ≤ i by omega)]; rfl) | (rw [List.drop_eq_nil_of_le (show a.parts.length ≤ i by omega), List.drop_eq_getElem_cons (show i < b.parts.length by omega)]; rfl) | (rw [List.drop_eq_nil_of_le (show b.parts.length ≤ i by omega), List.drop_eq_getElem_cons (show i < a.parts.length by omega)]; rfl)
  · skip
    replace h1 := B.df h1
    refine WX.run ttOk rfl ?_
    refine WX.cases 35 rfl (fun h6 => ?_) (fun h6 => ?_)
    · skip
      replace h6 := B.dt h6
      refine WX.run ttOk rfl ?_
      refine WX.ret ttOk rfl ?_
      intro w1 G bs hI hΓ
      refine congrArg (Value.int .i64) ?_
      rw [hpre.2.2]
      first | (rw [drop_get e1h, drop_get e2h]; simp only [cmpL]; rw [if_neg (by omega)]) | (rw [List.drop_eq_nil_of_le (show a.parts.length ≤ i by omega), List.drop_eq_nil_of_le (show b.parts.length ≤ i by omega)]; rfl) | (rw [List.drop_eq_nil_of_le (show a.parts.length ≤ i by omega), List.drop_eq_getElem_cons (show i < b.parts.length by omega)]; rfl) | (rw [List.drop_eq_nil_of_le (show b.parts.length ≤ i by omega), List.drop_eq_getElem_cons (show i < a.parts.length by omega)]; rfl)
    · skip
      replace h6 := B.df h6
      refine WX.run ttOk rfl ?_
      refine WX.cases 43 rfl (fun h7 => ?_) (fun h7 => ?_)
      · skip
        replace h7 := B.dt h7
        refine WX.run ttOk rfl ?_
        refine WX.ret ttOk rfl ?_
        intro w1 G bs hI hΓ
        refine congrArg (Value.int .i64) ?_
        rw [hpre.2.2]
        first | (rw [drop_get e1h, drop_get e2h]; simp only [cmpL]; rw [if_neg (by omega)]) | (rw [List.drop_eq_nil_of_le (show a.parts.length ≤ i by omega), List.drop_eq_nil_of_le (show b.parts.length ≤ i by omega)]; rfl) | (rw [List.drop_eq_nil_of_le (show a.parts.length ≤ i by omega), List.drop_eq_getElem_cons (show i < b.parts.length by omega)]; rfl) | (rw [List.drop_eq_nil_of_le (show b.parts.length ≤ i by omega), List.drop_eq_getElem_cons (show i < a.parts.length by omega)]; rfl)
      · skip
        replace h7 := B.df h7
        refine WX.run ttOk rfl ?_
        refine WX.ret ttOk rfl ?_
        intro w1 G bs hI hΓ
        refine congrArg (Value.int .i64) ?_
        rw [hpre.2.2]
        first | (rw [drop_get e1h, drop_get e2h]; simp only [cmpL]; rw [if_neg (by omega)]) | (rw [List.drop_eq_nil_of_le (show a.parts.length ≤ i by omega), List.drop_eq_nil_of_le (show b.parts.length ≤ i by omega)]; rfl) | (rw [List.drop_eq_nil_of_le (show a.parts.length ≤ i by omega), List.drop_eq_getElem_cons (show i < b.parts.length by omega)]; rfl) | (rw [List.drop_eq_nil_of_le (show b.parts.length ≤ i by omega), List.drop_eq_getElem_cons (show i < a.parts.length by omega)]; rfl)
theorem f29 (w : World) (a : Name) (pa : Option Addr) (ca : Nat) (hpa : RdSl (hp w) pa ca a.parts) (b : Name) (pb : Option Addr) (cb : Nat) (hpb : RdSl (hp w) pb cb b.parts) :
    Does Try.prog 29 #[.agg #[.slice pa ((a.parts).length) ca], .agg #[.slice pb ((b.parts).length) cb]] w (fun rv _ => rv = .bool (eqv a b)) := by
  have hpaL : _ ≤ 9223372036854775807 := hpa.2.1
  have hpbL : _ ≤ 9223372036854775807 := hpb.2.1
  refine WX.enter (tt := tt) (Γ := [(0, MF.rs pa ca a.parts), (1, MF.rs pb cb b.parts)]) Try.func29 rfl (by kernel_rfl) rfl (allK_cons hpa (allK_cons hpb allK_nil)) ?_
  refine WX.run ttOk rfl ?_
  refine WX.callV rfl rfl rfl rfl rfl (fun _ => rfl) rfl (fun w G bs hI hΓ => f55 w a pa ca (hΓ 0 _ rfl) b pb cb (hΓ 1 _ rfl)) ?_
  refine WX.run ttOk rfl ?_
  refine WX.ret ttOk rfl ?_
  intro w1 G bs hI hΓ
  exact congrArg Value.bool (eqv_cmp a b)
theorem f59 (w : World) (a : (List Str)) (pa : Option Addr) (ca : Nat) (hpa : RdSl (hp w) pa ca a) (b : (List Str)) (pb : Option Addr) (cb : Nat) (hpb : RdSl (hp w) pb cb b) :
    Does Try.prog 59 #[.slice pa ((a).length) ca, .slice pb ((b).length) cb] w (fun rv _ => rv = .bool (eqv a b)) := by
  have hpaL : _ ≤ 9223372036854775807 := hpa.2.1
  have hpbL : _ ≤ 9223372036854775807 := hpb.2.1
  refine WX.enter (tt := tt) (Γ := [(0, MF.rs pa ca a), (1, MF.rs pb cb b)]) Try.func59 rfl (by kernel_rfl) rfl (allK_cons hpa (allK_cons hpb allK_nil)) ?_
  refine WX.run ttOk rfl ?_
  refine WX.cases 10 rfl (fun h1 => ?_) (fun h1 => ?_)
  · skip
    replace h1 := B.nt' h1
    refine WX.run ttOk rfl ?_
    refine WX.ret ttOk rfl ?_
    intro w1 G bs hI hΓ
    refine congrArg Value.bool ?_
    first | exact (eqv_ne (fun e => h1 (by rw [e]))).symm | exact (eqv_ne (ne_of_get e1h e2h (fun e => h3 (by rw [e])))).symm | exact (eqv_iff.2 (eq_of_take hpre.2 (by omega) (by omega))).symm | exact (eqv_ne (ne_of_get e1h e2h (fun e => by subst e; rw [eqv_self] at h3; cases h3))).symm | exact (eqv_ne (ne_of_get e1h e2h (by simpa using h3))).symm
  · skip
    replace h1 := B.nf' h1
    refine WX.run ttOk rfl ?_
    refine WX.loop (ι := Nat) ⟨fun i => i ≤ a.length ∧ a.take i = b.take i, fun i => a.length - i, fun i => [(13, .v (.int .i64 (((i : Nat) : Int)))), (12, .v (.int .i64 ((((a).length : Nat) : Int)))), (0, .v (.slice pa ((a).length) ca)), (1, .v (.slice pb ((b).length) cb))], fun i => [], fun i => [], fun i => [(0, MF.rs pa ca a), (1, MF.rs pb cb b)]⟩ 0 ⟨by omega, by simp⟩
      (.cons rfl (.cons rfl (.cons rfl (.cons rfl (.nil))))) .nil .nil (.cons rfl (.cons rfl (.nil))) ?_
    rintro i hpre
    dsimp only at hpre
    refine WX.run ttOk rfl ?_
    refine WX.cases 14 rfl (fun h2 => ?_) (fun h2 => ?_)
    · skip
      replace h2 := B.dt h2
      refine WX.run ttOk rfl ?_
      refine WX.draw 9 mixed ?_
      intro bs G0 hΓ0
      refine DX.takes (fuel := 7) ttOk [0, 1] (by kernel_rfl) rfl ?_
      have hi1 : i < (a).length := (by first | assumption | omega)
      obtain ⟨e1, e1h⟩ : ∃ e1, (a)[i]? = some e1 := ⟨_, List.getElem?_eq_getElem hi1⟩
      refine DX.idx 2 0 i ttOk hΓ0 (by kernel_rfl) rfl rfl rfl rfl rfl rfl rfl rfl rfl rfl rfl hi1 ?_
      rintro ad1 rfl
      refine DX.ldE 3 0 2 e1 ttOk hΓ0 (by kernel_rfl) rfl rfl rfl rfl rfl rfl rfl rfl e1h (fun _ => rfl) (fun _ => rfl) ?_
      rintro ⟨⟩ ok1
      have ok1s : (e1).size ≤ 9223372036854775807 := ok1
      refine DX.takes (fuel := 3) ttOk [4, 5] (by kernel_rfl) rfl ?_
      have hi2 : i < (b).length := (by first | assumption | omega)
      obtain ⟨e2, e2h⟩ : ∃ e2, (b)[i]? = some e2 := ⟨_, List.getElem?_eq_getElem hi2⟩
      refine DX.idx 6 1 i ttOk hΓ0 (by kernel_rfl) rfl rfl rfl rfl rfl rfl rfl rfl rfl rfl rfl hi2 ?_
      rintro ad2 rfl
      refine DX.ldE 7 1 2 e2 ttOk hΓ0 (by kernel_rfl) rfl rfl rfl rfl rfl rfl rfl rfl e2h (fun _ => rfl) (fun _ => rfl) ?_
      rintro ⟨⟩ ok2
      have ok2s : (e2).size ≤ 9223372036854775807 := ok2
      refine DX.takes (fuel := 0) ttOk [8] (by kernel_rfl) rfl ?_
      refine DX.tail rfl rfl (by kernel_rfl) ?_
      refine WX.run ttOk rfl ?_
      refine WX.cases 24 rfl (fun h3 => ?_) (fun h3 => ?_)
      · skip
        replace h3 := B.nt h3
        replace h3 := B.ef h3
        refine WX.run ttOk rfl ?_
        refine WX.ret ttOk rfl ?_
        intro w1 G bs hI hΓ
        refine congrArg Value.bool ?_
        first | exact (eqv_ne (fun e => h1 (by rw [e]))).symm | exact (eqv_ne (ne_of_get e1h e2h (fun e => h3 (by rw [e])))).symm | exact (eqv_iff.2 (eq_of_take hpre.2 (by omega) (by omega))).symm | exact (eqv_ne (ne_of_get e1h e2h (fun e => by subst e; rw [eqv_self] at h3; cases h3))).symm | exact (eqv_ne (ne_of_get e1h e2h (by simpa using h3))).symm
      · skip
        replace h3 := B.nf h3
        replace h3 := B.et h3
        refine WX.run ttOk rfl ?_
        refine WX.arith rfl rfl rfl rfl rfl rfl rfl (by unfold I64; omega) ?_
        refine WX.run ttOk rfl ?_
        refine WX.iter (i + 1) ⟨by omega, take_snoc_eq hpre.2 e1h (by rw [e2h]; first | (rw [str_ext h3]) | (rw [eqv_iff.1 h3]) | (congr 1; simpa using h3.symm))⟩ (by dsimp only; omega) (.cons rfl (.cons rfl (.cons rfl (.cons rfl (.nil))))) .nil .nil (.cons rfl (.cons rfl (.nil)))
    · skip
      replace h2 := B.df h2
      refine WX.run ttOk rfl ?_
      refine WX.ret ttOk rfl ?_
      intro w1 G bs hI hΓ
      refine congrArg Value.bool ?_
      first | exact (eqv_ne (fun e => h1 (by rw [e]))).symm | exact (eqv_ne (ne_of_get e1h e2h (fun e => h3 (by rw [e])))).symm | exact (eqv_iff.2 (eq_of_take hpre.2 (by omega) (by omega))).symm | exact (eqv_ne (ne_of_get e1h e2h (fun e => by subst e; rw [eqv_self] at h3; cases h3))).symm | exact (eqv_ne (ne_of_get e1h e2h (by simpa using h3))).symm
theorem f33 (w : World) (a : Name) (pa : Option Addr) (ca : Nat) (hpa : RdSl (hp w) pa ca a.parts) (b : Name) (pb : Option Addr) (cb : Nat) (hpb : RdSl (hp w) pb cb b.parts) :
    Does Try.prog 33 #[.agg #[.slice pa ((a.parts).length) ca], .agg #[.slice pb ((b.parts).length) cb]] w (fun rv _ => rv = .bool (eqv a b)) := by
  have hpaL : _ ≤ 9223372036854775807 := hpa.2.1
  have hpbL : _ ≤ 9223372036854775807 := hpb.2.1
  refine WX.enter (tt := tt) (Γ := [(0, MF.rs pa ca a.parts), (1, MF.rs pb cb b.parts)]) Try.func33 rfl (by kernel_rfl) rfl (allK_cons hpa (allK_cons hpb allK_nil)) ?_
  refine WX.run ttOk rfl ?_
  refine WX.callV rfl rfl rfl rfl rfl (fun _ => rfl) rfl (fun w G bs hI hΓ => f59 w (a.parts) pa ca (hΓ 0 _ rfl) (b.parts) pb cb (hΓ 1 _ rfl)) ?_
  refine WX.run ttOk rfl ?_
  refine WX.ret ttOk rfl ?_
  intro w1 G bs hI hΓ
  refine congrArg Value.bool ?_
  by_cases h : a = b
  · rw [eqv_iff.2 h, eqv_iff.2 (by rw [h])]
  · rw [eqv_ne h, eqv_ne (fun e => h (by cases a; cases b; simp_all))]
theorem f75 (w : World) (l : (List TableEntry)) (pl : Option Addr) (cl : Nat) (hpl : RdSl (hp w) pl cl l) (n : Name) (pn : Option Addr) (cn : Nat) (hpn : RdSl (hp w) pn cn n.parts) :
    Does Try.prog 75 #[.slice pl ((l).length) cl, .agg #[.slice pn ((n.parts).length) cn]] w (fun rv _ => rv = .int .i64 (findIx (isN n) l)) := by
  have hplL : _ ≤ 9223372036854775807 := hpl.2.1
  have hpnL : _ ≤ 9223372036854775807 := hpn.2.1
  refine WX.enter (tt := tt) (Γ := [(0, MF.rs pl cl l), (1, MF.rs pn cn n.parts)]) Try.func75 rfl (by kernel_rfl) rfl (allK_cons hpl (allK_cons hpn allK_nil)) ?_
  refine WX.run ttOk rfl ?_
  refine WX.loop (ι := Nat) ⟨fun i => i ≤ l.length ∧ findIx (isN n) l = findFrom (isN n) (l.drop i) i, fun i => l.length - i, fun i => [(5, .v (.int .i64 (((i : Nat) : Int)))), (3, .p 3 0), (0, .v (.slice pl ((l).length) cl))], fun i => [(3, ⟨32, [.slice pn ((n.parts).length) cn]⟩)], fun i => [], fun i => [(0, MF.rs pl cl l), (1, MF.rs pn cn n.parts)]⟩ 0 ⟨by omega, by simp [findIx]⟩
    (.cons rfl (.cons rfl (.cons rfl (.nil)))) (.cons rfl (.nil)) .nil (.cons rfl (.cons rfl (.nil))) ?_
  rintro i hpre
  dsimp only at hpre
  refine WX.run ttOk rfl ?_
  refine WX.cases 9 rfl (fun h1 => ?_) (fun h1 => ?_)
  · skip
    replace h1 := B.dt h1
    refine WX.run ttOk rfl ?_
    refine WX.draw 7 mixed ?_
    intro bs G0 hΓ0
    refine DX.takes (fuel := 5) ttOk [0, 1] (by kernel_rfl) rfl ?_
    have hi1 : i < (l).length := (by first | assumption | omega)
    obtain ⟨e1, e1h⟩ : ∃ e1, (l)[i]? = some e1 := ⟨_, List.getElem?_eq_getElem hi1⟩
    refine DX.idx 2 0 i ttOk hΓ0 (by kernel_rfl) rfl rfl rfl rfl rfl rfl rfl rfl rfl rfl rfl hi1 ?_
    rintro ad1 rfl
    refine DX.takes (fuel := 3) ttOk [3] (by kernel_rfl) rfl ?_
    refine DX.ldE 4 0 2 e1 ttOk hΓ0 (by kernel_rfl) rfl rfl rfl rfl rfl rfl rfl rfl e1h (fun _ => rfl) (fun _ => rfl) ?_
    rintro ⟨⟨p1, c1⟩, ⟨⟩⟩ ok1
    have ok10 := ok1
    rcases ok10 with ⟨-, ok1sx1⟩
    replace ok1sx1 : -9223372036854775808 ≤ e1.value ∧ e1.value ≤ 9223372036854775807 := ok1sx1
    refine DX.takes (fuel := 1) ttOk [5] (by kernel_rfl) rfl ?_
    refine DX.callV 6 (by kernel_rfl) rfl rfl rfl rfl rfl rfl (fun _ => rfl) rfl (fun w G bs hI hΓ => f29 w e1.name p1 c1 (hΓ 2 _ rfl) n pn cn (hΓ 1 _ rfl)) ?_
    refine DX.tail rfl rfl (by kernel_rfl) ?_
    refine WX.run ttOk rfl ?_
    refine WX.cases 18 rfl (fun h2 => ?_) (fun h2 => ?_)
    · skip
      refine WX.run ttOk rfl ?_
      refine WX.ret ttOk rfl ?_
      intro w1 G bs hI hΓ
      refine congrArg (Value.int .i64) ?_
      rw [hpre.2]
      first | exact (findFrom_end (by omega)).symm | exact (findFrom_hit e1h h2).symm
    · skip
      refine WX.run ttOk rfl ?_
      refine WX.arith rfl rfl rfl rfl rfl rfl rfl (by unfold I64; omega) ?_
      refine WX.run ttOk rfl ?_
      refine WX.iter (i + 1) ⟨by omega, by rw [hpre.2]; exact findFrom_miss e1h h2⟩ (by dsimp only; omega) (.cons rfl (.cons rfl (.cons rfl (.nil)))) (.cons rfl (.nil)) .nil (.cons rfl (.cons rfl (.nil)))
  · skip
    replace h1 := B.df h1
    refine WX.run ttOk rfl ?_
    refine WX.ret ttOk rfl ?_
    intro w1 G bs hI hΓ
    refine congrArg (Value.int .i64) ?_
    rw [hpre.2]
    first | exact (findFrom_end (by omega)).symm | exact (findFrom_hit e1h h2).symm
theorem f66 (w : World) (l : (List TableEntry)) (pl : Option Addr) (cl : Nat) (hpl : RdSl (hp w) pl cl l) (pg : FuncId) (pc : List Value) (pq : TableEntry → Bool) (pf : ∀ w1, RowKit.Below w.heap.size w w1 → ∀ (e0 : TableEntry) (x0 : GoT.X TableEntry), GoT.ok e0 → All (hp w1) (GoT.fa e0 x0) → Does Try.prog pg ([Value.agg ⟨GoT.sh e0 x0⟩] ++ pc).toArray w1 (fun rv _ => rv = .bool (pq e0))) :
    Does Try.prog 66 #[.slice pl ((l).length) cl, .func (.func pg) #[] pc.toArray] w (fun rv _ => rv = .int .i64 (findIx pq l)) := by
  have hplL : _ ≤ 9223372036854775807 := hpl.2.1
  refine WX.enter (tt := tt) (Γ := [(0, MF.rs pl cl l)]) Try.func66 rfl (by kernel_rfl) rfl (allK_cons hpl allK_nil) ?_
  refine WX.run ttOk rfl ?_
  refine WX.loop (ι := Nat) ⟨fun i => i ≤ l.length ∧ findIx pq l = findFrom pq (l.drop i) i, fun i => l.length - i, fun i => [(8, .v (.int .i64 (((i : Nat) : Int)))), (7, .v (.int .i64 ((((l).length : Nat) : Int)))), (0, .v (.slice pl ((l).length) cl)), (1, .v (.func (.func pg) #[] pc.toArray))], fun i => [], fun i => [], fun i => [(0, MF.rs pl cl l)]⟩ 0 ⟨by omega, by simp [findIx]⟩
    (.cons rfl (.cons rfl (.cons rfl (.cons rfl (.nil))))) .nil .nil (.cons rfl (.nil)) ?_
  rintro i hpre
  dsimp only at hpre
  refine WX.run ttOk rfl ?_
  refine WX.cases 9 rfl (fun h1 => ?_) (fun h1 => ?_)
  · skip
    replace h1 := B.dt h1
    refine WX.run ttOk rfl ?_
    have hi1 : i < (l).length := (by first | assumption | omega)
    obtain ⟨e1, e1h⟩ : ∃ e1, (l)[i]? = some e1 := ⟨_, List.getElem?_eq_getElem hi1⟩
    refine WX.idx 0 i ttOk rfl rfl rfl rfl rfl rfl rfl rfl rfl rfl hi1 ?_
    rintro ad1 rfl
    refine WX.ldE 0 1 e1 ttOk rfl rfl rfl rfl rfl rfl rfl e1h (fun _ => rfl) (fun _ => rfl) ?_
    rintro ⟨⟨p1, c1⟩, ⟨⟩⟩ ok1
    have ok10 := ok1
    rcases ok10 with ⟨-, ok1sx1⟩
    replace ok1sx1 : -9223372036854775808 ≤ e1.value ∧ e1.value ≤ 9223372036854775807 := ok1sx1
    refine WX.callV rfl rfl rfl rfl rfl (fun _ => rfl) rfl (fun w G bs hI hΓ => pf w hI.below e1 ((p1, c1), ()) (And.intro trivial (show I64 (e1.value) from (by first | assumption | (unfold I64; omega)))) (All.cons (hΓ 1 _ rfl) All.nil)) ?_
    refine WX.run ttOk rfl ?_
    refine WX.cases 16 rfl (fun h2 => ?_) (fun h2 => ?_)
    · skip
      refine WX.run ttOk rfl ?_
      refine WX.ret ttOk rfl ?_
      intro w1 G bs hI hΓ
      refine congrArg (Value.int .i64) ?_
      rw [hpre.2]
      first | exact (findFrom_end (by omega)).symm | exact (findFrom_hit e1h h2).symm
    · skip
      refine WX.run ttOk rfl ?_
      refine WX.arith rfl rfl rfl rfl rfl rfl rfl (by unfold I64; omega) ?_
      refine WX.run ttOk rfl ?_
      refine WX.iter (i + 1) ⟨by omega, by rw [hpre.2]; exact findFrom_miss e1h h2⟩ (by dsimp only; omega) (.cons rfl (.cons rfl (.cons rfl (.cons rfl (.nil))))) .nil .nil (.cons rfl (.nil))
  · skip
    replace h1 := B.df h1
    refine WX.run ttOk rfl ?_
    refine WX.ret ttOk rfl ?_
    intro w1 G bs hI hΓ
    refine congrArg (Value.int .i64) ?_
    rw [hpre.2]
    first | exact (findFrom_end (by omega)).symm | exact (findFrom_hit e1h h2).symm
theorem f79 (w : World) (e : TableEntry) (peName : Option Addr) (ceName : Nat) (hpeName : RdSl (hp w) peName ceName e.name.parts) (n : Name) (bn : Addr) (hn : RdSl (hp w) (some bn) 1 [n]) :
    Does Try.prog 79 #[.agg #[.slice peName ((e.name.parts).length) ceName, .int .i64 (e.value)], .pointer (some bn)] w (fun rv _ => rv = .bool (isN n e)) := by
  have hpeNameL : _ ≤ 9223372036854775807 := hpeName.2.1
  have hnL : _ ≤ 9223372036854775807 := hn.2.1
  refine WX.enter (tt := tt) (Γ := [(0, MF.rs peName ceName e.name.parts), (1, MF.rs (some bn) 1 ([n]))]) Try.func79 rfl (by kernel_rfl) rfl (allK_cons hpeName (allK_cons hn allK_nil)) ?_
  have nh : ([n] : List Name)[0]? = some n := rfl
  refine WX.slot 1 (y := .e (some bn) 0 1 0) rfl (fun _ => cap_eq) ?_
  refine WX.run ttOk rfl ?_
  refine WX.ldE 1 2 n ttOk rfl rfl rfl rfl rfl rfl rfl nh (fun _ => rfl) (fun _ => rfl) ?_
  rintro ⟨p1, c1⟩ ok1
  refine WX.callV rfl rfl rfl rfl rfl (fun _ => rfl) rfl (fun w G bs hI hΓ => f33 w e.name peName ceName (hΓ 0 _ rfl) n p1 c1 (hΓ 2 _ rfl)) ?_
  refine WX.run ttOk rfl ?_
  refine WX.ret ttOk rfl ?_
  intro w1 G bs hI hΓ
  rfl
theorem f76 (w : World) (l : (List TableEntry)) (pl : Option Addr) (cl : Nat) (hpl : RdSl (hp w) pl cl l) (n : Name) (pn : Option Addr) (cn : Nat) (hpn : RdSl (hp w) pn cn n.parts) :
    Does Try.prog 76 #[.slice pl ((l).length) cl, .agg #[.slice pn ((n.parts).length) cn]] w (fun rv _ => rv = .int .i64 (findIx (isN n) l)) := by
  have hplL : _ ≤ 9223372036854775807 := hpl.2.1
  have hpnL : _ ≤ 9223372036854775807 := hpn.2.1
  refine WX.enter (tt := tt) (Γ := [(0, MF.rs pl cl l), (1, MF.rs pn cn n.parts)]) Try.func76 rfl (by kernel_rfl) rfl (allK_cons hpl (allK_cons hpn allK_nil)) ?_
  refine WX.run ttOk rfl ?_
  refine WX.callV rfl rfl rfl rfl rfl (fun _ => rfl) rfl (fun w G bs hI hΓ => f66 w (l) pl cl (hΓ 0 _ rfl) 79 [Value.pointer (some ⟨bs 3, 0, none⟩)] (fun e0_ => isN n e0_) (fun w1_ hb_ e0_ x0_ hk0_ hx0_ => f79 w1_ e0_ x0_.1.1 x0_.1.2 (hx0_ _ List.mem_cons_self) n ⟨bs 3, 0, none⟩ ((rd_box (α := Name) (a := n) (x := (pn, cn)) (hI.loc 3 _ rfl).1 trivial (All.cons (hΓ 1 _ rfl) All.nil)).mono (below_le hb_)))) ?_
  refine WX.run ttOk rfl ?_
  refine WX.ret ttOk rfl ?_
  intro w1 G bs hI hΓ
  rfl
theorem f64 (w : World) (l : (List TableEntry)) (pl : Option Addr) (cl : Nat) (hpl : RdSl (hp w) pl cl l) (n : Name) (pn : Option Addr) (cn : Nat) (hpn : RdSl (hp w) pn cn n.parts) :
    Does Try.prog 64 #[.slice pl ((l).length) cl, .agg #[.slice pn ((n.parts).length) cn]] w (fun rv _ => rv = .tuple #[.int .i64 (lookV l n), .bool (lookB l n)]) := by
  have hplL : _ ≤ 9223372036854775807 := hpl.2.1
  have hpnL : _ ≤ 9223372036854775807 := hpn.2.1
  refine WX.enter (tt := tt) (Γ := [(0, MF.rs pl cl l), (1, MF.rs pn cn n.parts)]) Try.func64 rfl (by kernel_rfl) rfl (allK_cons hpl (allK_cons hpn allK_nil)) ?_
  refine WX.run ttOk rfl ?_
  refine WX.callV rfl rfl rfl rfl rfl (fun _ => rfl) rfl (fun w G bs hI hΓ => f75 w (l) pl cl (hΓ 0 _ rfl) n pn cn (hΓ 1 _ rfl)) ?_
  have fx1 := findIx_lt (isN n) (l)
  refine WX.run ttOk rfl ?_
  refine WX.cases 11 rfl (fun h1 => ?_) (fun h1 => ?_)
  · skip
    replace h1 := B.dt h1
    refine WX.run ttOk rfl ?_
    refine WX.ret ttOk rfl ?_
    intro w1 G bs hI hΓ
    first | (simp [tup, lookV, lookB, *]; done) | simp [tup, lookV, lookB, h1, e1h]
  · skip
    replace h1 := B.df h1
    refine WX.run ttOk rfl ?_
    refine WX.slot 13 (y := .v (.int .i64 (((findIx (isN n) (l)).toNat : Nat) : Int))) rfl (fun _ => congrArg (Value.int .i64) (show findIx (isN n) (l) = (((findIx (isN n) (l)).toNat : Nat) : Int) from by omega)) ?_
    have hi1 : (findIx (isN n) (l)).toNat < (l).length := (by first | assumption | omega)
    obtain ⟨e1, e1h⟩ : ∃ e1, (l)[(findIx (isN n) (l)).toNat]? = some e1 := ⟨_, List.getElem?_eq_getElem hi1⟩
    refine WX.idx 0 ((findIx (isN n) (l)).toNat) ttOk rfl rfl rfl rfl rfl rfl rfl rfl rfl rfl hi1 ?_
    rintro ad1 rfl
    refine WX.run ttOk rfl ?_
    refine WX.ldE 0 2 e1 ttOk rfl rfl rfl rfl rfl rfl rfl e1h (fun _ => rfl) (fun _ => rfl) ?_
    rintro ⟨⟨p1, c1⟩, ⟨⟩⟩ ok1
    have ok10 := ok1
    rcases ok10 with ⟨-, ok1sx1⟩
    replace ok1sx1 : -9223372036854775808 ≤ e1.value ∧ e1.value ≤ 9223372036854775807 := ok1sx1
    refine WX.run ttOk rfl ?_
    refine WX.ret ttOk rfl ?_
    intro w1 G bs hI hΓ
    first | (simp [tup, lookV, lookB, *]; done) | simp [tup, lookV, lookB, h1, e1h]
theorem f67 (w : World) (l : (List TableEntry)) (pl : Option Addr) (cl : Nat) (hpl : RdSl (hp w) pl cl l) (n : Name) (pn : Option Addr) (cn : Nat) (hpn : RdSl (hp w) pn cn n.parts) :
    Does Try.prog 67 #[.slice pl ((l).length) cl, .agg #[.slice pn ((n.parts).length) cn]] w (fun rv _ => rv = .tuple #[.int .i64 (lookV l n), .bool (lookB l n)]) := by
  have hplL : _ ≤ 9223372036854775807 := hpl.2.1
  have hpnL : _ ≤ 9223372036854775807 := hpn.2.1
  refine WX.enter (tt := tt) (Γ := [(0, MF.rs pl cl l), (1, MF.rs pn cn n.parts)]) Try.func67 rfl (by kernel_rfl) rfl (allK_cons hpl (allK_cons hpn allK_nil)) ?_
  refine WX.run ttOk rfl ?_
  refine WX.callV rfl rfl rfl rfl rfl (fun _ => rfl) rfl (fun w G bs hI hΓ => f76 w (l) pl cl (hΓ 0 _ rfl) n pn cn (hΓ 1 _ rfl)) ?_
  have fx1 := findIx_lt (isN n) (l)
  refine WX.run ttOk rfl ?_
  refine WX.cases 11 rfl (fun h1 => ?_) (fun h1 => ?_)
  · skip
    replace h1 := B.dt h1
    refine WX.run ttOk rfl ?_
    refine WX.ret ttOk rfl ?_
    intro w1 G bs hI hΓ
    first | (simp [tup, lookV, lookB, *]; done) | simp [tup, lookV, lookB, h1, e1h]
  · skip
    replace h1 := B.df h1
    refine WX.run ttOk rfl ?_
    refine WX.slot 13 (y := .v (.int .i64 (((findIx (isN n) (l)).toNat : Nat) : Int))) rfl (fun _ => congrArg (Value.int .i64) (show findIx (isN n) (l) = (((findIx (isN n) (l)).toNat : Nat) : Int) from by omega)) ?_
    have hi1 : (findIx (isN n) (l)).toNat < (l).length := (by first | assumption | omega)
    obtain ⟨e1, e1h⟩ : ∃ e1, (l)[(findIx (isN n) (l)).toNat]? = some e1 := ⟨_, List.getElem?_eq_getElem hi1⟩
    refine WX.idx 0 ((findIx (isN n) (l)).toNat) ttOk rfl rfl rfl rfl rfl rfl rfl rfl rfl rfl hi1 ?_
    rintro ad1 rfl
    refine WX.run ttOk rfl ?_
    refine WX.ldE 0 2 e1 ttOk rfl rfl rfl rfl rfl rfl rfl e1h (fun _ => rfl) (fun _ => rfl) ?_
    rintro ⟨⟨p1, c1⟩, ⟨⟩⟩ ok1
    have ok10 := ok1
    rcases ok10 with ⟨-, ok1sx1⟩
    replace ok1sx1 : -9223372036854775808 ≤ e1.value ∧ e1.value ≤ 9223372036854775807 := ok1sx1
    refine WX.run ttOk rfl ?_
    refine WX.ret ttOk rfl ?_
    intro w1 G bs hI hΓ
    first | (simp [tup, lookV, lookB, *]; done) | simp [tup, lookV, lookB, h1, e1h]
theorem f38 (w : World) (v : StateVector) (pv : Option Addr) (cv : Nat) (hpv : RdSl (hp w) pv cv v.entries) (n : Name) (pn : Option Addr) (cn : Nat) (hpn : RdSl (hp w) pn cn n.parts) :
    Does Try.prog 38 #[.agg #[.slice pv ((v.entries).length) cv], .agg #[.slice pn ((n.parts).length) cn]] w (fun rv _ => rv = .int .i64 (lookV (v).entries n)) := by
  have hpvL : _ ≤ 9223372036854775807 := hpv.2.1
  have hpnL : _ ≤ 9223372036854775807 := hpn.2.1
  refine WX.enter (tt := tt) (Γ := [(0, MF.rs pv cv v.entries), (1, MF.rs pn cn n.parts)]) Try.func38 rfl (by kernel_rfl) rfl (allK_cons hpv (allK_cons hpn allK_nil)) ?_
  refine WX.run ttOk rfl ?_
  refine WX.callV rfl rfl rfl rfl rfl (fun _ => rfl) rfl (fun w G bs hI hΓ => f64 w (v.entries) pv cv (hΓ 0 _ rfl) n pn cn (hΓ 1 _ rfl)) ?_
  refine WX.run ttOk rfl ?_
  refine WX.ret ttOk rfl ?_
  intro w1 G bs hI hΓ
  rfl
theorem f42 (w : World) (v : StateVector) (pv : Option Addr) (cv : Nat) (hpv : RdSl (hp w) pv cv v.entries) (n : Name) (pn : Option Addr) (cn : Nat) (hpn : RdSl (hp w) pn cn n.parts) :
    Does Try.prog 42 #[.agg #[.slice pv ((v.entries).length) cv], .agg #[.slice pn ((n.parts).length) cn]] w (fun rv _ => rv = .int .i64 (lookV (v).entries n)) := by
  have hpvL : _ ≤ 9223372036854775807 := hpv.2.1
  have hpnL : _ ≤ 9223372036854775807 := hpn.2.1
  refine WX.enter (tt := tt) (Γ := [(0, MF.rs pv cv v.entries), (1, MF.rs pn cn n.parts)]) Try.func42 rfl (by kernel_rfl) rfl (allK_cons hpv (allK_cons hpn allK_nil)) ?_
  refine WX.run ttOk rfl ?_
  refine WX.callV rfl rfl rfl rfl rfl (fun _ => rfl) rfl (fun w G bs hI hΓ => f67 w (v.entries) pv cv (hΓ 0 _ rfl) n pn cn (hΓ 1 _ rfl)) ?_
  refine WX.run ttOk rfl ?_
  refine WX.ret ttOk rfl ?_
  intro w1 G bs hI hΓ
  rfl
end Go.Proofs.Ytkgehljhlmbdmaa
