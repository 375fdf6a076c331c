/-
  Contracts of functions of the program: what each returns, for all arguments. Written by a program (gen.py) out of annotations.
-/
import Derived.Test.YtkgehljhlmbdmaaC4
namespace Go.Proofs.Ytkgehljhlmbdmaa
open Go.Stp
set_option linter.unusedVariables false
set_option linter.unusedSimpArgs false
theorem f40 (w : World) (l : (List TableEntry)) (pl : Option Addr) (cl : Nat) (hpl : RdSl (hp w) pl cl l) (pg : FuncId) (pc : List Value) (pq : TableEntry → Bool) (pf : ∀ w1, RowKit.Below w.heap.size w w1 → ∀ (e0 : TableEntry) (x0 : GoT.X TableEntry), GoT.ok e0 → All (hp w1) (GoT.fa e0 x0) → Does Try.prog pg ([Value.agg ⟨GoT.sh e0 x0⟩] ++ pc).toArray w1 (fun rv _ => rv = .bool (pq e0))) :
    Does Try.prog 40 #[.slice pl ((l).length) cl, .func (.func pg) #[] pc.toArray] w (fun rv _ => rv = .bool (List.any l pq)) := by
  have hplL : _ ≤ 9223372036854775807 := hpl.2.1
  refine WX.enter (tt := tt) (Γ := [(0, MF.rs pl cl l)]) Try.func40 rfl (by kernel_rfl) rfl (allK_cons hpl allK_nil) ?_
  refine WX.run ttOk rfl ?_
  refine WX.callV rfl rfl rfl rfl rfl (fun _ => rfl) rfl (fun w G bs hI hΓ => f66 w (l) pl cl (hΓ 0 _ rfl) pg pc pq (fun w1_ hb_ => pf w1_ (below_step hI.below hb_))) ?_
  refine WX.run ttOk rfl ?_
  refine WX.ret ttOk rfl ?_
  intro w1 G bs hI hΓ
  exact congrArg Value.bool (findIx_any pq l)
theorem f41 (w : World) (e : TableEntry) (peName : Option Addr) (ceName : Nat) (hpeName : RdSl (hp w) peName ceName e.name.parts) (a : StateVector) (ba : Addr) (ha : RdSl (hp w) (some ba) 1 [a]) (b : StateVector) (bb : Addr) (hb : RdSl (hp w) (some bb) 1 [b]) :
    Does Try.prog 41 #[.agg #[.slice peName ((e.name.parts).length) ceName, .int .i64 (e.value)], .pointer (some ba), .pointer (some bb)] w (fun rv _ => rv = .bool (vgt a b e)) := by
  have hpeNameL : _ ≤ 9223372036854775807 := hpeName.2.1
  have haL : _ ≤ 9223372036854775807 := ha.2.1
  have hbL : _ ≤ 9223372036854775807 := hb.2.1
  refine WX.enter (tt := tt) (Γ := [(0, MF.rs peName ceName e.name.parts), (1, MF.rs (some ba) 1 ([a])), (2, MF.rs (some bb) 1 ([b]))]) Try.func41 rfl (by kernel_rfl) rfl (allK_cons hpeName (allK_cons ha (allK_cons hb allK_nil))) ?_
  have ah : ([a] : List StateVector)[0]? = some a := rfl
  refine WX.slot 1 (y := .e (some ba) 0 1 0) rfl (fun _ => cap_eq) ?_
  have bh : ([b] : List StateVector)[0]? = some b := rfl
  refine WX.slot 2 (y := .e (some bb) 0 1 0) rfl (fun _ => cap_eq) ?_
  refine WX.run ttOk rfl ?_
  refine WX.draw 9 mixed ?_
  intro bs G0 hΓ0
  refine DX.ldE 0 1 3 a ttOk hΓ0 (by kernel_rfl) rfl rfl rfl rfl rfl rfl rfl rfl ah (fun _ => rfl) (fun _ => rfl) ?_
  rintro ⟨p1, c1⟩ ok1
  refine DX.takes (fuel := 7) ttOk [1, 2] (by kernel_rfl) rfl ?_
  refine DX.ldE 4 2 4 b ttOk hΓ0 (by kernel_rfl) rfl rfl rfl rfl rfl rfl rfl rfl bh (fun _ => rfl) (fun _ => rfl) ?_
  rintro ⟨p2, c2⟩ ok2
  refine DX.takes (fuel := 4) ttOk [5, 6] (by kernel_rfl) rfl ?_
  refine DX.callV 3 (by kernel_rfl) rfl rfl rfl rfl rfl rfl (fun _ => rfl) rfl (fun w G bs hI hΓ => f42 w a p1 c1 (hΓ 3 _ rfl) e.name peName ceName (hΓ 0 _ rfl)) ?_
  refine DX.callV 7 (by kernel_rfl) rfl rfl rfl rfl rfl rfl (fun _ => rfl) rfl (fun w G bs hI hΓ => f42 w b p2 c2 (hΓ 4 _ rfl) e.name peName ceName (hΓ 0 _ rfl)) ?_
  refine DX.takes (fuel := 1) ttOk [8] (by kernel_rfl) rfl ?_
  refine DX.tail rfl rfl (by kernel_rfl) ?_
  refine WX.run ttOk rfl ?_
  refine WX.ret ttOk rfl ?_
  intro w1 G bs hI hΓ
  rfl
theorem f16 (w : World) (a : StateVector) (pa : Option Addr) (ca : Nat) (hpa : RdSl (hp w) pa ca a.entries) (b : StateVector) (pb : Option Addr) (cb : Nat) (hpb : RdSl (hp w) pb cb b.entries) :
    Does Try.prog 16 #[.agg #[.slice pa ((a.entries).length) ca], .agg #[.slice pb ((b.entries).length) cb]] w (fun rv _ => rv = .bool (vleq a b)) := by
  have hpaL : _ ≤ 9223372036854775807 := hpa.2.1
  have hpbL : _ ≤ 9223372036854775807 := hpb.2.1
  refine WX.enter (tt := tt) (Γ := [(0, MF.rs pa ca a.entries), (1, MF.rs pb cb b.entries)]) Try.func16 rfl (by kernel_rfl) rfl (allK_cons hpa (allK_cons hpb allK_nil)) ?_
  refine WX.run ttOk rfl ?_
  refine WX.callV rfl rfl rfl rfl rfl (fun _ => rfl) rfl (fun w G bs hI hΓ => f40 w (a.entries) pa ca (hΓ 0 _ rfl) 41 [Value.pointer (some ⟨bs 2, 0, none⟩), Value.pointer (some ⟨bs 3, 0, none⟩)] (fun e0_ => vgt a b e0_) (fun w1_ hb_ e0_ x0_ hk0_ hx0_ => f41 w1_ e0_ x0_.1.1 x0_.1.2 (hx0_ _ List.mem_cons_self) a ⟨bs 2, 0, none⟩ ((rd_box (α := StateVector) (a := a) (x := (pa, ca)) (hI.loc 2 _ rfl).1 trivial (All.cons (hΓ 0 _ rfl) All.nil)).mono (below_le hb_)) b ⟨bs 3, 0, none⟩ ((rd_box (α := StateVector) (a := b) (x := (pb, cb)) (hI.loc 3 _ rfl).1 trivial (All.cons (hΓ 1 _ rfl) All.nil)).mono (below_le hb_)))) ?_
  refine WX.run ttOk rfl ?_
  refine WX.ret ttOk rfl ?_
  intro w1 G bs hI hΓ
  rfl
theorem f14 (w : World) (a : StateVector) (pa : Option Addr) (ca : Nat) (hpa : RdSl (hp w) pa ca a.entries) (b : StateVector) (pb : Option Addr) (cb : Nat) (hpb : RdSl (hp w) pb cb b.entries) :
    Does Try.prog 14 #[.agg #[.slice pa ((a.entries).length) ca], .agg #[.slice pb ((b.entries).length) cb]] w (fun rv _ => rv = .bool (vleq a b)) := by
  have hpaL : _ ≤ 9223372036854775807 := hpa.2.1
  have hpbL : _ ≤ 9223372036854775807 := hpb.2.1
  refine WX.enter (tt := tt) (Γ := [(0, MF.rs pa ca a.entries), (1, MF.rs pb cb b.entries)]) Try.func14 rfl (by kernel_rfl) rfl (allK_cons hpa (allK_cons hpb allK_nil)) ?_
  refine WX.run ttOk rfl ?_
  refine WX.loop (ι := Nat) ⟨fun i => i ≤ a.entries.length ∧ a.entries.any (vgt a b) = (a.entries.drop i).any (vgt a b), fun i => a.entries.length - i, fun i => [(5, .v (.int .i64 (((i : Nat) : Int)))), (3, .p 3 0), (2, .p 2 0)], fun i => [(3, ⟨46, [.slice pb ((b.entries).length) cb]⟩), (2, ⟨46, [.slice pa ((a.entries).length) ca]⟩)], fun i => [], fun i => [(0, MF.rs pa ca a.entries), (1, MF.rs pb cb b.entries)]⟩ 0 ⟨by omega, by simp⟩
    (.cons rfl (.cons rfl (.cons rfl (.nil)))) (.cons rfl (.cons rfl (.nil))) .nil (.cons rfl (.cons rfl (.nil))) ?_
  rintro i hpre
  dsimp only at hpre
  refine WX.run ttOk rfl ?_
  refine WX.cases 10 rfl (fun h1 => ?_) (fun h1 => ?_)
  · skip
    replace h1 := B.dt h1
    refine WX.run ttOk rfl ?_
    refine WX.draw 17 mixed ?_
    intro bs G0 hΓ0
    refine DX.takes (fuel := 13) ttOk [0, 1, 2, 3] (by kernel_rfl) rfl ?_
    have hi1 : i < (a.entries).length := (by first | assumption | omega)
    obtain ⟨e1, e1h⟩ : ∃ e1, (a.entries)[i]? = some e1 := ⟨_, List.getElem?_eq_getElem hi1⟩
    refine DX.idx 4 0 i ttOk hΓ0 (by kernel_rfl) rfl rfl rfl rfl rfl rfl rfl rfl rfl rfl rfl hi1 ?_
    rintro ad1 rfl
    refine DX.takes (fuel := 11) ttOk [5] (by kernel_rfl) rfl ?_
    refine DX.ldE 6 0 2 e1 ttOk hΓ0 (by kernel_rfl) rfl rfl rfl rfl rfl rfl rfl rfl e1h (fun _ => rfl) (fun _ => rfl) ?_
    rintro ⟨⟨p1, c1⟩, ⟨⟩⟩ ok1
    have ok10 := ok1
    rcases ok10 with ⟨-, ok1sx1⟩
    replace ok1sx1 : -9223372036854775808 ≤ e1.value ∧ e1.value ≤ 9223372036854775807 := ok1sx1
    refine DX.takes (fuel := 6) ttOk [8, 9, 10, 11] (by kernel_rfl) rfl ?_
    have hi2 : i < (a.entries).length := (by first | assumption | omega)
    refine DX.idx 12 0 i ttOk hΓ0 (by kernel_rfl) rfl rfl rfl rfl rfl rfl rfl rfl rfl rfl rfl hi2 ?_
    rintro ad2 ⟨⟩
    refine DX.takes (fuel := 4) ttOk [13] (by kernel_rfl) rfl ?_
    refine DX.ldE 14 0 3 e1 ttOk hΓ0 (by kernel_rfl) rfl rfl rfl rfl rfl rfl rfl rfl e1h (fun _ => rfl) (fun _ => rfl) ?_
    rintro ⟨⟨p2, c2⟩, ⟨⟩⟩ ok2
    have ok20 := ok2
    rcases ok20 with ⟨-, ok2sx1⟩
    replace ok2sx1 : -9223372036854775808 ≤ e1.value ∧ e1.value ≤ 9223372036854775807 := ok2sx1
    refine DX.callV 7 (by kernel_rfl) rfl rfl rfl rfl rfl rfl (fun _ => rfl) rfl (fun w G bs hI hΓ => f38 w a (some ad1) ca (hΓ 0 _ rfl) e1.name p1 c1 (hΓ 2 _ rfl)) ?_
    refine DX.callV 15 (by kernel_rfl) rfl rfl rfl rfl rfl rfl (fun _ => rfl) rfl (fun w G bs hI hΓ => f38 w b pb cb (hΓ 1 _ rfl) e1.name p2 c2 (hΓ 3 _ rfl)) ?_
    refine DX.takes (fuel := 0) ttOk [16] (by kernel_rfl) rfl ?_
    refine DX.tail rfl rfl (by kernel_rfl) ?_
    refine WX.run ttOk rfl ?_
    refine WX.cases 29 rfl (fun h2 => ?_) (fun h2 => ?_)
    · skip
      replace h2 := B.dt h2
      refine WX.run ttOk rfl ?_
      refine WX.ret ttOk rfl ?_
      intro w1 G bs hI hΓ
      refine congrArg Value.bool ?_
      unfold vleq
      rw [hpre.2]
      first | (rw [any_end (by omega)]; rfl) | (rw [any_hit e1h (decide_eq_true h2)]; rfl)
    · skip
      replace h2 := B.df h2
      refine WX.run ttOk rfl ?_
      refine WX.arith rfl rfl rfl rfl rfl rfl rfl (by unfold I64; omega) ?_
      refine WX.run ttOk rfl ?_
      refine WX.iter (i + 1) ⟨by omega, by rw [hpre.2]; exact any_miss e1h (decide_eq_false h2)⟩ (by dsimp only; omega) (.cons rfl (.cons rfl (.cons rfl (.nil)))) (.cons rfl (.cons rfl (.nil))) .nil (.cons rfl (.cons rfl (.nil)))
  · skip
    replace h1 := B.df h1
    refine WX.run ttOk rfl ?_
    refine WX.ret ttOk rfl ?_
    intro w1 G bs hI hΓ
    refine congrArg Value.bool ?_
    unfold vleq
    rw [hpre.2]
    first | (rw [any_end (by omega)]; rfl) | (rw [any_hit e1h (decide_eq_true h2)]; rfl)
end Go.Proofs.Ytkgehljhlmbdmaa
