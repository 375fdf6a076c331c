/-
  Functions as values: what a captured variable reads as, at a later world.
-/
import Derived.Test.YtkgehljhlmbdmaaMake
import Derived.ChangeKeysEq
namespace Go.Stp
open Go.RowKit (Below)
theorem below_le {w w' : World} (h : Below w.heap.size w w') : Le (hp w) (hp w') := fun b o hb => by
  have hlt : b < w.heap.size := (Array.getElem?_eq_some_iff.1 hb).1
  show w'.heap[b]? = some o
  rw [h.block b hlt]; exact hb
theorem cap_eq {a : Addr} {k : Nat} : Value.pointer (some a) = Value.pointer (some ((a.add (0 * k)).add 0)) := by
  cases a; simp [Addr.add]
theorem rd_box {α : Type} [GoT α] {w : World} {b : Nat} {T : TypeId} {a : α} {x : GoT.X α} (hh : w.heap[b]? = some (.cells (GoT.sh a x).toArray T (0, 0))) (hok : GoT.ok a) (hf : All (hp w) (GoT.fa a x)) : RdSl (hp w) (some ⟨b, 0, none⟩) 1 [a] := by
  refine ⟨Nat.le_refl _, by simp, by simpa using hok, GoT.sh a x, ?_, ?_⟩
  · intro j u hj
    refine ⟨_, rfl, ?_⟩
    have hh' : hp w b = some (.cells (GoT.sh a x).toArray T (0, 0)) := hh
    by_cases h0 : j = 0 <;> simp [gcell, Addr.add, h0, hh'] <;> simpa [h0] using hj
  · exact ⟨x, [], by simp, hf, rfl⟩
theorem below_step {w0 w w' : World} (h : Below w0.heap.size w0 w) (k : Below w.heap.size w w') : Below w0.heap.size w0 w' :=
  h.trans ⟨k.os, k.tape, k.output, k.size, fun i hi => k.block i (Nat.lt_of_lt_of_le hi h.size)⟩
/-- == and != of bools -/
def beqO (b : BinOp) (p q : Bool) : Option Bool :=
  match b with
  | .eql => some (p == q)
  | .neq => some (!(p == q))
  | _ => none
theorem looks_beq {C : Cx} {env : Env} {L : Locs} {R : Rows} {G : GH} {o : Oper} {b : BinOp} {x y : Operand} {T T' : Nat} {ti : TI} {p q c : Bool} (ht : TabOk C.P C.tt) (ho : o.op = .binOp b T x y T') (hT : look C.tt T = some ti) (hb : ti.desc = .bool)
    (hx : ev env x = some (.v (.bool p))) (hy : ev env y = some (.v (.bool q))) (hq : beqO b p q = some c) : Looks C env L R G o (.v (.bool c)) := by
  intro a w G' bs _ hA hI
  have hu : C.P.underlying T = some .bool := by rw [← hb]; exact (ht.get hT).1
  have he : (Op.equal T (.bool p) (.bool q)).run C.P w = .ok (p == q) w := run_equalIn_bool (P := C.P) w (Op.maxDepth - 1) T p q hu
  have hq' : (b = .eql ∧ c = (p == q)) ∨ (b = .neq ∧ c = !(p == q)) := by
    cases b <;> simp only [beqO, Option.some.injEq, reduceCtorEq] at hq
    · exact .inl ⟨rfl, hq.symm⟩
    · exact .inr ⟨rfl, hq.symm⟩
  unfold execOp
  simp only [ho, ev_conc hA hx, ev_conc hA hy, conc]
  rcases hq' with ⟨rfl, rfl⟩ | ⟨rfl, rfl⟩
  · simp [eqGuard, binOp, Sem.run_bind, he]
  · simp [eqGuard, binOp, Sem.run_bind, he]
theorem WX.beq {C : Cx} {ops : Array Oper} {o : Oper} {r : List Oper} {s : List It} {env : Env} {L : Locs} {R : Rows} {Γ : Facts} {d : Nat} {b : BinOp} {x y : Operand} {T T' : Nat} {ti : TI} {p q c : Bool} (ht : TabOk C.P C.tt)
    (hg : gd ops env o = some true) (hd : o.dst = some d) (hlt : Nat.blt d C.fn.ntmps = true) (ho : o.op = .binOp b T x y T') (hT : look C.tt T = some ti) (hb : ti.desc = .bool)
    (hx : ev env x = some (.v (.bool p))) (hy : ev env y = some (.v (.bool q))) (hq : beqO b p q = some c)
    (k : WX C (.ops ops r :: s) ((d, .v (.bool c)) :: env) L R Γ) : WX C (.ops ops (o :: r) :: s) env L R Γ :=
  WX.peek hg hd hlt fun _ _ => ⟨_, looks_beq ht ho hT hb hx hy hq, k⟩
end Go.Stp
