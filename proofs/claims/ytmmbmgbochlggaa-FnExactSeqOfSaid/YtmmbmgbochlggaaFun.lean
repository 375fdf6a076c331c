/-
  Functions as values: what a captured variable reads as, at a later world.
-/
import Derived.Test.YtmmbmgbochlggaaMake
namespace Go.Stp
open Go.RowKit (Below)
theorem below_le {w w' : World} (h : Below w.heap.size w w') : Le (hp w) (hp w') := fun b o hb => by
  have hlt : b < w.heap.size := (Array.getElem?_eq_some_iff.1 hb).1
  show w'.heap[b]? = some o
  rw [h.block b hlt]; exact hb
theorem cap_eq {a : Addr} {k : Nat} : Value.pointer (some a) = Value.pointer (some ((a.add (0 * k)).add 0)) := by
  cases a; simp [Addr.add]
theorem rd_box {α : Type} [GoT α] {w : World} {b : Nat} {T : TypeId} {a : α} {x : GoT.X α} (hh : w.heap[b]? = some (.cells (GoT.sh a x).toArray T (0, 0))) (hok : GoT.ok a) (hf : All (hp w) (GoT.fa a x)) : RdSl (hp w) (some ⟨b, 0, none⟩) 1 [a] := by
  refine ⟨Nat.le_refl _, by simp, by simpa using hok, GoT.sh a x, ?_, ?_⟩
  · intro j u hj
    refine ⟨_, rfl, ?_⟩
    have hh' : hp w b = some (.cells (GoT.sh a x).toArray T (0, 0)) := hh
    by_cases h0 : j = 0 <;> simp [gcell, Addr.add, h0, hh'] <;> simpa [h0] using hj
  · exact ⟨x, [], by simp, hf, rfl⟩
end Go.Stp
