/-
  A part of a slice that is read. No condition.
-/
import Derived.Test.YtdkhklhnipiheaaSizes
import Derived.Laws.Slices
namespace Go.Stp
open GoT (X k ok sh fa oa)
/-- where s[lo:..] begins -/
def offP (p : Option Addr) (c lo kk : Nat) : Option Addr := if c = lo then p else p.map (·.add (lo * kk))
section
variable {α : Type} [GoT α]
theorem RdL.take {G : GH} : ∀ {xs : List Value} {l : List α} (i : Nat), RdL G xs l → RdL G (xs.take (i * k α)) (l.take i)
  | xs, [], i, h => by
    have : xs = [] := h
    subst this
    simp only [List.take_nil]; rfl
  | xs, a :: l, 0, _ => by simp only [Nat.zero_mul, List.take_zero]; rfl
  | xs, a :: l, i + 1, ⟨x, ys, h1, h2, h3⟩ => by
    refine ⟨x, ys.take (i * k α), ?_, h2, h3.take i⟩
    rw [h1, Nat.add_mul, Nat.one_mul, List.take_append, GoT.len, List.take_of_length_le (by rw [GoT.len]; omega), Nat.add_sub_cancel]
theorem RdL.drop {G : GH} : ∀ {xs : List Value} {l : List α} (i : Nat), RdL G xs l → RdL G (xs.drop (i * k α)) (l.drop i)
  | xs, [], i, h => by
    have : xs = [] := h
    subst this
    simp only [List.drop_nil]; rfl
  | xs, a :: l, 0, h => by simp only [Nat.zero_mul, List.drop_zero]; exact h
  | xs, a :: l, i + 1, ⟨x, ys, h1, h2, h3⟩ => by
    have := h3.drop i
    rw [h1, Nat.add_mul, Nat.one_mul, List.drop_append, GoT.len, List.drop_eq_nil_of_le (by rw [GoT.len]; omega), Nat.add_sub_cancel]
    exact this
theorem RdSl.pre {G : GH} {p : Option Addr} {c : Nat} {l : List α} (h : RdSl G p c l) (i : Nat) : RdSl G p c (l.take i) := by
  obtain ⟨h1, h2, xs, h3, h4⟩ := h
  refine ⟨by rw [List.length_take]; omega, by rw [List.length_take]; omega, xs.take (i * k α), fun j u hj => h3 j u ?_, h4.take i⟩
  rw [List.getElem?_take] at hj
  split at hj
  · exact hj
  · cases hj
theorem RdSl.suf {G : GH} {p : Option Addr} {c : Nat} {l : List α} (h : RdSl G p c l) (i : Nat) : RdSl G (offP p c i (k α)) (c - i) (l.drop i) := by
  obtain ⟨h1, h2, xs, h3, h4⟩ := h
  refine ⟨by rw [List.length_drop]; omega, by rw [List.length_drop]; omega, xs.drop (i * k α), fun j u hj => ?_, h4.drop i⟩
  rw [List.getElem?_drop] at hj
  obtain ⟨a, ha, hg⟩ := h3 _ u hj
  unfold offP
  split
  · rename_i e
    have : xs.length = l.length * k α := h4.len
    have hlt := (List.getElem?_eq_some_iff.1 hj).1
    have : l.length * k α ≤ i * k α := Nat.mul_le_mul_right _ (by omega)
    omega
  · exact ⟨a.add (i * k α), by rw [ha]; rfl, by rw [addr_add_add]; exact hg⟩
end
theorem elemO_info {P : Program} {tt : TT} (ht : TabOk P tt) {T kk : Nat} (h : elemO tt T = some kk) (w : World) : P.underlying T = some (.slice (P.elem T)) ∧ (sizeOf (P.elem T)).run P w = .ok kk w := by
  unfold elemO at h
  split at h
  · rename_i ti hT
    split at h
    · rename_i e hd
      split at h
      · rename_i te hE
        simp only [Option.some.injEq] at h; subst h
        obtain ⟨hu, _⟩ := ht.get hT
        obtain ⟨_, inf, hinf, _, hs, _⟩ := ht.get hE
        rw [hd] at hu
        have he : P.elem T = e := by simp [Program.elem, hu]
        rw [he]
        exact ⟨hu, by rw [run_sizeOf hinf, hs]⟩
      · cases h
    · cases h
  · cases h
theorem addr_add0 (a : Addr) : a.add 0 = a := by simp [Addr.add]
theorem looks_slH {C : Cx} {env : Env} {L : Locs} {R : Rows} {G : GH} {o : Oper} {x y : Operand} {T n c kk : Nat} {p : Option Addr} {h : Int} (m : Nat) (ht : TabOk C.P C.tt) (ho : o.op = .slice T x none (some y) none) (hT : elemO C.tt T = some kk)
    (hx : ev env x = some (.v (.slice p n c))) (hy : ev env y = some (.v (.int .i64 h))) (h0 : h = (m : Int)) (h1 : m ≤ c) : Looks C env L R G o (.v (.slice p m c)) := by
  intro a w G' bs _ hA hI
  subst h0
  obtain ⟨hu, hs⟩ := elemO_info ht hT w
  unfold execOp
  simp only [ho, Option.map, ev_conc hA hx, ev_conc hA hy, conc, Sem.run_bind, run_sliceAt_slice w T _ _ _ _ hu, run_slice_h w T p n c hu .i64 (m : Int) (by omega) (by omega), hs, Result.andThen_ok]
  simp only [sliced, Nat.zero_mul, Nat.sub_zero, Int.toNat_natCast]
  cases p <;> simp [addr_add0] <;> rfl
theorem looks_slL {C : Cx} {env : Env} {L : Locs} {R : Rows} {G : GH} {o : Oper} {x y : Operand} {T n c kk : Nat} {p : Option Addr} {h : Int} (m : Nat) (ht : TabOk C.P C.tt) (ho : o.op = .slice T x (some y) none none) (hT : elemO C.tt T = some kk)
    (hx : ev env x = some (.v (.slice p n c))) (hy : ev env y = some (.v (.int .i64 h))) (h0 : h = (m : Int)) (h1 : m ≤ n) : Looks C env L R G o (.v (.slice (offP p c m kk) (n - m) (c - m))) := by
  intro a w G' bs _ hA hI
  subst h0
  obtain ⟨hu, hs⟩ := elemO_info ht hT w
  unfold execOp
  simp only [ho, Option.map, ev_conc hA hx, ev_conc hA hy, conc, Sem.run_bind, run_sliceAt_slice w T _ _ _ _ hu, run_slice_l w T p n c hu .i64 (m : Int) (by omega) (by omega), hs, Result.andThen_ok]
  simp only [sliced, Int.toNat_natCast, offP]
  rfl
end Go.Stp
