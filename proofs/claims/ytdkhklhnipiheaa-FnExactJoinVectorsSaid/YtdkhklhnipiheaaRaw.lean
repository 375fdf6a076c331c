/-
  Rows as rows of cells: a load from one that has been written, clear, copy, a part that is kept. No condition.
-/
import Derived.Test.YtdkhklhnipiheaaCut
import Derived.Laws.CopyRow
import Derived.Lib.Overlaps
namespace Go.Stp
open GoT (X k ok sh fa oa)
/-! ### one operation that changes memory -/
theorem WX.did {C : Cx} {ops : Array Oper} {o : Oper} {r : List Oper} {s : List It} {env : Env} {L : Locs} {R : Rows} {Γ : Facts} {ι : Type} {env' : ι → Env} {R' : ι → Rows} {Γ' : ι → Facts} (hg : gd ops env o = some true)
    (h : ∀ a w G bs, At C.fn.ntmps env bs a → HInv C w G bs L R → AllK C.M G Γ → ∃ v w' i, (execOp a.eval o).run C.P w = .ok (.value v) w' ∧ Sat C (env' i) L (R' i) (Γ' i) (a.put o.dst v) w')
    (k : ∀ i, WX C (.ops ops r :: s) (env' i) L (R' i) (Γ' i)) : WX C (.ops ops (o :: r) :: s) env L R Γ := by
  rintro a w ⟨G, bs, hA, hI, hΓ⟩
  obtain ⟨v, w', i, hrun, hS⟩ := h a w G bs hA hI hΓ
  show wpList C.P ops (cont C s) (o :: r) a w
  unfold wpList
  rw [if_pos (gd_sound hA hg)]
  refine .inl ?_
  unfold Oper.wp
  rw [hrun]
  simp only [Oper.upon]
  exact k i _ _ hS
/-- row ρ's block is written; the row is told anew -/
theorem HInv.wr {C : Cx} {w : World} {G : GH} {bs : Nat → Nat} {L : Locs} {R : Rows} (hI : HInv C w G bs L R) {ρ : Nat} {row : Row} (hρ : look R ρ = some row) {o1 T : Nat} {cur cur' : Array Value} (hp : row.p = some ⟨bs ρ, o1, none⟩) (hc0 : row.c ≠ 0)
    (hh : w.heap[bs ρ]? = some (.cells cur T (0, 0))) (hcs : o1 + row.c * row.k ≤ cur.size) (hsz : cur'.size = cur.size) {n' : Nat} {xs' : List Value} (hn' : n' ≤ row.c) (hl : xs'.length = n' * row.k) (hxs : (cur'.toList.drop o1).take (n' * row.k) = xs') :
    HInv C (w.setRow (bs ρ) cur') G bs L (setR R ρ ⟨row.k, row.p, n', row.c, xs'⟩) := by
  have hrow := hI.row ρ row hρ
  obtain ⟨hBb, hGb, hcm⟩ : C.M (bs ρ) ∧ G (bs ρ) = none ∧ row.c ≤ maxLen := by
    rcases hrow.2 with ⟨h0, _⟩ | ⟨_, _, h1, h2, _, h5, _⟩
    · exact absurd h0 hc0
    · exact ⟨h1, h2, h5⟩
  have hLρ : ∀ l, look L ρ ≠ some l := fun l hl => hI.dis ρ l row hl hρ
  have h999 : ρ ≠ 999 := fun e => by subst e; exact hI.nr row hρ
  have hrow' : RowOk C.M (w.setRow (bs ρ) cur') G (bs ρ) ⟨row.k, row.p, n', row.c, xs'⟩ :=
    ⟨hl, .inr ⟨o1, hp, hBb, hGb, hn', hcm, cur', T, setRow_heap w _ cur _ T _ hh, by rw [hsz]; exact hcs, hxs⟩⟩
  have honly : Only w (w.setRow (bs ρ) cur') (bs ρ) (row.c ≠ 0) := ⟨rfl, rfl, rfl, by simp [World.setRow], fun j hj hne => setRow_other w _ j _ (hne hc0)⟩
  have hlook : ∀ j, look (setR R ρ ⟨row.k, row.p, n', row.c, xs'⟩) j = if ρ = j then some ⟨row.k, row.p, n', row.c, xs'⟩ else look R j := by
    intro j
    rw [look_setR]
    split
    · rename_i e; subst e; rw [hρ]; rfl
    · rfl
  have hI' := hI.upd (ρ := ρ) (b' := bs ρ) h999 (row.c ≠ 0) (fun _ => ⟨.inr ⟨row, hρ, hc0⟩, hBb, hGb⟩) honly (.inl ⟨rfl, hc0⟩) hlook hLρ hrow'
  have hbs : (fun j => if j = ρ then bs ρ else bs j) = bs := by funext j; split <;> simp_all
  rwa [hbs] at hI'
theorem take_cut {α : Type} (l vs : List α) (o1 o m n : Nat) (hm : m ≤ o) (ho : o ≤ n) (hn : o1 + n ≤ l.length) : ((l.take (o1 + o) ++ vs ++ l.drop (o1 + o + vs.length)).drop o1).take m = ((l.drop o1).take n).take m := by
  rw [List.append_assoc, List.drop_append_of_le_length (by simp; omega), List.take_append_of_le_length (by simp; omega), List.drop_take, List.take_take, List.take_take]
  congr 1; omega
theorem zrep_mem {z : List Value} : ∀ {n : Nat} {u : Value}, u ∈ zrep n z → u ∈ z
  | n + 1, u, h => by
    rcases List.mem_append.1 h with h | h
    · exact zrep_mem h
    · exact h
theorem zeroCells_zrep (z : Array Value) (n : Nat) (hz : 0 < z.size) : (Builtin.zeroCells z n).toList = zrep n z.toList := zrep_range z hz n
/-- clear(s[i:]): the row is cut to i elements -/
theorem WX.clr {C : Cx} {ops : Array Oper} {o : Oper} {r : List Oper} {s : List It} {env : Env} {L : Locs} {R R' : Rows} {Γ : Facts} {x : Operand} {T e kk by_ : Nat} {z : List Value} {row : Row} (ρ i : Nat) (ht : TabOk C.P C.tt)
    (hg : gd ops env o = some true) (hd : o.dst = none) (ho : o.op = .call { callee := .builtin .clear, args := #[x], argTypes := #[T] }) (hel : elO C.tt T = some (e, kk, by_, z)) (hone : oneB z = true)
    (hx : ev env x = some (.v (.slice (offP row.p row.c i kk) (row.n - i) (row.c - i)))) (hρ : look R ρ = some row) (hkk : row.k = kk) (hi : i ≤ row.n) (hR : setRO R ρ ⟨row.k, row.p, i, row.c, row.xs.take (i * kk)⟩ = some R')
    (k : WX C (.ops ops r :: s) env L R' Γ) : WX C (.ops ops (o :: r) :: s) env L R Γ := by
  refine WX.did (ι := Unit) (env' := fun _ => env) (R' := fun _ => R') (Γ' := fun _ => Γ) hg (fun a w G bs hA hI hΓ => ?_) (fun _ => k)
  obtain ⟨hu, i', v, te, hE, hte, hi', h0, hs, _, hv, hzl, hpos⟩ := elO_some ht hel
  rw [setRO_eq hR]
  subst hkk
  rw [hd]
  by_cases hin : row.n - i = 0
  · have hi2 : i = row.n := by omega
    have hrun : (execOp a.eval o).run C.P w = .ok (.value (.tuple #[])) w := by
      unfold execOp
      simp only [ho, resolve, invoke, builtin, Sem.run_bind, Sem.run_pure, Result.andThen_ok, List.map_toArray, List.map_cons, List.map_nil, ev_conc hA hx, conc_v, hin]
      cases hpp : offP row.p row.c i row.k <;> simp [Builtin.clear_, run_underlying hu]
    have hrr : (⟨row.k, row.p, i, row.c, row.xs.take (i * row.k)⟩ : Row) = row := by
      rw [hi2, ← (hI.row ρ row hρ).1, List.take_length]
    exact ⟨_, w, (), hrun, G, bs, hA, by rw [hrr]; exact hI.respell (look_setR_same hρ), hΓ⟩
  · have hrow := hI.row ρ row hρ
    obtain ⟨o1, hp', hc0, cur, T', hh, hcs, htk, hnc⟩ := hrow.some (by omega)
    have hck : row.n * row.k ≤ row.c * row.k := Nat.mul_le_mul_right _ hnc
    have hsplit : i * row.k + (row.n - i) * row.k = row.n * row.k := by rw [← Nat.add_mul]; congr 1; omega
    have hoff : offP row.p row.c i row.k = some ⟨bs ρ, o1 + i * row.k, none⟩ := by
      unfold offP; rw [if_neg (by omega), hp']; simp [Addr.add_lit]
    have hvs : v.cells.size = row.k := by rw [← hzl, ← hv]; simp
    have hzs := zeroCells_zrep v.cells (row.n - i) (by omega)
    have hzlen : (zrep (row.n - i) z).length = (row.n - i) * row.k := by rw [zrep_len, hzl]
    have hst := run_storeCells_at C.P (bs ρ) (o1 + i * row.k) T' (zrep (row.n - i) z) 0 cur w hh (by rw [hzlen]; simp; omega) (fun u hu' => oneB_spec hone u (zrep_mem hu'))
    simp only [Nat.add_zero] at hst
    rw [hv] at hzs
    obtain ⟨m, hm⟩ : ∃ m, row.n - i = m + 1 := ⟨row.n - i - 1, by omega⟩
    have hrun : (execOp a.eval o).run C.P w = .ok (.value (.tuple #[])) (w.setRow (bs ρ) (cur.toList.take (o1 + i * row.k) ++ zrep (row.n - i) z ++ cur.toList.drop (o1 + i * row.k + (zrep (row.n - i) z).length)).toArray) := by
      unfold execOp
      simp only [ho, resolve, invoke, builtin, Sem.run_bind, Sem.run_pure, Result.andThen_ok, List.map_toArray, List.map_cons, List.map_nil, ev_conc hA hx, conc_v, hoff]
      rw [hm] at hst hzs ⊢
      simp [Builtin.clear_, run_underlying hu, zeroValue, typeInfo, hi', h0, hzs, hst]
    refine ⟨_, _, (), hrun, G, bs, hA, ?_, hΓ⟩
    refine hI.wr hρ hp' hc0 hh hcs ?_ (by omega) ?_ ?_
    · simp only [List.size_toArray, List.length_append, List.length_take, List.length_drop, Array.length_toList, hzlen]; omega
    · rw [List.length_take, hrow.1]; have : i * row.k ≤ row.n * row.k := Nat.mul_le_mul_right _ hi; omega
    · simp only []
      rw [← htk]
      exact take_cut cur.toList _ o1 (i * row.k) (i * row.k) (row.n * row.k) (Nat.le_refl _) (Nat.mul_le_mul_right _ hi) (by simp; omega)
/-- a load of element i from row ρ, whose cells there are still those of xs0 -/
theorem WX.ldW {C : Cx} {ops : Array Oper} {o : Oper} {r : List Oper} {s : List It} {env : Env} {L : Locs} {R : Rows} {Γ : Facts} {α : Type} [GoT α] {d : Nat} {x : Operand} {T i off : Nat} {ti : TI} {ad : Addr} {row : Row} {xs0 : List Value} {l : List α} (ρ n : Nat) (a : α) {val : X α → Value} {Γ' : X α → Facts} (ht : TabOk C.P C.tt)
    (hg : gd ops env o = some true) (hd : o.dst = some d) (hlt : Nat.blt d C.fn.ntmps = true) (ho : o.op = .load T x)
    (hx : ev env x = some (.e (some ad) i (k α) off)) (hT : look C.tt T = some ti) (hρ : look R ρ = some row) (hp : row.p = some ad) (hk : row.k = k α) (hn : i < row.n) (hrd : ∀ G, AllK C.M G Γ → RdL G xs0 l) (ha : l[i]? = some a) (heq : ∀ j, row.xs[i * k α + j]? = xs0[i * k α + j]?)
    (hv : ∀ x, asm ti (sh a x) off = some (val x)) (hf : ∀ x, addF n (fa .der a x) Γ = some (Γ' x))
    (k : ∀ x, (∀ j u, (sh a x)[j]? = some u → xs0[i * k α + j]? = some u) → WX C (.ops ops r :: s) ((d, .v (val x)) :: env) L R (Γ' x)) : WX C (.ops ops (o :: r) :: s) env L R Γ := by
  rintro a' w ⟨G, bs, hA, hI, hΓ⟩
  obtain ⟨x', h6, h7⟩ := (hrd G hΓ).get ha
  have hrow := hI.row ρ row hρ
  obtain ⟨o1, hp', hc0, cur, T', hh, hcs, htk, hnc⟩ := hrow.some (by omega)
  rw [hp] at hp'; simp at hp'; subst hp'
  have hc : ∀ j u, (sh a x')[j]? = some u → w.cell? (((⟨bs ρ, o1, none⟩ : Addr).add (i * GoT.k α)).add j) = some u := fun j u hj => by
    have h8 := (heq j).trans (h7 j u hj)
    rw [← htk, List.getElem?_take, List.getElem?_drop] at h8
    rw [addr_add_add, Addr.add_lit, cell_of_row w _ _ cur T' _ hh]
    split at h8
    · simpa using h8
    · cases h8
  have hl : (execOp a'.eval o).run C.P w = .ok (.value (val x')) w := by
    unfold execOp
    have hrun := run_loadVar (P := C.P) ht hT (w := w) (a := (⟨bs ρ, o1, none⟩ : Addr).add (i * GoT.k α)) (cs := sh a x') (off := off) (v := val x') hc (hv x')
    simp only [ho, ev_conc hA hx, conc, Instr.loadAt, Instr.sureAddr, Sem.run_bind, Sem.run_pure, Result.andThen_ok, hrun]
  show wpList C.P ops (cont C s) (o :: r) a' w
  unfold wpList
  rw [if_pos (gd_sound hA hg)]
  refine .inl ?_
  unfold Oper.wp
  rw [hl]
  simp only [Oper.upon, hd]
  exact k x' h7 _ _ ⟨G, bs, hA.put (by simpa [Nat.blt_eq] using hlt) (.v (val x')), hI, AllK.ders (hf x') (fun f hf => GoT.fak f hf) h6 hΓ⟩
/-! ### the elements that are kept -/
section
variable {α : Type}
/-- the cells of the elements that f does not name -/
def keepC (kk : Nat) (f : α → Bool) : List α → List Value → List Value
  | [], _ => []
  | a :: l, xs => bif f a then keepC kk f l (xs.drop kk) else xs.take kk ++ keepC kk f l (xs.drop kk)
theorem keepC_snoc (kk : Nat) (f : α → Bool) : ∀ (l : List α) (a : α) (xs : List Value), keepC kk f (l ++ [a]) xs = keepC kk f l xs ++ (bif f a then [] else (xs.drop (l.length * kk)).take kk)
  | [], a, xs => by cases hf : f a <;> simp [keepC, hf]
  | b :: l, a, xs => by
    have e : (b :: l).length * kk = kk + l.length * kk := by rw [List.length_cons, Nat.add_mul]; omega
    simp only [List.cons_append, keepC, keepC_snoc kk f l a, e, ← List.drop_drop]
    cases f b <;> simp
theorem keepC_len (f : α → Bool) (kk : Nat) : ∀ (l : List α) (xs : List Value), l.length * kk ≤ xs.length → (keepC kk f l xs).length = (l.filter fun a => !f a).length * kk
  | [], xs, _ => by simp [keepC]
  | a :: l, xs, h => by
    have h1 : l.length * kk ≤ (xs.drop kk).length := by rw [List.length_drop]; rw [List.length_cons, Nat.add_mul] at h; omega
    have h2 : kk ≤ xs.length := by rw [List.length_cons, Nat.add_mul] at h; omega
    have ih := keepC_len f kk l _ h1
    cases hf : f a
    · rw [List.filter_cons_of_pos (by simp [hf])]
      simp only [keepC, hf, cond_false, List.length_append, List.length_take, ih, List.length_cons, Nat.add_mul]; omega
    · rw [List.filter_cons_of_neg (by simp [hf])]
      simp only [keepC, hf, cond_true, ih]
theorem keepC_none (f : α → Bool) (kk : Nat) : ∀ (l : List α) (xs : List Value), (∀ a ∈ l, f a = false) → keepC kk f l xs = xs.take (l.length * kk)
  | [], xs, _ => by simp [keepC]
  | a :: l, xs, h => by
    have e : (a :: l).length * kk = kk + l.length * kk := by rw [List.length_cons, Nat.add_mul]; omega
    simp only [keepC, h a (List.mem_cons_self ..), cond_false, e, List.take_add]
    rw [keepC_none f kk l _ (fun b hb => h b (List.mem_cons_of_mem _ hb))]
end
section
variable {α : Type} [GoT α]
theorem OwL.keep (f : α → Bool) : ∀ {h : GH} {xs : List Value} {l : List α}, OwL h xs l → OwL h (keepC (k α) f l xs) (l.filter fun a => !f a)
  | h, xs, [], _ => rfl
  | h, xs, a :: l, ⟨x, ys, q1, q2, e, r1, r2, r3, r4, r5⟩ => by
    have h1 : xs.take (k α) = sh a x := by rw [e, ← GoT.len a x, List.take_left]
    have h2 : xs.drop (k α) = ys := by rw [e, ← GoT.len a x, List.drop_left]
    simp only [keepC, h1, h2]
    cases hf : f a
    · rw [List.filter_cons_of_pos (by simp [hf])]
      exact ⟨x, _, q1, q2, rfl, r1, r2, r3, r4, OwL.keep f r5⟩
    · rw [List.filter_cons_of_neg (by simp [hf])]
      exact (OwL.keep f r5).mono r2
/-- slices.DeleteFunc on its way -/
structure DelInv (f : α → Bool) (l : List α) (xs0 : List Value) (i j : Nat) (xs : List Value) : Prop where
  ij : i < j
  jn : j ≤ l.length
  len : xs.length = l.length * k α
  pre : xs.take (i * k α) = keepC (k α) f (l.take j) xs0
  cnt : i = ((l.take j).filter fun a => !f a).length
  rest : ∀ m, j * k α ≤ m → xs[m]? = xs0[m]?
theorem DelInv.start {f : α → Bool} {l : List α} {xs0 : List Value} {i : Nat} {a : α} (hl : xs0.length = l.length * k α) (hi : l[i]? = some a) (ha : f a = true) (hb : ∀ b ∈ l.take i, f b = false) : DelInv f l xs0 i (i + 1) xs0 := by
  have hlt := (List.getElem?_eq_some_iff.1 hi).1
  have htk : l.take (i + 1) = l.take i ++ [a] := by rw [List.take_add_one, hi]; rfl
  have hti : (l.take i).length = i := by simp; omega
  refine ⟨by omega, by omega, hl, ?_, ?_, fun _ _ => rfl⟩
  · rw [htk, keepC_snoc, ha, cond_true, List.append_nil, keepC_none f _ _ _ hb, hti]
  · rw [htk, List.filter_append, List.filter_eq_self.2 (fun b hb' => by simp [hb b hb'])]; simp [ha, hti]
theorem DelInv.skip {f : α → Bool} {l : List α} {xs0 xs : List Value} {i j : Nat} {a : α} (h : DelInv f l xs0 i j xs) (hj : l[j]? = some a) (ha : f a = true) : DelInv f l xs0 i (j + 1) xs := by
  have hlt := (List.getElem?_eq_some_iff.1 hj).1
  have htk : l.take (j + 1) = l.take j ++ [a] := by rw [List.take_add_one, hj]; rfl
  refine ⟨by have := h.ij; omega, by omega, h.len, ?_, ?_, fun m hm => h.rest m (by rw [Nat.add_mul] at hm; omega)⟩
  · rw [htk, keepC_snoc, ha, cond_true, List.append_nil]; exact h.pre
  · rw [htk, List.filter_append]; simp only [List.filter_cons, ha, Bool.not_true, Bool.false_eq_true, if_false, List.filter_nil, List.append_nil]; exact h.cnt
theorem DelInv.keep {f : α → Bool} {l : List α} {xs0 xs vs : List Value} {i j : Nat} {a : α} (h0 : xs0.length = l.length * k α) (h : DelInv f l xs0 i j xs) (hj : l[j]? = some a) (ha : f a = false) (hv : vs.length = k α) (hx : ∀ q u, vs[q]? = some u → xs0[j * k α + q]? = some u) :
    DelInv f l xs0 (i + 1) (j + 1) (xs.take (i * k α + 0) ++ vs ++ xs.drop (i * k α + 0 + vs.length)) := by
  have hlt := (List.getElem?_eq_some_iff.1 hj).1
  have htk : l.take (j + 1) = l.take j ++ [a] := by rw [List.take_add_one, hj]; rfl
  have htj : (l.take j).length = j := by simp; omega
  have hij := h.ij
  have hik : (i + 1) * k α ≤ j * k α := Nat.mul_le_mul_right _ hij
  have hjk : (j + 1) * k α ≤ l.length * k α := Nat.mul_le_mul_right _ hlt
  have hlen := h.len
  rw [Nat.add_mul, Nat.one_mul] at hik hjk
  have hvs : vs = (xs0.drop (j * k α)).take (k α) := by
    apply List.ext_getElem?
    intro q
    by_cases hq : q < k α
    · rw [List.getElem?_take, if_pos hq, List.getElem?_drop]
      have : vs[q]? = some (vs[q]'(by omega)) := List.getElem?_eq_getElem (by omega)
      rw [this]; exact (hx q _ this).symm
    · rw [List.getElem?_eq_none (by omega), List.getElem?_eq_none (by simp; omega)]
  have hlt1 : (xs.take (i * k α) ++ vs).length = (i + 1) * k α := by rw [Nat.add_mul, Nat.one_mul, List.length_append, List.length_take, hv]; omega
  refine ⟨by omega, by omega, ?_, ?_, ?_, fun m hm => ?_⟩
  · simp only [List.length_append, List.length_take, List.length_drop]; omega
  · rw [Nat.add_zero (i * k α), ← hlt1, List.take_left, htk, keepC_snoc, ha, cond_false, h.pre, htj, hvs]
  · rw [htk, List.filter_append]; simp only [List.filter_cons, ha, Bool.not_false, if_true, List.filter_nil, List.length_append, List.length_cons, List.length_nil]; rw [← h.cnt]
  · rw [Nat.add_mul, Nat.one_mul] at hm
    rw [Nat.add_zero (i * k α), List.getElem?_append_right (by rw [hlt1, Nat.add_mul, Nat.one_mul]; omega), List.getElem?_drop, hlt1, hv, Nat.add_mul, Nat.one_mul, show i * k α + k α + (m - (i * k α + k α)) = m by omega]
    exact h.rest m (by omega)
theorem DelInv.done {f : α → Bool} {l : List α} {xs0 xs : List Value} {i j : Nat} (h : DelInv f l xs0 i j xs) (hj : ¬ j < l.length) : xs.take (i * k α) = keepC (k α) f l xs0 ∧ i = (l.filter fun a => !f a).length := by
  have : l.take j = l := List.take_of_length_le (by omega)
  have h1 := h.pre
  have h2 := h.cnt
  rw [this] at h1 h2
  exact ⟨h1, h2⟩
end
/-! ### a call to which memory is lent, and that gets a function -/
theorem kp_leH {H : GH} {w w' : World} (h : Kp H w w') : Le (cut (hp w) H) (hp w') := fun b o hb => by
  have h1 := cut_le _ _ b o hb
  have h2 : H b = none := (cut_dj (hp w) H b).resolve_left (by rw [hb]; simp)
  have hlt : b < w.heap.size := (Array.getElem?_eq_some_iff.1 (h1 : w.heap[b]? = some o)).1
  show w'.heap[b]? = _
  rw [h.block b hlt h2]; exact h1
theorem Kp.lent {H : GH} {w w1 w2 : World} (h : Kp H w w1) (k : Kp emp w1 w2) : Kp H w w2 := h.trans (k.wide fun _ _ _ => rfl)
theorem WX.callHN {C : Cx} {ops : Array Oper} {o : Oper} {r : List Oper} {s : List It} {env : Env} {L : Locs} {R : Rows} {Γ Γ1 : Facts} {f : Operand} {args : List Operand} {ats : Array TypeId} {g : FuncId} {sf : SV} {svs : List SV} {caps : (Nat → Nat) → List Value} {fs : List MF}
    {Ψ : World → GH → Value → World → Prop} (ks : List Nat) (hks : giveK ks Γ = some (fs, Γ1)) (hg : gd ops env o = some true) (ho : o.op = .call { callee := .value f, args := args.toArray, argTypes := ats })
    (hf : ev env f = some sf) (hsf : ∀ bs, conc bs sf = .func (.func g) #[] (caps bs).toArray) (hargs : evs env args = some svs)
    (hc : ∀ w G bs H, HInv C w G bs L R → Le H G → Le H (hp w) → Sep H fs → AllK C.M (cut (hp w) H) Γ1 → Does C.P g (svs.map (conc bs) ++ caps bs).toArray w H (Ψ w H))
    (k : ∀ a w w' G bs H v, At C.fn.ntmps env bs a → HInv C w G bs L R → Le H G → (∀ b o, H b = some o → C.M b) → AllK C.M (cut G H) Γ1 → Kp H w w' → Ψ w H v w' → wpList C.P ops (cont C s) r (a.put o.dst v) w') :
    WX C (.ops ops (o :: r) :: s) env L R Γ := by
  rintro a w ⟨G, bs, hA, hI, hΓ⟩
  show wpList C.P ops (cont C s) (o :: r) a w
  unfold wpList
  rw [if_pos (gd_sound hA hg)]
  refine .inl ?_
  unfold Oper.wp
  obtain ⟨H, q1, q2, q3, q4⟩ := giveK_spec hks hΓ
  obtain ⟨he, hcalls⟩ := hc w G bs H hI q1 (q1.trans hI.le) q3 (q4.mono (cut_mono hI.le))
  rw [exec_call he ho (by rw [ev_conc hA hf, hsf]) (evs_sound hA args svs hargs)]
  simp only [Oper.upon]
  refine hcalls.mono fun e w' ⟨v, hv, hb, hψ⟩ => ?_
  subst hv
  exact k a w w' G bs H v hA hI q1 q2 q4 hb hψ
theorem WX.callN {C : Cx} {ops : Array Oper} {o : Oper} {r : List Oper} {s : List It} {env : Env} {L : Locs} {R : Rows} {Γ Γ1 : Facts} {f : Operand} {args : List Operand} {ats : Array TypeId} {g : FuncId} {sf : SV} {svs : List SV} {caps : (Nat → Nat) → List Value} {fs : List MF}
    {ι : Type} {val val' : ι → Value} {gs ds : ι → List MF} {Q : Prop} {d : Nat} {Γ' : ι → Facts} (ks : List Nat) (n : Nat) (hks : giveK ks Γ = some (fs, Γ1)) (hds : ∀ i h, Sep h (gs i) → All h (ds i)) (hdk : ∀ i, ∀ f ∈ ds i, f.k = .der) (hg : gd ops env o = some true) (hd : o.dst = some d) (hlt : Nat.blt d C.fn.ntmps = true) (ho : o.op = .call { callee := .value f, args := args.toArray, argTypes := ats })
    (hf : ev env f = some sf) (hsf : ∀ bs, conc bs sf = .func (.func g) #[] (caps bs).toArray) (hargs : evs env args = some svs)
    (hc : ∀ w G bs H, HInv C w G bs L R → Le H G → Le H (hp w) → Sep H fs → AllK C.M (cut (hp w) H) Γ1 → Does C.P g (svs.map (conc bs) ++ caps bs).toArray w H (Post w H val gs Q))
    (hv : ∀ i, normV (val i) = some (val' i)) (hΓ' : ∀ i, addF n (ds i ++ gs i) Γ1 = some (Γ' i))
    (k : ∀ i, Q → WX C (.ops ops r :: s) ((d, .v (val' i)) :: env) L R (Γ' i)) : WX C (.ops ops (o :: r) :: s) env L R Γ :=
  WX.callHN (Ψ := fun w H v w' => Post w H val gs Q v w') ks hks hg ho hf hsf hargs hc fun a' w w' G bs H v hA hI hHG hHM hΓ hb hv' => by
    obtain ⟨i, h, rfl, hq, hle, hdom, hs⟩ := hv'
    rw [hd, ← normV_eq (hv i)]
    obtain ⟨hI', hdj⟩ := hI.called hHG hHM hb hle hdom
    refine k i hq _ _ ⟨join (cut G H) h, bs, hA.put (by simpa [Nat.blt_eq] using hlt) (.v _), hI', hΓ.after hdj (fun b o hb' => ?_) hs (hdk i) (hds i h hs) (hΓ' i)⟩
    rcases hdom b o hb' with h1 | h1
    · exact .inl (Nat.le_trans hI.keep.size h1)
    · cases hx : H b with
      | none => exact absurd hx h1
      | some q => exact hHM b q hx
/-- a variable that a function has captured, beside memory that is lent -/
theorem rd_boxH {α : Type} [GoT α] {C : Cx} {w : World} {G H : GH} {bs : Nat → Nat} {L : Locs} {R : Rows} {lab : Nat} {T : TypeId} {a : α} {x : GoT.X α} (hI : HInv C w G bs L R) (hl : look L lab = some ⟨T, GoT.sh a x⟩) (hHG : Le H G) (hf : All (cut (hp w) H) (GoT.fa .der a x)) {w1 : World} (hb : Kp H w w1) : RdSl (hp w1) (some ⟨bs lab, 0, none⟩) 1 [a] := by
  obtain ⟨h1, _, h3⟩ := hI.loc lab _ hl
  have hH : H (bs lab) = none := by
    cases hx : H (bs lab) with
    | none => rfl
    | some q => rw [hHG _ _ hx] at h3; cases h3
  have hlt : bs lab < w.heap.size := (Array.getElem?_eq_some_iff.1 h1).1
  exact rd_box (by rw [hb.block _ hlt hH]; exact h1) (hf.mono (kp_leH hb))
end Go.Stp
