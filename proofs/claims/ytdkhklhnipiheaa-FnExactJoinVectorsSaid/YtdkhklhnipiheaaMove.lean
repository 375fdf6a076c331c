/-
  Memory of one's own that moves element by element: parts of a row behind another one, an element taken out of a row, memory that is written no more. No condition.
-/
import Derived.Test.YtdkhklhnipiheaaRaw
namespace Go.Stp
open GoT (X k ok sh fa oa)
theorem WX.cap {C : Cx} {s : List It} {env : Env} {L : Locs} {R : Rows} {Γ : Facts} {row : Row} (ρ : Nat) (hρ : look R ρ = some row) (k : row.n ≤ row.c → WX C s env L R Γ) : WX C s env L R Γ := by
  rintro a w ⟨G, bs, hA, hI, hΓ⟩
  refine k ?_ a w ⟨G, bs, hA, hI, hΓ⟩
  rcases (hI.row ρ row hρ).2 with ⟨h1, h2⟩ | ⟨_, _, _, _, h, _⟩ <;> omega
/-! ### operations that look at no memory -/
def LooksP (C : Cx) (env : Env) (o : Oper) (sv : SV) : Prop := ∀ a w bs, At C.fn.ntmps env bs a → (execOp a.eval o).run C.P w = .ok (.value (conc bs sv)) w
theorem DX.seeP {C : Cx} {ops : Array Oper} {tl : List Nat} {s : List It} {bs : Nat → Nat} {G0 : GH} {fuel : Nat} {listed : Array Bool} {env : Env} {L : Locs} {R : Rows} {Γ : Facts} {d : Nat} {o : Oper} {sv : SV} (i : Nat) (hb : mayP ops listed i = true) (hi : getO ops.toList i = some o)
    (hg : gd ops env o = some true) (hd : o.dst = some d) (hlt : Nat.blt d C.fn.ntmps = true) (hl : LooksP C env o sv)
    (k : DX C ops tl s bs G0 fuel (listed.setIfInBounds i true) ((d, sv) :: env) L R Γ) : DX C ops tl s bs G0 (fuel + 1) listed env L R Γ := by
  rw [getO_eq] at hi
  exact DX.takeP hb (by simpa using hi) hd (by simpa [Nat.blt_eq] using hlt) hg (fun _ => hl) (fun h => by cases h) k
theorem looksP_arith {C : Cx} {env : Env} {o : Oper} {b : BinOp} {x y : Operand} {T T' : Nat} {m n q : Int} (ho : o.op = .binOp b T x y T')
    (hx : ev env x = some (.v (.int .i64 m))) (hy : ev env y = some (.v (.int .i64 n))) (hq : arithO b m n = some q) (hr : I64 q) : LooksP C env o (.v (.int .i64 q)) := by
  intro a w bs hA
  unfold execOp
  simp only [ho, ev_conc hA hx, ev_conc hA hy, conc]
  have := wrap_i64 hr
  cases b <;> simp [arithO] at hq <;> subst hq <;> simp [eqGuard, binOp, Op.intArith, this]
theorem looksP_wrap {C : Cx} {env : Env} {o : Oper} {b : BinOp} {x y : Operand} {T T' : Nat} {m n q : Int} (ho : o.op = .binOp b T x y T')
    (hx : ev env x = some (.v (.int .i64 m))) (hy : ev env y = some (.v (.int .i64 n))) (hq : arithO b m n = some q) : LooksP C env o (.v (.int .i64 (IntKind.i64.wrap q))) := by
  intro a w bs hA
  unfold execOp
  simp only [ho, ev_conc hA hx, ev_conc hA hy, conc]
  cases b <;> simp [arithO] at hq <;> subst hq <;> simp [eqGuard, binOp, Op.intArith]
theorem looksP_slH {C : Cx} {env : Env} {o : Oper} {x y : Operand} {T n c kk : Nat} {p : Option Addr} {h : Int} (m : Nat) (ht : TabOk C.P C.tt) (ho : o.op = .slice T x none (some y) none) (hT : elemO C.tt T = some kk)
    (hx : ev env x = some (.v (.slice p n c))) (hy : ev env y = some (.v (.int .i64 h))) (h0 : h = (m : Int)) (h1 : m ≤ c) : LooksP C env o (.v (.slice p m c)) := by
  intro a w bs hA
  subst h0
  obtain ⟨hu, hs⟩ := elemO_info ht hT w
  unfold execOp
  simp only [ho, Option.map, ev_conc hA hx, ev_conc hA hy, conc, Sem.run_bind, run_sliceAt_slice w T _ _ _ _ hu, run_slice_h w T p n c hu .i64 (m : Int) (by omega) (by omega), hs, Result.andThen_ok]
  simp only [sliced, Nat.zero_mul, Nat.sub_zero, Int.toNat_natCast]
  cases p <;> simp [addr_add0] <;> rfl
theorem looksP_slL {C : Cx} {env : Env} {o : Oper} {x y : Operand} {T n c kk : Nat} {p : Option Addr} {h : Int} (m : Nat) (ht : TabOk C.P C.tt) (ho : o.op = .slice T x (some y) none none) (hT : elemO C.tt T = some kk)
    (hx : ev env x = some (.v (.slice p n c))) (hy : ev env y = some (.v (.int .i64 h))) (h0 : h = (m : Int)) (h1 : m ≤ n) : LooksP C env o (.v (.slice (offP p c m kk) (n - m) (c - m))) := by
  intro a w bs hA
  subst h0
  obtain ⟨hu, hs⟩ := elemO_info ht hT w
  unfold execOp
  simp only [ho, Option.map, ev_conc hA hx, ev_conc hA hy, conc, Sem.run_bind, run_sliceAt_slice w T _ _ _ _ hu, run_slice_l w T p n c hu .i64 (m : Int) (by omega) (by omega), hs, Result.andThen_ok]
  simp only [sliced, Int.toNat_natCast, offP]
  rfl
/-! ### a part of a row, appended -/
theorem src_pre {P : Program} {T e b m : Nat} {M : Nat → Prop} {w : World} {G : GH} {src : Row} (hu : P.underlying T = some (.slice e)) (hr : RowOk M w G b src) (hone : ∀ u ∈ src.xs, u.oneCell' = true) (hm : m ≤ src.n) : Src P src.k T (.slice src.p m src.c) m (src.xs.take (m * src.k)) w := by
  obtain ⟨h1, h2⟩ := hr
  have hlen : (src.xs.take (m * src.k)).length = m * src.k := by rw [List.length_take, h1]; exact Nat.min_eq_left (Nat.mul_le_mul_right _ hm)
  rcases h2 with ⟨hc, hn⟩ | ⟨o1, hp, _, _, _, _, cur, T', hh, _, htk⟩
  · have hm0 : m = 0 := by omega
    subst hm0
    simp only [Nat.zero_mul, List.take_zero]
    cases hpp : src.p with
    | none => exact Src.ofNil w hu _
    | some ad => exact Src.ofSlice w hu ad 0 _ [] (by simp) (fun j u h => by simp at h) (fun u h => by cases h)
  · rw [hp]
    refine Src.ofSlice w hu _ m src.c _ hlen (fun j u hj => ?_) (fun u hu => hone u (List.mem_of_mem_take hu))
    rw [Addr.add_lit, cell_of_row w _ _ cur T' _ hh]
    rw [List.getElem?_take] at hj
    split at hj
    · rw [← htk, List.getElem?_take, List.getElem?_drop] at hj
      split at hj
      · simpa using hj
      · cases hj
    · cases hj
theorem src_suf {P : Program} {T e b m : Nat} {M : Nat → Prop} {w : World} {G : GH} {src : Row} (hu : P.underlying T = some (.slice e)) (hr : RowOk M w G b src) (hone : ∀ u ∈ src.xs, u.oneCell' = true) (hm : m ≤ src.n) : Src P src.k T (.slice (offP src.p src.c m src.k) (src.n - m) (src.c - m)) (src.n - m) (src.xs.drop (m * src.k)) w := by
  obtain ⟨h1, h2⟩ := hr
  have hlen : (src.xs.drop (m * src.k)).length = (src.n - m) * src.k := by rw [List.length_drop, h1, Nat.sub_mul]
  by_cases hmn : src.n - m = 0
  · have hnil : src.xs.drop (m * src.k) = [] := List.eq_nil_of_length_eq_zero (by rw [hlen, hmn, Nat.zero_mul])
    rw [hnil, hmn]
    cases hpp : offP src.p src.c m src.k with
    | none => exact Src.ofNil w hu _
    | some ad => exact Src.ofSlice w hu ad 0 _ [] (by simp) (fun j u h => by simp at h) (fun u h => by cases h)
  · rcases h2 with ⟨hc, hn⟩ | ⟨o1, hp, _, _, hnc, _, cur, T', hh, _, htk⟩
    · omega
    · have hoff : offP src.p src.c m src.k = some ⟨b, o1 + m * src.k, none⟩ := by unfold offP; rw [if_neg (by omega), hp]; simp [Addr.add_lit]
      rw [hoff]
      refine Src.ofSlice w hu _ (src.n - m) (src.c - m) _ hlen (fun j u hj => ?_) (fun u hu => hone u (List.mem_of_mem_drop hu))
      rw [Addr.add_lit, cell_of_row w _ _ cur T' _ hh]
      rw [List.getElem?_drop, ← htk, List.getElem?_take, List.getElem?_drop] at hj
      split at hj
      · simpa [Nat.add_assoc] using hj
      · cases hj
theorem WX.appPre {C : Cx} {ops : Array Oper} {o : Oper} {r : List Oper} {s : List It} {env : Env} {L : Locs} {R : Rows} {Γ : Facts} {d : Nat} {x y : Operand} {T kk by_ : Nat} {z : Value} {row src : Row} (ρ σ m n' : Nat) {R' : Option Addr → Nat → Rows} (ht : TabOk C.P C.tt)
    (hg : gd ops env o = some true) (hd : o.dst = some d) (hlt : Nat.blt d C.fn.ntmps = true) (ho : o.op = .call { callee := .builtin .append, args := #[x, y], argTypes := #[T, T] })
    (hx : ev env x = some (.v (.slice row.p row.n row.c))) (hy : ev env y = some (.v (.slice src.p m src.c))) (hap : appO C.tt T = some (kk, by_, z)) (hz : z.cells.size = kk) (hρ : look R ρ = some row) (hσ : look R σ = some src) (hkk : row.k = kk) (hks : src.k = kk) (hfree : envFree ρ env = true)
    (hone : ∀ u ∈ src.xs, u.oneCell' = true) (hm : m ≤ src.n) (hn : row.n + m = n') (hroom : n' * by_ ≤ 140737488355328) (hmax : n' ≤ 9223372036854775807)
    (hR : ∀ p' c', setRO R ρ ⟨row.k, p', n', c', row.xs ++ src.xs.take (m * kk)⟩ = some (R' p' c'))
    (k : ∀ p' c', WX C (.ops ops r :: s) ((d, .v (.slice p' n' c')) :: env) L (R' p' c') Γ) : WX C (.ops ops (o :: r) :: s) env L R Γ := by
  subst hn
  refine WX.appX (ι := Unit) ρ m (fun _ => src.xs.take (m * kk)) (fun _ => Γ) ht hg hd hlt ho hx hy hap hz hρ hkk hfree (fun w G bs hI hΓ => ⟨(), ?_, hΓ⟩) hroom (by simp only [maxLen]; omega) (fun _ p' c' => by rw [← setRO_eq (hR p' c')]; exact k p' c')
  obtain ⟨ti, e, te, hT, hde, hE, h1, _⟩ := appO_some hap
  obtain ⟨hu, _⟩ := ht.get hT
  rw [hde] at hu
  subst hks
  exact src_pre hu (hI.row σ src hσ) hone hm
theorem WX.appSuf {C : Cx} {ops : Array Oper} {o : Oper} {r : List Oper} {s : List It} {env : Env} {L : Locs} {R : Rows} {Γ : Facts} {d : Nat} {x y : Operand} {T kk by_ : Nat} {z : Value} {row src : Row} (ρ σ m n' : Nat) {R' : Option Addr → Nat → Rows} (ht : TabOk C.P C.tt)
    (hg : gd ops env o = some true) (hd : o.dst = some d) (hlt : Nat.blt d C.fn.ntmps = true) (ho : o.op = .call { callee := .builtin .append, args := #[x, y], argTypes := #[T, T] })
    (hx : ev env x = some (.v (.slice row.p row.n row.c))) (hy : ev env y = some (.v (.slice (offP src.p src.c m kk) (src.n - m) (src.c - m)))) (hap : appO C.tt T = some (kk, by_, z)) (hz : z.cells.size = kk) (hρ : look R ρ = some row) (hσ : look R σ = some src) (hkk : row.k = kk) (hks : src.k = kk) (hfree : envFree ρ env = true)
    (hone : ∀ u ∈ src.xs, u.oneCell' = true) (hm : m ≤ src.n) (hn : row.n + (src.n - m) = n') (hroom : n' * by_ ≤ 140737488355328) (hmax : n' ≤ 9223372036854775807)
    (hR : ∀ p' c', setRO R ρ ⟨row.k, p', n', c', row.xs ++ src.xs.drop (m * kk)⟩ = some (R' p' c'))
    (k : ∀ p' c', WX C (.ops ops r :: s) ((d, .v (.slice p' n' c')) :: env) L (R' p' c') Γ) : WX C (.ops ops (o :: r) :: s) env L R Γ := by
  subst hn
  refine WX.appX (ι := Unit) ρ (src.n - m) (fun _ => src.xs.drop (m * kk)) (fun _ => Γ) ht hg hd hlt ho hx hy hap hz hρ hkk hfree (fun w G bs hI hΓ => ⟨(), ?_, hΓ⟩) hroom (by simp only [maxLen]; omega) (fun _ p' c' => by rw [← setRO_eq (hR p' c')]; exact k p' c')
  obtain ⟨ti, e, te, hT, hde, hE, h1, _⟩ := appO_some hap
  obtain ⟨hu, _⟩ := ht.get hT
  rw [hde] at hu
  subst hks
  exact src_suf hu (hI.row σ src hσ) hone hm
section
variable {α : Type} [GoT α]
theorem ol_split {h : GH} {xs : List Value} {l : List α} (m : Nat) (hm : m ≤ l.length) (hs : Sep h [MF.ol xs l]) : Sep h [MF.ol (xs.take (m * k α)) (l.take m), MF.ol (xs.drop (m * k α)) (l.drop m)] := by
  have ho : OwL h xs l := sep_one hs
  rw [← List.take_append_drop m l] at ho
  obtain ⟨h1, h2, a1, a2, a3, a4, a5⟩ := ho.split
  have hl : (l.take m).length = m := by simp; omega
  rw [hl] at a4 a5
  exact ⟨h1, h2, a1, a2, a3, a4, one_sep a5⟩
theorem ol_drop {h : GH} {xs : List Value} {l : List α} {m m2 : Nat} (hm : m ≤ m2) (hl : m2 ≤ l.length) (hs : Sep h [MF.ol (xs.drop (m * k α)) (l.drop m)]) : Sep h [MF.ol (xs.drop (m2 * k α)) (l.drop m2)] := by
  have h1 := ol_split (m2 - m) (by rw [List.length_drop]; omega) hs
  obtain ⟨_, h2, _, a2, _, _, a5⟩ := h1
  have e1 : (xs.drop (m * k α)).drop ((m2 - m) * k α) = xs.drop (m2 * k α) := by rw [List.drop_drop, ← Nat.add_mul]; congr 2; omega
  have e2 : (l.drop m).drop (m2 - m) = l.drop m2 := by rw [List.drop_drop]; congr 1; omega
  rw [e1, e2] at a5
  exact a5.mono a2
theorem ol_drop0 {h : GH} {xs : List Value} {l : List α} {m2 : Nat} (hl : m2 ≤ l.length) (hs : Sep h [MF.ol xs l]) : Sep h [MF.ol (xs.drop (m2 * k α)) (l.drop m2)] := by
  obtain ⟨_, h2, _, a2, _, _, a5⟩ := ol_split m2 hl hs
  exact a5.mono a2
end
/-! ### an element, taken out of a row -/
/-- a load of element i of row ρ, of which the elements from i on are one's own (fact ℓ) -/
theorem WX.ldM {C : Cx} {ops : Array Oper} {o : Oper} {r : List Oper} {s : List It} {env : Env} {L : Locs} {R : Rows} {Γ Γ1 : Facts} {α : Type} [GoT α] {d : Nat} {x : Operand} {T i off : Nat} {ti : TI} {ad : Addr} {row : Row} {l : List α} (ρ ℓ n : Nat) (a : α) {val : X α → Value} {Γ' : X α → Facts} (ht : TabOk C.P C.tt)
    (hg : gd ops env o = some true) (hd : o.dst = some d) (hlt : Nat.blt d C.fn.ntmps = true) (ho : o.op = .load T x)
    (hx : ev env x = some (.e (some ad) i (k α) off)) (hT : look C.tt T = some ti) (hρ : look R ρ = some row) (hp : row.p = some ad) (hk : row.k = k α) (hn : i < row.n) (hℓ : giveK [ℓ] Γ = some ([MF.ol (row.xs.drop (i * k α)) (l.drop i)], Γ1)) (ha : l[i]? = some a)
    (hv : ∀ x, asm ti (sh a x) off = some (val x)) (hΓ' : ∀ x, addF n (fa .der a x ++ (oa a x ++ [MF.ol (row.xs.drop ((i + 1) * k α)) (l.drop (i + 1))])) Γ1 = some (Γ' x))
    (k : ∀ x, (∀ j u, (sh a x)[j]? = some u → row.xs[i * k α + j]? = some u) → WX C (.ops ops r :: s) ((d, .v (val x)) :: env) L R (Γ' x)) : WX C (.ops ops (o :: r) :: s) env L R Γ := by
  rintro a' w ⟨G, bs, hA, hI, hΓ⟩
  obtain ⟨H, q1, q2, q3, q4⟩ := giveK_spec hℓ hΓ
  have hol : OwL H (row.xs.drop (i * GoT.k α)) (l.drop i) := sep_one q3
  obtain ⟨hlt', rfl⟩ := List.getElem?_eq_some_iff.1 ha
  rw [List.drop_eq_getElem_cons hlt'] at hol
  obtain ⟨x', ys, g1, g2, e1, r1, r2, r3, r4, r5⟩ := hol
  have hys : ys = row.xs.drop ((i + 1) * GoT.k α) := by
    rw [Nat.add_mul, Nat.one_mul, ← List.drop_drop, e1, ← GoT.len l[i] x', List.drop_left]
  have h7 : ∀ j u, (sh l[i] x')[j]? = some u → row.xs[i * GoT.k α + j]? = some u := fun j u hj => by
    rw [← List.getElem?_drop, e1, List.getElem?_append_left (List.getElem?_eq_some_iff.1 hj).1]; exact hj
  have hrow := hI.row ρ row hρ
  obtain ⟨o1, hp', hc0, cur, T', hh, hcs, htk, hnc⟩ := hrow.some (by omega)
  rw [hp] at hp'; simp at hp'; subst hp'
  have hc : ∀ j u, (sh l[i] x')[j]? = some u → w.cell? (((⟨bs ρ, o1, none⟩ : Addr).add (i * GoT.k α)).add j) = some u := fun j u hj => by
    have h8 := h7 j u hj
    rw [← htk, List.getElem?_take, List.getElem?_drop] at h8
    rw [addr_add_add, Addr.add_lit, cell_of_row w _ _ cur T' _ hh]
    split at h8
    · simpa using h8
    · cases h8
  have hl : (execOp a'.eval o).run C.P w = .ok (.value (val x')) w := by
    unfold execOp
    have hrun := run_loadVar (P := C.P) ht hT (w := w) (a := (⟨bs ρ, o1, none⟩ : Addr).add (i * GoT.k α)) (cs := sh l[i] x') (off := off) (v := val x') hc (hv x')
    simp only [ho, ev_conc hA hx, conc, Instr.loadAt, Instr.sureAddr, Sem.run_bind, Sem.run_pure, Result.andThen_ok, hrun]
  show wpList C.P ops (cont C s) (o :: r) a' w
  unfold wpList
  rw [if_pos (gd_sound hA hg)]
  refine .inl ?_
  unfold Oper.wp
  rw [hl]
  simp only [Oper.upon, hd]
  refine k x' h7 _ _ ⟨G, bs, hA.put (by simpa [Nat.blt_eq] using hlt) (.v (val x')), hI, ?_⟩
  have hsep : Sep H (oa l[i] x' ++ [MF.ol (row.xs.drop ((i + 1) * GoT.k α)) (l.drop (i + 1))]) := Sep.both r1 r2 r3 r4 (one_sep (by rw [← hys]; exact r5))
  have := q4.after (cut_dj G H).symm q2 hsep (fun f hf => GoT.fak f hf) ((GoT.ow_rd (kd := .der) r4).mono r1) (hΓ' x')
  rwa [cut_join q1] at this
/-- .. and again -/
theorem WX.ldK {C : Cx} {ops : Array Oper} {o : Oper} {r : List Oper} {s : List It} {env : Env} {L : Locs} {R : Rows} {Γ : Facts} {α : Type} [GoT α] {d : Nat} {x : Operand} {T i off : Nat} {ti : TI} {ad : Addr} {row : Row} (ρ : Nat) (a : α) (x0 : X α) {v : Value} (ht : TabOk C.P C.tt)
    (hg : gd ops env o = some true) (hd : o.dst = some d) (hlt : Nat.blt d C.fn.ntmps = true) (ho : o.op = .load T x)
    (hx : ev env x = some (.e (some ad) i (k α) off)) (hT : look C.tt T = some ti) (hρ : look R ρ = some row) (hp : row.p = some ad) (hk : row.k = k α) (hn : i < row.n) (h7 : ∀ j u, (sh a x0)[j]? = some u → row.xs[i * k α + j]? = some u)
    (hv : asm ti (sh a x0) off = some v) (k : WX C (.ops ops r :: s) ((d, .v v) :: env) L R Γ) : WX C (.ops ops (o :: r) :: s) env L R Γ := by
  rintro a' w ⟨G, bs, hA, hI, hΓ⟩
  have hrow := hI.row ρ row hρ
  obtain ⟨o1, hp', hc0, cur, T', hh, hcs, htk, hnc⟩ := hrow.some (by omega)
  rw [hp] at hp'; simp at hp'; subst hp'
  have hc : ∀ j u, (sh a x0)[j]? = some u → w.cell? (((⟨bs ρ, o1, none⟩ : Addr).add (i * GoT.k α)).add j) = some u := fun j u hj => by
    have h8 := h7 j u hj
    rw [← htk, List.getElem?_take, List.getElem?_drop] at h8
    rw [addr_add_add, Addr.add_lit, cell_of_row w _ _ cur T' _ hh]
    split at h8
    · simpa using h8
    · cases h8
  have hl : (execOp a'.eval o).run C.P w = .ok (.value v) w := by
    unfold execOp
    have hrun := run_loadVar (P := C.P) ht hT (w := w) (a := (⟨bs ρ, o1, none⟩ : Addr).add (i * GoT.k α)) (cs := sh a x0) (off := off) (v := v) hc hv
    simp only [ho, ev_conc hA hx, conc, Instr.loadAt, Instr.sureAddr, Sem.run_bind, Sem.run_pure, Result.andThen_ok, hrun]
  show wpList C.P ops (cont C s) (o :: r) a' w
  unfold wpList
  rw [if_pos (gd_sound hA hg)]
  refine .inl ?_
  unfold Oper.wp
  rw [hl]
  simp only [Oper.upon, hd]
  exact k _ _ ⟨G, bs, hA.put (by simpa [Nat.blt_eq] using hlt) (.v v), hI, hΓ⟩
/-- .. without the load -/
theorem WX.ptrR {C : Cx} {s : List It} {env : Env} {L : Locs} {R : Rows} {Γ : Facts} {row : Row} (ρ : Nat) (hρ : look R ρ = some row) (hn : 0 < row.n) (k : ∀ ad, row.p = some ad → WX C s env L R Γ) : WX C s env L R Γ := by
  rintro a w ⟨G, bs, hA, hI, hΓ⟩
  obtain ⟨o1, hp, _⟩ := (hI.row ρ row hρ).some hn
  exact k _ hp a w ⟨G, bs, hA, hI, hΓ⟩
theorem WX.takeE {C : Cx} {s : List It} {env : Env} {L : Locs} {R : Rows} {Γ Γ1 : Facts} {α : Type} [GoT α] {i : Nat} {row : Row} {l : List α} (ρ ℓ n : Nat) (a : α) {Γ' : X α → Facts} (hρ : look R ρ = some row)
    (hℓ : giveK [ℓ] Γ = some ([MF.ol (row.xs.drop (i * k α)) (l.drop i)], Γ1)) (ha : l[i]? = some a)
    (hΓ' : ∀ x, addF n (fa .der a x ++ (oa a x ++ [MF.ol (row.xs.drop ((i + 1) * k α)) (l.drop (i + 1))])) Γ1 = some (Γ' x))
    (k : ∀ x, (∀ j u, (sh a x)[j]? = some u → row.xs[i * k α + j]? = some u) → WX C s env L R (Γ' x)) : WX C s env L R Γ := by
  rintro a' w ⟨G, bs, hA, hI, hΓ⟩
  obtain ⟨H, q1, q2, q3, q4⟩ := giveK_spec hℓ hΓ
  have hol : OwL H (row.xs.drop (i * GoT.k α)) (l.drop i) := sep_one q3
  obtain ⟨hlt', rfl⟩ := List.getElem?_eq_some_iff.1 ha
  rw [List.drop_eq_getElem_cons hlt'] at hol
  obtain ⟨x', ys, g1, g2, e1, r1, r2, r3, r4, r5⟩ := hol
  have hys : ys = row.xs.drop ((i + 1) * GoT.k α) := by
    rw [Nat.add_mul, Nat.one_mul, ← List.drop_drop, e1, ← GoT.len l[i] x', List.drop_left]
  have h7 : ∀ j u, (sh l[i] x')[j]? = some u → row.xs[i * GoT.k α + j]? = some u := fun j u hj => by
    rw [← List.getElem?_drop, e1, List.getElem?_append_left (List.getElem?_eq_some_iff.1 hj).1]; exact hj
  refine k x' h7 _ _ ⟨G, bs, hA, hI, ?_⟩
  have hsep : Sep H (oa l[i] x' ++ [MF.ol (row.xs.drop ((i + 1) * GoT.k α)) (l.drop (i + 1))]) := Sep.both r1 r2 r3 r4 (one_sep (by rw [← hys]; exact r5))
  have := q4.after (cut_dj G H).symm q2 hsep (fun f hf => GoT.fak f hf) ((GoT.ow_rd (kd := .der) r4).mono r1) (hΓ' x')
  rwa [cut_join q1] at this
theorem looks_ldK {C : Cx} {env : Env} {L : Locs} {R : Rows} {G : GH} {o : Oper} {α : Type} [GoT α] {x : Operand} {T i off : Nat} {ti : TI} {ad : Addr} {row : Row} (ρ : Nat) (a : α) (x0 : X α) {v : Value} (ht : TabOk C.P C.tt) (ho : o.op = .load T x)
    (hx : ev env x = some (.e (some ad) i (k α) off)) (hT : look C.tt T = some ti) (hρ : look R ρ = some row) (hp : row.p = some ad) (hn : i < row.n) (h7 : ∀ j u, (sh a x0)[j]? = some u → row.xs[i * k α + j]? = some u)
    (hv : asm ti (sh a x0) off = some v) : Looks C env L R G o (.v v) := by
  intro a' w G' bs _ hA hI
  have hrow := hI.row ρ row hρ
  obtain ⟨o1, hp', hc0, cur, T', hh, hcs, htk, hnc⟩ := hrow.some (by omega)
  rw [hp] at hp'; simp at hp'; subst hp'
  have hc : ∀ j u, (sh a x0)[j]? = some u → w.cell? (((⟨bs ρ, o1, none⟩ : Addr).add (i * GoT.k α)).add j) = some u := fun j u hj => by
    have h8 := h7 j u hj
    rw [← htk, List.getElem?_take, List.getElem?_drop] at h8
    rw [addr_add_add, Addr.add_lit, cell_of_row w _ _ cur T' _ hh]
    split at h8
    · simpa using h8
    · cases h8
  unfold execOp
  have hrun := run_loadVar (P := C.P) ht hT (w := w) (a := (⟨bs ρ, o1, none⟩ : Addr).add (i * GoT.k α)) (cs := sh a x0) (off := off) (v := v) hc hv
  simp only [ho, ev_conc hA hx, conc, Instr.loadAt, Instr.sureAddr, Sem.run_bind, Sem.run_pure, Result.andThen_ok, hrun]
theorem looksP_idx {C : Cx} {env : Env} {o : Oper} {x y : Operand} {T kk n c : Nat} {m : Int} {ad : Addr} (i : Nat) (ht : TabOk C.P C.tt) (ho : o.op = .indexAddr T x y)
    (hx : ev env x = some (.v (.slice (some ad) n c))) (hy : ev env y = some (.v (.int .i64 m))) (hk : elemO C.tt T = some kk) (hm : m = (i : Int)) (hi : i < n) : LooksP C env o (.e (some ad) i kk 0) := by
  intro a w bs hA
  unfold execOp
  subst hm
  simp only [ho, ev_conc hA hx, ev_conc hA hy, conc, Sem.run_bind, run_indexAt ht hk w ad n c i hi, Result.andThen_ok, Sem.run_pure, Addr.add_zero']
/-! ### memory that is written no more -/
theorem WX.freeze {C : Cx} {s : List It} {env : Env} {L : Locs} {R : Rows} {Γ Γ1 : Facts} {fs : List MF} (ks : List Nat) (n : Nat) (f : MF) (hks : giveK ks Γ = some (fs, Γ1)) (hk : f.k = .stb) (h : ∀ h, Sep h fs → f.p h) (k : WX C s env L R ((n, f) :: Γ1)) : WX C s env L R Γ := by
  rintro a w ⟨G, bs, hA, hI, hΓ⟩
  obtain ⟨H, q1, q2, q3, q4⟩ := giveK_spec hks hΓ
  refine k a w ⟨G, bs, hA, hI, ?_⟩
  exact q4.new n f (h := H) (cut_le G H) q1 (fun _ => (cut_dj G H).symm) (fun h => by rw [hk] at h; cases h) (h H q3)
theorem AllK.stbOf2 {M : Nat → Prop} {G : GH} {Γ : Facts} (hΓ : AllK M G Γ) (n : Nat) (f : MF) (hk : f.k = .stb) (i j : Nat) {g g' : MF} (hi : look Γ i = some g) (hg : g.k = .stb) (hj : look Γ j = some g') (hg' : g'.k = .stb) (hp : ∀ G, g.p G → g'.p G → f.p G) : AllK M G ((n, f) :: Γ) := by
  obtain ⟨S, q, k⟩ := hΓ
  refine ⟨S, q, k.sle, k.hle, k.dj, k.own, fun m e he hk' => ?_, fun m e he hk' => ?_, ?_⟩
  · rcases List.mem_cons.1 he with he | he
    · cases he; exact hp S (k.stb i g (look_mem hi) hg) (k.stb j g' (look_mem hj) hg')
    · exact k.stb m e he hk'
  · rcases List.mem_cons.1 he with he | he
    · cases he; rw [hk] at hk'; cases hk'
    · exact k.der m e he hk'
  · simp only [lins, hk]; exact k.lin
theorem WX.stb2 {C : Cx} {s : List It} {env : Env} {L : Locs} {R : Rows} {Γ : Facts} {g g' : MF} (n : Nat) (f : MF) (hk : f.k = .stb) (i j : Nat) (hi : look Γ i = some g) (hg : g.k = .stb) (hj : look Γ j = some g') (hg' : g'.k = .stb) (h : ∀ G, g.p G → g'.p G → f.p G) (k : WX C s env L R ((n, f) :: Γ)) : WX C s env L R Γ := by
  rintro a w ⟨G, bs, hA, hI, hΓ⟩
  exact k a w ⟨G, bs, hA, hI, hΓ.stbOf2 n f hk i j hi hg hj hg' h⟩
/-- append of a slice that nobody writes (fact ℓ); fact n: its cells -/
theorem WX.appS {C : Cx} {ops : Array Oper} {o : Oper} {r : List Oper} {s : List It} {env : Env} {L : Locs} {R : Rows} {Γ : Facts} {d : Nat} {x y : Operand} {T by_ q c : Nat} {z : Value} {row : Row} {α : Type} [GoT α] {p : Option Addr} {l : List α} (ρ ℓ n n' : Nat) {R' : List Value → Option Addr → Nat → Rows} (ht : TabOk C.P C.tt)
    (hg : gd ops env o = some true) (hd : o.dst = some d) (hlt : Nat.blt d C.fn.ntmps = true) (ho : o.op = .call { callee := .builtin .append, args := #[x, y], argTypes := #[T, T] })
    (hx : ev env x = some (.v (.slice row.p row.n row.c))) (hy : ev env y = some (.v (.slice p q c))) (hq : q = l.length) (hap : appO C.tt T = some (GoT.k α, by_, z)) (hz : z.cells.size = GoT.k α) (hρ : look R ρ = some row) (hkk : row.k = GoT.k α) (hfree : envFree ρ env = true)
    (hℓ : look Γ ℓ = some (MF.rs .stb p c l)) (hn : row.n + l.length = n') (hroom : n' * by_ ≤ 140737488355328) (hmax : n' ≤ 9223372036854775807)
    (hR : ∀ xs p' c', setRO R ρ ⟨row.k, p', n', c', row.xs ++ xs⟩ = some (R' xs p' c'))
    (k : ∀ xs p' c', WX C (.ops ops r :: s) ((d, .v (.slice p' n' c')) :: env) L (R' xs p' c') ((n, MF.rl .stb xs l) :: Γ)) : WX C (.ops ops (o :: r) :: s) env L R Γ := by
  subst hq
  subst hn
  refine WX.appX (ι := List Value) ρ l.length (fun xs => xs) (fun xs => (n, MF.rl .stb xs l) :: Γ) ht hg hd hlt ho hx hy hap hz hρ hkk hfree (fun w G bs hI hΓ => ?_) hroom (by simp only [maxLen]; omega) (fun xs p' c' => by rw [← setRO_eq (hR xs p' c')]; exact k xs p' c')
  obtain ⟨ti, e, te, hT, hde, hE, hks, _⟩ := appO_some hap
  obtain ⟨hu, _⟩ := ht.get hT
  rw [hde] at hu
  obtain ⟨S, h, hk⟩ := hΓ
  obtain ⟨h1, h2, xs, h4, h5⟩ := (hk.stb ℓ _ (look_mem hℓ) rfl : RdSl S p c l)
  refine ⟨xs, ?_, S, h, hk.sle, hk.hle, hk.dj, hk.own, fun m e he hk' => ?_, fun m e he hk' => ?_, ?_⟩
  · simp only [conc]
    cases hl : l with
    | nil =>
      subst hl
      have hxs : xs = [] := h5
      subst hxs
      cases hp : p with
      | none => exact Src.ofNil w hu c
      | some ad => exact Src.ofSlice w hu ad 0 c [] (by simp) (fun j u h => by simp at h) (fun u h => by cases h)
    | cons a l' =>
      have hlen := h5.len
      have hpos := GoT.pos (α := α)
      obtain ⟨u, hu0⟩ : ∃ u, xs[0]? = some u := ⟨_, List.getElem?_eq_getElem (by rw [hlen, hl]; simp only [List.length_cons, Nat.add_mul]; omega)⟩
      obtain ⟨ad, had, _⟩ := h4 0 u hu0
      subst had
      rw [← hl]
      exact Src.ofSlice w hu ad l.length c xs hlen (fun j u hj => by
        obtain ⟨ad', h', hg'⟩ := h4 j u hj
        simp at h'; subst h'
        exact hI.le.cell (gcell_mono hk.sle hg')) h5.one
  · rcases List.mem_cons.1 he with he | he
    · cases he; exact h5
    · exact hk.stb m e he hk'
  · rcases List.mem_cons.1 he with he | he
    · cases he; cases hk'
    · exact hk.der m e he hk'
  · simp only [lins, MF.rl]; exact hk.lin
/-- row ρ, whose elements are memory that nobody writes (fact ℓ), is written no more: fact n -/
theorem WX.sealS {C : Cx} {s : List It} {env : Env} {L : Locs} {R R' : Rows} {Γ : Facts} {α : Type} [GoT α] {row : Row} {l : List α} (ρ ℓ n : Nat) (hρ : look R ρ = some row) (hk : row.k = GoT.k α) (hn : row.n = l.length)
    (hℓ : look Γ ℓ = some (MF.rl .stb row.xs l)) (hR : delRO R ρ = some R') (k : WX C s env L R' ((n, MF.rs .stb row.p row.c l) :: Γ)) : WX C s env L R Γ := by
  rintro a w ⟨G, bs, hA, hI, hΓ⟩
  obtain ⟨hsub, hgone⟩ := delRO_sub hR
  obtain ⟨S, q, hK⟩ := hΓ
  have hrl : RdL S row.xs l := hK.stb ℓ _ (look_mem hℓ) rfl
  obtain ⟨h1, h2⟩ := hI.row ρ row hρ
  have triv : row.n = 0 → WX C s env L R' ((n, MF.rs .stb row.p row.c l) :: Γ) → cont C s .normal a w := fun hn0 k => by
    have hl : l = [] := List.eq_nil_of_length_eq_zero (by omega)
    refine k a w ⟨G, bs, hA, hI.sub (Sub.refl _) hsub, ?_⟩
    refine AllK.new ⟨S, q, hK⟩ n (MF.rs .stb row.p row.c l) (h := emp) (Le.refl _) (emp_le _) (fun _ => emp_dj _) (fun _ _ _ h => by cases h) ?_
    subst hl
    exact rdSl_nil _ _ _
  rcases h2 with ⟨hc, hn0⟩ | ⟨o1, hpp, hB, hGb, hnc, hcm, cur, T, hh, hcs, htk⟩
  · exact triv hn0 k
  · by_cases hc0 : row.c = 0
    · exact triv (by omega) k
    · have hI' := hI.give hρ hc0 hR
      have hSb : S (bs ρ) = none := by
        cases hx : S (bs ρ) with
        | none => rfl
        | some z => rw [hK.sle _ _ hx] at hGb; cases hGb
      have hqb : q (bs ρ) = none := by
        cases hx : q (bs ρ) with
        | none => rfl
        | some z => rw [hK.hle _ _ hx] at hGb; cases hGb
      have hblk : Le (fun b => if b = bs ρ then hp w b else none) (join G (fun b => if b = bs ρ then hp w b else none)) := le_join_r (fun b => by
        by_cases he : b = bs ρ
        · subst he; exact .inl hGb
        · right; simp [he])
      have hdS : Dj S (fun b => if b = bs ρ then hp w b else none) := fun b => by
        by_cases he : b = bs ρ
        · subst he; exact .inl hSb
        · right; simp [he]
      refine k a w ⟨_, bs, hA, hI', join S (fun b => if b = bs ρ then hp w b else none), q, join_le (hK.sle.trans (le_join_l _ _)) hblk, hK.hle.trans (le_join_l _ _), join_dj hK.dj (fun b => ?_), hK.own, fun m e he hk' => ?_, fun m e he hk' => ?_, ?_⟩
      · by_cases he : b = bs ρ
        · subst he; exact .inr hqb
        · left; simp [he]
      · rcases List.mem_cons.1 he with he | he
        · cases he
          refine ⟨by omega, by have := hcm; simp only [maxLen] at this; omega, row.xs, fun j u hj => ?_, hrl.mono (le_join_l _ _)⟩
          refine ⟨_, hpp, ?_⟩
          refine gcell_mono (le_join_r hdS) ?_
          rw [← htk, List.getElem?_take, List.getElem?_drop] at hj
          split at hj
          · simp only [gcell, Addr.add_lit, if_true]
            have hh' : hp w (bs ρ) = some (.cells cur T (0, 0)) := hh
            simp only [hh']
            simpa using hj
          · cases hj
        · exact e.m (le_join_l _ _) (hK.stb m e he hk')
      · rcases List.mem_cons.1 he with he | he
        · cases he; cases hk'
        · exact e.m (le_join_l _ _) (hK.der m e he hk')
      · simp only [lins, MF.rs]; exact hK.lin
end Go.Stp
