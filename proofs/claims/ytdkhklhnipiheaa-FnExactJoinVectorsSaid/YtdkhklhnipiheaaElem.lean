/-
  One element of a row, apart from the others: it is read and written, and what it names may be lent. No condition.
-/
import Derived.Test.YtdkhklhnipiheaaOps
namespace Go.Stp
open GoT (X k ok sh fa oa)
theorem HInv.respell {C : Cx} {w : World} {G : GH} {bs : Nat → Nat} {L : Locs} {R R' : Rows} (hI : HInv C w G bs L R) (h : ∀ i r, look R' i = some r → look R i = some r) : HInv C w G bs L R' := hI.sub (Sub.refl _) h
theorem look_setR_same {R : Rows} {ρ : Nat} {row : Row} (h : look R ρ = some row) : ∀ i r, look (setR R ρ row) i = some r → look R i = some r := fun i r hr => by
  rw [look_setR] at hr
  split at hr
  · rename_i e; subst e; rw [h] at hr ⊢; simpa using hr
  · exact hr
/-- element i of row ρ, whose elements are one's own (fact ℓ), is taken apart: its slices are facts n .., the others are facts behind them -/
theorem WX.opnE {C : Cx} {s : List It} {env : Env} {L : Locs} {R : Rows} {Γ Γ1 : Facts} {α : Type} [GoT α] {row : Row} {l : List α} {e : α} {cs : X α → List Value} {R' : List Value → List Value → X α → Rows} {Γ' : List Value → List Value → X α → Facts} (ρ ℓ n i : Nat) (hρ : look R ρ = some row) (hk : row.k = k α) (hℓ : giveK [ℓ] Γ = some ([MF.ol row.xs l], Γ1)) (hi : l[i]? = some e)
    (hcs : ∀ x, normL (sh e x) = some (cs x)) (hR : ∀ A B x, setRO R ρ ⟨row.k, row.p, row.n, row.c, A ++ cs x ++ B⟩ = some (R' A B x)) (hΓ' : ∀ A B x, addF n (fa .der e x ++ (oa e x ++ [MF.ol A (l.take i), MF.ol B (l.drop (i + 1))])) Γ1 = some (Γ' A B x))
    (k : ∀ A B x, A.length = i * k α → B.length = (l.length - (i + 1)) * k α → WX C s env L (R' A B x) (Γ' A B x)) : WX C s env L R Γ := by
  rintro a w ⟨G, bs, hA, hI, hΓ⟩
  obtain ⟨H, q1, q2, q3, q4⟩ := giveK_spec hℓ hΓ
  have hol : OwL H row.xs l := sep_one q3
  obtain ⟨hlt, rfl⟩ := List.getElem?_eq_some_iff.1 hi
  have hsp : l = l.take i ++ (l[i] :: l.drop (i + 1)) := by rw [← List.drop_eq_getElem_cons hlt, List.take_append_drop]
  have hlen := hol.len
  rw [hsp] at hol
  obtain ⟨h1, h2, a1, a2, a3, a4, a5⟩ := hol.split
  have hti : (l.take i).length = i := by simp; omega
  rw [hti] at a4 a5
  obtain ⟨x, ys, g1, g2, e1, r1, r2, r3, r4, r5⟩ := a5
  have hk1 : (i + 1) * GoT.k α ≤ l.length * GoT.k α := Nat.mul_le_mul_right _ hlt
  have hk2 : (i + 1) * GoT.k α = i * GoT.k α + GoT.k α := by rw [Nat.add_mul, Nat.one_mul]
  have hxs : row.xs = row.xs.take (i * GoT.k α) ++ cs x ++ ys := by
    rw [normL_eq (hcs x), List.append_assoc, ← e1, List.take_append_drop]
  have hys : ys.length = (l.length - (i + 1)) * GoT.k α := by
    have := r5.len
    rw [this]; simp
  refine k (row.xs.take (i * GoT.k α)) ys x (by simp; omega) hys a w ⟨G, bs, hA, ?_, ?_⟩
  · rw [setRO_eq (hR _ _ _), ← hxs]
    exact hI.respell (look_setR_same hρ)
  · have hsep : Sep H (oa l[i] x ++ [MF.ol (row.xs.take (i * GoT.k α)) (l.take i), MF.ol ys (l.drop (i + 1))]) :=
      Sep.both (r1.trans a2) (join_le a1 (r2.trans a2)) ((join_dj (a3.mono (Le.refl _) r1) r3.symm).symm) r4
        ⟨h1, g2, le_join_l _ _, le_join_r (a3.mono (Le.refl _) r2), a3.mono (Le.refl _) r2, a4, one_sep r5⟩
    have := q4.after (cut_dj G H).symm q2 hsep (fun f hf => GoT.fak f hf) ((GoT.ow_rd (kd := .der) r4).mono (r1.trans a2)) (hΓ' _ _ x)
    rwa [cut_join q1] at this
/-- .. and is put back -/
theorem cl_elem {α : Type} [GoT α] {h : GH} {A B : List Value} {l : List α} {i : Nat} {e : α} {x : X α} (hi : i < l.length) (hs : Sep h (oa e x ++ [MF.ol A (l.take i), MF.ol B (l.drop (i + 1))])) : Sep h [MF.ol (A ++ sh e x ++ B) (l.set i e)] := by
  obtain ⟨h1, h2, a1, a2, a3, a4, a5⟩ := hs.append
  obtain ⟨q1, q2, r1, r2, r3, r4, r5⟩ := a5
  have hs' : l.set i e = l.take i ++ [e] ++ l.drop (i + 1) := by
    rw [List.set_eq_take_append_cons_drop, if_pos hi]; simp
  rw [hs']
  refine one_sep ?_
  exact OwL.append (sep_one r5 : OwL q2 B (l.drop (i + 1))) (h := join q1 h1) (OwL.snoc a4 (r4 : OwL q1 A (l.take i)) (le_join_l _ _) (le_join_r ((a3.mono (Le.refl _) r1).symm)) ((a3.mono (Le.refl _) r1).symm)) (join_le (r1.trans a2) a1) (r2.trans a2) (join_dj r3 (a3.mono (Le.refl _) r2))
/-- a load from that element -/
theorem WX.ldA {C : Cx} {ops : Array Oper} {o : Oper} {r : List Oper} {s : List It} {env : Env} {L : Locs} {R : Rows} {Γ : Facts} {d : Nat} {x : Operand} {T i kk off : Nat} {ti : TI} {ad : Addr} {row : Row} {A B cs : List Value} {v : Value} (ρ : Nat) (ht : TabOk C.P C.tt)
    (hg : gd ops env o = some true) (hd : o.dst = some d) (hlt : Nat.blt d C.fn.ntmps = true) (ho : o.op = .load T x)
    (hx : ev env x = some (.e (some ad) i kk off)) (hT : look C.tt T = some ti) (hρ : look R ρ = some row) (hp : row.p = some ad) (hk : row.k = kk) (hxs : row.xs = A ++ cs ++ B) (hA : A.length = i * kk) (hn : i < row.n)
    (hv : asm ti cs off = some v) (k : WX C (.ops ops r :: s) ((d, .v v) :: env) L R Γ) : WX C (.ops ops (o :: r) :: s) env L R Γ := by
  rintro a' w ⟨G, bs, hAt, hI, hΓ⟩
  have hrow := hI.row ρ row hρ
  obtain ⟨o1, hp', hc0, cur, T', hh, hcs, htk, hnc⟩ := hrow.some (by omega)
  rw [hp] at hp'; simp at hp'; subst hp'
  have hc : ∀ j u, cs[j]? = some u → w.cell? (((⟨bs ρ, o1, none⟩ : Addr).add (i * kk)).add j) = some u := fun j u hj => by
    have h8 : row.xs[i * kk + j]? = some u := by
      rw [hxs, List.append_assoc, List.getElem?_append_right (by omega), hA, show i * kk + j - i * kk = j by omega, List.getElem?_append_left (List.getElem?_eq_some_iff.1 hj).1]; exact hj
    rw [← htk, List.getElem?_take, List.getElem?_drop] at h8
    rw [addr_add_add, Addr.add_lit, cell_of_row w _ _ cur T' _ hh]
    split at h8
    · simpa using h8
    · cases h8
  have hl : (execOp a'.eval o).run C.P w = .ok (.value v) w := by
    unfold execOp
    have hrun := run_loadVar (P := C.P) ht hT (w := w) (a := (⟨bs ρ, o1, none⟩ : Addr).add (i * kk)) (cs := cs) (off := off) (v := v) hc hv
    simp only [ho, ev_conc hAt hx, conc, Instr.loadAt, Instr.sureAddr, Sem.run_bind, Sem.run_pure, Result.andThen_ok, hrun]
  show wpList C.P ops (cont C s) (o :: r) a' w
  unfold wpList
  rw [if_pos (gd_sound hAt hg)]
  refine .inl ?_
  unfold Oper.wp
  rw [hl]
  simp only [Oper.upon, hd]
  exact k _ _ ⟨G, bs, hAt.put (by simpa [Nat.blt_eq] using hlt) (.v v), hI, hΓ⟩
/-- a store into it -/
theorem WX.stA {C : Cx} {ops : Array Oper} {o : Oper} {r : List Oper} {s : List It} {env : Env} {L : Locs} {R R' : Rows} {Γ : Facts} {x y : Operand} {T kk i off : Nat} {ti : TI} {ad : Addr} {sv : SV} {v : Value} {A B cs cs' vs : List Value} {row : Row} (ρ : Nat) (ht : TabOk C.P C.tt)
    (hg : gd ops env o = some true) (hd : o.dst = none) (ho : o.op = .store T x y)
    (hx : ev env x = some (.e (some ad) i kk off)) (hy : ev env y = some sv) (hv : valO sv = some v) (hT : look C.tt T = some ti) (hvs : cellsO ti v = some vs) (hlen : Nat.beq vs.length ti.size = true) (hone : oneB vs = true)
    (hρ : look R ρ = some row) (hp : row.p = some ad) (hk : row.k = kk) (hxs : row.xs = A ++ cs ++ B) (hA : A.length = i * kk) (hi : i < row.n) (hfit : Nat.ble (off + vs.length) kk = true) (hck : Nat.beq cs.length kk = true) (hfree : envFree ρ env = true) (hsp : spliceO cs off vs = some cs') (hne : vs ≠ [])
    (hR : setRO R ρ ⟨row.k, row.p, row.n, row.c, A ++ cs' ++ B⟩ = some R')
    (k : WX C (.ops ops r :: s) env L R' Γ) : WX C (.ops ops (o :: r) :: s) env L R Γ := by
  subst hk
  have hck' : cs.length = row.k := Nat.eq_of_beq_eq_true hck
  obtain ⟨_, q2, q3, _⟩ := spliceO_some _ _ _ _ hsp
  have hq := q3 hne
  have hfit' := Nat.le_of_ble_eq_true hfit
  have heq : row.xs.take (i * row.k + off) ++ vs ++ row.xs.drop (i * row.k + off + vs.length) = A ++ cs' ++ B := by
    rw [hxs, ← hA, hq]
    exact splice_in A cs B vs off (by omega)
  refine WX.stR (R' := R') ρ ht hg hd ho hx hy hv hT hvs hlen hone hρ hp rfl hi hfit hfree ?_ k
  rw [heq]; exact hR
/-- zero values are one's own -/
theorem ol_zrep {α : Type} [GoT α] {z : List Value} {z0 : α} {x0 : X α} (hz : z = sh z0 x0) (ho : Sep emp (oa z0 x0)) : ∀ n, OwL emp (zrep n z) (List.replicate n z0)
  | 0 => rfl
  | n + 1 => by
    rw [List.replicate_succ', zrep, hz]
    exact OwL.snoc ho (by rw [← hz]; exact ol_zrep hz ho n) (Le.refl _) (Le.refl _) (emp_dj _)
theorem sep_emp_cons {f : MF} {fs : List MF} (h : f.p emp) (k : Sep emp fs) : Sep emp (f :: fs) := ⟨emp, emp, Le.refl _, Le.refl _, emp_dj _, h, k⟩
theorem all_rep {α : Type} {p : α → Prop} {a : α} {n : Nat} (h : p a) : ∀ x ∈ List.replicate n a, p x := fun x hx => by rw [(List.mem_replicate.1 hx).2]; exact h
theorem all_set {α : Type} {p : α → Prop} {a : α} {l : List α} {i : Nat} (k : ∀ x ∈ l, p x) (h : p a) : ∀ x ∈ l.set i a, p x := fun x hx => by
  rcases List.mem_or_eq_of_mem_set hx with hx | rfl
  · exact k x hx
  · exact h
end Go.Stp
