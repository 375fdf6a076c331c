/-
  Rows: cap, zeros behind a part of one, copy, a row told longer, slices.overlaps, what slices.Insert leaves. No condition.
-/
import Derived.Test.YtdkhklhnipiheaaPend
namespace Go.Stp
open GoT (X k ok sh fa oa)
theorem looks_cap {C : Cx} {env : Env} {L : Locs} {R : Rows} {G : GH} {o : Oper} {x : Operand} {T n c e : Nat} {p : Option Addr} {ti : TI} (ht : TabOk C.P C.tt) (ho : o.op = .call { callee := .builtin .cap, args := #[x], argTypes := #[T] }) (hT : look C.tt T = some ti) (hd : ti.desc = .slice e)
    (hx : ev env x = some (.v (.slice p n c))) : Looks C env L R G o (.v (.int .i64 (c : Int))) := by
  intro a w G' bs _ hA hI
  have hu : C.P.underlying T = some (.slice e) := by rw [← hd]; exact (ht.get hT).1
  unfold execOp
  simp [ho, resolve, invoke, builtin, ev_conc hA hx, conc, Builtin.cap_, run_underlying hu, goInt]
/-- row ρ, told with more of its room -/
theorem WX.widen {C : Cx} {s : List It} {env : Env} {L : Locs} {R : Rows} {Γ : Facts} {row : Row} (ρ n' : Nat) {R' : List Value → Rows} (hρ : look R ρ = some row) (hn : row.n ≤ n') (hc : n' ≤ row.c) (hR : ∀ jk, setRO R ρ ⟨row.k, row.p, n', row.c, row.xs ++ jk⟩ = some (R' jk))
    (k : ∀ jk, jk.length = (n' - row.n) * row.k → WX C s env L (R' jk) Γ) : WX C s env L R Γ := by
  rintro a w ⟨G, bs, hA, hI, hΓ⟩
  have hrow := hI.row ρ row hρ
  have triv : row.n = 0 → n' = 0 → cont C s .normal a w := fun h1 h2 => by
    refine k [] (by rw [h1, h2]; simp) a w ⟨G, bs, hA, ?_, hΓ⟩
    rw [setRO_eq (hR [])]
    have : (⟨row.k, row.p, n', row.c, row.xs ++ []⟩ : Row) = row := by rw [List.append_nil, h2, ← h1]
    rw [this]
    exact hI.respell (look_setR_same hρ)
  rcases hrow.2 with ⟨h0, hn0⟩ | ⟨o1, hp, _, _, hnc, _, cur, T, hh, hcs, htk⟩
  · exact triv hn0 (by omega)
  · by_cases hc0 : row.c = 0
    · exact triv (by omega) (by omega)
    · have hn1 : row.n * row.k ≤ n' * row.k := Nat.mul_le_mul_right _ hn
      have hn2 : n' * row.k ≤ row.c * row.k := Nat.mul_le_mul_right _ hc
      have hl : ((cur.toList.drop o1).take (n' * row.k)).length = n' * row.k := by simp; omega
      have hsp : (cur.toList.drop o1).take (n' * row.k) = row.xs ++ ((cur.toList.drop o1).take (n' * row.k)).drop (row.n * row.k) := by
        have h1 : row.xs = ((cur.toList.drop o1).take (n' * row.k)).take (row.n * row.k) := by rw [List.take_take, Nat.min_eq_left hn1, htk]
        rw [h1, List.take_append_drop]
      refine k (((cur.toList.drop o1).take (n' * row.k)).drop (row.n * row.k)) (by rw [List.length_drop, hl, Nat.sub_mul]) a w ⟨G, bs, hA, ?_, hΓ⟩
      rw [setRO_eq (hR _), ← hsp]
      have := hI.wr hρ hp hc0 hh hcs rfl hc hl rfl
      rwa [setRow_self w (bs ρ) cur T (0, 0) hh] at this
theorem run_copyK {P : Program} (w : World) (dT sT ty elem kk g o dLen dCap : Nat) (a : Addr) (sLen sCap : Nat) (cur : Array Value) (t : TypeId) (cs : List Value) (hu : P.underlying dT = some (.slice elem)) (hs : (Go.sizeOf elem).run P w = .ok kk w)
    (hg : w.heap[g]? = some (.cells cur t (0, 0))) (hn : cs.length = Nat.min sLen dLen * kk) (hsrc : ∀ j v, cs[j]? = some v → w.cell? (a.add j) = some v) (hfit : o + cs.length ≤ cur.size) (h1 : ∀ v ∈ cs, v.oneCell' = true) :
    (Builtin.copy_ #[dT, sT] ty #[.slice (some ⟨g, o, none⟩) dLen dCap, .slice (some a) sLen sCap]).run P w = .ok (goInt (Nat.min sLen dLen)) (w.setRow g (cur.toList.take o ++ cs ++ cur.toList.drop (o + cs.length)).toArray) := by
  have hl := run_loadCells_list (P := P) w a cs hsrc
  have hst := run_storeCells_at P g o t cs 0 cur w hg (by simpa using hfit) h1
  simp [Builtin.copy_, run_underlying hu, Builtin.lenOf, Builtin.firstCells, hs, ← hn, hl, hst]
/-- copy(s[i:], x): s is row ρ; what x yields is shown by the caller -/
theorem WX.cpy {C : Cx} {ops : Array Oper} {o : Oper} {r : List Oper} {s : List It} {env : Env} {L : Locs} {R R' : Rows} {Γ : Facts} {d : Nat} {x y : Operand} {T e kk by_ dl dc sl sc : Nat} {z : List Value} {sp : Option Addr} {row : Row} (ρ i m : Nat) (news : List Value) (ht : TabOk C.P C.tt)
    (hg : gd ops env o = some true) (hd : o.dst = some d) (hlt : Nat.blt d C.fn.ntmps = true) (ho : o.op = .call { callee := .builtin .copy, args := #[x, y], argTypes := #[T, T] }) (hel : elO C.tt T = some (e, kk, by_, z))
    (hx : ev env x = some (.v (.slice (offP row.p row.c i kk) dl dc))) (hy : ev env y = some (.v (.slice sp sl sc))) (hρ : look R ρ = some row) (hkk : row.k = kk) (hm : Nat.min sl dl = m) (him : i + m ≤ row.n) (hnl : news.length = m * kk) (hone : ∀ u ∈ news, u.oneCell' = true)
    (hsrc : ∀ w G bs, HInv C w G bs L R → ∀ j u, news[j]? = some u → ∃ a, sp = some a ∧ w.cell? (a.add j) = some u) (hR : setRO R ρ ⟨row.k, row.p, row.n, row.c, row.xs.take (i * kk) ++ news ++ row.xs.drop (i * kk + news.length)⟩ = some R')
    (k : WX C (.ops ops r :: s) ((d, .v (.int .i64 (m : Int))) :: env) L R' Γ) : WX C (.ops ops (o :: r) :: s) env L R Γ := by
  refine WX.did (ι := Unit) (env' := fun _ => ((d, .v (.int .i64 (m : Int))) :: env)) (R' := fun _ => R') (Γ' := fun _ => Γ) hg (fun a w G bs hA hI hΓ => ?_) (fun _ => k)
  obtain ⟨hu, i', v, te, hE, hte, hi', h0, hs, _, hv, hzl, hpos⟩ := elO_some ht hel
  have hsz : ∀ w, (Go.sizeOf e).run C.P w = .ok kk w := fun w => by rw [run_sizeOf hi', hs]
  rw [setRO_eq hR, hd]
  subst hkk
  have hlt' : d < C.fn.ntmps := by simpa [Nat.blt_eq] using hlt
  by_cases hm0 : m = 0
  · have hn0 : news = [] := List.eq_nil_of_length_eq_zero (by rw [hnl, hm0, Nat.zero_mul])
    have hmin : min sl dl = 0 := hm.trans hm0
    have hrun : (execOp a.eval o).run C.P w = .ok (.value (.int .i64 (m : Int))) w := by
      unfold execOp
      simp only [ho, resolve, invoke, builtin, Sem.run_bind, Sem.run_pure, Result.andThen_ok, List.map_toArray, List.map_cons, List.map_nil, ev_conc hA hx, ev_conc hA hy, conc_v]
      cases hpp : offP row.p row.c i row.k <;> cases hqq : sp <;> simp [Builtin.copy_, run_underlying hu, Builtin.lenOf, Builtin.firstCells, hsz, hmin, loadCells, loadCellsFrom, storeCells, goInt, hm0]
    have hrr : (⟨row.k, row.p, row.n, row.c, row.xs.take (i * row.k) ++ news ++ row.xs.drop (i * row.k + news.length)⟩ : Row) = row := by
      rw [hn0]; simp
    exact ⟨_, w, (), hrun, G, bs, hA.put hlt' (.v (.int .i64 (m : Int))), by rw [hrr]; exact hI.respell (look_setR_same hρ), hΓ⟩
  · have hrow := hI.row ρ row hρ
    obtain ⟨o1, hp', hc0, cur, T', hh, hcs, htk, hnc⟩ := hrow.some (by omega)
    have hoff : offP row.p row.c i row.k = some ⟨bs ρ, o1 + i * row.k, none⟩ := by
      unfold offP; rw [if_neg (by omega), hp']; simp [Addr.add_lit]
    have hmk : 0 < m * row.k := Nat.mul_pos (by omega) hpos
    obtain ⟨u0, hu0⟩ : ∃ u, news[0]? = some u := ⟨_, List.getElem?_eq_getElem (by omega)⟩
    obtain ⟨sa, hsa, _⟩ := hsrc w G bs hI 0 u0 hu0
    have hik : (i + m) * row.k ≤ row.n * row.k := Nat.mul_le_mul_right _ him
    have hck : row.n * row.k ≤ row.c * row.k := Nat.mul_le_mul_right _ hnc
    rw [Nat.add_mul] at hik
    have hcp := run_copyK (P := C.P) w T T o.type e row.k (bs ρ) (o1 + i * row.k) dl dc sa sl sc cur T' news hu (hsz w) hh (by rw [hm]; exact hnl) (fun j u hj => by
      obtain ⟨a', h1, h2⟩ := hsrc w G bs hI j u hj
      rw [hsa] at h1; cases h1; exact h2) (by omega) hone
    have hrun : (execOp a.eval o).run C.P w = .ok (.value (.int .i64 (m : Int))) (w.setRow (bs ρ) (cur.toList.take (o1 + i * row.k) ++ news ++ cur.toList.drop (o1 + i * row.k + news.length)).toArray) := by
      unfold execOp
      simp only [ho, resolve, invoke, builtin, Sem.run_bind, Sem.run_pure, Result.andThen_ok, List.map_toArray, List.map_cons, List.map_nil, ev_conc hA hx, ev_conc hA hy, conc_v, hoff, hsa, hcp]
      simp [goInt, hm]
    refine ⟨_, _, (), hrun, G, bs, hA.put hlt' (.v (.int .i64 (m : Int))), ?_, hΓ⟩
    refine hI.wr hρ hp' hc0 hh hcs ?_ hnc ?_ ?_
    · simp only [List.size_toArray, List.length_append, List.length_take, List.length_drop, Array.length_toList]; omega
    · have h1 := hrow.1
      simp only [List.length_append, List.length_take, List.length_drop]; omega
    · rw [← htk]
      exact splice_take cur.toList news o1 (i * row.k) (row.n * row.k) (by omega) (by simp; omega)
/-- the cells of row σ from element j on -/
theorem src_cells {C : Cx} {w : World} {G : GH} {bs : Nat → Nat} {L : Locs} {R : Rows} {σ : Nat} {src : Row} (hI : HInv C w G bs L R) (hσ : look R σ = some src) (j m : Nat) (hjm : j + m ≤ src.n) :
    ∀ q u, ((src.xs.drop (j * src.k)).take (m * src.k))[q]? = some u → ∃ a, offP src.p src.c j src.k = some a ∧ w.cell? (a.add q) = some u := fun q u hq => by
  have hlen := (hI.row σ src hσ).1
  rw [List.getElem?_take] at hq
  split at hq
  · rename_i hqm
    have hm0 : 0 < m := by
      rcases Nat.eq_zero_or_pos m with h | h
      · rw [h, Nat.zero_mul] at hqm; omega
      · exact h
    obtain ⟨o1, hp, hc0, cur, T, hh, hcs, htk, hnc⟩ := (hI.row σ src hσ).some (by omega)
    refine ⟨⟨bs σ, o1 + j * src.k, none⟩, by unfold offP; rw [if_neg (by omega), hp]; simp [Addr.add_lit], ?_⟩
    rw [Addr.add_lit, cell_of_row w _ _ cur T _ hh]
    rw [List.getElem?_drop, ← htk, List.getElem?_take, List.getElem?_drop] at hq
    split at hq
    · simpa [Nat.add_assoc] using hq
    · cases hq
  · cases hq
theorem src_cells0 {C : Cx} {w : World} {G : GH} {bs : Nat → Nat} {L : Locs} {R : Rows} {σ : Nat} {src : Row} (hI : HInv C w G bs L R) (hσ : look R σ = some src) :
    ∀ q u, src.xs[q]? = some u → ∃ a, src.p = some a ∧ w.cell? (a.add q) = some u := fun q u hq => by
  have hlen := (hI.row σ src hσ).1
  have hlt := (List.getElem?_eq_some_iff.1 hq).1
  have hn0 : 0 < src.n := by
    rcases Nat.eq_zero_or_pos src.n with h | h
    · rw [h, Nat.zero_mul] at hlen; omega
    · exact h
  obtain ⟨o1, hp, hc0, cur, T, hh, hcs, htk, hnc⟩ := (hI.row σ src hσ).some hn0
  refine ⟨_, hp, ?_⟩
  rw [Addr.add_lit, cell_of_row w _ _ cur T _ hh]
  rw [← htk, List.getElem?_take, List.getElem?_drop] at hq
  split at hq
  · simpa using hq
  · cases hq
theorem run_append_zeros {P : Program} (w : World) (t tn ty e : TypeId) (i : TypeInfo) (z : Value) (kn : IntKind) (ht : P.underlying t = some (.slice e)) (htn : P.underlying tn = some (.int kn)) (hi : P.info? e = some i) (hz : i.zero = some z) (base : Option Addr) (sLen sCap : Nat) (olds : List Value)
    (hold : (Builtin.firstCells i.size sLen (.slice base sLen sCap)).run P w.drew = .ok olds.toArray w.drew) (n : Nat) (h0 : 0 < n) (hs : 0 < i.size) (hg : sCap < sLen + n) (h63 : ((sLen + n : Nat) : Int) ≤ 9223372036854775807) (h48 : n * i.bytes ≤ 281474976710656) (hfit : Builtin.nextslicecap (sLen + n) sCap * i.bytes ≤ 281474976710656) :
    (Builtin.append_ #[t, tn] ty #[.slice base sLen sCap, .int .i64 n]).run P w = .ok (.slice (some ⟨w.heap.size, 0, none⟩) (sLen + n) (grownCap w (sLen + n) sCap e))
      (w.drew.alloc (.cells (olds.toArray ++ Builtin.zeroCells z.cells n ++ Builtin.zeroCells z.cells (grownCap w (sLen + n) sCap e - (sLen + n))) e)) := by
  have hn : n ≠ 0 := by omega
  have hw : IntKind.i64.wrap (n : Int) = n := wrap_i64 (by unfold I64; omega)
  have hnr : ¬ (sLen + n ≤ sCap) := by omega
  have h63' : ¬ (9223372036854775807 < ((sLen : Int) + (n : Int))) := by omega
  have h48' : ¬ (281474976710656 < Builtin.nextslicecap (sLen + n) sCap * i.bytes) := by omega
  have h48i : ¬ (281474976710656 < (n : Int) * (i.bytes : Int)) := by rw [← Int.natCast_mul]; omega
  have hneg : ¬ ((n : Int) < 0) := by omega
  have hns : ¬ (n * i.size = 0) := Nat.mul_ne_zero hn (by omega)
  simp [Builtin.append_, run_underlying ht, run_underlying htn, sizeOf, typeInfo, zeroValue, hi, hz, asInt, asIntOf, hw, hn, hneg, hns, hnr, h63', h48', h48i, Question.forced, hold, newRow, grownCap]
/-- append(s[:i], make(.., m)...), without room: a new row -/
theorem WX.appZ {C : Cx} {ops : Array Oper} {o : Oper} {r : List Oper} {s : List It} {env : Env} {L : Locs} {R : Rows} {Γ : Facts} {d : Nat} {x y : Operand} {T tn e kk by_ : Nat} {z : List Value} {row : Row} {tin : TI} {kn : IntKind} {q : Int} (ρ i m : Nat) (ht : TabOk C.P C.tt)
    (hg : gd ops env o = some true) (hd : o.dst = some d) (hlt : Nat.blt d C.fn.ntmps = true) (ho : o.op = .call { callee := .builtin .append, args := #[x, y], argTypes := #[T, tn] }) (hel : elO C.tt T = some (e, kk, by_, z)) (htn : look C.tt tn = some tin) (hkn : tin.desc = .int kn)
    (hx : ev env x = some (.v (.slice row.p i row.c))) (hy : ev env y = some (.v (.int .i64 q))) (hq : q = (m : Int)) (hρ : look R ρ = some row) (hkk : row.k = kk) (hi : i ≤ row.n) (hm : 0 < m) (hcap : row.c < i + m) (hroom : (i + m) * by_ ≤ 140737488355328) (hmax : i + m ≤ 4611686018427387904) (hnl : labHas d env L R = false)
    (k : ∀ p' c', WX C (.ops ops r :: s) ((d, .v (.slice p' (i + m) c')) :: env) L ((d, ⟨kk, p', i + m, c', row.xs.take (i * kk) ++ zrep m z⟩) :: R) Γ) : WX C (.ops ops (o :: r) :: s) env L R Γ := by
  subst hq
  refine WX.did (ι := Option Addr × Nat) (env' := fun pc => ((d, .v (.slice pc.1 (i + m) pc.2)) :: env)) (R' := fun pc => ((d, ⟨kk, pc.1, i + m, pc.2, row.xs.take (i * kk) ++ zrep m z⟩) :: R)) (Γ' := fun _ => Γ) hg (fun a w G bs hA hI hΓ => ?_) (fun pc => k pc.1 pc.2)
  obtain ⟨hu, inf, v, te, hE, hte, hinf, h0, hs, hby, hv, hzl, hpos⟩ := elO_some ht hel
  have hun : C.P.underlying tn = some (.int kn) := by rw [← hkn]; exact (ht.get htn).1
  have hrow := hI.row ρ row hρ
  subst hkk
  have hvs : v.cells.size = row.k := by rw [← hzl, ← hv]; simp
  have hil : (row.xs.take (i * row.k)).length = i * row.k := by rw [List.length_take, hrow.1]; exact Nat.min_eq_left (Nat.mul_le_mul_right _ hi)
  have hold : (Builtin.firstCells inf.size i (.slice row.p i row.c)).run C.P w.drew = .ok (row.xs.take (i * row.k)).toArray w.drew := by
    rcases hrow.2 with ⟨hc, hn⟩ | ⟨o1, hp, _, _, _, _, cur, T', hh, _, htk⟩
    · have hi0 : i = 0 := by omega
      subst hi0
      cases hpp : row.p <;> simp [Builtin.firstCells, loadCells, loadCellsFrom]
    · rw [hp]
      refine run_firstCells_some (P := C.P) w.drew inf.size i ⟨bs ρ, o1, none⟩ i row.c _ (by rw [hil, hs]) (fun j u hj => ?_)
      rw [Addr.add_lit]
      show w.cell? _ = _
      rw [cell_of_row w _ _ cur T' _ hh]
      rw [List.getElem?_take] at hj
      split at hj
      · rw [← htk, List.getElem?_take, List.getElem?_drop] at hj
        split at hj
        · simpa using hj
        · cases hj
      · cases hj
  have hby2 : m * inf.bytes ≤ (i + m) * inf.bytes := Nat.mul_le_mul_right _ (by omega)
  rw [← hby] at hroom
  have hrun := run_append_zeros (P := C.P) w T tn o.type e inf v kn hu hun hinf h0 row.p i row.c _ hold m hm (by omega) hcap (by omega) (by omega) (growslice_fits (by omega) hroom)
  have hge := grownCap_ge w (i + m) row.c e
  have hcm := grownCap_le_maxLen w (i + m) row.c e (show i + m ≤ maxLen by simp only [maxLen]; omega)
  have hz1 : (Builtin.zeroCells v.cells m).toList = zrep m z := by rw [← hv]; exact zeroCells_zrep v.cells m (by omega)
  have hzm : (Builtin.zeroCells v.cells m).size = m * row.k := by rw [← Array.length_toList, hz1, zrep_len, hzl]
  have hexec : (execOp a.eval o).run C.P w = .ok (.value (.slice (some ⟨w.heap.size, 0, none⟩) (i + m) (grownCap w (i + m) row.c e))) (w.drew.alloc (.cells ((row.xs.take (i * row.k)).toArray ++ Builtin.zeroCells v.cells m ++ Builtin.zeroCells v.cells (grownCap w (i + m) row.c e - (i + m))) e)) := by
    unfold execOp
    simp only [ho, resolve, invoke, builtin, Sem.run_bind, Sem.run_pure, Result.andThen_ok, List.map_toArray, List.map_cons, List.map_nil, ev_conc hA hx, ev_conc hA hy, conc_v, hrun]
  refine ⟨_, _, (some ⟨w.heap.size, 0, none⟩, grownCap w (i + m) row.c e), hexec, G, fun j => if j = d then w.heap.size else bs j, ?_, ?_, hΓ⟩
  · rw [hd]
    exact (hA.notH (d := d) (labHas_not hnl).1 (fun i hi => if_neg hi)).put (by simpa [Nat.blt_eq] using hlt) (.v _)
  · have hlen : (row.xs.take (i * row.k) ++ zrep m z).length = (i + m) * row.k := by rw [List.length_append, hil, zrep_len, hzl, Nat.add_mul]
    refine hI.upd (ρ := d) (labHas_not hnl).2.2.2 False (fun h => h.elim) ⟨rfl, rfl, rfl, by simp, fun j hj _ => heap_alloc_old w.drew _ j hj⟩ (.inr (.inl (Nat.le_refl _))) (fun j => look_cons _ _ _ _) (fun l h => keyHas_not (labHas_not hnl).2.1 h rfl) ⟨hlen, .inr ⟨0, rfl, .inl hI.keep.size, hI.le.new, hge, hcm, _, e, heap_alloc_new w.drew _, ?_, ?_⟩⟩
    · simp only [Array.size_append, List.size_toArray, size_zeroCells, hvs, hil, ← Nat.add_mul, Nat.zero_add]
      exact Nat.mul_le_mul_right _ (by omega)
    · simp only [Array.toList_append, List.drop_zero, hz1]
      rw [← hlen]
      exact List.take_left
/-- slices.overlaps, of two rows of the call's own -/
theorem WX.ovl {C : Cx} {ops : Array Oper} {o : Oper} {r : List Oper} {s : List It} {env : Env} {L : Locs} {R : Rows} {Γ : Facts} {d : Nat} {f x y : Operand} {T e kk by_ tR : Nat} {z : List Value} {ats : Array TypeId} {g : FuncId} {fn : Func} {sf : SV} {src row : Row} {lb cb : Nat} (σ ρ i : Nat) (ht : TabOk C.P C.tt)
    (hg : gd ops env o = some true) (hd : o.dst = some d) (hlt : Nat.blt d C.fn.ntmps = true) (ho : o.op = .call { callee := .value f, args := #[x, y], argTypes := ats }) (hf : ev env f = some sf) (hsf : ∀ bs, conc bs sf = .func (.func g) #[] #[])
    (hfn : C.P.funcs[g]? = some fn) (hname : (fn.name == "runtime.NumGoroutine") = false) (hb : fn.body.isNone = true) (hn : Extern.findNext fn = none) (he : Extern.find fn = some (Extern.SlicesOverlaps.overlaps #[T, T] #[tR])) (hel : elO C.tt T = some (e, kk, by_, z))
    (hx : ev env x = some (.v (.slice src.p src.n src.c))) (hy : ev env y = some (.v (.slice (offP row.p row.c i kk) lb cb))) (hσ : look R σ = some src) (hρ : look R ρ = some row) (hkk : row.k = kk) (hσρ : Nat.beq σ ρ = false) (hs0 : 0 < src.n) (hi : i < row.n)
    (k : WX C (.ops ops r :: s) ((d, .F) :: env) L R Γ) : WX C (.ops ops (o :: r) :: s) env L R Γ := by
  refine WX.did (ι := Unit) (env' := fun _ => ((d, .F) :: env)) (R' := fun _ => R) (Γ' := fun _ => Γ) hg (fun a w G bs hA hI hΓ => ?_) (fun _ => k)
  obtain ⟨hu, inf, v, te, hE, hte, hinf, h0, hs, hby, hv, hzl, hpos⟩ := elO_some ht hel
  have hsz : ∀ w, (Go.sizeOf e).run C.P w = .ok kk w := fun w => by rw [run_sizeOf hinf, hs]
  obtain ⟨o1, hp1, hc1, cur1, T1, hh1, hcs1, htk1, hnc1⟩ := (hI.row σ src hσ).some hs0
  obtain ⟨o2, hp2, hc2, cur2, T2, hh2, hcs2, htk2, hnc2⟩ := (hI.row ρ row hρ).some (by omega)
  have hne : bs σ ≠ bs ρ := hI.inj σ ρ (fun h => by subst h; simp at hσρ) (.inr ⟨src, hσ, hc1⟩) (.inr ⟨row, hρ, hc2⟩)
  have hoff : offP row.p row.c i kk = some ⟨bs ρ, o2 + i * kk, none⟩ := by unfold offP; rw [if_neg (by omega), hp2]; simp [Addr.add_lit]
  have hk2 : cur2.size ≠ 0 := by
    have h1 : 0 < row.c * row.k := Nat.mul_pos (by omega) (by rw [hkk]; exact hpos)
    omega
  have hov := Lib.run_overlaps_apart (P := C.P) w T tR e hu kk hsz ⟨bs σ, o1, none⟩ ⟨bs ρ, o2 + i * kk, none⟩ src.n src.c lb cb hne T1 T2 cur1.size cur2.size (by simp [World.shape?, hh1]) (by simp [World.shape?, hh2]) hk2 (by simp [World.frozen?, hh1]) (by simp [World.frozen?, hh1])
  have hrun : (execOp a.eval o).run C.P w = .ok (.value (.bool false)) w := by
    have h1 : fn.name ≠ "runtime.NumGoroutine" := by simpa using hname
    have hcall := run_callFunc_extern (P := C.P) hfn hname hb hn he #[.slice (some ⟨bs σ, o1, none⟩) src.n src.c, .slice (some ⟨bs ρ, o2 + i * kk, none⟩) lb cb] w
    rw [hov] at hcall
    unfold execOp
    simp [ho, resolve, ev_conc hA hf, hsf, Deferred.ofValue, invoke, ev_conc hA hx, ev_conc hA hy, conc_v, hp1, hoff, hcall]
  refine ⟨_, w, (), hrun, G, bs, ?_, hI, hΓ⟩
  rw [hd]
  exact hA.put (by simpa [Nat.blt_eq] using hlt) .F
/-! ### what slices.Insert leaves -/
theorem ol_insert {α : Type} [GoT α] {h : GH} {xs ys : List Value} {l v : List α} (m : Nat) (hm : m ≤ l.length) (hs : Sep h [MF.ol xs l, MF.ol ys v]) : Sep h [MF.ol (xs.take (m * k α) ++ ys ++ xs.drop (m * k α)) (l.take m ++ v ++ l.drop m)] := by
  obtain ⟨h1, h2, q1, q2, q3, q4, q5⟩ := hs
  obtain ⟨g1, g2, r1, r2, r3, r4, r5⟩ := ol_split m hm (one_sep q4 : Sep h1 [MF.ol xs l])
  have hv : OwL h2 ys v := sep_one q5
  have a1 : OwL (join g1 h2) (xs.take (m * k α) ++ ys) (l.take m ++ v) := OwL.append hv (r4 : OwL g1 _ _) (le_join_l _ _) (le_join_r (q3.mono r1 (Le.refl _))) (q3.mono r1 (Le.refl _))
  exact one_sep (OwL.append (sep_one r5 : OwL g2 _ _) a1 (join_le (r1.trans q1) q2) (r2.trans q1) (join_dj r3 (q3.mono r2 (Le.refl _)).symm))
theorem ins_new {xs ys zs : List Value} {m n v kk : Nat} (hx : xs.length = n * kk) (hy : ys.length = v * kk) (hz : zs.length = (n + v - m) * kk) (hm : m ≤ n) :
    (((xs.take (m * kk) ++ zs).take (m * kk) ++ ys ++ (xs.take (m * kk) ++ zs).drop (m * kk + ys.length)).take ((m + v) * kk) ++ (xs.drop (m * kk)).take ((n - m) * kk) ++ ((xs.take (m * kk) ++ zs).take (m * kk) ++ ys ++ (xs.take (m * kk) ++ zs).drop (m * kk + ys.length)).drop ((m + v) * kk + ((xs.drop (m * kk)).take ((n - m) * kk)).length)) = xs.take (m * kk) ++ ys ++ xs.drop (m * kk) := by
  have h1 : m * kk ≤ n * kk := Nat.mul_le_mul_right _ hm
  have h2 : (xs.take (m * kk)).length = m * kk := by rw [List.length_take]; omega
  have h3 : (xs.take (m * kk) ++ zs).take (m * kk) = xs.take (m * kk) := by rw [List.take_append_of_le_length (by omega), List.take_of_length_le (by omega)]
  have h4 : (n - m) * kk = n * kk - m * kk := Nat.sub_mul _ _ _
  have h5 : (n + v - m) * kk = n * kk + v * kk - m * kk := by rw [Nat.sub_mul, Nat.add_mul]
  have h6 : (xs.drop (m * kk)).take ((n - m) * kk) = xs.drop (m * kk) := List.take_of_length_le (by rw [List.length_drop]; omega)
  have h7 : (m + v) * kk = m * kk + v * kk := Nat.add_mul _ _ _
  rw [h3, h6]
  have h8 : (xs.take (m * kk) ++ ys).length = (m + v) * kk := by rw [List.length_append, h2, hy, h7]
  have h9 : (xs.take (m * kk) ++ ys ++ (xs.take (m * kk) ++ zs).drop (m * kk + ys.length)).take ((m + v) * kk) = xs.take (m * kk) ++ ys := by rw [← h8, List.take_left]
  have h10 : (xs.take (m * kk) ++ ys ++ (xs.take (m * kk) ++ zs).drop (m * kk + ys.length)).drop ((m + v) * kk + (xs.drop (m * kk)).length) = [] := List.drop_eq_nil_of_le (by
    simp only [List.length_append, List.length_drop, h2, hy, hx]; omega)
  rw [h9, h10, List.append_nil]
theorem ins_old {xs ys jk : List Value} {m n v kk : Nat} (hx : xs.length = n * kk) (hy : ys.length = v * kk) (hj : jk.length = (n + v - n) * kk) (hm : m ≤ n) :
    (((xs ++ jk).take ((m + v) * kk) ++ ((xs ++ jk).drop (m * kk)).take ((n - m) * kk) ++ (xs ++ jk).drop ((m + v) * kk + (((xs ++ jk).drop (m * kk)).take ((n - m) * kk)).length)).take (m * kk) ++ ys ++ ((xs ++ jk).take ((m + v) * kk) ++ ((xs ++ jk).drop (m * kk)).take ((n - m) * kk) ++ (xs ++ jk).drop ((m + v) * kk + (((xs ++ jk).drop (m * kk)).take ((n - m) * kk)).length)).drop (m * kk + ys.length)) = xs.take (m * kk) ++ ys ++ xs.drop (m * kk) := by
  have h1 : m * kk ≤ n * kk := Nat.mul_le_mul_right _ hm
  have h4 : (n - m) * kk = n * kk - m * kk := Nat.sub_mul _ _ _
  have h5 : (n + v - n) * kk = v * kk := by congr 1; omega
  have h7 : (m + v) * kk = m * kk + v * kk := Nat.add_mul _ _ _
  have h6 : ((xs ++ jk).drop (m * kk)).take ((n - m) * kk) = xs.drop (m * kk) := by
    rw [List.drop_append_of_le_length (by omega), List.take_append_of_le_length (by rw [List.length_drop]; omega), List.take_of_length_le (by rw [List.length_drop]; omega)]
  rw [h6]
  have hd : (xs.drop (m * kk)).length = n * kk - m * kk := by rw [List.length_drop, hx]
  have h8 : ((xs ++ jk).take ((m + v) * kk)).length = (m + v) * kk := by rw [List.length_take, List.length_append, hj, h5, hx, h7]; omega
  have h9 : (xs ++ jk).drop ((m + v) * kk + (xs.drop (m * kk)).length) = [] := List.drop_eq_nil_of_le (by rw [List.length_append, hj, h5, hx, h7, hd]; omega)
  rw [h9, List.append_nil]
  have h10 : ((xs ++ jk).take ((m + v) * kk) ++ xs.drop (m * kk)).take (m * kk) = xs.take (m * kk) := by
    rw [List.take_append_of_le_length (by omega), List.take_take, Nat.min_eq_left (by omega), List.take_append_of_le_length (by omega)]
  have h11 : ((xs ++ jk).take ((m + v) * kk) ++ xs.drop (m * kk)).drop (m * kk + ys.length) = xs.drop (m * kk) := by
    rw [hy, ← h7]
    have := List.drop_left (l₁ := (xs ++ jk).take ((m + v) * kk)) (l₂ := xs.drop (m * kk))
    rwa [h8] at this
  rw [h10, h11]
end Go.Stp
