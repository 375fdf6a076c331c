/-
  Slices that are made: a literal, make; the address of an element of such a slice, a store and a load there. No condition.
-/
import Derived.Test.YtdkhklhnipiheaaRow
import Derived.Laws.MakeOwn
namespace Go.Stp
open GoT (X k ok sh fa oa)
def zrep : Nat → List Value → List Value
  | 0, _ => []
  | n + 1, z => zrep n z ++ z
theorem zrep_len (z : List Value) : ∀ n, (zrep n z).length = n * z.length
  | 0 => by simp [zrep]
  | n + 1 => by simp only [zrep, List.length_append, zrep_len z n, Nat.add_mul]; omega
theorem zrep_range (z : Array Value) (hz : 0 < z.size) : ∀ n, ((Array.range (n * z.size)).map (fun i => z[i % z.size]!)).toList = zrep n z.toList
  | 0 => by simp [zrep]
  | n + 1 => by
    have ih := zrep_range z hz n
    simp only [Array.toList_map, Array.toList_range] at ih ⊢
    rw [Nat.add_mul, Nat.one_mul, List.range_add, List.map_append, ih, zrep]
    congr 1
    rw [List.map_map]
    apply List.ext_getElem?
    intro j
    by_cases hj : j < z.size
    · simp [hj, Nat.mod_eq_of_lt hj]
    · simp [hj, List.getElem?_eq_none]
/-- the table's row for the elements of slice type T: type, cells, bytes, the zero value's cells -/
def elO (tt : TT) (T : Nat) : Option (Nat × Nat × Nat × List Value) :=
  match look tt T with
  | some ti => (match ti.desc with
    | .slice e => (match look tt e with
      | some ⟨dE, sE, bE, zE⟩ => (match sE with
        | 0 => none
        | n + 1 => (match cellsO ⟨dE, n + 1, bE, zE⟩ zE with
          | some z => (match Nat.beq z.length (n + 1) with
            | true => some (e, n + 1, bE, z)
            | false => none)
          | none => none))
      | none => none)
    | _ => none)
  | none => none
theorem elO_some {P : Program} {tt : TT} (ht : TabOk P tt) {T e kk by_ : Nat} {z : List Value} (h : elO tt T = some (e, kk, by_, z)) :
    P.underlying T = some (.slice e) ∧ ∃ i v te, look tt e = some te ∧ te.size = kk ∧ P.info? e = some i ∧ i.zero = some v ∧ i.size = kk ∧ i.bytes = by_ ∧ v.cells.toList = z ∧ z.length = kk ∧ 0 < kk := by
  unfold elO at h
  split at h
  · rename_i ti hT
    split at h
    · rename_i e' hd
      split at h
      · rename_i dE sE bE zE hE
        split at h
        · cases h
        · rename_i n
          split at h
          · rename_i z' hz
            split at h
            · rename_i hb
              simp only [Option.some.injEq, Prod.mk.injEq] at h
              obtain ⟨rfl, rfl, rfl, rfl⟩ := h
              obtain ⟨hu, _⟩ := ht.get hT
              obtain ⟨_, i, hi, h0, hs, hby⟩ := ht.get hE
              exact ⟨by rw [hu, hd], i, zE, _, hE, rfl, hi, h0, hs, hby, cellsO_some hz, Nat.eq_of_beq_eq_true hb, by omega⟩
            · cases h
          · cases h
      · cases h
    · cases h
  · cases h
def zrepO : Nat → List Value → Option (List Value)
  | 0, _ => some []
  | n + 1, z => (match zrepO n z with | some q => catO q z | none => none)
where
  catO : List Value → List Value → Option (List Value)
    | [], b => some b
    | x :: a, b => (match catO a b with | some q => some (x :: q) | none => none)
theorem catO_eq : ∀ {a b q : List Value}, zrepO.catO a b = some q → q = a ++ b
  | [], b, q, h => by simp [zrepO.catO] at h; exact h.symm
  | x :: a, b, q, h => by
    simp only [zrepO.catO] at h
    split at h
    · rename_i q' hq; simp at h; rw [← h, catO_eq hq]; rfl
    · cases h
theorem zrepO_eq : ∀ {n : Nat} {z q : List Value}, zrepO n z = some q → q = zrep n z
  | 0, z, q, h => by simp [zrepO] at h; subst h; rfl
  | n + 1, z, q, h => by
    simp only [zrepO] at h
    split at h
    · rename_i q' hq; rw [catO_eq h, zrepO_eq hq]; rfl
    · cases h
def bldO (tt : TT) (env : Env) (T len : Nat) (parts : List (Nat × Operand)) : Option (Nat × List Value) :=
  match elO tt T with
  | some (e, kk, _, z) => (match Nat.ble (len * kk) 16777216 with
    | true => (match zrepO len z with
      | some q => (match fillO tt env (fun i => some (i * kk, e)) q parts with
        | some cs => some (kk, cs)
        | none => none)
      | none => none)
    | false => none)
  | none => none
theorem fillO_len {tt : TT} {env : Env} {place : Nat → Option (Nat × Nat)} : ∀ {parts : List (Nat × Operand)} {cs r : List Value}, fillO tt env place cs parts = some r → r.length = cs.length
  | [], cs, r, h => by simp [fillO] at h; subst h; rfl
  | (i, x) :: rest, cs, r, h => by
    simp only [fillO] at h
    (repeat' split at h) <;> first | cases h | (rename_i hsp; have := fillO_len h; rw [this]; exact (spliceO_some _ _ _ _ hsp).1)
theorem run_bld {P : Program} {tt : TT} (ht : TabOk P tt) {n : Nat} {env : Env} {bs : Nat → Nat} {a : Act} (hA : At n env bs a) {T len kk : Nat} {parts : Array (Nat × Operand)} {cs : List Value} (h : bldO tt env T len parts.toList = some (kk, cs)) (w : World) :
    ∃ e, (Instr.buildSlice T len (parts.map fun x => (x.1, a.eval x.2))).run P w = .ok (.slice (some ⟨w.heap.size, 0, none⟩) len len) (w.alloc (.cells cs.toArray e)) ∧ cs.length = len * kk ∧ 0 < kk := by
  unfold bldO at h
  split at h
  · rename_i e kk' by_ z hel
    split at h
    · rename_i hle
      split at h
      · rename_i q hq
        split at h
        · rename_i cs' hcs
          simp only [Option.some.injEq, Prod.mk.injEq] at h
          obtain ⟨rfl, rfl⟩ := h
          obtain ⟨hu, i, v, te, hE, hte, hi, h0, hs, _, hv, hzl, hpos⟩ := elO_some ht hel
          have hq' := zrepO_eq hq
          have hle' : len * kk' ≤ 16777216 := Nat.le_of_ble_eq_true hle
          have hfill := fillO_sound ht hA (place := fun i => some (i * kk', e)) (place' := fun i => some (i * kk', kk')) (fun j off T' ti' h1 h2 => by
            simp only [Option.some.injEq, Prod.mk.injEq] at h1
            obtain ⟨rfl, rfl⟩ := h1
            rw [hE] at h2; simp at h2; subst h2; rw [hte]) _ _ _ hcs
          have hlen : cs'.length = len * kk' := by rw [fillO_len hcs, hq', zrep_len, hzl]
          refine ⟨e, ?_, hlen, hpos⟩
          have hvs : v.cells.size = kk' := by rw [← hzl, ← hv]; simp
          have hz : (if len * i.size = 0 then #[] else v.cells) = (if len * kk' = 0 then #[] else v.cells) := by rw [hs]
          by_cases hl0 : len = 0
          · subst hl0
            have : q = [] := by rw [hq']; rfl
            subst this
            have hf' : Instr.fill (fun i => some (i * kk', kk')) #[] (List.map (fun x => (x.1, a.eval x.2)) parts.toList) = some cs'.toArray := hfill
            simp [Instr.buildSlice, run_underlying hu, sizeOf, typeInfo, zeroValue, hi, newRow, hs, Array.range_zero', hf']
          · have hne : ¬ (len * kk' = 0) := by
              intro h; rcases Nat.mul_eq_zero.1 h with h | h <;> omega
            have hr := zrep_range v.cells (by omega) len
            rw [hvs, hv, ← hq'] at hr
            have hq2 : (Array.range (len * kk')).map (fun i => v.cells[i % v.cells.size]!) = q.toArray := Array.ext' (by simpa [hvs] using hr)
            have hsm : ¬ (16777216 < len * kk') := by omega
            have hf' : Instr.fill (fun i => some (i * kk', kk')) ((Array.range (len * kk')).map (fun i => v.cells[i % v.cells.size]!)) (List.map (fun x => (x.1, a.eval x.2)) parts.toList) = some cs'.toArray := by rw [hq2]; exact hfill
            simp only [Instr.buildSlice, Sem.run_bind, run_underlying hu, Result.andThen_ok, run_sizeOf hi, hs, newRow]
            simp [hsm, hne, zeroValue, typeInfo, hi, h0, hf']
        · cases h
      · cases h
    · cases h
  · cases h
/-- a new row, as the state has it -/
theorem HInv.newRow {C : Cx} {w : World} {G : GH} {bs : Nat → Nat} {env : Env} {L : Locs} {R : Rows} {a : Act} (hA : At C.fn.ntmps env bs a) (hI : HInv C w G bs L R) {d : Nat} (hd : d < C.fn.ntmps) {kk n : Nat} {cs : List Value} {e : Nat} (hcs : cs.length = n * kk) (hn : n ≤ maxLen) (hnl : labHas d env L R = false) :
    ∃ bs', At C.fn.ntmps ((d, .v (.slice (some ⟨w.heap.size, 0, none⟩) n n)) :: env) bs' (a.put (some d) (.slice (some ⟨w.heap.size, 0, none⟩) n n)) ∧
      HInv C (w.alloc (.cells cs.toArray e)) G bs' L ((d, ⟨kk, some ⟨w.heap.size, 0, none⟩, n, n, cs⟩) :: R) := by
  refine ⟨fun j => if j = d then w.heap.size else bs j, ?_, ?_⟩
  · exact (hA.notH (d := d) (labHas_not hnl).1 (fun i hi => if_neg hi)).put hd (.v _)
  · refine hI.upd (ρ := d) (labHas_not hnl).2.2.2 False (fun h => h.elim) (only_alloc w _ _ _) (.inr (.inl (Nat.le_refl _))) (fun j => look_cons _ _ _ _) (fun l h => keyHas_not (labHas_not hnl).2.1 h rfl) ⟨hcs, .inr ⟨0, rfl, .inl hI.keep.size, hI.le.new, Nat.le_refl _, hn, cs.toArray, e, heap_alloc_new w _, by simp [hcs], by simp [← hcs]⟩⟩
/-- a slice literal: a new row -/
theorem WX.bld {C : Cx} {ops : Array Oper} {o : Oper} {r : List Oper} {s : List It} {env : Env} {L : Locs} {R : Rows} {Γ : Facts} {d T len kk : Nat} {parts : Array (Nat × Operand)} {cs : List Value} (ht : TabOk C.P C.tt)
    (hg : gd ops env o = some true) (hd : o.dst = some d) (hlt : Nat.blt d C.fn.ntmps = true) (ho : o.op = .buildSlice T len parts) (hb : bldO C.tt env T len parts.toList = some (kk, cs)) (hlen : Nat.ble len 16777216 = true) (hnl : labHas d env L R = false)
    (k : ∀ p, WX C (.ops ops r :: s) ((d, .v (.slice p len len)) :: env) L ((d, ⟨kk, p, len, len, cs⟩) :: R) Γ) : WX C (.ops ops (o :: r) :: s) env L R Γ := by
  rintro a w ⟨G, bs, hA, hI, hΓ⟩
  show wpList C.P ops (cont C s) (o :: r) a w
  unfold wpList
  rw [if_pos (gd_sound hA hg)]
  refine .inl ?_
  unfold Oper.wp
  obtain ⟨e, hrun, hcs, _⟩ := run_bld ht hA hb w
  have hexec : (execOp a.eval o).run C.P w = .ok (.value (.slice (some ⟨w.heap.size, 0, none⟩) len len)) (w.alloc (.cells cs.toArray e)) := by
    unfold execOp
    simp only [ho, Sem.run_bind, hrun, Result.andThen_ok, Sem.run_pure]
  rw [hexec]
  simp only [Oper.upon, hd]
  obtain ⟨bs', hA', hI'⟩ := hI.newRow hA (d := d) (by simpa [Nat.blt_eq] using hlt) (e := e) hcs (by have := Nat.le_of_ble_eq_true hlen; simp only [maxLen]; omega) hnl
  exact k _ _ _ ⟨G, bs', hA', hI', hΓ⟩
/-- make([]T, m): a new row of zero values -/
theorem WX.mkS {C : Cx} {ops : Array Oper} {o : Oper} {r : List Oper} {s : List It} {env : Env} {L : Locs} {R : Rows} {Γ : Facts} {d T e kk by_ : Nat} {x : Operand} {z : List Value} {q : Int} (m : Nat) (ht : TabOk C.P C.tt)
    (hg : gd ops env o = some true) (hd : o.dst = some d) (hlt : Nat.blt d C.fn.ntmps = true) (ho : o.op = .makeSlice T x x) (hx : ev env x = some (.v (.int .i64 q))) (hq : q = (m : Int)) (hel : elO C.tt T = some (e, kk, by_, z)) (hroom : m * by_ ≤ 281474976710656) (hmax : m ≤ 140737488355328) (hnl : labHas d env L R = false)
    (k : ∀ p, WX C (.ops ops r :: s) ((d, .v (.slice p m m)) :: env) L ((d, ⟨kk, p, m, m, zrep m z⟩) :: R) Γ) : WX C (.ops ops (o :: r) :: s) env L R Γ := by
  subst hq
  rintro a w ⟨G, bs, hA, hI, hΓ⟩
  show wpList C.P ops (cont C s) (o :: r) a w
  unfold wpList
  rw [if_pos (gd_sound hA hg)]
  refine .inl ?_
  unfold Oper.wp
  obtain ⟨hu, i, v, te, hE, hte, hi, h0, hs, hby, hv, hzl, hpos⟩ := elO_some ht hel
  have hvs : v.cells.size = kk := by rw [← hzl, ← hv]; simp
  have hr := zrep_range v.cells (by omega) m
  rw [hvs, hv] at hr
  have hbig : (i.bytes : Int) * (m : Int) ≤ 281474976710656 := by
    have h : ((m * by_ : Nat) : Int) ≤ 281474976710656 := by omega
    rw [Int.natCast_mul] at h
    rw [hby, Int.mul_comm]; exact h
  have hrun : (Instr.makeSlice T (.int .i64 m) (.int .i64 m)).run C.P w = .ok (.slice (some ⟨w.heap.size, 0, none⟩) m m) (w.alloc (.cells (zrep m z).toArray e)) := by
    have hr2 := run_make (P := C.P) w T e i v hu hi h0 .i64 .i64 m m (by omega) (Int.le_refl _) hbig (by omega)
    rw [hr2]
    have : madeCells v.cells (m * i.size) = (zrep m z).toArray := Array.ext' (by rw [hs]; simpa [madeCells, hvs] using hr)
    simp [this]
  have hexec : (execOp a.eval o).run C.P w = .ok (.value (.slice (some ⟨w.heap.size, 0, none⟩) m m)) (w.alloc (.cells (zrep m z).toArray e)) := by
    unfold execOp
    simp only [ho, ev_conc hA hx, conc_v, Sem.run_bind, hrun, Result.andThen_ok, Sem.run_pure]
  rw [hexec]
  simp only [Oper.upon, hd]
  obtain ⟨bs', hA', hI'⟩ := hI.newRow hA (d := d) (by simpa [Nat.blt_eq] using hlt) (e := e) (cs := zrep m z) (kk := kk) (n := m) (by rw [zrep_len, hzl]) (by simp only [maxLen]; omega) hnl
  exact k _ _ _ ⟨G, bs', hA', hI', hΓ⟩

/-! ### elements of a row -/
theorem RowOk.some {M : Nat → Prop} {w : World} {G : GH} {b : Nat} {r : Row} (h : RowOk M w G b r) (hn : 0 < r.n) : ∃ o1, r.p = Option.some ⟨b, o1, none⟩ ∧ r.c ≠ 0 ∧ ∃ cur T, w.heap[b]? = Option.some (.cells cur T (0, 0)) ∧ o1 + r.c * r.k ≤ cur.size ∧ (cur.toList.drop o1).take (r.n * r.k) = r.xs ∧ r.n ≤ r.c := by
  rcases h.2 with ⟨_, h0⟩ | ⟨o1, h1, _, _, h4, _, cur, T, h6, h7, h8⟩
  · omega
  · exact ⟨o1, h1, by omega, cur, T, h6, h7, h8, h4⟩
theorem WX.idxR {C : Cx} {ops : Array Oper} {o : Oper} {r : List Oper} {s : List It} {env : Env} {L : Locs} {R : Rows} {Γ : Facts} {d : Nat} {x y : Operand} {T kk : Nat} {m : Int} {row : Row} (ρ i : Nat) (ht : TabOk C.P C.tt)
    (hg : gd ops env o = some true) (hd : o.dst = some d) (hlt : Nat.blt d C.fn.ntmps = true) (ho : o.op = .indexAddr T x y)
    (hx : ev env x = some (.v (.slice row.p row.n row.c))) (hy : ev env y = some (.v (.int .i64 m))) (hk : elemO C.tt T = some kk) (hρ : look R ρ = some row) (hm : m = (i : Int)) (hi : i < row.n)
    (k : ∀ ad, row.p = some ad → WX C (.ops ops r :: s) ((d, .e (some ad) i kk 0) :: env) L R Γ) : WX C (.ops ops (o :: r) :: s) env L R Γ := by
  rintro a w ⟨G, bs, hA, hI, hΓ⟩
  obtain ⟨o1, hp, _⟩ := (hI.row ρ row hρ).some (by omega)
  rw [hp] at hx
  have hl := looks_idx (L := L) (R := R) (G := G) ht ho hx hy hk hm hi
  show wpList C.P ops (cont C s) (o :: r) a w
  unfold wpList
  rw [if_pos (gd_sound hA hg)]
  refine .inl ?_
  unfold Oper.wp
  rw [hl a w G bs (Le.refl _) hA hI]
  simp only [Oper.upon, hd]
  exact k _ hp _ _ ⟨G, bs, hA.put (by simpa [Nat.blt_eq] using hlt) _, hI, hΓ⟩
theorem splice_take {α : Type} (l vs : List α) (o1 o n : Nat) (h : o + vs.length ≤ n) (hn : o1 + n ≤ l.length) : ((l.take (o1 + o) ++ vs ++ l.drop (o1 + o + vs.length)).drop o1).take n = ((l.drop o1).take n).take o ++ vs ++ ((l.drop o1).take n).drop (o + vs.length) := by
  have h0 : (l.take (o1 + o) ++ vs ++ l.drop (o1 + o + vs.length)).drop o1 = (l.drop o1).take o ++ vs ++ (l.drop o1).drop (o + vs.length) := by
    rw [List.append_assoc, List.drop_append_of_le_length (by simp; omega), List.drop_take, List.drop_drop, List.append_assoc, show o1 + o - o1 = o by omega, show o1 + (o + vs.length) = o1 + o + vs.length by omega]
  rw [h0]
  have h1 : ((l.drop o1).take o ++ vs).length = o + vs.length := by simp; omega
  rw [List.take_append, h1, List.take_of_length_le (by omega), List.take_take, Nat.min_eq_left (by omega), List.drop_take]
/-- v := row[i] or a part of it: a store -/
theorem WX.stR {C : Cx} {ops : Array Oper} {o : Oper} {r : List Oper} {s : List It} {env : Env} {L : Locs} {R R' : Rows} {Γ : Facts} {x y : Operand} {T kk i off : Nat} {ti : TI} {ad : Addr} {sv : SV} {v : Value} {vs : List Value} {row : Row} (ρ : Nat) (ht : TabOk C.P C.tt)
    (hg : gd ops env o = some true) (hd : o.dst = none) (ho : o.op = .store T x y)
    (hx : ev env x = some (.e (some ad) i kk off)) (hy : ev env y = some sv) (hv : valO sv = some v) (hT : look C.tt T = some ti) (hvs : cellsO ti v = some vs) (hlen : Nat.beq vs.length ti.size = true) (hone : oneB vs = true)
    (hρ : look R ρ = some row) (hp : row.p = some ad) (hk : row.k = kk) (hi : i < row.n) (hfit : Nat.ble (off + vs.length) kk = true) (hfree : envFree ρ env = true)
    (hR : setRO R ρ ⟨row.k, row.p, row.n, row.c, row.xs.take (i * kk + off) ++ vs ++ row.xs.drop (i * kk + off + vs.length)⟩ = some R')
    (k : WX C (.ops ops r :: s) env L R' Γ) : WX C (.ops ops (o :: r) :: s) env L R Γ := by
  rintro a w ⟨G, bs, hA, hI, hΓ⟩
  have hrow := hI.row ρ row hρ
  obtain ⟨o1, hp', hc0, cur, T', hh, hcs, htk, hnc⟩ := hrow.some (by omega)
  rw [hp] at hp'; simp at hp'; subst hp'
  subst hk
  have hfit' := Nat.le_of_ble_eq_true hfit
  have hb : i * row.k + off + vs.length ≤ row.n * row.k := by
    have : (i + 1) * row.k ≤ row.n * row.k := Nat.mul_le_mul_right _ (by omega)
    rw [Nat.add_mul] at this; omega
  have hnk : o1 + row.n * row.k ≤ cur.size := by have : row.n * row.k ≤ row.c * row.k := Nat.mul_le_mul_right _ hnc; omega
  obtain ⟨_, inf, hinf, _, hs, _⟩ := ht.get hT
  have hcells : v.cells.toList = vs := cellsO_some hvs
  have hsz : v.cells.size = inf.size := by
    have : v.cells.size = vs.length := by rw [← hcells]; simp
    rw [this, hs]; exact Nat.eq_of_beq_eq_true hlen
  have hst := run_storeCells_at C.P (bs ρ) (o1 + (i * row.k + off)) T' vs 0 cur w hh (by simp; omega) (oneB_spec hone)
  simp only [Nat.add_zero] at hst
  have haddr : conc bs (.e (some ⟨bs ρ, o1, none⟩) i row.k off) = .pointer (some ⟨bs ρ, o1 + (i * row.k + off), none⟩) := by
    simp only [conc, addr_add_add, Addr.add_lit, Nat.add_assoc]
  have hexec : (execOp a.eval o).run C.P w = .ok .skip (w.setRow (bs ρ) (cur.toList.take (o1 + (i * row.k + off)) ++ vs ++ cur.toList.drop (o1 + (i * row.k + off) + vs.length)).toArray) := by
    unfold execOp
    simp [ho, Instr.storeAt, Instr.sureAddr, storeVar, run_sizeOf hinf, hsz, ev_conc hA hx, haddr, ev_conc hA hy, valO_conc hv, hcells, hst]
  show wpList C.P ops (cont C s) (o :: r) a w
  unfold wpList
  rw [if_pos (gd_sound hA hg)]
  refine .inl ?_
  unfold Oper.wp
  rw [hexec]
  simp only [Oper.upon, hd, Act.put]
  rw [setRO_eq hR] at k
  have hLρ : ∀ l, look L ρ ≠ some l := fun l hl => hI.dis ρ l row hl hρ
  obtain ⟨hBb, hGb, hcm⟩ : C.M (bs ρ) ∧ G (bs ρ) = none ∧ row.c ≤ maxLen := by
    rcases hrow.2 with ⟨h0, _⟩ | ⟨_, _, h1, h2, _, h5, _⟩
    · exact absurd h0 hc0
    · exact ⟨h1, h2, h5⟩
  have hlook : ∀ j, look (setR R ρ ⟨row.k, row.p, row.n, row.c, row.xs.take (i * row.k + off) ++ vs ++ row.xs.drop (i * row.k + off + vs.length)⟩) j = if ρ = j then some ⟨row.k, row.p, row.n, row.c, row.xs.take (i * row.k + off) ++ vs ++ row.xs.drop (i * row.k + off + vs.length)⟩ else look R j := by
    intro j
    rw [look_setR]
    split
    · rename_i e; subst e; rw [hρ]; rfl
    · rfl
  have hrow' : RowOk C.M (w.setRow (bs ρ) (cur.toList.take (o1 + (i * row.k + off)) ++ vs ++ cur.toList.drop (o1 + (i * row.k + off) + vs.length)).toArray) G (bs ρ) ⟨row.k, row.p, row.n, row.c, row.xs.take (i * row.k + off) ++ vs ++ row.xs.drop (i * row.k + off + vs.length)⟩ := by
    refine ⟨?_, .inr ⟨o1, hp, hBb, hGb, hnc, hcm, _, T', setRow_heap w _ cur _ T' _ hh, ?_, ?_⟩⟩
    · have h1 := hrow.1
      simp only [List.length_append, List.length_take, List.length_drop]; omega
    · simp only [List.size_toArray, List.length_append, List.length_take, List.length_drop, Array.length_toList]; omega
    · rw [← htk]
      exact splice_take cur.toList vs o1 (i * row.k + off) (row.n * row.k) hb (by simpa using hnk)
  have honly : Only w (w.setRow (bs ρ) (cur.toList.take (o1 + (i * row.k + off)) ++ vs ++ cur.toList.drop (o1 + (i * row.k + off) + vs.length)).toArray) (bs ρ) (row.c ≠ 0) :=
    ⟨rfl, rfl, rfl, by simp [World.setRow], fun j hj hne => setRow_other w _ j _ (hne hc0)⟩
  have h999 : ρ ≠ 999 := fun e => by subst e; exact hI.nr row hρ
  have hI' := hI.upd (ρ := ρ) (b' := bs ρ) h999 (row.c ≠ 0) (fun _ => ⟨.inr ⟨row, hρ, hc0⟩, hBb, hGb⟩) honly (.inl ⟨rfl, hc0⟩) hlook hLρ hrow'
  have hbs : (fun j => if j = ρ then bs ρ else bs j) = bs := by funext j; split <;> simp_all
  rw [hbs] at hI'
  exact k _ _ ⟨G, bs, hA, hI', hΓ⟩
/-- a load of element i, or a part of it, from a row whose cells read as l -/
theorem WX.ldR {C : Cx} {ops : Array Oper} {o : Oper} {r : List Oper} {s : List It} {env : Env} {L : Locs} {R : Rows} {Γ : Facts} {α : Type} [GoT α] {d : Nat} {x : Operand} {T i off : Nat} {ti : TI} {ad : Addr} {row : Row} {l : List α} (ρ n : Nat) (a : α) {val : X α → Value} {Γ' : X α → Facts} (ht : TabOk C.P C.tt)
    (hg : gd ops env o = some true) (hd : o.dst = some d) (hlt : Nat.blt d C.fn.ntmps = true) (ho : o.op = .load T x)
    (hx : ev env x = some (.e (some ad) i (k α) off)) (hT : look C.tt T = some ti) (hρ : look R ρ = some row) (hp : row.p = some ad) (hk : row.k = k α) (hn : i < row.n) (hrd : ∀ G, AllK C.M G Γ → RdL G row.xs l) (ha : l[i]? = some a)
    (hv : ∀ x, asm ti (sh a x) off = some (val x)) (hf : ∀ x, addF n (fa .der a x) Γ = some (Γ' x))
    (k : ∀ x, (∀ j u, (sh a x)[j]? = some u → row.xs[i * k α + j]? = some u) → WX C (.ops ops r :: s) ((d, .v (val x)) :: env) L R (Γ' x)) : WX C (.ops ops (o :: r) :: s) env L R Γ := by
  rintro a' w ⟨G, bs, hA, hI, hΓ⟩
  obtain ⟨x', h6, h7⟩ := (hrd G hΓ).get ha
  have hrow := hI.row ρ row hρ
  obtain ⟨o1, hp', hc0, cur, T', hh, hcs, htk, hnc⟩ := hrow.some (by omega)
  rw [hp] at hp'; simp at hp'; subst hp'
  have hc : ∀ j u, (sh a x')[j]? = some u → w.cell? (((⟨bs ρ, o1, none⟩ : Addr).add (i * GoT.k α)).add j) = some u := fun j u hj => by
    have h8 := h7 j u hj
    rw [← htk, List.getElem?_take, List.getElem?_drop] at h8
    rw [addr_add_add, Addr.add_lit, cell_of_row w _ _ cur T' _ hh]
    split at h8
    · simpa using h8
    · cases h8
  have hl : (execOp a'.eval o).run C.P w = .ok (.value (val x')) w := by
    unfold execOp
    have hrun := run_loadVar (P := C.P) ht hT (w := w) (a := (⟨bs ρ, o1, none⟩ : Addr).add (i * GoT.k α)) (cs := sh a x') (off := off) (v := val x') hc (hv x')
    simp only [ho, ev_conc hA hx, conc, Instr.loadAt, Instr.sureAddr, Sem.run_bind, Sem.run_pure, Result.andThen_ok, hrun]
  show wpList C.P ops (cont C s) (o :: r) a' w
  unfold wpList
  rw [if_pos (gd_sound hA hg)]
  refine .inl ?_
  unfold Oper.wp
  rw [hl]
  simp only [Oper.upon, hd]
  exact k x' h7 _ _ ⟨G, bs, hA.put (by simpa [Nat.blt_eq] using hlt) (.v (val x')), hI, AllK.ders (hf x') (fun f hf => GoT.fak f hf) h6 hΓ⟩
/-! ### one element, apart from the others -/
/-- all but element i are one's own -/
def OwH {α : Type} [GoT α] (h : GH) (xs : List Value) (l : List α) (i : Nat) : Prop :=
  ∃ h1 h2, Le h1 h ∧ Le h2 h ∧ Dj h1 h2 ∧ OwL h1 (xs.take (i * GoT.k α)) (l.take i) ∧ OwL h2 (xs.drop ((i + 1) * GoT.k α)) (l.drop (i + 1))
def MF.oh {α : Type} [GoT α] (xs : List Value) (l : List α) (i : Nat) : MF := ⟨.lin, fun G => OwH G xs l i, fun h ⟨h1, h2, a, b, c⟩ => ⟨h1, h2, a.trans h, b.trans h, c⟩⟩
section
variable {α : Type} [GoT α]
theorem OwL.openE {h : GH} {xs : List Value} {l : List α} {i : Nat} {e : α} (ho : OwL h xs l) (hi : l[i]? = some e) :
    ∃ x : X α, (xs = xs.take (i * k α) ++ sh e x ++ xs.drop ((i + 1) * k α) ∧ (xs.take (i * k α)).length = i * k α) ∧ Sep h (oa e x ++ [MF.oh xs l i]) := by
  obtain ⟨hlt, rfl⟩ := List.getElem?_eq_some_iff.1 hi
  have hsp : l = l.take i ++ (l[i] :: l.drop (i + 1)) := by rw [← List.drop_eq_getElem_cons hlt, List.take_append_drop]
  have hlen := ho.len
  rw [hsp] at ho
  obtain ⟨h1, h2, a1, a2, a3, a4, a5⟩ := ho.split
  have hti : (l.take i).length = i := by simp; omega
  rw [hti] at a4 a5
  obtain ⟨x, ys, q1, q2, e1, r1, r2, r3, r4, r5⟩ := a5
  have hk1 : (i + 1) * k α ≤ l.length * k α := Nat.mul_le_mul_right _ hlt
  have hk2 : (i + 1) * k α = i * k α + k α := by rw [Nat.add_mul, Nat.one_mul]
  have hys : ys = xs.drop ((i + 1) * k α) := by
    rw [hk2, ← List.drop_drop, e1, ← GoT.len l[i] x, List.drop_left]
  refine ⟨x, ⟨?_, by simp; omega⟩, Sep.both (r1.trans a2) (join_le a1 (r2.trans a2)) ((join_dj (a3.mono (Le.refl _) r1) r3.symm).symm) r4 (one_sep ⟨h1, q2, le_join_l _ _, le_join_r (a3.mono (Le.refl _) r2), a3.mono (Le.refl _) r2, a4, by rw [← hys]; exact r5⟩)⟩
  rw [List.append_assoc, ← hys, ← e1, List.take_append_drop]
theorem OwL.closeE {h : GH} {xs : List Value} {l : List α} {i : Nat} {e : α} {x : X α} (hi : i < l.length) (hs : Sep h (oa e x ++ [MF.oh xs l i])) : OwL h (xs.take (i * k α) ++ sh e x ++ xs.drop ((i + 1) * k α)) (l.set i e) := by
  obtain ⟨h1, h2, a1, a2, a3, a4, a5⟩ := hs.append
  obtain ⟨q1, q2, r1, r2, r3, r4, r5⟩ := (sep_one a5 : OwH h2 xs l i)
  have : l.set i e = l.take i ++ [e] ++ l.drop (i + 1) := by
    rw [List.set_eq_take_append_cons_drop, if_pos hi]; simp
  rw [this]
  refine OwL.append r5 (h := join q1 h1) (OwL.snoc a4 r4 (le_join_l _ _) (le_join_r ((a3.mono (Le.refl _) r1).symm)) ((a3.mono (Le.refl _) r1).symm)) (join_le (r1.trans a2) a1) (r2.trans a2) (join_dj r3 (a3.mono (Le.refl _) r2))
theorem splice_in {β : Type} (A S B vs : List β) (off : Nat) (h : off + vs.length ≤ S.length) : (A ++ S ++ B).take (A.length + off) ++ vs ++ (A ++ S ++ B).drop (A.length + off + vs.length) = A ++ (S.take off ++ vs ++ S.drop (off + vs.length)) ++ B := by
  have h1 : (A ++ S ++ B).take (A.length + off) = A ++ S.take off := by
    rw [List.append_assoc, List.take_length_add_append, List.take_append_of_le_length (by omega)]
  have h2 : (A ++ S ++ B).drop (A.length + off + vs.length) = S.drop (off + vs.length) ++ B := by
    rw [List.append_assoc, Nat.add_assoc, List.drop_length_add_append, List.drop_append_of_le_length (by omega)]
  rw [h1, h2]; simp
/-- a store into element i that touches none of its slices -/
theorem OwL.set {h : GH} {xs : List Value} {l : List α} {i off : Nat} {e e' : α} {vs : List Value} (ho : OwL h xs l) (hi : l[i]? = some e) (hs : ∀ x : X α, (sh e x).take off ++ vs ++ (sh e x).drop (off + vs.length) = sh e' x) (hf : off + vs.length ≤ k α) (hoa : ∀ x : X α, oa e' x = oa e x) :
    OwL h (xs.take (i * k α + off) ++ vs ++ xs.drop (i * k α + off + vs.length)) (l.set i e') := by
  obtain ⟨x, ⟨hx, hl⟩, hsep⟩ := ho.openE hi
  have := OwL.closeE (e := e') (x := x) (List.getElem?_eq_some_iff.1 hi).1 (by rw [hoa]; exact hsep)
  rw [← hs] at this
  have h2 := splice_in (xs.take (i * k α)) (sh e x) (xs.drop ((i + 1) * k α)) vs off (by rw [GoT.len]; exact hf)
  rw [← hx, hl] at h2
  rw [h2]; exact this
end
theorem fill_take {xs cs : List Value} {i n kk : Nat} (hx : xs.length = n * kk) (hc : cs.length = kk) (hi : i < n) : (xs.take (i * kk + 0) ++ cs ++ xs.drop (i * kk + 0 + cs.length)).take ((i + 1) * kk) = xs.take (i * kk) ++ cs := by
  have h : (i + 1) * kk ≤ n * kk := Nat.mul_le_mul_right _ (by omega)
  rw [Nat.add_mul, Nat.one_mul] at h
  have h1 : (xs.take (i * kk) ++ cs).length = (i + 1) * kk := by simp [Nat.add_mul]; omega
  rw [Nat.add_zero (i * kk), ← h1, List.take_left]
theorem fill_len {xs cs : List Value} {i n kk : Nat} (hx : xs.length = n * kk) (hc : cs.length = kk) (hi : i < n) : (xs.take (i * kk + 0) ++ cs ++ xs.drop (i * kk + 0 + cs.length)).length = n * kk := by
  have h : (i + 1) * kk ≤ n * kk := Nat.mul_le_mul_right _ (by omega)
  rw [Nat.add_mul, Nat.one_mul] at h
  simp; omega
end Go.Stp
