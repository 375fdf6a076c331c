/-
  Slices that are made: a literal, make; the address of an element of such a slice, a store and a load there. No condition.
-/
import Derived.Test.YtkgehljhlmbdmaaRow
import Derived.Laws.MakeOwn
namespace Go.Stp
open Go.RowKit (Below)
open GoT (X F k ok sh fa oa)
def zrep : Nat → List Value → List Value
  | 0, _ => []
  | n + 1, z => zrep n z ++ z
theorem zrep_len (z : List Value) : ∀ n, (zrep n z).length = n * z.length
  | 0 => by simp [zrep]
  | n + 1 => by simp only [zrep, List.length_append, zrep_len z n, Nat.add_mul]; omega
theorem zrep_range (z : Array Value) (hz : 0 < z.size) : ∀ n, ((Array.range (n * z.size)).map (fun i => z[i % z.size]!)).toList = zrep n z.toList
  | 0 => by simp [zrep]
  | n + 1 => by
    have ih := zrep_range z hz n
    simp only [Array.toList_map, Array.toList_range] at ih ⊢
    rw [Nat.add_mul, Nat.one_mul, List.range_add, List.map_append, ih, zrep]
    congr 1
    rw [List.map_map]
    apply List.ext_getElem?
    intro j
    by_cases hj : j < z.size
    · simp [hj, Nat.mod_eq_of_lt hj]
    · simp [hj, List.getElem?_eq_none]
/-- the table's row for the elements of slice type T: type, cells, bytes, the zero value's cells -/
def elO (tt : TT) (T : Nat) : Option (Nat × Nat × Nat × List Value) :=
  match look tt T with
  | some ti => (match ti.desc with
    | .slice e => (match look tt e with
      | some ⟨dE, sE, bE, zE⟩ => (match sE with
        | 0 => none
        | n + 1 => (match cellsO ⟨dE, n + 1, bE, zE⟩ zE with
          | some z => (match Nat.beq z.length (n + 1) with
            | true => some (e, n + 1, bE, z)
            | false => none)
          | none => none))
      | none => none)
    | _ => none)
  | none => none
theorem elO_some {P : Program} {tt : TT} (ht : TabOk P tt) {T e kk by_ : Nat} {z : List Value} (h : elO tt T = some (e, kk, by_, z)) :
    P.underlying T = some (.slice e) ∧ ∃ i v te, look tt e = some te ∧ te.size = kk ∧ P.info? e = some i ∧ i.zero = some v ∧ i.size = kk ∧ i.bytes = by_ ∧ v.cells.toList = z ∧ z.length = kk ∧ 0 < kk := by
  unfold elO at h
  split at h
  · rename_i ti hT
    split at h
    · rename_i e' hd
      split at h
      · rename_i dE sE bE zE hE
        split at h
        · cases h
        · rename_i n
          split at h
          · rename_i z' hz
            split at h
            · rename_i hb
              simp only [Option.some.injEq, Prod.mk.injEq] at h
              obtain ⟨rfl, rfl, rfl, rfl⟩ := h
              obtain ⟨hu, _⟩ := ht.get hT
              obtain ⟨_, i, hi, h0, hs, hby⟩ := ht.get hE
              exact ⟨by rw [hu, hd], i, zE, _, hE, rfl, hi, h0, hs, hby, cellsO_some hz, Nat.eq_of_beq_eq_true hb, by omega⟩
            · cases h
          · cases h
      · cases h
    · cases h
  · cases h
def zrepO : Nat → List Value → Option (List Value)
  | 0, _ => some []
  | n + 1, z => (match zrepO n z with | some q => catO q z | none => none)
where
  catO : List Value → List Value → Option (List Value)
    | [], b => some b
    | x :: a, b => (match catO a b with | some q => some (x :: q) | none => none)
theorem catO_eq : ∀ {a b q : List Value}, zrepO.catO a b = some q → q = a ++ b
  | [], b, q, h => by simp [zrepO.catO] at h; exact h.symm
  | x :: a, b, q, h => by
    simp only [zrepO.catO] at h
    split at h
    · rename_i q' hq; simp at h; rw [← h, catO_eq hq]; rfl
    · cases h
theorem zrepO_eq : ∀ {n : Nat} {z q : List Value}, zrepO n z = some q → q = zrep n z
  | 0, z, q, h => by simp [zrepO] at h; subst h; rfl
  | n + 1, z, q, h => by
    simp only [zrepO] at h
    split at h
    · rename_i q' hq; rw [catO_eq h, zrepO_eq hq]; rfl
    · cases h
def bldO (tt : TT) (env : Env) (T len : Nat) (parts : List (Nat × Operand)) : Option (Nat × List Value) :=
  match elO tt T with
  | some (e, kk, _, z) => (match Nat.ble (len * kk) 16777216 with
    | true => (match zrepO len z with
      | some q => (match fillO tt env (fun i => some (i * kk, e)) q parts with
        | some cs => some (kk, cs)
        | none => none)
      | none => none)
    | false => none)
  | none => none
theorem fillO_len {tt : TT} {env : Env} {place : Nat → Option (Nat × Nat)} : ∀ {parts : List (Nat × Operand)} {cs r : List Value}, fillO tt env place cs parts = some r → r.length = cs.length
  | [], cs, r, h => by simp [fillO] at h; subst h; rfl
  | (i, x) :: rest, cs, r, h => by
    simp only [fillO] at h
    (repeat' split at h) <;> first | cases h | (rename_i hsp; have := fillO_len h; rw [this]; exact (spliceO_some _ _ _ _ hsp).1)
theorem run_bld {P : Program} {tt : TT} (ht : TabOk P tt) {n : Nat} {env : Env} {bs : Nat → Nat} {a : Act} (hA : At n env bs a) {T len kk : Nat} {parts : Array (Nat × Operand)} {cs : List Value} (h : bldO tt env T len parts.toList = some (kk, cs)) (w : World) :
    ∃ e, (Instr.buildSlice T len (parts.map fun x => (x.1, a.eval x.2))).run P w = .ok (.slice (some ⟨w.heap.size, 0, none⟩) len len) (w.alloc (.cells cs.toArray e)) ∧ cs.length = len * kk ∧ 0 < kk := by
  unfold bldO at h
  split at h
  · rename_i e kk' by_ z hel
    split at h
    · rename_i hle
      split at h
      · rename_i q hq
        split at h
        · rename_i cs' hcs
          simp only [Option.some.injEq, Prod.mk.injEq] at h
          obtain ⟨rfl, rfl⟩ := h
          obtain ⟨hu, i, v, te, hE, hte, hi, h0, hs, _, hv, hzl, hpos⟩ := elO_some ht hel
          have hq' := zrepO_eq hq
          have hle' : len * kk' ≤ 16777216 := Nat.le_of_ble_eq_true hle
          have hfill := fillO_sound ht hA (place := fun i => some (i * kk', e)) (place' := fun i => some (i * kk', kk')) (fun j off T' ti' h1 h2 => by
            simp only [Option.some.injEq, Prod.mk.injEq] at h1
            obtain ⟨rfl, rfl⟩ := h1
            rw [hE] at h2; simp at h2; subst h2; rw [hte]) _ _ _ hcs
          have hlen : cs'.length = len * kk' := by rw [fillO_len hcs, hq', zrep_len, hzl]
          refine ⟨e, ?_, hlen, hpos⟩
          have hvs : v.cells.size = kk' := by rw [← hzl, ← hv]; simp
          have hz : (if len * i.size = 0 then #[] else v.cells) = (if len * kk' = 0 then #[] else v.cells) := by rw [hs]
          by_cases hl0 : len = 0
          · subst hl0
            have : q = [] := by rw [hq']; rfl
            subst this
            have hf' : Instr.fill (fun i => some (i * kk', kk')) #[] (List.map (fun x => (x.1, a.eval x.2)) parts.toList) = some cs'.toArray := hfill
            simp [Instr.buildSlice, run_underlying hu, sizeOf, typeInfo, zeroValue, hi, newRow, hs, Array.range_zero', hf']
          · have hne : ¬ (len * kk' = 0) := by
              intro h; rcases Nat.mul_eq_zero.1 h with h | h <;> omega
            have hr := zrep_range v.cells (by omega) len
            rw [hvs, hv, ← hq'] at hr
            have hq2 : (Array.range (len * kk')).map (fun i => v.cells[i % v.cells.size]!) = q.toArray := Array.ext' (by simpa [hvs] using hr)
            have hsm : ¬ (16777216 < len * kk') := by omega
            have hf' : Instr.fill (fun i => some (i * kk', kk')) ((Array.range (len * kk')).map (fun i => v.cells[i % v.cells.size]!)) (List.map (fun x => (x.1, a.eval x.2)) parts.toList) = some cs'.toArray := by rw [hq2]; exact hfill
            simp only [Instr.buildSlice, Sem.run_bind, run_underlying hu, Result.andThen_ok, run_sizeOf hi, hs, newRow]
            simp [hsm, hne, zeroValue, typeInfo, hi, h0, hf']
        · cases h
      · cases h
    · cases h
  · cases h
/-- a new row, as the state has it -/
theorem HInv.newRow {C : Cx} {w : World} {G : GH} {bs : Nat → Nat} {env : Env} {L : Locs} {R : Rows} {a : Act} (hA : At C.fn.ntmps env bs a) (hI : HInv C.w0 w G bs L R) {d : Nat} (hd : d < C.fn.ntmps) {kk n : Nat} {cs : List Value} {e : Nat} (hcs : cs.length = n * kk) (hn : n ≤ maxLen) (hnl : labHas d env L R = false) :
    ∃ bs', At C.fn.ntmps ((d, .v (.slice (some ⟨w.heap.size, 0, none⟩) n n)) :: env) bs' (a.put (some d) (.slice (some ⟨w.heap.size, 0, none⟩) n n)) ∧
      HInv C.w0 (w.alloc (.cells cs.toArray e)) G bs' L ((d, ⟨kk, some ⟨w.heap.size, 0, none⟩, n, n, cs⟩) :: R) := by
  refine ⟨fun j => if j = d then w.heap.size else bs j, ?_, ?_⟩
  · exact (hA.notH (d := d) (labHas_not hnl).1 (fun i hi => if_neg hi)).put hd (.v _)
  · refine hI.upd (ρ := d) False (fun h => h.elim) (only_alloc w _ _ _) (.inr (.inl (Nat.le_refl _))) (fun j => look_cons _ _ _ _) (fun l h => keyHas_not (labHas_not hnl).2.1 h rfl) ⟨hcs, .inr ⟨rfl, hI.below.size, hI.le.new, Nat.le_refl _, hn, cs.toArray, e, heap_alloc_new w _, by simpa using hcs, by simp [← hcs]⟩⟩
/-- a slice literal: a new row -/
theorem WX.bld {C : Cx} {ops : Array Oper} {o : Oper} {r : List Oper} {s : List It} {env : Env} {L : Locs} {R : Rows} {Γ : Facts} {d T len kk : Nat} {parts : Array (Nat × Operand)} {cs : List Value} (ht : TabOk C.P C.tt)
    (hg : gd ops env o = some true) (hd : o.dst = some d) (hlt : Nat.blt d C.fn.ntmps = true) (ho : o.op = .buildSlice T len parts) (hb : bldO C.tt env T len parts.toList = some (kk, cs)) (hlen : Nat.ble len 16777216 = true) (hnl : labHas d env L R = false)
    (k : ∀ p, WX C (.ops ops r :: s) ((d, .v (.slice p len len)) :: env) L ((d, ⟨kk, p, len, len, cs⟩) :: R) Γ) : WX C (.ops ops (o :: r) :: s) env L R Γ := by
  rintro a w ⟨G, bs, hA, hI, hΓ⟩
  show wpList C.P ops (cont C s) (o :: r) a w
  unfold wpList
  rw [if_pos (gd_sound hA hg)]
  refine .inl ?_
  unfold Oper.wp
  obtain ⟨e, hrun, hcs, _⟩ := run_bld ht hA hb w
  have hexec : (execOp a.eval o).run C.P w = .ok (.value (.slice (some ⟨w.heap.size, 0, none⟩) len len)) (w.alloc (.cells cs.toArray e)) := by
    unfold execOp
    simp only [ho, Sem.run_bind, hrun, Result.andThen_ok, Sem.run_pure]
  rw [hexec]
  simp only [Oper.upon, hd]
  obtain ⟨bs', hA', hI'⟩ := hI.newRow hA (d := d) (by simpa [Nat.blt_eq] using hlt) (e := e) hcs (by have := Nat.le_of_ble_eq_true hlen; simp only [maxLen]; omega) hnl
  exact k _ _ _ ⟨G, bs', hA', hI', hΓ⟩
/-- make([]T, m): a new row of zero values -/
theorem WX.mkS {C : Cx} {ops : Array Oper} {o : Oper} {r : List Oper} {s : List It} {env : Env} {L : Locs} {R : Rows} {Γ : Facts} {d T e kk by_ : Nat} {x : Operand} {z : List Value} {q : Int} (m : Nat) (ht : TabOk C.P C.tt)
    (hg : gd ops env o = some true) (hd : o.dst = some d) (hlt : Nat.blt d C.fn.ntmps = true) (ho : o.op = .makeSlice T x x) (hx : ev env x = some (.v (.int .i64 q))) (hq : q = (m : Int)) (hel : elO C.tt T = some (e, kk, by_, z)) (hroom : m * by_ ≤ 281474976710656) (hmax : m ≤ 140737488355328) (hnl : labHas d env L R = false)
    (k : ∀ p, WX C (.ops ops r :: s) ((d, .v (.slice p m m)) :: env) L ((d, ⟨kk, p, m, m, zrep m z⟩) :: R) Γ) : WX C (.ops ops (o :: r) :: s) env L R Γ := by
  subst hq
  rintro a w ⟨G, bs, hA, hI, hΓ⟩
  show wpList C.P ops (cont C s) (o :: r) a w
  unfold wpList
  rw [if_pos (gd_sound hA hg)]
  refine .inl ?_
  unfold Oper.wp
  obtain ⟨hu, i, v, te, hE, hte, hi, h0, hs, hby, hv, hzl, hpos⟩ := elO_some ht hel
  have hvs : v.cells.size = kk := by rw [← hzl, ← hv]; simp
  have hr := zrep_range v.cells (by omega) m
  rw [hvs, hv] at hr
  have hbig : (i.bytes : Int) * (m : Int) ≤ 281474976710656 := by
    have h : ((m * by_ : Nat) : Int) ≤ 281474976710656 := by omega
    rw [Int.natCast_mul] at h
    rw [hby, Int.mul_comm]; exact h
  have hrun : (Instr.makeSlice T (.int .i64 m) (.int .i64 m)).run C.P w = .ok (.slice (some ⟨w.heap.size, 0, none⟩) m m) (w.alloc (.cells (zrep m z).toArray e)) := by
    have hr2 := run_make (P := C.P) w T e i v hu hi h0 .i64 .i64 m m (by omega) (Int.le_refl _) hbig (by omega)
    rw [hr2]
    have : madeCells v.cells (m * i.size) = (zrep m z).toArray := Array.ext' (by rw [hs]; simpa [madeCells, hvs] using hr)
    simp [this]
  have hexec : (execOp a.eval o).run C.P w = .ok (.value (.slice (some ⟨w.heap.size, 0, none⟩) m m)) (w.alloc (.cells (zrep m z).toArray e)) := by
    unfold execOp
    simp only [ho, ev_conc hA hx, conc_v, Sem.run_bind, hrun, Result.andThen_ok, Sem.run_pure]
  rw [hexec]
  simp only [Oper.upon, hd]
  obtain ⟨bs', hA', hI'⟩ := hI.newRow hA (d := d) (by simpa [Nat.blt_eq] using hlt) (e := e) (cs := zrep m z) (kk := kk) (n := m) (by rw [zrep_len, hzl]) (by simp only [maxLen]; omega) hnl
  exact k _ _ _ ⟨G, bs', hA', hI', hΓ⟩

/-! ### elements of a row -/
theorem RowOk.some {B : Nat} {w : World} {G : GH} {b : Nat} {r : Row} (h : RowOk B w G b r) (hn : 0 < r.n) : r.p = Option.some ⟨b, 0, none⟩ ∧ r.c ≠ 0 ∧ ∃ cur T, w.heap[b]? = Option.some (.cells cur T (0, 0)) ∧ cur.size = r.c * r.k ∧ cur.toList.take (r.n * r.k) = r.xs ∧ r.n ≤ r.c := by
  rcases h.2 with ⟨_, h0⟩ | ⟨h1, _, _, h4, _, cur, T, h6, h7, h8⟩
  · omega
  · exact ⟨h1, by omega, cur, T, h6, h7, h8, h4⟩
theorem WX.idxR {C : Cx} {ops : Array Oper} {o : Oper} {r : List Oper} {s : List It} {env : Env} {L : Locs} {R : Rows} {Γ : Facts} {d : Nat} {x y : Operand} {T kk : Nat} {m : Int} {row : Row} (ρ i : Nat) (ht : TabOk C.P C.tt)
    (hg : gd ops env o = some true) (hd : o.dst = some d) (hlt : Nat.blt d C.fn.ntmps = true) (ho : o.op = .indexAddr T x y)
    (hx : ev env x = some (.v (.slice row.p row.n row.c))) (hy : ev env y = some (.v (.int .i64 m))) (hk : elemO C.tt T = some kk) (hρ : look R ρ = some row) (hm : m = (i : Int)) (hi : i < row.n)
    (k : ∀ ad, row.p = some ad → WX C (.ops ops r :: s) ((d, .e (some ad) i kk 0) :: env) L R Γ) : WX C (.ops ops (o :: r) :: s) env L R Γ := by
  rintro a w ⟨G, bs, hA, hI, hΓ⟩
  obtain ⟨hp, _⟩ := (hI.row ρ row hρ).some (by omega)
  rw [hp] at hx
  have hl := looks_idx (L := L) (R := R) (G := G) ht ho hx hy hk hm hi
  show wpList C.P ops (cont C s) (o :: r) a w
  unfold wpList
  rw [if_pos (gd_sound hA hg)]
  refine .inl ?_
  unfold Oper.wp
  rw [hl a w G bs (Le.refl _) hA hI]
  simp only [Oper.upon, hd]
  exact k _ hp _ _ ⟨G, bs, hA.put (by simpa [Nat.blt_eq] using hlt) _, hI, hΓ⟩
theorem splice_take {α : Type} (l vs : List α) (o n : Nat) (h : o + vs.length ≤ n) (hn : n ≤ l.length) : (l.take o ++ vs ++ l.drop (o + vs.length)).take n = (l.take n).take o ++ vs ++ (l.take n).drop (o + vs.length) := by
  have h1 : (l.take o ++ vs).length = o + vs.length := by simp; omega
  rw [List.take_append, h1, List.take_of_length_le (by omega), List.take_take, Nat.min_eq_left (by omega), List.drop_take]
/-- v := row[i] or a part of it: a store -/
theorem WX.stR {C : Cx} {ops : Array Oper} {o : Oper} {r : List Oper} {s : List It} {env : Env} {L : Locs} {R R' : Rows} {Γ : Facts} {x y : Operand} {T kk i off : Nat} {ti : TI} {ad : Addr} {sv : SV} {v : Value} {vs : List Value} {row : Row} (ρ : Nat) (ht : TabOk C.P C.tt)
    (hg : gd ops env o = some true) (hd : o.dst = none) (ho : o.op = .store T x y)
    (hx : ev env x = some (.e (some ad) i kk off)) (hy : ev env y = some sv) (hv : valO sv = some v) (hT : look C.tt T = some ti) (hvs : cellsO ti v = some vs) (hlen : Nat.beq vs.length ti.size = true) (hone : oneB vs = true)
    (hρ : look R ρ = some row) (hp : row.p = some ad) (hk : row.k = kk) (hi : i < row.n) (hfit : Nat.ble (off + vs.length) kk = true) (hfree : envFree ρ env = true)
    (hR : setRO R ρ ⟨row.k, row.p, row.n, row.c, row.xs.take (i * kk + off) ++ vs ++ row.xs.drop (i * kk + off + vs.length)⟩ = some R')
    (k : WX C (.ops ops r :: s) env L R' Γ) : WX C (.ops ops (o :: r) :: s) env L R Γ := by
  rintro a w ⟨G, bs, hA, hI, hΓ⟩
  have hrow := hI.row ρ row hρ
  obtain ⟨hp', hc0, cur, T', hh, hcs, htk, hnc⟩ := hrow.some (by omega)
  rw [hp] at hp'; simp at hp'; subst hp'
  subst hk
  have hfit' := Nat.le_of_ble_eq_true hfit
  have hb : i * row.k + off + vs.length ≤ row.n * row.k := by
    have : (i + 1) * row.k ≤ row.n * row.k := Nat.mul_le_mul_right _ (by omega)
    rw [Nat.add_mul] at this; omega
  have hnk : row.n * row.k ≤ cur.size := by rw [hcs]; exact Nat.mul_le_mul_right _ hnc
  obtain ⟨_, inf, hinf, _, hs, _⟩ := ht.get hT
  have hcells : v.cells.toList = vs := cellsO_some hvs
  have hsz : v.cells.size = inf.size := by
    have : v.cells.size = vs.length := by rw [← hcells]; simp
    rw [this, hs]; exact Nat.eq_of_beq_eq_true hlen
  have hst := run_storeCells_at C.P (bs ρ) (i * row.k + off) T' vs 0 cur w hh (by simp; omega) (oneB_spec hone)
  simp only [Nat.add_zero] at hst
  have haddr : conc bs (.e (some ⟨bs ρ, 0, none⟩) i row.k off) = .pointer (some ⟨bs ρ, i * row.k + off, none⟩) := by
    simp only [conc, addr_add_add, Addr.add_lit, Nat.zero_add]
  have hexec : (execOp a.eval o).run C.P w = .ok .skip (w.setRow (bs ρ) (cur.toList.take (i * row.k + off) ++ vs ++ cur.toList.drop (i * row.k + off + vs.length)).toArray) := by
    unfold execOp
    simp [ho, Instr.storeAt, Instr.sureAddr, storeVar, run_sizeOf hinf, hsz, ev_conc hA hx, haddr, ev_conc hA hy, valO_conc hv, hcells, hst]
  show wpList C.P ops (cont C s) (o :: r) a w
  unfold wpList
  rw [if_pos (gd_sound hA hg)]
  refine .inl ?_
  unfold Oper.wp
  rw [hexec]
  simp only [Oper.upon, hd, Act.put]
  rw [setRO_eq hR] at k
  have hLρ : ∀ l, look L ρ ≠ some l := fun l hl => hI.dis ρ l row hl hρ
  obtain ⟨hBb, hGb⟩ : C.w0.heap.size ≤ bs ρ ∧ G (bs ρ) = none := by
    rcases hrow.2 with ⟨h0, _⟩ | ⟨_, h1, h2, _⟩
    · exact absurd h0 hc0
    · exact ⟨h1, h2⟩
  have hcm : row.c ≤ maxLen := by
    rcases hrow.2 with ⟨h0, _⟩ | ⟨_, _, _, _, h5, _⟩
    · exact absurd h0 hc0
    · exact h5
  have hlook : ∀ j, look (setR R ρ ⟨row.k, row.p, row.n, row.c, row.xs.take (i * row.k + off) ++ vs ++ row.xs.drop (i * row.k + off + vs.length)⟩) j = if ρ = j then some ⟨row.k, row.p, row.n, row.c, row.xs.take (i * row.k + off) ++ vs ++ row.xs.drop (i * row.k + off + vs.length)⟩ else look R j := by
    intro j
    rw [look_setR]
    split
    · rename_i e; subst e; rw [hρ]; rfl
    · rfl
  have hrow' : RowOk C.w0.heap.size (w.setRow (bs ρ) (cur.toList.take (i * row.k + off) ++ vs ++ cur.toList.drop (i * row.k + off + vs.length)).toArray) G (bs ρ) ⟨row.k, row.p, row.n, row.c, row.xs.take (i * row.k + off) ++ vs ++ row.xs.drop (i * row.k + off + vs.length)⟩ := by
    refine ⟨?_, .inr ⟨hp, hBb, hGb, hnc, hcm, _, T', setRow_heap w _ cur _ T' _ hh, ?_, ?_⟩⟩
    · have h1 := hrow.1
      simp only [List.length_append, List.length_take, List.length_drop]; omega
    · simp only [List.size_toArray, List.length_append, List.length_take, List.length_drop, Array.length_toList]; omega
    · rw [← htk]
      exact splice_take cur.toList vs (i * row.k + off) (row.n * row.k) hb (by simpa using hnk)
  have honly : Only w (w.setRow (bs ρ) (cur.toList.take (i * row.k + off) ++ vs ++ cur.toList.drop (i * row.k + off + vs.length)).toArray) (bs ρ) (row.c ≠ 0) :=
    ⟨rfl, rfl, rfl, by simp [World.setRow], fun j hj hne => setRow_other w _ j _ (hne hc0)⟩
  have hI' := hI.upd (ρ := ρ) (b' := bs ρ) (row.c ≠ 0) (fun _ => ⟨.inr ⟨row, hρ, hc0⟩, hBb, hGb⟩) honly (.inl ⟨rfl, hc0⟩) hlook hLρ hrow'
  have hbs : (fun j => if j = ρ then bs ρ else bs j) = bs := by funext j; split <;> simp_all
  rw [hbs] at hI'
  exact k _ _ ⟨G, bs, hA, hI', hΓ⟩
theorem fill_take {xs cs : List Value} {i n kk : Nat} (hx : xs.length = n * kk) (hc : cs.length = kk) (hi : i < n) : (xs.take (i * kk + 0) ++ cs ++ xs.drop (i * kk + 0 + cs.length)).take ((i + 1) * kk) = xs.take (i * kk) ++ cs := by
  have h : (i + 1) * kk ≤ n * kk := Nat.mul_le_mul_right _ (by omega)
  rw [Nat.add_mul, Nat.one_mul] at h
  have h1 : (xs.take (i * kk) ++ cs).length = (i + 1) * kk := by simp [Nat.add_mul]; omega
  rw [Nat.add_zero (i * kk), ← h1, List.take_left]
theorem fill_len {xs cs : List Value} {i n kk : Nat} (hx : xs.length = n * kk) (hc : cs.length = kk) (hi : i < n) : (xs.take (i * kk + 0) ++ cs ++ xs.drop (i * kk + 0 + cs.length)).length = n * kk := by
  have h : (i + 1) * kk ≤ n * kk := Nat.mul_le_mul_right _ (by omega)
  rw [Nat.add_mul, Nat.one_mul] at h
  simp; omega
end Go.Stp
