/-
  What the proof of one law needs: rules of the program logic, functions as Lean functions, contracts. No condition but what each says. Written by a program (pack.py) out of my own texts.
-/
import Derived.Laws.MakeOwn
import Derived.StillTail
import Derived.ChangeKeysEq
import Derived.Laws.Slices
import Derived.Laws.BytesString
import Derived.Laws.Small
import Derived.Laws.Cover3
import Derived.Laws.Strings
import Derived.Laws.CopyRow
import Derived.Lib.Overlaps
import Derived.Test.YtolepebgdfdciaaGreatKFnGroups1
namespace Go.Stp
open GoT (X k ok sh fa oa)
def zrep : Nat → List Value → List Value
 | 0, _ => []
 | n + 1, z => zrep n z ++ z
theorem zrep_len (z : List Value) : ∀ n, (zrep n z).length = n * z.length
 | 0 => by simp [zrep]
 | n + 1 => by simp only [zrep, List.length_append, zrep_len z n, Nat.add_mul]; omega
theorem zrep_range (z : Array Value) (hz : 0 < z.size) : ∀ n, ((Array.range (n * z.size)).map (fun i => z[i % z.size]!)).toList = zrep n z.toList
 | 0 => by simp [zrep]
 | n + 1 => by
  have ih := zrep_range z hz n
  simp only [Array.toList_map, Array.toList_range] at ih ⊢
  rw [Nat.add_mul, Nat.one_mul, List.range_add, List.map_append, ih, zrep]
  congr 1
  rw [List.map_map]
  apply List.ext_getElem?
  intro j
  by_cases hj : j < z.size
  ·simp [hj, Nat.mod_eq_of_lt hj]
  ·simp [hj, List.getElem?_eq_none]
def elO (tt : TT) (T : Nat) : Option (Nat × Nat × Nat × List Value) :=
 match look tt T with
 | some ti => (match ti.desc with
  | .slice e => (match look tt e with
   | some ⟨dE, sE, bE, zE⟩ => (match sE with
    | 0 => none
    | n + 1 => (match cellsO ⟨dE, n + 1, bE, zE⟩ zE with
     | some z => (match Nat.beq z.length (n + 1) with
      | true => some (e, n + 1, bE, z)
      | false => none)
     | none => none))
   | none => none)
  | _ => none)
 | none => none
theorem elO_some {P : Program} {tt : TT} (ht : TabOk P tt) {T e kk by_ : Nat} {z : List Value} (h : elO tt T = some (e, kk, by_, z)) :
  P.underlying T = some (.slice e) ∧ ∃ i v te, look tt e = some te ∧ te.size = kk ∧ P.info? e = some i ∧ i.zero = some v ∧ i.size = kk ∧ i.bytes = by_ ∧ v.cells.toList = z ∧ z.length = kk ∧ 0 < kk := by
 unfold elO at h
 split at h
 ·rename_i ti hT
  split at h
  ·rename_i e' hd
   split at h
   ·rename_i dE sE bE zE hE
    split at h
    ·cases h
    ·rename_i n
     split at h
     ·rename_i z' hz
      split at h
      ·rename_i hb
       simp only [Option.some.injEq, Prod.mk.injEq] at h
       obtain ⟨rfl, rfl, rfl, rfl⟩ := h
       obtain ⟨hu, _⟩ := ht.get hT
       obtain ⟨_, i, hi, h0, hs, hby⟩ := ht.get hE
       exact ⟨by rw [hu, hd], i, zE, _, hE, rfl, hi, h0, hs, hby, cellsO_some hz, Nat.eq_of_beq_eq_true hb, by omega⟩
      ·cases h
     ·cases h
   ·cases h
  ·cases h
 ·cases h
def zrepO : Nat → List Value → Option (List Value)
 | 0, _ => some []
 | n + 1, z => (match zrepO n z with | some q => catO q z | none => none)
where
 catO : List Value → List Value → Option (List Value)
  | [], b => some b
  | x :: a, b => (match catO a b with | some q => some (x :: q) | none => none)
theorem catO_eq : ∀ {a b q : List Value}, zrepO.catO a b = some q → q = a ++ b
 | [], b, q, h => by simp [zrepO.catO] at h; exact h.symm
 | x :: a, b, q, h => by
  simp only [zrepO.catO] at h
  split at h
  ·rename_i q' hq; simp at h; rw [← h, catO_eq hq]; rfl
  ·cases h
theorem zrepO_eq : ∀ {n : Nat} {z q : List Value}, zrepO n z = some q → q = zrep n z
 | 0, z, q, h => by simp [zrepO] at h; subst h; rfl
 | n + 1, z, q, h => by
  simp only [zrepO] at h
  split at h
  ·rename_i q' hq; rw [catO_eq h, zrepO_eq hq]; rfl
  ·cases h
def bldO (tt : TT) (env : Env) (T len : Nat) (parts : List (Nat × Operand)) : Option (Nat × List Value) :=
 match elO tt T with
 | some (e, kk, _, z) => (match Nat.ble (len * kk) 16777216 with
  | true => (match zrepO len z with
   | some q => (match fillO tt env (fun i => some (i * kk, e)) q parts with
    | some cs => some (kk, cs)
    | none => none)
   | none => none)
  | false => none)
 | none => none
theorem fillO_len {tt : TT} {env : Env} {place : Nat → Option (Nat × Nat)} : ∀ {parts : List (Nat × Operand)} {cs r : List Value}, fillO tt env place cs parts = some r → r.length = cs.length
 | [], cs, r, h => by simp [fillO] at h; subst h; rfl
 | (i, x) :: rest, cs, r, h => by
  simp only [fillO] at h
  (repeat' split at h) <;> first | cases h | (rename_i hsp; have := fillO_len h; rw [this]; exact (spliceO_some _ _ _ _ hsp).1)
theorem run_bld {P : Program} {tt : TT} (ht : TabOk P tt) {n : Nat} {env : Env} {bs : Nat → Nat} {a : Act} (hA : At n env bs a) {T len kk : Nat} {parts : Array (Nat × Operand)} {cs : List Value} (h : bldO tt env T len parts.toList = some (kk, cs)) (w : World) :
  ∃ e, (Instr.buildSlice T len (parts.map fun x => (x.1, a.eval x.2))).run P w = .ok (.slice (some ⟨w.heap.size, 0, none⟩) len len) (w.alloc (.cells cs.toArray e)) ∧ cs.length = len * kk ∧ 0 < kk := by
 unfold bldO at h
 split at h
 ·rename_i e kk' by_ z hel
  split at h
  ·rename_i hle
   split at h
   ·rename_i q hq
    split at h
    ·rename_i cs' hcs
     simp only [Option.some.injEq, Prod.mk.injEq] at h
     obtain ⟨rfl, rfl⟩ := h
     obtain ⟨hu, i, v, te, hE, hte, hi, h0, hs, _, hv, hzl, hpos⟩ := elO_some ht hel
     have hq' := zrepO_eq hq
     have hle' : len * kk' ≤ 16777216 := Nat.le_of_ble_eq_true hle
     have hfill := fillO_sound ht hA (place := fun i => some (i * kk', e)) (place' := fun i => some (i * kk', kk')) (fun j off T' ti' h1 h2 => by
      simp only [Option.some.injEq, Prod.mk.injEq] at h1
      obtain ⟨rfl, rfl⟩ := h1
      rw [hE] at h2; simp at h2; subst h2; rw [hte]) _ _ _ hcs
     have hlen : cs'.length = len * kk' := by rw [fillO_len hcs, hq', zrep_len, hzl]
     refine ⟨e, ?_, hlen, hpos⟩
     have hvs : v.cells.size = kk' := by rw [← hzl, ← hv]; simp
     have hz : (if len * i.size = 0 then #[] else v.cells) = (if len * kk' = 0 then #[] else v.cells) := by rw [hs]
     by_cases hl0 : len = 0
     ·subst hl0
      have : q = [] := by rw [hq']; rfl
      subst this
      have hf' : Instr.fill (fun i => some (i * kk', kk')) #[] (List.map (fun x => (x.1, a.eval x.2)) parts.toList) = some cs'.toArray := hfill
      simp [Instr.buildSlice, run_underlying hu, sizeOf, typeInfo, zeroValue, hi, newRow, hs, Array.range_zero', hf']
     ·have hne : ¬ (len * kk' = 0) := by
       intro h; rcases Nat.mul_eq_zero.1 h with h | h <;> omega
      have hr := zrep_range v.cells (by omega) len
      rw [hvs, hv, ← hq'] at hr
      have hq2 : (Array.range (len * kk')).map (fun i => v.cells[i % v.cells.size]!) = q.toArray := Array.ext' (by simpa [hvs] using hr)
      have hsm : ¬ (16777216 < len * kk') := by omega
      have hf' : Instr.fill (fun i => some (i * kk', kk')) ((Array.range (len * kk')).map (fun i => v.cells[i % v.cells.size]!)) (List.map (fun x => (x.1, a.eval x.2)) parts.toList) = some cs'.toArray := by rw [hq2]; exact hfill
      simp only [Instr.buildSlice, Sem.run_bind, run_underlying hu, Result.andThen_ok, run_sizeOf hi, hs, newRow]
      simp [hsm, hne, zeroValue, typeInfo, hi, h0, hf']
    ·cases h
   ·cases h
  ·cases h
 ·cases h
theorem HInv.newRow {C : Cx} {w : World} {G : GH} {bs : Nat → Nat} {env : Env} {L : Locs} {R : Rows} {a : Act} (hA : At C.fn.ntmps env bs a) (hI : HInv C w G bs L R) {d : Nat} (hd : d < C.fn.ntmps) {kk n : Nat} {cs : List Value} {e : Nat} (hcs : cs.length = n * kk) (hn : n ≤ maxLen) (hnl : labHas d env L R = false) :
  ∃ bs', At C.fn.ntmps ((d, .v (.slice (some ⟨w.heap.size, 0, none⟩) n n)) :: env) bs' (a.put (some d) (.slice (some ⟨w.heap.size, 0, none⟩) n n)) ∧
   HInv C (w.alloc (.cells cs.toArray e)) G bs' L ((d, ⟨kk, some ⟨w.heap.size, 0, none⟩, n, n, cs⟩) :: R) := by
 refine ⟨fun j => if j = d then w.heap.size else bs j, ?_, ?_⟩
 ·exact (hA.notH (d := d) (labHas_not hnl).1 (fun i hi => if_neg hi)).put hd (.v _)
 ·refine hI.upd (ρ := d) (labHas_not hnl).2.2.2 False (fun h => h.elim) (only_alloc w _ _ _) (.inr (.inl (Nat.le_refl _))) (fun j => look_cons _ _ _ _) (fun l h => keyHas_not (labHas_not hnl).2.1 h rfl) ⟨hcs, .inr ⟨0, rfl, .inl hI.keep.size, hI.le.new, Nat.le_refl _, hn, cs.toArray, e, heap_alloc_new w _, by simp [hcs], by simp [← hcs]⟩⟩
theorem WX.bld {C : Cx} {ops : Array Oper} {o : Oper} {r : List Oper} {s : List It} {env : Env} {L : Locs} {R : Rows} {Γ : Facts} {d T len kk : Nat} {parts : Array (Nat × Operand)} {cs : List Value} (ht : TabOk C.P C.tt)
  (hg : gd ops env o = some true) (hd : o.dst = some d) (hlt : Nat.blt d C.fn.ntmps = true) (ho : o.op = .buildSlice T len parts) (hb : bldO C.tt env T len parts.toList = some (kk, cs)) (hlen : Nat.ble len 16777216 = true) (hnl : labHas d env L R = false)
  (k : ∀ p, WX C (.ops ops r :: s) ((d, .v (.slice p len len)) :: env) L ((d, ⟨kk, p, len, len, cs⟩) :: R) Γ) : WX C (.ops ops (o :: r) :: s) env L R Γ := by
 rintro a w ⟨G, bs, hA, hI, hΓ⟩
 show wpList C.P ops (cont C s) (o :: r) a w
 unfold wpList
 rw [if_pos (gd_sound hA hg)]
 refine .inl ?_
 unfold Oper.wp
 obtain ⟨e, hrun, hcs, _⟩ := run_bld ht hA hb w
 have hexec : (execOp a.eval o).run C.P w = .ok (.value (.slice (some ⟨w.heap.size, 0, none⟩) len len)) (w.alloc (.cells cs.toArray e)) := by
  unfold execOp
  simp only [ho, Sem.run_bind, hrun, Result.andThen_ok, Sem.run_pure]
 rw [hexec]
 simp only [Oper.upon, hd]
 obtain ⟨bs', hA', hI'⟩ := hI.newRow hA (d := d) (by simpa [Nat.blt_eq] using hlt) (e := e) hcs (by have := Nat.le_of_ble_eq_true hlen; simp only [maxLen]; omega) hnl
 exact k _ _ _ ⟨G, bs', hA', hI', hΓ⟩
theorem RowOk.some {M : Nat → Prop} {w : World} {G : GH} {b : Nat} {r : Row} (h : RowOk M w G b r) (hn : 0 < r.n) : ∃ o1, r.p = Option.some ⟨b, o1, none⟩ ∧ r.c ≠ 0 ∧ ∃ cur T, w.heap[b]? = Option.some (.cells cur T (0, 0)) ∧ o1 + r.c * r.k ≤ cur.size ∧ (cur.toList.drop o1).take (r.n * r.k) = r.xs ∧ r.n ≤ r.c := by
 rcases h.2 with ⟨_, h0⟩ | ⟨o1, h1, _, _, h4, _, cur, T, h6, h7, h8⟩
 ·omega
 ·exact ⟨o1, h1, by omega, cur, T, h6, h7, h8, h4⟩
theorem WX.idxR {C : Cx} {ops : Array Oper} {o : Oper} {r : List Oper} {s : List It} {env : Env} {L : Locs} {R : Rows} {Γ : Facts} {d : Nat} {x y : Operand} {T kk : Nat} {m : Int} {row : Row} (ρ i : Nat) (ht : TabOk C.P C.tt)
  (hg : gd ops env o = some true) (hd : o.dst = some d) (hlt : Nat.blt d C.fn.ntmps = true) (ho : o.op = .indexAddr T x y)
  (hx : ev env x = some (.v (.slice row.p row.n row.c))) (hy : ev env y = some (.v (.int .i64 m))) (hk : elemO C.tt T = some kk) (hρ : look R ρ = some row) (hm : m = (i : Int)) (hi : i < row.n)
  (k : ∀ ad, row.p = some ad → WX C (.ops ops r :: s) ((d, .e (some ad) i kk 0) :: env) L R Γ) : WX C (.ops ops (o :: r) :: s) env L R Γ := by
 rintro a w ⟨G, bs, hA, hI, hΓ⟩
 obtain ⟨o1, hp, _⟩ := (hI.row ρ row hρ).some (by omega)
 rw [hp] at hx
 have hl := looks_idx (L := L) (R := R) (G := G) ht ho hx hy hk hm hi
 show wpList C.P ops (cont C s) (o :: r) a w
 unfold wpList
 rw [if_pos (gd_sound hA hg)]
 refine .inl ?_
 unfold Oper.wp
 rw [hl a w G bs (Le.refl _) hA hI]
 simp only [Oper.upon, hd]
 exact k _ hp _ _ ⟨G, bs, hA.put (by simpa [Nat.blt_eq] using hlt) _, hI, hΓ⟩
theorem splice_take {α : Type} (l vs : List α) (o1 o n : Nat) (h : o + vs.length ≤ n) (hn : o1 + n ≤ l.length) : ((l.take (o1 + o) ++ vs ++ l.drop (o1 + o + vs.length)).drop o1).take n = ((l.drop o1).take n).take o ++ vs ++ ((l.drop o1).take n).drop (o + vs.length) := by
 have h0 : (l.take (o1 + o) ++ vs ++ l.drop (o1 + o + vs.length)).drop o1 = (l.drop o1).take o ++ vs ++ (l.drop o1).drop (o + vs.length) := by
  rw [List.append_assoc, List.drop_append_of_le_length (by simp; omega), List.drop_take, List.drop_drop, List.append_assoc, show o1 + o - o1 = o by omega, show o1 + (o + vs.length) = o1 + o + vs.length by omega]
 rw [h0]
 have h1 : ((l.drop o1).take o ++ vs).length = o + vs.length := by simp; omega
 rw [List.take_append, h1, List.take_of_length_le (by omega), List.take_take, Nat.min_eq_left (by omega), List.drop_take]
theorem WX.stR {C : Cx} {ops : Array Oper} {o : Oper} {r : List Oper} {s : List It} {env : Env} {L : Locs} {R R' : Rows} {Γ : Facts} {x y : Operand} {T kk i off : Nat} {ti : TI} {ad : Addr} {sv : SV} {v : Value} {vs : List Value} {row : Row} (ρ : Nat) (ht : TabOk C.P C.tt)
  (hg : gd ops env o = some true) (hd : o.dst = none) (ho : o.op = .store T x y)
  (hx : ev env x = some (.e (some ad) i kk off)) (hy : ev env y = some sv) (hv : valO sv = some v) (hT : look C.tt T = some ti) (hvs : cellsO ti v = some vs) (hlen : Nat.beq vs.length ti.size = true) (hone : oneB vs = true)
  (hρ : look R ρ = some row) (hp : row.p = some ad) (hk : row.k = kk) (hi : i < row.n) (hfit : Nat.ble (off + vs.length) kk = true) (hfree : envFree ρ env = true)
  (hR : setRO R ρ ⟨row.k, row.p, row.n, row.c, row.xs.take (i * kk + off) ++ vs ++ row.xs.drop (i * kk + off + vs.length)⟩ = some R')
  (k : WX C (.ops ops r :: s) env L R' Γ) : WX C (.ops ops (o :: r) :: s) env L R Γ := by
 rintro a w ⟨G, bs, hA, hI, hΓ⟩
 have hrow := hI.row ρ row hρ
 obtain ⟨o1, hp', hc0, cur, T', hh, hcs, htk, hnc⟩ := hrow.some (by omega)
 rw [hp] at hp'; simp at hp'; subst hp'
 subst hk
 have hfit' := Nat.le_of_ble_eq_true hfit
 have hb : i * row.k + off + vs.length ≤ row.n * row.k := by
  have : (i + 1) * row.k ≤ row.n * row.k := Nat.mul_le_mul_right _ (by omega)
  rw [Nat.add_mul] at this; omega
 have hnk : o1 + row.n * row.k ≤ cur.size := by have : row.n * row.k ≤ row.c * row.k := Nat.mul_le_mul_right _ hnc; omega
 obtain ⟨_, inf, hinf, _, hs, _⟩ := ht.get hT
 have hcells : v.cells.toList = vs := cellsO_some hvs
 have hsz : v.cells.size = inf.size := by
  have : v.cells.size = vs.length := by rw [← hcells]; simp
  rw [this, hs]; exact Nat.eq_of_beq_eq_true hlen
 have hst := run_storeCells_at C.P (bs ρ) (o1 + (i * row.k + off)) T' vs 0 cur w hh (by simp; omega) (oneB_spec hone)
 simp only [Nat.add_zero] at hst
 have haddr : conc bs (.e (some ⟨bs ρ, o1, none⟩) i row.k off) = .pointer (some ⟨bs ρ, o1 + (i * row.k + off), none⟩) := by
  simp only [conc, addr_add_add, Addr.add_lit, Nat.add_assoc]
 have hexec : (execOp a.eval o).run C.P w = .ok .skip (w.setRow (bs ρ) (cur.toList.take (o1 + (i * row.k + off)) ++ vs ++ cur.toList.drop (o1 + (i * row.k + off) + vs.length)).toArray) := by
  unfold execOp
  simp [ho, Instr.storeAt, Instr.sureAddr, storeVar, run_sizeOf hinf, hsz, ev_conc hA hx, haddr, ev_conc hA hy, valO_conc hv, hcells, hst]
 show wpList C.P ops (cont C s) (o :: r) a w
 unfold wpList
 rw [if_pos (gd_sound hA hg)]
 refine .inl ?_
 unfold Oper.wp
 rw [hexec]
 simp only [Oper.upon, hd, Act.put]
 rw [setRO_eq hR] at k
 have hLρ : ∀ l, look L ρ ≠ some l := fun l hl => hI.dis ρ l row hl hρ
 obtain ⟨hBb, hGb, hcm⟩ : C.M (bs ρ) ∧ G (bs ρ) = none ∧ row.c ≤ maxLen := by
  rcases hrow.2 with ⟨h0, _⟩ | ⟨_, _, h1, h2, _, h5, _⟩
  ·exact absurd h0 hc0
  ·exact ⟨h1, h2, h5⟩
 have hlook : ∀ j, look (setR R ρ ⟨row.k, row.p, row.n, row.c, row.xs.take (i * row.k + off) ++ vs ++ row.xs.drop (i * row.k + off + vs.length)⟩) j = if ρ = j then some ⟨row.k, row.p, row.n, row.c, row.xs.take (i * row.k + off) ++ vs ++ row.xs.drop (i * row.k + off + vs.length)⟩ else look R j := by
  intro j
  rw [look_setR]
  split
  ·rename_i e; subst e; rw [hρ]; rfl
  ·rfl
 have hrow' : RowOk C.M (w.setRow (bs ρ) (cur.toList.take (o1 + (i * row.k + off)) ++ vs ++ cur.toList.drop (o1 + (i * row.k + off) + vs.length)).toArray) G (bs ρ) ⟨row.k, row.p, row.n, row.c, row.xs.take (i * row.k + off) ++ vs ++ row.xs.drop (i * row.k + off + vs.length)⟩ := by
  refine ⟨?_, .inr ⟨o1, hp, hBb, hGb, hnc, hcm, _, T', setRow_heap w _ cur _ T' _ hh, ?_, ?_⟩⟩
  ·have h1 := hrow.1
   simp only [List.length_append, List.length_take, List.length_drop]; omega
  ·simp only [List.size_toArray, List.length_append, List.length_take, List.length_drop, Array.length_toList]; omega
  ·rw [← htk]
   exact splice_take cur.toList vs o1 (i * row.k + off) (row.n * row.k) hb (by simpa using hnk)
 have honly : Only w (w.setRow (bs ρ) (cur.toList.take (o1 + (i * row.k + off)) ++ vs ++ cur.toList.drop (o1 + (i * row.k + off) + vs.length)).toArray) (bs ρ) (row.c ≠ 0) :=
  ⟨rfl, rfl, rfl, by simp [World.setRow], fun j hj hne => setRow_other w _ j _ (hne hc0)⟩
 have h999 : ρ ≠ 999 := fun e => by subst e; exact hI.nr row hρ
 have hI' := hI.upd (ρ := ρ) (b' := bs ρ) h999 (row.c ≠ 0) (fun _ => ⟨.inr ⟨row, hρ, hc0⟩, hBb, hGb⟩) honly (.inl ⟨rfl, hc0⟩) hlook hLρ hrow'
 have hbs : (fun j => if j = ρ then bs ρ else bs j) = bs := by funext j; split <;> simp_all
 rw [hbs] at hI'
 exact k _ _ ⟨G, bs, hA, hI', hΓ⟩
theorem WX.ldR {C : Cx} {ops : Array Oper} {o : Oper} {r : List Oper} {s : List It} {env : Env} {L : Locs} {R : Rows} {Γ : Facts} {α : Type} [GoT α] {d : Nat} {x : Operand} {T i off : Nat} {ti : TI} {ad : Addr} {row : Row} {l : List α} (ρ n : Nat) (a : α) {val : X α → Value} {Γ' : X α → Facts} (ht : TabOk C.P C.tt)
  (hg : gd ops env o = some true) (hd : o.dst = some d) (hlt : Nat.blt d C.fn.ntmps = true) (ho : o.op = .load T x)
  (hx : ev env x = some (.e (some ad) i (k α) off)) (hT : look C.tt T = some ti) (hρ : look R ρ = some row) (hp : row.p = some ad) (hk : row.k = k α) (hn : i < row.n) (hrd : ∀ G, AllK C.M G Γ → RdL G row.xs l) (ha : l[i]? = some a)
  (hv : ∀ x, asm ti (sh a x) off = some (val x)) (hf : ∀ x, addF n (fa .der a x) Γ = some (Γ' x))
  (k : ∀ x, (∀ j u, (sh a x)[j]? = some u → row.xs[i * k α + j]? = some u) → WX C (.ops ops r :: s) ((d, .v (val x)) :: env) L R (Γ' x)) : WX C (.ops ops (o :: r) :: s) env L R Γ := by
 rintro a' w ⟨G, bs, hA, hI, hΓ⟩
 obtain ⟨x', h6, h7⟩ := (hrd G hΓ).get ha
 have hrow := hI.row ρ row hρ
 obtain ⟨o1, hp', hc0, cur, T', hh, hcs, htk, hnc⟩ := hrow.some (by omega)
 rw [hp] at hp'; simp at hp'; subst hp'
 have hc : ∀ j u, (sh a x')[j]? = some u → w.cell? (((⟨bs ρ, o1, none⟩ : Addr).add (i * GoT.k α)).add j) = some u := fun j u hj => by
  have h8 := h7 j u hj
  rw [← htk, List.getElem?_take, List.getElem?_drop] at h8
  rw [addr_add_add, Addr.add_lit, cell_of_row w _ _ cur T' _ hh]
  split at h8
  ·simpa using h8
  ·cases h8
 have hl : (execOp a'.eval o).run C.P w = .ok (.value (val x')) w := by
  unfold execOp
  have hrun := run_loadVar (P := C.P) ht hT (w := w) (a := (⟨bs ρ, o1, none⟩ : Addr).add (i * GoT.k α)) (cs := sh a x') (off := off) (v := val x') hc (hv x')
  simp only [ho, ev_conc hA hx, conc, Instr.loadAt, Instr.sureAddr, Sem.run_bind, Sem.run_pure, Result.andThen_ok, hrun]
 show wpList C.P ops (cont C s) (o :: r) a' w
 unfold wpList
 rw [if_pos (gd_sound hA hg)]
 refine .inl ?_
 unfold Oper.wp
 rw [hl]
 simp only [Oper.upon, hd]
 exact k x' h7 _ _ ⟨G, bs, hA.put (by simpa [Nat.blt_eq] using hlt) (.v (val x')), hI, AllK.ders (hf x') (fun f hf => GoT.fak f hf) h6 hΓ⟩
def OwH {α : Type} [GoT α] (h : GH) (xs : List Value) (l : List α) (i : Nat) : Prop :=
 ∃ h1 h2, Le h1 h ∧ Le h2 h ∧ Dj h1 h2 ∧ OwL h1 (xs.take (i * GoT.k α)) (l.take i) ∧ OwL h2 (xs.drop ((i + 1) * GoT.k α)) (l.drop (i + 1))
def MF.oh {α : Type} [GoT α] (xs : List Value) (l : List α) (i : Nat) : MF := ⟨.lin, fun G => OwH G xs l i, fun h ⟨h1, h2, a, b, c⟩ => ⟨h1, h2, a.trans h, b.trans h, c⟩⟩
section
variable {α : Type} [GoT α]
theorem OwL.openE {h : GH} {xs : List Value} {l : List α} {i : Nat} {e : α} (ho : OwL h xs l) (hi : l[i]? = some e) :
  ∃ x : X α, (xs = xs.take (i * k α) ++ sh e x ++ xs.drop ((i + 1) * k α) ∧ (xs.take (i * k α)).length = i * k α) ∧ Sep h (oa e x ++ [MF.oh xs l i]) := by
 obtain ⟨hlt, rfl⟩ := List.getElem?_eq_some_iff.1 hi
 have hsp : l = l.take i ++ (l[i] :: l.drop (i + 1)) := by rw [← List.drop_eq_getElem_cons hlt, List.take_append_drop]
 have hlen := ho.len
 rw [hsp] at ho
 obtain ⟨h1, h2, a1, a2, a3, a4, a5⟩ := ho.split
 have hti : (l.take i).length = i := by simp; omega
 rw [hti] at a4 a5
 obtain ⟨x, ys, q1, q2, e1, r1, r2, r3, r4, r5⟩ := a5
 have hk1 : (i + 1) * k α ≤ l.length * k α := Nat.mul_le_mul_right _ hlt
 have hk2 : (i + 1) * k α = i * k α + k α := by rw [Nat.add_mul, Nat.one_mul]
 have hys : ys = xs.drop ((i + 1) * k α) := by
  rw [hk2, ← List.drop_drop, e1, ← GoT.len l[i] x, List.drop_left]
 refine ⟨x, ⟨?_, by simp; omega⟩, Sep.both (r1.trans a2) (join_le a1 (r2.trans a2)) ((join_dj (a3.mono (Le.refl _) r1) r3.symm).symm) r4 (one_sep ⟨h1, q2, le_join_l _ _, le_join_r (a3.mono (Le.refl _) r2), a3.mono (Le.refl _) r2, a4, by rw [← hys]; exact r5⟩)⟩
 rw [List.append_assoc, ← hys, ← e1, List.take_append_drop]
theorem OwL.closeE {h : GH} {xs : List Value} {l : List α} {i : Nat} {e : α} {x : X α} (hi : i < l.length) (hs : Sep h (oa e x ++ [MF.oh xs l i])) : OwL h (xs.take (i * k α) ++ sh e x ++ xs.drop ((i + 1) * k α)) (l.set i e) := by
 obtain ⟨h1, h2, a1, a2, a3, a4, a5⟩ := hs.append
 obtain ⟨q1, q2, r1, r2, r3, r4, r5⟩ := (sep_one a5 : OwH h2 xs l i)
 have : l.set i e = l.take i ++ [e] ++ l.drop (i + 1) := by
  rw [List.set_eq_take_append_cons_drop, if_pos hi]; simp
 rw [this]
 refine OwL.append r5 (h := join q1 h1) (OwL.snoc a4 r4 (le_join_l _ _) (le_join_r ((a3.mono (Le.refl _) r1).symm)) ((a3.mono (Le.refl _) r1).symm)) (join_le (r1.trans a2) a1) (r2.trans a2) (join_dj r3 (a3.mono (Le.refl _) r2))
theorem splice_in {β : Type} (A S B vs : List β) (off : Nat) (h : off + vs.length ≤ S.length) : (A ++ S ++ B).take (A.length + off) ++ vs ++ (A ++ S ++ B).drop (A.length + off + vs.length) = A ++ (S.take off ++ vs ++ S.drop (off + vs.length)) ++ B := by
 have h1 : (A ++ S ++ B).take (A.length + off) = A ++ S.take off := by
  rw [List.append_assoc, List.take_length_add_append, List.take_append_of_le_length (by omega)]
 have h2 : (A ++ S ++ B).drop (A.length + off + vs.length) = S.drop (off + vs.length) ++ B := by
  rw [List.append_assoc, Nat.add_assoc, List.drop_length_add_append, List.drop_append_of_le_length (by omega)]
 rw [h1, h2]; simp
theorem OwL.set {h : GH} {xs : List Value} {l : List α} {i off : Nat} {e e' : α} {vs : List Value} (ho : OwL h xs l) (hi : l[i]? = some e) (hs : ∀ x : X α, (sh e x).take off ++ vs ++ (sh e x).drop (off + vs.length) = sh e' x) (hf : off + vs.length ≤ k α) (hoa : ∀ x : X α, oa e' x = oa e x) :
  OwL h (xs.take (i * k α + off) ++ vs ++ xs.drop (i * k α + off + vs.length)) (l.set i e') := by
 obtain ⟨x, ⟨hx, hl⟩, hsep⟩ := ho.openE hi
 have := OwL.closeE (e := e') (x := x) (List.getElem?_eq_some_iff.1 hi).1 (by rw [hoa]; exact hsep)
 rw [← hs] at this
 have h2 := splice_in (xs.take (i * k α)) (sh e x) (xs.drop ((i + 1) * k α)) vs off (by rw [GoT.len]; exact hf)
 rw [← hx, hl] at h2
 rw [h2]; exact this
end
end Go.Stp

namespace Go.Stp
open GoT (X k ok sh fa oa)
section
variable {P : Program} {ops : Array Oper} {Q : Exit → Act → World → Prop} {S : World → Prop} {tl : List Nat}
def edgeB (ops : Array Oper) (j k : Nat) : Bool :=
 match ops[j]? with
 | some oj => oj.after.any fun e => Region.binds .any e && e.on == k
 | none => false
def ancL (ops : Array Oper) : Nat → List Nat → List Nat
 | 0, acc => acc
 | k + 1, acc => (match acc.any (fun m => edgeB ops m k) with | true => ancL ops k (k :: acc) | false => ancL ops k acc)
def waits (ops : Array Oper) (j i : Nat) : Bool := (ancL ops j [j]).contains i
def Closed (ops : Array Oper) (listed : Array Bool) : Prop := ∀ j o, ops[j]? = some o → listed.getD j false = true → ∀ e ∈ o.after, Region.binds .any e = true → listed.getD e.on false = true
theorem edgeB_spec {j k : Nat} (h : edgeB ops j k = true) : ∃ o, ops[j]? = some o ∧ ∃ e ∈ o.after, Region.binds .any e = true ∧ e.on = k := by
 unfold edgeB at h
 split at h
 ·rename_i oj ho
  obtain ⟨e, he, hb⟩ := Array.any_eq_true'.1 h
  simp only [Bool.and_eq_true, beq_iff_eq] at hb
  exact ⟨oj, ho, e, he, hb.1, hb.2⟩
 ·cases h
theorem ancL_spec {listed : Array Bool} {j : Nat} (hc : Closed ops listed) (hr : j ∈ Region.ready .any ops listed) : ∀ (k : Nat) (acc : List Nat), (∀ m ∈ acc, m = j ∨ listed.getD m false = true) → ∀ m ∈ ancL ops k acc, m = j ∨ listed.getD m false = true
 | 0, acc, h => h
 | k + 1, acc, h => by
  unfold ancL
  split
  ·rename_i ha
   obtain ⟨m, hm, he⟩ := List.any_eq_true.1 ha
   obtain ⟨o, ho, e, hE, hb, hk⟩ := edgeB_spec he
   refine ancL_spec hc hr k (k :: acc) fun x hx => ?_
   rcases List.mem_cons.1 hx with rfl | hx
   ·right
    rcases h m hm with rfl | hl
    ·obtain ⟨_, o', ho', hall⟩ := mem_ready.1 hr
     rw [ho] at ho'; cases ho'
     rw [← hk]; exact hall e hE hb
    ·rw [← hk]; exact hc m o ho hl e hE hb
   ·exact h x hx
  ·exact ancL_spec hc hr k acc h
theorem waits_spec {listed : Array Bool} {i j : Nat} (hc : Closed ops listed) (hw : waits ops j i = true) (hij : j ≠ i) (hi : listed.getD i true = false) (hr : j ∈ Region.ready .any ops listed) : False := by
 have hm : i ∈ ancL ops j [j] := by simpa [waits] using hw
 rcases ancL_spec hc hr j [j] (fun m hm => .inl (by simpa using hm)) i hm with h | h
 ·exact hij h.symm
 ·rcases Nat.lt_or_ge i listed.size with h' | h'
  ·simp [h'] at hi h; rw [hi] at h; cases h
  ·simp [Array.getElem?_eq_none h'] at h
theorem Closed.set {listed : Array Bool} {i : Nat} (hc : Closed ops listed) (hr : i ∈ Region.ready .any ops listed) : Closed ops (listed.setIfInBounds i true) := by
 intro j o ho hl e he hb
 by_cases hji : j = i
 ·subst hji
  obtain ⟨_, o', ho', hall⟩ := mem_ready.1 hr
  rw [ho] at ho'; cases ho'
  exact getD_set_true (hall e he hb)
 ·rw [getD_set_ne false (Ne.symm hji)] at hl
  exact getD_set_true (hc j o ho hl e he hb)
theorem closed_start (ops : Array Oper) : Closed ops (Array.replicate ops.size false) := by
 intro j o ho hl
 have : j < ops.size := (Array.getElem?_eq_some_iff.1 ho).1
 simp [this] at hl
def wpAnyT (P : Program) (ops : Array Oper) (Q : Exit → Act → World → Prop) (S : World → Prop) (tl : List Nat) : Nat → Array Bool → Act → World → Prop
 | 0, listed, a, w => Region.ready .any ops listed = [] ∧ Q .normal a w
 | fuel + 1, listed, a, w =>
  (Region.ready .any ops listed = [] → Q .normal a w) ∧
  ∀ i ∈ Region.ready .any ops listed, wpOp P ops Q i (fun a' w' => (tl.contains i = false → S w → S w') ∧ wpAnyT P ops Q S tl fuel (listed.setIfInBounds i true) a' w') a w
theorem wpAny_of_T : ∀ (fuel : Nat) (listed : Array Bool) (a : Act) (w : World), wpAnyT P ops Q S tl fuel listed a w → wpAny P .any ops Q fuel listed a w
 | 0, _, _, _, h => h
 | fuel + 1, _, _, _, h => ⟨h.1, fun i hi => wpOp_mono (fun a' w' h' => wpAny_of_T fuel _ a' w' h'.2) (h.2 i hi)⟩
theorem not_on {listed : Array Bool} {i : Nat} {oj : Oper} (hiun : listed.getD i true = false) (hall : ∀ e ∈ oj.after, Region.binds .any e = true → listed.getD e.on false = true) : ∀ e ∈ oj.after, Region.binds .any e = true → e.on ≠ i := fun e he hb heq => by
 have h1 := hall e he hb
 rw [heq] at h1
 rcases Nat.lt_or_ge i listed.size with h' | h'
 ·simp [h'] at hiun h1; rw [hiun] at h1; cases h1
 ·simp [Array.getElem?_eq_none h'] at h1
theorem wpAnyT_first {i : Nat} {oi : Oper} {v : Value} (hi : ops[i]? = some oi) (hit : tl.contains i = false) (hsel : ∀ (j : Nat) (o : Oper) cs b, ops[j]? = some o → o.op ≠ .select cs b)
  (hQ : ∀ c a w, Q (.panic c) (a.put oi.dst v) w → Q (.panic c) a w) :
  ∀ (fuel : Nat) (listed : Array Bool) (a : Act) (w : World), Closed ops listed → (∀ j ∈ tl, listed.getD j true = false → waits ops j i = true) →
   (∀ j oj, ops[j]? = some oj → j ≠ i → listed.getD j true = false → (∀ e ∈ oj.after, Region.binds .any e = true → e.on ≠ i) → oi.apart ops oj = true) →
   i ∈ Region.ready .any ops listed → YieldsIf P ops S oi v a → S w →
   wpAnyT P ops Q S tl fuel (listed.setIfInBounds i true) (a.put oi.dst v) w → wpAnyT P ops Q S tl (fuel + 1) listed a w := by
 intro fuel
 induction fuel with
 | zero =>
  intro listed a w _ _ _ hr hy hS H
  refine ⟨fun h => (by rw [h] at hr; cases hr), fun j hj => ?_⟩
  by_cases hji : j = i
  ·subst hji; exact hy.wpOp hi hS ⟨fun _ h => h, H⟩
  ·have := ready_mono hj hji
   rw [H.1] at this
   cases this
 | succ fuel ih =>
  intro listed a w hc hw hfree hr hy hS H
  refine ⟨fun h => (by rw [h] at hr; cases hr), fun j hj => ?_⟩
  by_cases hji : j = i
  ·subst hji; exact hy.wpOp hi hS ⟨fun _ h => h, H⟩
  ·have h1 := H.2 j (ready_mono hj hji)
   obtain ⟨hjun, oj, hoj, hall⟩ := mem_ready.1 hj
   have hiun := (mem_ready.1 hr).1
   have hnot := not_on (i := i) hiun hall
   have hjt : tl.contains j = false := by
    cases hb : tl.contains j with
    | false => rfl
    | true => exact (waits_spec hc (hw j (by simpa using hb) hjun) hji hiun hj).elim
   have h2 := wpOp_putIf hoj (hfree j oj hoj hji hjun hnot) (fun cs b => hsel i oi cs b hi) (fun cs b => hsel j oj cs b hoj) hQ hy
    (K := fun a' w' => S w' ∧ wpAnyT P ops Q S tl fuel ((listed.setIfInBounds j true).setIfInBounds i true) a' w') (by
     refine wpOp_mono (fun a' w' h3 => ?_) h1
     rw [Array.setIfInBounds_comm _ _ hji]
     exact ⟨h3.1 hjt hS, h3.2⟩)
   have hun : ∀ k, (listed.setIfInBounds j true).getD k true = false → listed.getD k true = false := fun k hk => by
    by_cases hjk : j = k
    ·subst hjk; exact hjun
    ·rw [getD_set_ne true hjk] at hk; exact hk
   exact wpOp_mono (fun a' w' h3 => ⟨fun _ _ => h3.2.1, ih (listed.setIfInBounds j true) a' w' (hc.set hj) (fun k hk hkn => hw k hk (hun k hkn)) (fun k ok hk hki hkn hno => hfree k ok hk hki (hun k hkn) hno) (ready_mono hr (Ne.symm hji)) h3.1 h3.2.1 h3.2.2⟩) h2
theorem wpAnyT_firstP {i : Nat} {oi : Oper} {v : Value} (hi : ops[i]? = some oi) (hsel : ∀ (j : Nat) (o : Oper) cs b, ops[j]? = some o → o.op ≠ .select cs b)
  (hQ : ∀ c a w, Q (.panic c) (a.put oi.dst v) w → Q (.panic c) a w) :
  ∀ (fuel : Nat) (listed : Array Bool) (a : Act) (w : World),
   (∀ j oj, ops[j]? = some oj → j ≠ i → listed.getD j true = false → (∀ e ∈ oj.after, Region.binds .any e = true → e.on ≠ i) → oi.apart ops oj = true) →
   i ∈ Region.ready .any ops listed → YieldsIf P ops (fun _ => True) oi v a →
   wpAnyT P ops Q S tl fuel (listed.setIfInBounds i true) (a.put oi.dst v) w → wpAnyT P ops Q S tl (fuel + 1) listed a w := by
 intro fuel
 induction fuel with
 | zero =>
  intro listed a w _ hr hy H
  refine ⟨fun h => (by rw [h] at hr; cases hr), fun j hj => ?_⟩
  by_cases hji : j = i
  ·subst hji; exact hy.wpOp hi trivial ⟨fun _ h => h, H⟩
  ·have := ready_mono hj hji
   rw [H.1] at this
   cases this
 | succ fuel ih =>
  intro listed a w hfree hr hy H
  refine ⟨fun h => (by rw [h] at hr; cases hr), fun j hj => ?_⟩
  by_cases hji : j = i
  ·subst hji; exact hy.wpOp hi trivial ⟨fun _ h => h, H⟩
  ·have h1 := H.2 j (ready_mono hj hji)
   obtain ⟨hjun, oj, hoj, hall⟩ := mem_ready.1 hj
   have hiun := (mem_ready.1 hr).1
   have hnot := not_on (i := i) hiun hall
   have h2 := wpOp_putIf hoj (hfree j oj hoj hji hjun hnot) (fun cs b => hsel i oi cs b hi) (fun cs b => hsel j oj cs b hoj) hQ hy
    (K := fun a' w' => (tl.contains j = false → S w → S w') ∧ wpAnyT P ops Q S tl fuel ((listed.setIfInBounds j true).setIfInBounds i true) a' w') (by
     refine wpOp_mono (fun a' w' h3 => ?_) h1
     rw [Array.setIfInBounds_comm _ _ hji]
     exact h3)
   have hun : ∀ k, (listed.setIfInBounds j true).getD k true = false → listed.getD k true = false := fun k hk => by
    by_cases hjk : j = k
    ·subst hjk; exact hjun
    ·rw [getD_set_ne true hjk] at hk; exact hk
   exact wpOp_mono (fun a' w' h3 => ⟨h3.2.1, ih (listed.setIfInBounds j true) a' w' (fun k ok hk hki hkn hno => hfree k ok hk hki (hun k hkn) hno) (ready_mono hr (Ne.symm hji)) h3.1 h3.2.2⟩) h2
def pickO (ops : List Oper) : List Nat → Option (List Oper)
 | [] => some []
 | i :: r => (match getO ops i with
  | some o => (match pickO ops r with | some q => some (o :: q) | none => none)
  | none => none)
def seqL (ops : Array Oper) (tl : List Nat) : List Nat → Array Bool → Bool
 | [], listed => (Region.ready .any ops listed).isEmpty
 | k :: r, listed => decide (Region.ready .any ops listed = [k]) && tl.contains k && seqL ops tl r (listed.setIfInBounds k true)
theorem wpAnyT_of_seq : ∀ (is : List Nat) (l : List Oper) (listed : Array Bool) (a : Act) (w : World), pickO ops.toList is = some l → seqL ops tl is listed = true → wpList P ops Q l a w → wpAnyT P ops Q S tl is.length listed a w
 | [], l, _, _, _, hl, hB, h => by simp [pickO] at hl; subst hl; exact ⟨by simpa [seqL] using hB, h⟩
 | k :: is, l, listed, a, w, hl, hB, h => by
  simp only [pickO] at hl
  split at hl
  ·rename_i o ho
   split at hl
   ·rename_i q hq
    simp at hl; subst hl
    rw [getO_eq] at ho
    have h0 : ops[k]? = some o := by simpa using ho
    simp only [seqL, Bool.and_eq_true, decide_eq_true_eq] at hB
    refine ⟨fun h1 => (by rw [hB.1.1] at h1; cases h1), fun i hi => ?_⟩
    rw [hB.1.1] at hi
    have hik : i = k := by simpa using hi
    subst hik
    have hw : wpOp P ops Q i (wpList P ops Q q) a w := by unfold wpOp; simp only [h0]; exact h
    exact wpOp_mono (fun a' w' h' => ⟨fun h => (by rw [hB.1.2] at h; cases h), wpAnyT_of_seq is q _ a' w' hq hB.2 h'⟩) hw
   ·cases hl
  ·cases hl
end
def SB (C : Cx) (bs : Nat → Nat) (G0 : GH) (L : Locs) (R : Rows) : World → Prop := fun w => ∃ G, Le G0 G ∧ HInv C w G bs L R
def DX (C : Cx) (ops : Array Oper) (tl : List Nat) (s : List It) (bs : Nat → Nat) (G0 : GH) (fuel : Nat) (listed : Array Bool) (env : Env) (L : Locs) (R : Rows) (Γ : Facts) : Prop :=
 Closed ops listed → ∀ a w G, Le G0 G → SatB C env L R Γ G bs a w → wpAnyT C.P ops (cont C s) (SB C bs G0 L R) tl fuel listed a w
theorem cont_panic (C : Cx) (s : List It) (c : List PanicEntry) (a : Act) (w : World) : cont C s (.panic c) a w → False := by
 induction s with
 | nil => rintro ⟨_, v, h, _⟩; cases h
 | cons x s ih => cases x <;> exact ih
theorem HInv.drew {C : Cx} {w : World} {G : GH} {bs : Nat → Nat} {L : Locs} {R : Rows} (h : HInv C w G bs L R) : HInv C { w with drawn := w.drawn + 1 } G bs L R :=
 ⟨⟨h.keep.os, h.keep.tape, h.keep.output, h.keep.size, h.keep.block⟩, h.le, h.loc, h.row, h.inj, h.dis, h.pin, h.nr⟩
theorem WX.draw {C : Cx} {id : Nat} {ops : Array Oper} {s : List It} {env : Env} {L : Locs} {R : Rows} {Γ : Facts} (tl : List Nat) (hm : C.P.follows .mixedOrders = true)
  (k : ∀ bs G0, AllK C.M G0 Γ → DX C ops tl s bs G0 ops.size (Array.replicate ops.size false) env L R Γ) : WX C (.code (.region id ops true) :: s) env L R Γ := by
 rintro a w ⟨G, bs, hA, hI, hΓ⟩
 show (Code.region id ops true).wp C.P (cont C s) a w
 exact wp_region_any hm (wpAny_of_T _ _ _ _ (k bs G hΓ (closed_start ops) a _ G (Le.refl _) ⟨hA, hI.drew, hΓ⟩))
def mayP (ops : Array Oper) (listed : Array Bool) (i : Nat) : Bool :=
 Region.noSelect ops && Region.free .any ops listed i && (Region.ready .any ops listed).contains i
def mayB (ops : Array Oper) (tl : List Nat) (listed : Array Bool) (i : Nat) : Bool :=
 mayP ops listed i && !tl.contains i && tl.all (fun j => listed.getD j true || waits ops j i)
theorem DX.take {C : Cx} {ops : Array Oper} {tl : List Nat} {s : List It} {bs : Nat → Nat} {G0 : GH} {fuel : Nat} {listed : Array Bool} {env : Env} {L : Locs} {R : Rows} {Γ : Facts} {i d : Nat} {o : Oper} {sv : SV} {b : Bool} (hb : mayB ops tl listed i = true) (hi : ops[i]? = some o) (hd : o.dst = some d) (hlt : d < C.fn.ntmps)
  (hg : gd ops env o = some b) (hl : b = true → Looks C env L R G0 o sv) (hu : b = false → sv = .v undef)
  (k : DX C ops tl s bs G0 fuel (listed.setIfInBounds i true) ((d, sv) :: env) L R Γ) : DX C ops tl s bs G0 (fuel + 1) listed env L R Γ := by
 intro hcl a w G hle ⟨hA, hI, hΓ⟩
 simp only [mayB, mayP, Bool.and_eq_true, Bool.not_eq_true', List.all_eq_true, Bool.or_eq_true] at hb
 obtain ⟨⟨⟨⟨h1, h4⟩, h5⟩, h3⟩, h6⟩ := hb
 have hr : i ∈ Region.ready .any ops listed := by simpa using h5
 refine wpAnyT_first hi h3 (Region.noSelect_spec h1) (fun c a w h => (cont_panic C s c _ _ h).elim) fuel listed a w hcl (fun j hj hun => (h6 j hj).resolve_left (by rw [hun]; simp)) (Region.free_spec hi h4) hr (v := conc bs sv) ?_ ⟨G, hle, hI⟩ ?_
 ·cases b with
  | true => exact .inl ⟨gd_sound hA hg, fun w' ⟨G', hle', hI'⟩ => hl rfl a w' G' bs hle' hA hI'⟩
  | false => exact .inr ⟨gd_sound hA hg, by rw [hu rfl]; rfl⟩
 ·rw [hd]
  exact k (hcl.set hr) _ _ G hle ⟨hA.put hlt sv, hI, hΓ⟩
theorem DX.takeP {C : Cx} {ops : Array Oper} {tl : List Nat} {s : List It} {bs : Nat → Nat} {G0 : GH} {fuel : Nat} {listed : Array Bool} {env : Env} {L : Locs} {R : Rows} {Γ : Facts} {i d : Nat} {o : Oper} {sv : SV} {b : Bool} (hb : mayP ops listed i = true) (hi : ops[i]? = some o) (hd : o.dst = some d) (hlt : d < C.fn.ntmps)
  (hg : gd ops env o = some b) (hl : b = true → ∀ a w bs, At C.fn.ntmps env bs a → (execOp a.eval o).run C.P w = .ok (.value (conc bs sv)) w) (hu : b = false → sv = .v undef)
  (k : DX C ops tl s bs G0 fuel (listed.setIfInBounds i true) ((d, sv) :: env) L R Γ) : DX C ops tl s bs G0 (fuel + 1) listed env L R Γ := by
 intro hcl a w G hle ⟨hA, hI, hΓ⟩
 simp only [mayP, Bool.and_eq_true] at hb
 obtain ⟨⟨h1, h4⟩, h5⟩ := hb
 have hr : i ∈ Region.ready .any ops listed := by simpa using h5
 refine wpAnyT_firstP hi (Region.noSelect_spec h1) (fun c a w h => (cont_panic C s c _ _ h).elim) fuel listed a w (Region.free_spec hi h4) hr (v := conc bs sv) ?_ ?_
 ·cases b with
  | true => exact .inl ⟨gd_sound hA hg, fun w' _ => hl rfl a w' bs hA⟩
  | false => exact .inr ⟨gd_sound hA hg, by rw [hu rfl]; rfl⟩
 ·rw [hd]
  exact k (hcl.set hr) _ _ G hle ⟨hA.put hlt sv, hI, hΓ⟩
theorem pureS_any {C : Cx} (ht : TabOk C.P C.tt) {env : Env} {bs : Nat → Nat} {a : Act} (w : World) (hA : At C.fn.ntmps env bs a) {o : Oper} {sv : SV} (h : pureS C.tt env [] o.op = some sv) : (execOp a.eval o).run C.P w = .ok (.value (conc bs sv)) w :=
 pureS_sound (C := ⟨C.P, C.fn, C.tt, w, emp, none, fun _ _ => True⟩) (L := []) (R := []) (G := emp) ht hA ⟨Kp.refl _ _, emp_le _, by simp [look], by simp [look], fun i j _ hi => by rcases hi with ⟨l, h⟩ | ⟨r, h, _⟩ <;> simp [look] at h, by simp [look], (fun b h => by cases h), by simp [look]⟩ h
def takesB (ops : Array Oper) (tl : List Nat) : Array Bool → List (Nat × Bool) → Bool
 | _, [] => true
 | listed, (i, p) :: r => (match p with | true => mayP ops listed i | false => mayB ops tl listed i) && takesB ops tl (listed.setIfInBounds i true) r
def setAll : Array Bool → List (Nat × Bool) → Array Bool
 | l, [] => l
 | l, (i, _) :: r => setAll (l.setIfInBounds i true) r
def takesE (tt : TT) (m : Nat) (ops : Array Oper) (L : Locs) : Env → List (Nat × Bool) → Option Env
 | env, [] => some env
 | env, (i, p) :: r => (match getO ops.toList i with
  | some o => (match o.dst with
   | some d => (match Nat.blt d m with
    | true => (match gd ops env o with
     | some true => (match pureS tt env (match p with | true => [] | false => L) o.op with
      | some sv => takesE tt m ops L ((d, sv) :: env) r
      | none => none)
     | some false => takesE tt m ops L ((d, .v undef) :: env) r
     | none => none)
    | false => none)
   | none => none)
  | none => none)
theorem DX.takes {C : Cx} {ops : Array Oper} {tl : List Nat} {s : List It} {bs : Nat → Nat} {G0 : GH} {L : Locs} {R : Rows} {Γ : Facts} (ht : TabOk C.P C.tt) : ∀ (is : List (Nat × Bool)) {fuel : Nat} {listed : Array Bool} {env env' : Env}, takesB ops tl listed is = true →
  takesE C.tt C.fn.ntmps ops L env is = some env' → DX C ops tl s bs G0 fuel (setAll listed is) env' L R Γ → DX C ops tl s bs G0 (fuel + is.length) listed env L R Γ
 | [], _, _, _, _, _, h, k => by simp [takesE] at h; subst h; exact k
 | (i, p) :: r, fuel, listed, env, env', hb, h, k => by
  simp only [takesB, Bool.and_eq_true] at hb
  simp only [takesE] at h
  split at h
  ·rename_i o ho
   rw [getO_eq] at ho
   have ho' : ops[i]? = some o := by simpa using ho
   split at h
   ·rename_i d hd
    split at h
    ·rename_i hlt
     have hlt' : d < C.fn.ntmps := by simpa [Nat.blt_eq] using hlt
     split at h
     ·rename_i hg
      split at h
      ·rename_i sv hsv
       cases p with
       | true => exact DX.takeP hb.1 ho' hd hlt' hg (fun _ a w bs' hA => pureS_any ht w hA hsv) (fun h => by cases h) (DX.takes ht r hb.2 h k)
       | false => exact DX.take hb.1 ho' hd hlt' hg (fun _ a w G' bs' hle hA hI => pureS_sound ht hA hI hsv) (fun h => by cases h) (DX.takes ht r hb.2 h k)
      ·cases h
     ·rename_i hg
      cases p with
      | true => exact DX.takeP hb.1 ho' hd hlt' hg (fun h => by cases h) (fun _ => rfl) (DX.takes ht r hb.2 h k)
      | false => exact DX.take hb.1 ho' hd hlt' hg (fun h => by cases h) (fun _ => rfl) (DX.takes ht r hb.2 h k)
     ·cases h
    ·cases h
   ·cases h
  ·cases h
theorem DX.tail {C : Cx} {ops : Array Oper} {tl : List Nat} {s : List It} {bs : Nat → Nat} {G0 : GH} {fuel : Nat} {listed : Array Bool} {env : Env} {L : Locs} {R : Rows} {Γ : Facts} {rest : List Oper} (is : List Nat) (hr : pickO ops.toList is = some rest) (hf : fuel = is.length) (hs : seqL ops tl is listed = true)
  (k : WX C (.ops ops rest :: s) env L R Γ) : DX C ops tl s bs G0 fuel listed env L R Γ := by
 intro _ a w G _ hS
 subst hf
 exact wpAnyT_of_seq is rest listed a w hr hs (k a w ⟨G, bs, hS⟩)
theorem DX.callG {C : Cx} {ops : Array Oper} {tl : List Nat} {st : List It} {bs : Nat → Nat} {G0 : GH} {fuel : Nat} {listed : Array Bool} {env : Env} {L : Locs} {R : Rows} {Γ : Facts} {o : Oper} (i : Nat) {f : Operand} {args : List Operand} {ats : Array TypeId} {g : FuncId} {sf : SV} {svs : List SV} {caps : (Nat → Nat) → List Value}
  {Ψ : World → Value → World → Prop} {d : Nat} (hit : tl.contains i = false) (hr : Region.ready .any ops listed = [i]) (hi : getO ops.toList i = some o) (hg : gd ops env o = some true) (hd : o.dst = some d) (ho : o.op = .call { callee := .value f, args := args.toArray, argTypes := ats })
  (hf : ev env f = some sf) (hsf : ∀ bs, conc bs sf = .func (.func g) #[] (caps bs).toArray) (hargs : evs env args = some svs)
  (hc : ∀ w G bs, HInv C w G bs L R → AllK C.M (hp w) Γ → Does C.P g (svs.map (conc bs) ++ caps bs).toArray w emp (Ψ w))
  (k : ∀ a w w' G v, Le G0 G → At C.fn.ntmps env bs a → HInv C w G bs L R → AllK C.M G Γ → Kp emp w w' → Ψ w v w' → SB C bs G0 L R w' ∧ (Closed ops (listed.setIfInBounds i true) → wpAnyT C.P ops (cont C st) (SB C bs G0 L R) tl fuel (listed.setIfInBounds i true) (a.put (some d) v) w')) : DX C ops tl st bs G0 (fuel + 1) listed env L R Γ := by
 intro hcl a w G hle ⟨hA, hI, hΓ⟩
 rw [getO_eq] at hi
 have hi' : ops[i]? = some o := by simpa using hi
 refine ⟨fun h => (by rw [hr] at h; cases h), fun j hj => ?_⟩
 have hcl' := hcl.set hj
 rw [hr] at hj
 obtain rfl : j = i := by simpa using hj
 unfold wpOp
 simp only [hi']
 rw [if_pos (gd_sound hA hg)]
 refine .inl ?_
 unfold Oper.wp
 obtain ⟨he, hcalls⟩ := hc w G bs hI (hΓ.mono hI.le)
 rw [exec_call he ho (by rw [ev_conc hA hf, hsf]) (evs_sound hA args svs hargs)]
 simp only [Oper.upon]
 refine hcalls.mono fun e w' ⟨v, hv, hb, hψ⟩ => ?_
 subst hv
 rw [hd]
 obtain ⟨q1, q2⟩ := k a w w' G v hle hA hI hΓ hb hψ
 exact ⟨fun _ _ => q1, q2 hcl'⟩
theorem DX.callV {C : Cx} {ops : Array Oper} {tl : List Nat} {st : List It} {bs : Nat → Nat} {G0 : GH} {fuel : Nat} {listed : Array Bool} {env : Env} {L : Locs} {R : Rows} {Γ : Facts} {o : Oper} (i : Nat) {f : Operand} {args : List Operand} {ats : Array TypeId} {g : FuncId} {sf : SV} {svs : List SV} {caps : (Nat → Nat) → List Value}
  {c : Value} {Q : Prop} {d : Nat} (hit : tl.contains i = false) (hr : Region.ready .any ops listed = [i]) (hi : getO ops.toList i = some o) (hg : gd ops env o = some true) (hd : o.dst = some d) (hlt : Nat.blt d C.fn.ntmps = true) (ho : o.op = .call { callee := .value f, args := args.toArray, argTypes := ats })
  (hf : ev env f = some sf) (hsf : ∀ bs, conc bs sf = .func (.func g) #[] (caps bs).toArray) (hargs : evs env args = some svs)
  (hc : ∀ w G bs, HInv C w G bs L R → AllK C.M (hp w) Γ → Does C.P g (svs.map (conc bs) ++ caps bs).toArray w emp fun v _ => v = c ∧ Q)
  (k : Q → DX C ops tl st bs G0 fuel (listed.setIfInBounds i true) ((d, .v c) :: env) L R Γ) : DX C ops tl st bs G0 (fuel + 1) listed env L R Γ :=
 DX.callG (Ψ := fun _ v _ => v = c ∧ Q) i hit hr hi hg hd ho hf hsf hargs hc fun a w w' G v hle hA hI hΓ hb ⟨hv, hq⟩ => by
  subst hv
  have hI' := (hI.called (emp_le _) (fun _ _ h => by cases h) hb (emp_le _) (fun _ _ h => by cases h)).1
  have hle' : Le G0 (join (cut G emp) emp) := hle.trans (le_join_l (cut G emp) emp)
  exact ⟨⟨_, hle', hI'⟩, fun hcl => k hq hcl _ _ _ hle' ⟨hA.put (by simpa [Nat.blt_eq] using hlt) (.v v), hI', hΓ.mono (le_join_l (cut G emp) emp)⟩⟩
theorem DX.callF {C : Cx} {ops : Array Oper} {tl : List Nat} {st : List It} {bs : Nat → Nat} {G0 : GH} {fuel : Nat} {listed : Array Bool} {env : Env} {L : Locs} {R : Rows} {Γ : Facts} {o : Oper} (i m : Nat) {f : Operand} {args : List Operand} {ats : Array TypeId} {g : FuncId} {sf : SV} {svs : List SV} {caps : (Nat → Nat) → List Value}
  {ι : Type} {val val' : ι → Value} {gs ds : ι → List MF} {Q : Prop} {d : Nat} {Γ' : ι → Facts} (hds : ∀ i h, Sep h (gs i) → All h (ds i)) (hdk : ∀ i, ∀ f ∈ ds i, f.k = .der) (hit : tl.contains i = false) (hr : Region.ready .any ops listed = [i]) (hi : getO ops.toList i = some o) (hg : gd ops env o = some true) (hd : o.dst = some d) (hlt : Nat.blt d C.fn.ntmps = true) (ho : o.op = .call { callee := .value f, args := args.toArray, argTypes := ats })
  (hf : ev env f = some sf) (hsf : ∀ bs, conc bs sf = .func (.func g) #[] (caps bs).toArray) (hargs : evs env args = some svs)
  (hc : ∀ w G bs, HInv C w G bs L R → AllK C.M (hp w) Γ → Does C.P g (svs.map (conc bs) ++ caps bs).toArray w emp (Post w emp val gs Q))
  (hv : ∀ i, normV (val i) = some (val' i)) (hΓ' : ∀ i, addF m (ds i ++ gs i) Γ = some (Γ' i))
  (k : ∀ j, Q → DX C ops tl st bs G0 fuel (listed.setIfInBounds i true) ((d, .v (val' j)) :: env) L R (Γ' j)) : DX C ops tl st bs G0 (fuel + 1) listed env L R Γ :=
 DX.callG (Ψ := fun w v w' => Post w emp val gs Q v w') i hit hr hi hg hd ho hf hsf hargs hc fun a w w' G v hle hA hI hΓ hb hv' => by
  obtain ⟨j, h, rfl, hq, hle1, hdom, hs⟩ := hv'
  rw [← normV_eq (hv j)]
  obtain ⟨hI', hdj⟩ := hI.called (emp_le _) (fun _ _ h => by cases h) hb hle1 hdom
  have hle' : Le G0 (join (cut G emp) h) := hle.trans (le_join_l (cut G emp) h)
  exact ⟨⟨_, hle', hI'⟩, fun hcl => k j hq hcl _ _ _ hle' ⟨hA.put (by simpa [Nat.blt_eq] using hlt) (.v _), hI', hΓ.after hdj (fun b o hb' => .inl ((hdom b o hb').elim (Nat.le_trans hI.keep.size) (fun h => absurd rfl h))) hs (hdk j) (hds j h hs) (hΓ' j)⟩⟩
theorem DX.idx {C : Cx} {ops : Array Oper} {tl : List Nat} {s : List It} {bs : Nat → Nat} {G0 : GH} {fuel : Nat} {listed : Array Bool} {env : Env} {L : Locs} {R : Rows} {Γ Γ0 : Facts} {o : Oper} {α : Type} [GoT α] {d : Nat} {x y : Operand} {T kk q c : Nat} {m : Int} {kd : Kd} {p : Option Addr} {l : List α} (i ℓ j : Nat) (ht : TabOk C.P C.tt) (h0 : AllK C.M G0 Γ0)
  (hb : mayB ops tl listed i = true) (hi : getO ops.toList i = some o) (hg : gd ops env o = some true) (hd : o.dst = some d) (hlt : Nat.blt d C.fn.ntmps = true) (ho : o.op = .indexAddr T x y)
  (hx : ev env x = some (.v (.slice p q c))) (hy : ev env y = some (.v (.int .i64 m))) (hk : elemO C.tt T = some kk) (hℓ : look Γ0 ℓ = some (MF.rs kd p c l)) (hq : q = l.length) (hm : m = (j : Int)) (hj : j < l.length)
  (k : ∀ ad, p = some ad → DX C ops tl s bs G0 fuel (listed.setIfInBounds i true) ((d, .e (some ad) j kk 0) :: env) L R Γ) : DX C ops tl s bs G0 (fuel + 1) listed env L R Γ := by
 obtain ⟨x', ad, rfl, _⟩ := RdSl.get (i := j) (h0.get ℓ hℓ : RdSl G0 p c l) (List.getElem?_eq_getElem hj)
 rw [getO_eq] at hi
 exact DX.take hb (by simpa using hi) hd (by simpa [Nat.blt_eq] using hlt) hg (fun _ => looks_idx ht ho hx hy hk hm (by omega)) (fun h => by cases h) (k ad rfl)
theorem DX.ldE {C : Cx} {ops : Array Oper} {tl : List Nat} {s : List It} {bs : Nat → Nat} {G0 : GH} {fuel : Nat} {listed : Array Bool} {env : Env} {L : Locs} {R : Rows} {Γ Γ0 : Facts} {o : Oper} {α : Type} [GoT α] {d : Nat} {x : Operand} {T c j off : Nat} {ti : TI} {ad : Addr} {kd : Kd} {l : List α} (i ℓ m : Nat) (a : α) {val : X α → Value} {Γ' : X α → Facts} (ht : TabOk C.P C.tt) (h0 : AllK C.M G0 Γ0)
  (hb : mayB ops tl listed i = true) (hi : getO ops.toList i = some o) (hg : gd ops env o = some true) (hd : o.dst = some d) (hlt : Nat.blt d C.fn.ntmps = true) (ho : o.op = .load T x)
  (hx : ev env x = some (.e (some ad) j (GoT.k α) off)) (hT : look C.tt T = some ti) (hℓ : look Γ0 ℓ = some (MF.rs kd (some ad) c l)) (ha : l[j]? = some a)
  (hv : ∀ x, asm ti (sh a x) off = some (val x)) (hf : ∀ x, addF m (fa .der a x) Γ = some (Γ' x))
  (k : ∀ x, DX C ops tl s bs G0 fuel (listed.setIfInBounds i true) ((d, .v (val x)) :: env) L R (Γ' x)) : DX C ops tl s bs G0 (fuel + 1) listed env L R Γ := by
 obtain ⟨x', ad', had, hfa, hc⟩ := RdSl.get (i := j) (h0.get ℓ hℓ : RdSl G0 (some ad) c l) ha
 simp at had; subst had
 rw [getO_eq] at hi
 intro hcl a' w G hle hS
 exact DX.take (Γ := Γ' x') hb (by simpa using hi) hd (by simpa [Nat.blt_eq] using hlt) hg (fun _ => looks_ldE ht ho hx hT hc (hv x')) (fun h => by cases h) (k x') hcl a' w G hle ⟨hS.1, hS.2.1, AllK.ders (hf x') (fun f hf => GoT.fak f hf) (hfa.mono hle) hS.2.2⟩
end Go.Stp

namespace Go.Stp
open GoT (X k ok sh fa oa)
theorem WX.see {C : Cx} {ops : Array Oper} {o : Oper} {r : List Oper} {s : List It} {env : Env} {L : Locs} {R : Rows} {Γ : Facts} {d : Nat} {sv : SV}
  (hg : gd ops env o = some true) (hd : o.dst = some d) (hlt : Nat.blt d C.fn.ntmps = true) (hl : ∀ G, AllK C.M G Γ → Looks C env L R G o sv)
  (k : WX C (.ops ops r :: s) ((d, sv) :: env) L R Γ) : WX C (.ops ops (o :: r) :: s) env L R Γ := WX.peek hg hd hlt fun G hΓ => ⟨sv, hl G hΓ, k⟩
theorem DX.see {C : Cx} {ops : Array Oper} {tl : List Nat} {s : List It} {bs : Nat → Nat} {G0 : GH} {fuel : Nat} {listed : Array Bool} {env : Env} {L : Locs} {R : Rows} {Γ : Facts} {d : Nat} {o : Oper} {sv : SV} (i : Nat) (hb : mayB ops tl listed i = true) (hi : getO ops.toList i = some o)
  (hg : gd ops env o = some true) (hd : o.dst = some d) (hlt : Nat.blt d C.fn.ntmps = true) (hl : Looks C env L R G0 o sv)
  (k : DX C ops tl s bs G0 fuel (listed.setIfInBounds i true) ((d, sv) :: env) L R Γ) : DX C ops tl s bs G0 (fuel + 1) listed env L R Γ := by
 rw [getO_eq] at hi
 exact DX.take hb (by simpa using hi) hd (by simpa [Nat.blt_eq] using hlt) hg (fun _ => hl) (fun h => by cases h) k
theorem DX.der {C : Cx} {ops : Array Oper} {tl : List Nat} {s : List It} {bs : Nat → Nat} {G0 : GH} {fuel : Nat} {listed : Array Bool} {env : Env} {L : Locs} {R : Rows} {Γ : Facts} (m : Nat) (f : MF) (hk : f.k = .der) (h : ∀ G, AllK C.M G Γ → f.p G)
  (k : DX C ops tl s bs G0 fuel listed env L R ((m, f) :: Γ)) : DX C ops tl s bs G0 fuel listed env L R Γ := by
 intro hcl a w G hle ⟨hA, hI, hΓ⟩
 exact k hcl a w G hle ⟨hA, hI, hΓ.der m f hk (h G hΓ)⟩
theorem DX.cases {C : Cx} {ops : Array Oper} {tl : List Nat} {s : List It} {bs : Nat → Nat} {G0 : GH} {fuel : Nat} {listed : Array Bool} {env : Env} {L : Locs} {R : Rows} {Γ : Facts} (d : Nat) {b : Bool} (h : look env d = some (.v (.bool b)))
  (kt : b = true → DX C ops tl s bs G0 fuel listed ((d, .T) :: env) L R Γ) (kf : b = false → DX C ops tl s bs G0 fuel listed ((d, .F) :: env) L R Γ) : DX C ops tl s bs G0 fuel listed env L R Γ := by
 have key : ∀ y : SV, conc bs y = conc bs (.v (.bool b)) → DX C ops tl s bs G0 fuel listed ((d, y) :: env) L R Γ → DX C ops tl s bs G0 fuel listed env L R Γ := fun y hy k hcl a w G hle ⟨hA, hI, hΓ⟩ => by
  refine k hcl a w G hle ⟨⟨hA.size, hA.dfr, fun i x' hx => ?_⟩, hI, hΓ⟩
  rw [look_cons] at hx
  split at hx
  ·rename_i he; subst he; simp at hx; subst hx; rw [hA.slot d _ h, hy]
  ·exact hA.slot i x' hx
 cases b with
 | true => exact key .T rfl (kt rfl)
 | false => exact key .F rfl (kf rfl)
theorem DX.slot {C : Cx} {ops : Array Oper} {tl : List Nat} {s : List It} {bs : Nat → Nat} {G0 : GH} {fuel : Nat} {listed : Array Bool} {env : Env} {L : Locs} {R : Rows} {Γ : Facts} (d : Nat) {x y : SV} (h : look env d = some x) (e : ∀ bs, conc bs x = conc bs y) (k : DX C ops tl s bs G0 fuel listed ((d, y) :: env) L R Γ) : DX C ops tl s bs G0 fuel listed env L R Γ := by
 intro hcl a w G hle ⟨hA, hI, hΓ⟩
 refine k hcl a w G hle ⟨⟨hA.size, hA.dfr, fun i x' hx => ?_⟩, hI, hΓ⟩
 rw [look_cons] at hx
 split at hx
 ·rename_i he; subst he; simp at hx; subst hx; rw [hA.slot d x h, e]
 ·exact hA.slot i x' hx
theorem WX.free {C : Cx} {s : List It} {env : Env} {L : Locs} {R : Rows} {Γ : Facts} (n : Nat) (f : MF) (hp : f.p emp) (k : WX C s env L R ((n, f) :: Γ)) : WX C s env L R Γ := by
 rintro a w ⟨G, bs, hA, hI, hΓ⟩
 exact k a w ⟨G, bs, hA, hI, hΓ.new n f (h := emp) (Le.refl _) (emp_le _) (fun _ => emp_dj _) (fun _ _ _ h => by cases h) hp⟩
theorem WX.row0 {C : Cx} {s : List It} {env : Env} {L : Locs} {R : Rows} {Γ : Facts} (ρ kk : Nat) (p : Option Addr) (hnl : labHas ρ env L R = false) (k : WX C s env L ((ρ, ⟨kk, p, 0, 0, []⟩) :: R) Γ) : WX C s env L R Γ := by
 rintro a w ⟨G, bs, hA, hI, hΓ⟩
 obtain ⟨l1, l2, l3, l4⟩ := labHas_not hnl
 refine k a w ⟨G, fun j => if j = ρ then 0 else bs j, hA.notH l1 (fun i hi => if_neg hi), ?_, hΓ⟩
 exact hI.upd (ρ := ρ) (b' := 0) (r' := ⟨kk, p, 0, 0, []⟩) l4 False (fun h => h.elim) (only_refl w _ _) (.inr (.inr rfl)) (fun j => look_cons _ _ _ _) (fun l h => keyHas_not l2 h rfl) ⟨by simp, .inl ⟨rfl, rfl⟩⟩
theorem kp_le {w w' : World} (h : Kp emp w w') : Le (hp w) (hp w') := fun b o hb => by
 have hlt : b < w.heap.size := (Array.getElem?_eq_some_iff.1 hb).1
 show w'.heap[b]? = some o
 rw [h.block b hlt rfl]; exact hb
theorem cap_eq {a : Addr} {k : Nat} : Value.pointer (some a) = Value.pointer (some ((a.add (0 * k)).add 0)) := by
 cases a; simp [Addr.add]
theorem rd_box {α : Type} [GoT α] {w : World} {b : Nat} {T : TypeId} {a : α} {x : GoT.X α} (hh : w.heap[b]? = some (.cells (GoT.sh a x).toArray T (0, 0))) (hf : All (hp w) (GoT.fa .der a x)) : RdSl (hp w) (some ⟨b, 0, none⟩) 1 [a] := by
 refine ⟨Nat.le_refl _, by simp, GoT.sh a x, ?_, ?_⟩
 ·intro j u hj
  refine ⟨_, rfl, ?_⟩
  have hh' : hp w b = some (.cells (GoT.sh a x).toArray T (0, 0)) := hh
  by_cases h0 : j = 0 <;> simp [gcell, Addr.add, h0, hh'] <;> simpa [h0] using hj
 ·exact ⟨x, [], by simp, hf, rfl⟩
def beqO (b : BinOp) (p q : Bool) : Option Bool :=
 match b with
 | .eql => some (p == q)
 | .neq => some (!(p == q))
 | _ => none
theorem looks_beq {C : Cx} {env : Env} {L : Locs} {R : Rows} {G : GH} {o : Oper} {b : BinOp} {x y : Operand} {T T' : Nat} {ti : TI} {p q c : Bool} (ht : TabOk C.P C.tt) (ho : o.op = .binOp b T x y T') (hT : look C.tt T = some ti) (hb : ti.desc = .bool)
  (hx : ev env x = some (.v (.bool p))) (hy : ev env y = some (.v (.bool q))) (hq : beqO b p q = some c) : Looks C env L R G o (.v (.bool c)) := by
 intro a w G' bs _ hA hI
 have hu : C.P.underlying T = some .bool := by rw [← hb]; exact (ht.get hT).1
 have he : (Op.equal T (.bool p) (.bool q)).run C.P w = .ok (p == q) w := run_equalIn_bool (P := C.P) w (Op.maxDepth - 1) T p q hu
 have hq' : (b = .eql ∧ c = (p == q)) ∨ (b = .neq ∧ c = !(p == q)) := by
  cases b <;> simp only [beqO, Option.some.injEq, reduceCtorEq] at hq
  ·exact .inl ⟨rfl, hq.symm⟩
  ·exact .inr ⟨rfl, hq.symm⟩
 unfold execOp
 simp only [ho, ev_conc hA hx, ev_conc hA hy, conc]
 rcases hq' with ⟨rfl, rfl⟩ | ⟨rfl, rfl⟩
 ·simp [eqGuard, binOp, Sem.run_bind, he]
 ·simp [eqGuard, binOp, Sem.run_bind, he]
theorem looks_nil {C : Cx} {env : Env} {L : Locs} {R : Rows} {G : GH} {o : Oper} {x : Operand} {T T' n c : Nat} {p : Option Addr} {ti : TI} {e : Nat} (ht : TabOk C.P C.tt) (ho : o.op = .binOp .eql T x (.const (.slice none 0 0)) T') (hT : look C.tt T = some ti) (hb : ti.desc = .slice e)
  (hx : ev env x = some (.v (.slice p n c))) : Looks C env L R G o (.v (.bool p.isNone)) := by
 intro a w G' bs _ hA hI
 have hu : C.P.underlying T = some (.slice e) := by rw [← hb]; exact (ht.get hT).1
 have he : (Op.equal T (.slice p n c) (.slice none 0 0)).run C.P w = .ok p.isNone w := by
  exact run_equal_slice_nil w T e p n c hu
 unfold execOp
 simp only [ho, ev_conc hA hx, conc]
 simp [eqGuard, binOp, Sem.run_bind, he, Act.eval]
theorem looks_cvt {C : Cx} {env : Env} {L : Locs} {R : Rows} {G : GH} {o : Oper} {x : Operand} {S T : Nat} {si ti : TI} {k q : IntKind} {sd : TypeDesc} {n : Int} (ht : TabOk C.P C.tt) (ho : o.op = .convert S T x) (hS : look C.tt S = some si) (hs : si.desc = sd) (hT : look C.tt T = some ti) (hk : ti.desc = .int k)
  (hx : ev env x = some (.v (.int q n))) : Looks C env L R G o (.v (.int k (k.wrap n))) := by
 intro a w G' bs _ hA hI
 have hu : C.P.underlying T = some (.int k) := by rw [← hk]; exact (ht.get hT).1
 have hv : C.P.underlying S = some sd := by rw [← hs]; exact (ht.get hS).1
 unfold execOp
 simp only [ho, ev_conc hA hx, conc]
 simp [convert, Conv.intToInt, Sem.run_bind, underlying, hu, hv]
def toU8 (n : Int) : UInt8 := UInt8.ofNat (n % 256).toNat
theorem u8_wrap (n : Int) : IntKind.u8.wrap n = ((toU8 n).toNat : Int) := by
 unfold toU8
 rw [UInt8.toNat_ofNat']
 simp [IntKind.wrap, IntKind.bits, IntKind.signed]
 omega
theorem looks_toU8 {C : Cx} {env : Env} {L : Locs} {R : Rows} {G : GH} {o : Oper} {x : Operand} {S T : Nat} {si ti : TI} {sd : TypeDesc} {n : Int} (ht : TabOk C.P C.tt) (ho : o.op = .convert S T x) (hS : look C.tt S = some si) (hs : si.desc = sd) (hT : look C.tt T = some ti) (hk : ti.desc = .int .u8)
  (hx : ev env x = some (.v (.int .i64 n))) : Looks C env L R G o (.v (.int .u8 ((toU8 n).toNat : Int))) := by
 rw [← u8_wrap]; exact looks_cvt ht ho hS hs hT hk hx
theorem looks_ofU8 {C : Cx} {env : Env} {L : Locs} {R : Rows} {G : GH} {o : Oper} {x : Operand} {S T : Nat} {si ti : TI} {sd : TypeDesc} {c : UInt8} (ht : TabOk C.P C.tt) (ho : o.op = .convert S T x) (hS : look C.tt S = some si) (hs : si.desc = sd) (hT : look C.tt T = some ti) (hk : ti.desc = .int .i64)
  (hx : ev env x = some (.v (.int .u8 (c.toNat : Int)))) : Looks C env L R G o (.v (.int .i64 (c.toNat : Int))) := by
 have h := looks_cvt (L := L) (R := R) (G := G) ht ho hS hs hT hk hx
 rwa [wrap_i64 (by have := c.toNat_lt; unfold I64; omega)] at h
theorem looks_strIdx {C : Cx} {env : Env} {L : Locs} {R : Rows} {G : GH} {o : Oper} {x y : Operand} {T : Nat} {ti : TI} {s : Str} {i : Nat} {c : UInt8} (ht : TabOk C.P C.tt) (ho : o.op = .index T x y) (hT : look C.tt T = some ti) (hk : ti.desc = .string)
  (hx : ev env x = some (.v (.string s))) (hy : ev env y = some (.v (.int .i64 (i : Int)))) (hc : s.data.toList[i]? = some c) : Looks C env L R G o (.v (.int .u8 c.toNat)) := by
 intro a w G' bs _ hA hI
 have hu : C.P.underlying T = some .string := by rw [← hk]; exact (ht.get hT).1
 have hc' : s[i]? = some c := by
  have h1 : s.data[i]? = some c := by simpa using hc
  obtain ⟨hlt, he⟩ := Array.getElem?_eq_some_iff.1 h1
  rw [getElem?_pos s i hlt]; rw [← he]; rfl
 unfold execOp
 simp only [ho, ev_conc hA hx, ev_conc hA hy, conc]
 simp [Instr.index, asIntOf, Sem.run_bind, underlying, hu, hc']
theorem i64_wrap (x : Int) : I64 (IntKind.i64.wrap x) := by
 unfold I64
 simp [IntKind.wrap, IntKind.bits, IntKind.signed]
 split <;> omega

theorem okl {α : Type} [GoT α] {n : Nat} {l : List α} (h : GoT.ok n l) : l.length ≤ bd n ∧ ∀ z ∈ l, GoT.ok n z := h
theorem okl_of {α : Type} [GoT α] {n : Nat} {l : List α} (h : l.length ≤ bd n ∧ ∀ z ∈ l, GoT.ok n z) : GoT.ok n l := h
theorem okl_mk {α : Type} [GoT α] {n : Nat} {l : List α} (h : l.length ≤ bd n) (k : ∀ z ∈ l, GoT.ok n z) : GoT.ok n l := ⟨h, k⟩
theorem ok_nil {α : Type} [GoT α] {n : Nat} : GoT.ok n ([] : List α) := ⟨Nat.zero_le _, fun _ h => by cases h⟩
inductive Ctl (ρ σ : Type) where
 | ret (r : ρ)
 | nxt (s : σ)
theorem drop_get {α : Type} {l : List α} {i : Nat} {e : α} (h : l[i]? = some e) : l.drop i = e :: l.drop (i + 1) := by
 obtain ⟨hi, rfl⟩ := List.getElem?_eq_some_iff.1 h
 exact List.drop_eq_getElem_cons hi
theorem all_cons {α : Type} {p : α → Prop} {a : α} {l : List α} (h : p a) (k : ∀ x ∈ l, p x) : ∀ x ∈ a :: l, p x := fun x hx => by
 rcases List.mem_cons.1 hx with rfl | hx
 ·exact h
 ·exact k x hx
theorem all_app {α : Type} {p : α → Prop} {l m : List α} (k : ∀ x ∈ l, p x) (h : ∀ x ∈ m, p x) : ∀ x ∈ l ++ m, p x := fun x hx => (List.mem_append.1 hx).elim (k x) (h x)
section
variable {α : Type} [GoT α]
theorem ol_one {h : GH} {a : α} {x : X α} (hs : Sep h (oa a x)) : Sep h [MF.ol (sh a x) [a]] := one_sep ⟨x, [], h, emp, by simp, Le.refl _, emp_le _, (emp_dj _).symm, hs, rfl⟩
theorem ol_snoc {h : GH} {xs : List Value} {l : List α} {a : α} {x : X α} (hs : Sep h (MF.ol xs l :: oa a x)) : Sep h [MF.ol (xs ++ sh a x) (l ++ [a])] := by
 obtain ⟨h1, h2, q1, q2, q3, q4, q5⟩ := hs
 exact one_sep (OwL.snoc q5 (q4 : OwL h1 xs l) q1 q2 q3)
theorem ol_app {h : GH} {xs ys : List Value} {l m : List α} (hs : Sep h [MF.ol xs l, MF.ol ys m]) : Sep h [MF.ol (xs ++ ys) (l ++ m)] := by
 obtain ⟨h1, h2, q1, q2, q3, q4, q5⟩ := hs
 exact one_sep (OwL.append (sep_one q5 : OwL h2 ys m) (q4 : OwL h1 xs l) q1 q2 q3)
theorem ol_flat {h : GH} {xs ys : List Value} {l m : List α} (hs : Sep h [MF.ol xs l]) (hf : ∀ h, OwL h ys m) : Sep h [MF.ol (xs ++ ys) (l ++ m)] :=
 one_sep (OwL.append (hf emp) (sep_one hs : OwL h xs l) (Le.refl _) (emp_le _) ((emp_dj _).symm))
theorem rdSl_none {G : GH} {c : Nat} {l : List α} (h : RdSl G none c l) : l = [] := by
 obtain ⟨_, _, xs, h1, h2⟩ := h
 have hl := h2.len
 have : xs = [] := by
  cases xs with
  | nil => rfl
  | cons u r => obtain ⟨a, ha, _⟩ := h1 0 u rfl; cases ha
 subst this
 have hp := GoT.pos (α := α)
 cases l with
 | nil => rfl
 | cons a r => simp only [List.length_nil, List.length_cons, Nat.add_mul] at hl; omega
end
theorem WX.appR1 {C : Cx} {ops : Array Oper} {o : Oper} {r : List Oper} {s : List It} {env : Env} {L : Locs} {R : Rows} {Γ : Facts} {d : Nat} {x y : Operand} {T kk by_ : Nat} {z : Value} {row src : Row} (ρ σ n' : Nat) {R' : Option Addr → Nat → Rows} (ht : TabOk C.P C.tt)
  (hg : gd ops env o = some true) (hd : o.dst = some d) (hlt : Nat.blt d C.fn.ntmps = true) (ho : o.op = .call { callee := .builtin .append, args := #[x, y], argTypes := #[T, T] })
  (hx : ev env x = some (.v (.slice row.p row.n row.c))) (hy : ev env y = some (.v (.slice src.p src.n src.c))) (hap : appO C.tt T = some (kk, by_, z)) (hz : z.cells.size = kk) (hρ : look R ρ = some row) (hσ : look R σ = some src) (hkk : row.k = kk) (hks : src.k = kk) (hfree : envFree ρ env = true)
  (hone : ∀ u ∈ src.xs, u.oneCell' = true) (hn : row.n + src.n = n') (hroom : n' * by_ ≤ 140737488355328) (hmax : n' ≤ 9223372036854775807)
  (hR : ∀ p' c', setRO R ρ ⟨row.k, p', n', c', row.xs ++ src.xs⟩ = some (R' p' c'))
  (k : ∀ p' c', WX C (.ops ops r :: s) ((d, .v (.slice p' n' c')) :: env) L (R' p' c') Γ) : WX C (.ops ops (o :: r) :: s) env L R Γ := by
 subst hn
 exact WX.appR ρ σ ht hg hd hlt ho hx hy hap hz hρ hσ hkk hks hfree hone hroom (by simp only [maxLen]; omega) hR k
theorem WX.appG1 {C : Cx} {ops : Array Oper} {o : Oper} {r : List Oper} {s : List It} {env : Env} {L : Locs} {R : Rows} {Γ : Facts} {d : Nat} {x y : Operand} {T by_ q c : Nat} {z : Value} {row : Row} {α : Type} [GoT α] {kd : Kd} {p : Option Addr} {l : List α} (ρ ℓ n n' : Nat) {R' : List Value → Option Addr → Nat → Rows} (ht : TabOk C.P C.tt)
  (hg : gd ops env o = some true) (hd : o.dst = some d) (hlt : Nat.blt d C.fn.ntmps = true) (ho : o.op = .call { callee := .builtin .append, args := #[x, y], argTypes := #[T, T] })
  (hx : ev env x = some (.v (.slice row.p row.n row.c))) (hy : ev env y = some (.v (.slice p q c))) (hq : q = l.length) (hap : appO C.tt T = some (GoT.k α, by_, z)) (hz : z.cells.size = GoT.k α) (hρ : look R ρ = some row) (hkk : row.k = GoT.k α) (hfree : envFree ρ env = true)
  (hℓ : look Γ ℓ = some (MF.rs kd p c l)) (hn : row.n + l.length = n') (hroom : n' * by_ ≤ 140737488355328) (hmax : n' ≤ 9223372036854775807)
  (hR : ∀ xs p' c', setRO R ρ ⟨row.k, p', n', c', row.xs ++ xs⟩ = some (R' xs p' c'))
  (k : ∀ xs p' c', WX C (.ops ops r :: s) ((d, .v (.slice p' n' c')) :: env) L (R' xs p' c') ((n, MF.rl .der xs l) :: Γ)) : WX C (.ops ops (o :: r) :: s) env L R Γ := by
 subst hn
 exact WX.appG ρ ℓ n ht hg hd hlt ho hx hy hq hap hz hρ hkk hfree hℓ hroom (by simp only [maxLen]; omega) hR k
end Go.Stp

namespace Go.Stp
open GoT (X k ok sh fa oa)
theorem HInv.respell {C : Cx} {w : World} {G : GH} {bs : Nat → Nat} {L : Locs} {R R' : Rows} (hI : HInv C w G bs L R) (h : ∀ i r, look R' i = some r → look R i = some r) : HInv C w G bs L R' := hI.sub (Sub.refl _) h
theorem look_setR_same {R : Rows} {ρ : Nat} {row : Row} (h : look R ρ = some row) : ∀ i r, look (setR R ρ row) i = some r → look R i = some r := fun i r hr => by
 rw [look_setR] at hr
 split at hr
 ·rename_i e; subst e; rw [h] at hr ⊢; simpa using hr
 ·exact hr
theorem WX.opnE {C : Cx} {s : List It} {env : Env} {L : Locs} {R : Rows} {Γ Γ1 : Facts} {α : Type} [GoT α] {row : Row} {l : List α} {e : α} {cs : X α → List Value} {R' : List Value → List Value → X α → Rows} {Γ' : List Value → List Value → X α → Facts} (ρ ℓ n i : Nat) (hρ : look R ρ = some row) (hk : row.k = k α) (hℓ : giveK [ℓ] Γ = some ([MF.ol row.xs l], Γ1)) (hi : l[i]? = some e)
  (hcs : ∀ x, normL (sh e x) = some (cs x)) (hR : ∀ A B x, setRO R ρ ⟨row.k, row.p, row.n, row.c, A ++ cs x ++ B⟩ = some (R' A B x)) (hΓ' : ∀ A B x, addF n (fa .der e x ++ (oa e x ++ [MF.ol A (l.take i), MF.ol B (l.drop (i + 1))])) Γ1 = some (Γ' A B x))
  (k : ∀ A B x, A.length = i * k α → B.length = (l.length - (i + 1)) * k α → WX C s env L (R' A B x) (Γ' A B x)) : WX C s env L R Γ := by
 rintro a w ⟨G, bs, hA, hI, hΓ⟩
 obtain ⟨H, q1, q2, q3, q4⟩ := giveK_spec hℓ hΓ
 have hol : OwL H row.xs l := sep_one q3
 obtain ⟨hlt, rfl⟩ := List.getElem?_eq_some_iff.1 hi
 have hsp : l = l.take i ++ (l[i] :: l.drop (i + 1)) := by rw [← List.drop_eq_getElem_cons hlt, List.take_append_drop]
 have hlen := hol.len
 rw [hsp] at hol
 obtain ⟨h1, h2, a1, a2, a3, a4, a5⟩ := hol.split
 have hti : (l.take i).length = i := by simp; omega
 rw [hti] at a4 a5
 obtain ⟨x, ys, g1, g2, e1, r1, r2, r3, r4, r5⟩ := a5
 have hk1 : (i + 1) * GoT.k α ≤ l.length * GoT.k α := Nat.mul_le_mul_right _ hlt
 have hk2 : (i + 1) * GoT.k α = i * GoT.k α + GoT.k α := by rw [Nat.add_mul, Nat.one_mul]
 have hxs : row.xs = row.xs.take (i * GoT.k α) ++ cs x ++ ys := by
  rw [normL_eq (hcs x), List.append_assoc, ← e1, List.take_append_drop]
 have hys : ys.length = (l.length - (i + 1)) * GoT.k α := by
  have := r5.len
  rw [this]; simp
 refine k (row.xs.take (i * GoT.k α)) ys x (by simp; omega) hys a w ⟨G, bs, hA, ?_, ?_⟩
 ·rw [setRO_eq (hR _ _ _), ← hxs]
  exact hI.respell (look_setR_same hρ)
 ·have hsep : Sep H (oa l[i] x ++ [MF.ol (row.xs.take (i * GoT.k α)) (l.take i), MF.ol ys (l.drop (i + 1))]) :=
   Sep.both (r1.trans a2) (join_le a1 (r2.trans a2)) ((join_dj (a3.mono (Le.refl _) r1) r3.symm).symm) r4
    ⟨h1, g2, le_join_l _ _, le_join_r (a3.mono (Le.refl _) r2), a3.mono (Le.refl _) r2, a4, one_sep r5⟩
  have := q4.after (cut_dj G H).symm q2 hsep (fun f hf => GoT.fak f hf) ((GoT.ow_rd (kd := .der) r4).mono (r1.trans a2)) (hΓ' _ _ x)
  rwa [cut_join q1] at this
theorem cl_elem {α : Type} [GoT α] {h : GH} {A B : List Value} {l : List α} {i : Nat} {e : α} {x : X α} (hi : i < l.length) (hs : Sep h (oa e x ++ [MF.ol A (l.take i), MF.ol B (l.drop (i + 1))])) : Sep h [MF.ol (A ++ sh e x ++ B) (l.set i e)] := by
 obtain ⟨h1, h2, a1, a2, a3, a4, a5⟩ := hs.append
 obtain ⟨q1, q2, r1, r2, r3, r4, r5⟩ := a5
 have hs' : l.set i e = l.take i ++ [e] ++ l.drop (i + 1) := by
  rw [List.set_eq_take_append_cons_drop, if_pos hi]; simp
 rw [hs']
 refine one_sep ?_
 exact OwL.append (sep_one r5 : OwL q2 B (l.drop (i + 1))) (h := join q1 h1) (OwL.snoc a4 (r4 : OwL q1 A (l.take i)) (le_join_l _ _) (le_join_r ((a3.mono (Le.refl _) r1).symm)) ((a3.mono (Le.refl _) r1).symm)) (join_le (r1.trans a2) a1) (r2.trans a2) (join_dj r3 (a3.mono (Le.refl _) r2))
theorem WX.ldA {C : Cx} {ops : Array Oper} {o : Oper} {r : List Oper} {s : List It} {env : Env} {L : Locs} {R : Rows} {Γ : Facts} {d : Nat} {x : Operand} {T i kk off : Nat} {ti : TI} {ad : Addr} {row : Row} {A B cs : List Value} {v : Value} (ρ : Nat) (ht : TabOk C.P C.tt)
  (hg : gd ops env o = some true) (hd : o.dst = some d) (hlt : Nat.blt d C.fn.ntmps = true) (ho : o.op = .load T x)
  (hx : ev env x = some (.e (some ad) i kk off)) (hT : look C.tt T = some ti) (hρ : look R ρ = some row) (hp : row.p = some ad) (hk : row.k = kk) (hxs : row.xs = A ++ cs ++ B) (hA : A.length = i * kk) (hn : i < row.n)
  (hv : asm ti cs off = some v) (k : WX C (.ops ops r :: s) ((d, .v v) :: env) L R Γ) : WX C (.ops ops (o :: r) :: s) env L R Γ := by
 rintro a' w ⟨G, bs, hAt, hI, hΓ⟩
 have hrow := hI.row ρ row hρ
 obtain ⟨o1, hp', hc0, cur, T', hh, hcs, htk, hnc⟩ := hrow.some (by omega)
 rw [hp] at hp'; simp at hp'; subst hp'
 have hc : ∀ j u, cs[j]? = some u → w.cell? (((⟨bs ρ, o1, none⟩ : Addr).add (i * kk)).add j) = some u := fun j u hj => by
  have h8 : row.xs[i * kk + j]? = some u := by
   rw [hxs, List.append_assoc, List.getElem?_append_right (by omega), hA, show i * kk + j - i * kk = j by omega, List.getElem?_append_left (List.getElem?_eq_some_iff.1 hj).1]; exact hj
  rw [← htk, List.getElem?_take, List.getElem?_drop] at h8
  rw [addr_add_add, Addr.add_lit, cell_of_row w _ _ cur T' _ hh]
  split at h8
  ·simpa using h8
  ·cases h8
 have hl : (execOp a'.eval o).run C.P w = .ok (.value v) w := by
  unfold execOp
  have hrun := run_loadVar (P := C.P) ht hT (w := w) (a := (⟨bs ρ, o1, none⟩ : Addr).add (i * kk)) (cs := cs) (off := off) (v := v) hc hv
  simp only [ho, ev_conc hAt hx, conc, Instr.loadAt, Instr.sureAddr, Sem.run_bind, Sem.run_pure, Result.andThen_ok, hrun]
 show wpList C.P ops (cont C s) (o :: r) a' w
 unfold wpList
 rw [if_pos (gd_sound hAt hg)]
 refine .inl ?_
 unfold Oper.wp
 rw [hl]
 simp only [Oper.upon, hd]
 exact k _ _ ⟨G, bs, hAt.put (by simpa [Nat.blt_eq] using hlt) (.v v), hI, hΓ⟩
theorem WX.stA {C : Cx} {ops : Array Oper} {o : Oper} {r : List Oper} {s : List It} {env : Env} {L : Locs} {R R' : Rows} {Γ : Facts} {x y : Operand} {T kk i off : Nat} {ti : TI} {ad : Addr} {sv : SV} {v : Value} {A B cs cs' vs : List Value} {row : Row} (ρ : Nat) (ht : TabOk C.P C.tt)
  (hg : gd ops env o = some true) (hd : o.dst = none) (ho : o.op = .store T x y)
  (hx : ev env x = some (.e (some ad) i kk off)) (hy : ev env y = some sv) (hv : valO sv = some v) (hT : look C.tt T = some ti) (hvs : cellsO ti v = some vs) (hlen : Nat.beq vs.length ti.size = true) (hone : oneB vs = true)
  (hρ : look R ρ = some row) (hp : row.p = some ad) (hk : row.k = kk) (hxs : row.xs = A ++ cs ++ B) (hA : A.length = i * kk) (hi : i < row.n) (hfit : Nat.ble (off + vs.length) kk = true) (hck : Nat.beq cs.length kk = true) (hfree : envFree ρ env = true) (hsp : spliceO cs off vs = some cs') (hne : vs ≠ [])
  (hR : setRO R ρ ⟨row.k, row.p, row.n, row.c, A ++ cs' ++ B⟩ = some R')
  (k : WX C (.ops ops r :: s) env L R' Γ) : WX C (.ops ops (o :: r) :: s) env L R Γ := by
 subst hk
 have hck' : cs.length = row.k := Nat.eq_of_beq_eq_true hck
 obtain ⟨_, q2, q3, _⟩ := spliceO_some _ _ _ _ hsp
 have hq := q3 hne
 have hfit' := Nat.le_of_ble_eq_true hfit
 have heq : row.xs.take (i * row.k + off) ++ vs ++ row.xs.drop (i * row.k + off + vs.length) = A ++ cs' ++ B := by
  rw [hxs, ← hA, hq]
  exact splice_in A cs B vs off (by omega)
 refine WX.stR (R' := R') ρ ht hg hd ho hx hy hv hT hvs hlen hone hρ hp rfl hi hfit hfree ?_ k
 rw [heq]; exact hR
theorem all_set {α : Type} {p : α → Prop} {a : α} {l : List α} {i : Nat} (k : ∀ x ∈ l, p x) (h : p a) : ∀ x ∈ l.set i a, p x := fun x hx => by
 rcases List.mem_or_eq_of_mem_set hx with hx | rfl
 ·exact k x hx
 ·exact h
end Go.Stp

namespace Go.Stp
open GoT (X k ok sh fa oa)
theorem looks_rem {C : Cx} {env : Env} {L : Locs} {R : Rows} {G : GH} {o : Oper} {x y : Operand} {T T' : Nat} {m n : Int} (ho : o.op = .binOp .rem T x y T') (hx : ev env x = some (.v (.int .i64 m))) (hy : ev env y = some (.v (.int .i64 n))) (h0 : n ≠ 0) : Looks C env L R G o (.v (.int .i64 (m.tmod n))) := by
 intro a w G' bs _ hA hI
 unfold execOp
 simp [ho, ev_conc hA hx, ev_conc hA hy, conc, eqGuard, binOp, Op.intDiv, h0]
theorem tmod_rng (x : Int) {y : Int} (h : 0 < y) : -y < x.tmod y ∧ x.tmod y < y := by
 have h1 := Int.tmod_lt_of_pos x h
 have h2 : -y < x.tmod y := by
  by_cases hx : 0 ≤ x
  ·have := Int.tmod_nonneg y hx; omega
  ·have h3 := Int.neg_tmod (a := x) (b := y)
   have h4 := Int.tmod_lt_of_pos (-x) h
   omega
 exact ⟨h2, h1⟩
theorem looks_shr {C : Cx} {env : Env} {L : Locs} {R : Rows} {G : GH} {o : Oper} {x y : Operand} {T T' : Nat} {m n : Int} {q : IntKind} (ho : o.op = .binOp .shr T x y T') (hx : ev env x = some (.v (.int .i64 m))) (hy : ev env y = some (.v (.int q n))) (h0 : 0 ≤ n) : Looks C env L R G o (.v (.int .i64 (m.fdiv (2 ^ (min n.toNat 64))))) := by
 intro a w G' bs _ hA hI
 unfold execOp
 have h1 : ¬ n < 0 := by omega
 simp [ho, ev_conc hA hx, ev_conc hA hy, conc, eqGuard, binOp, Op.shift, h1, IntKind.bits]
def bitO (b : BinOp) (x y : Int) : Int :=
 match b with
 | .and => IntKind.i64.wrap ((BitVec.ofInt 64 x &&& BitVec.ofInt 64 y).toNat : Int)
 | .or => IntKind.i64.wrap ((BitVec.ofInt 64 x ||| BitVec.ofInt 64 y).toNat : Int)
 | .xor => IntKind.i64.wrap ((BitVec.ofInt 64 x ^^^ BitVec.ofInt 64 y).toNat : Int)
 | _ => IntKind.i64.wrap ((BitVec.ofInt 64 x &&& ~~~ BitVec.ofInt 64 y).toNat : Int)
def isBit : BinOp → Bool
 | .and | .or | .xor | .andNot => true
 | _ => false
theorem bitO_I64 (b : BinOp) (x y : Int) : I64 (bitO b x y) := by
 unfold bitO; split <;> exact i64_wrap _
theorem looks_bits {C : Cx} {env : Env} {L : Locs} {R : Rows} {G : GH} {o : Oper} {b : BinOp} {x y : Operand} {T T' : Nat} {m n : Int} (ho : o.op = .binOp b T x y T') (hb : isBit b = true) (hx : ev env x = some (.v (.int .i64 m))) (hy : ev env y = some (.v (.int .i64 n))) : Looks C env L R G o (.v (.int .i64 (bitO b m n))) := by
 intro a w G' bs _ hA hI
 unfold execOp
 cases b <;> simp [isBit] at hb <;> simp only [ho, ev_conc hA hx, ev_conc hA hy, conc] <;> simp [eqGuard, binOp, Op.intBits, bitO] <;> rfl
def bstr (l : List UInt8) : Str := ⟨l.toArray⟩
theorem foldl_push : ∀ (l : List UInt8) (s : ByteArray), (l.map fun c => ((c.toNat : Nat) : Int)).foldl (fun r n => r.push (UInt8.ofNat n.toNat)) s = ⟨s.data ++ l.toArray⟩
 | [], s => by simp
 | c :: l, s => by
  simp only [List.map_cons, List.foldl_cons]
  rw [foldl_push l]
  have : (s.push (UInt8.ofNat ((c.toNat : Int)).toNat)).data = s.data.push c := by
   show s.data.push _ = _
   simp
  rw [this]
  simp
theorem rdL_bytes {G : GH} : ∀ {xs : List Value} {l : List UInt8}, RdL G xs l → xs = l.map fun c => Value.int .u8 (c.toNat : Int)
 | xs, [], h => h
 | xs, c :: l, ⟨x, ys, e, _, r⟩ => by rw [e, rdL_bytes r]; rfl
theorem looks_toStr {C : Cx} {env : Env} {L : Locs} {R : Rows} {G : GH} {o : Oper} {x : Operand} {S T E n c : Nat} {si ti te : TI} {p : Option Addr} {l : List UInt8} (ht : TabOk C.P C.tt) (hr : RdSl G p c l) (ho : o.op = .convert S T x) (hS : look C.tt S = some si) (hs : si.desc = .slice E) (hE : look C.tt E = some te) (he : te.desc = .int .u8) (hT : look C.tt T = some ti) (hk : ti.desc = .string)
  (hx : ev env x = some (.v (.slice p n c))) (hn : n = l.length) : Looks C env L R G o (.v (.string (bstr l))) := by
 intro a w G' bs hle hA hI
 have hu : C.P.underlying T = some .string := by rw [← hk]; exact (ht.get hT).1
 have hv : C.P.underlying S = some (.slice E) := by rw [← hs]; exact (ht.get hS).1
 have hw : C.P.underlying E = some (.int .u8) := by rw [← he]; exact (ht.get hE).1
 unfold execOp
 simp only [ho, ev_conc hA hx, conc]
 simp only [Sem.run_bind, run_convert_bytes_string w S T E p n c hv hw hu]
 have hrun : (Conv.bytesToString (.slice p n c)).run C.P w = .ok (.string (bstr l)) w := by
  cases hp : p with
  | none =>
   subst hp
   rw [rdSl_none hr]
   simp [Conv.bytesToString, bstr]
   rfl
  | some ad =>
   subst hp
   obtain ⟨_, _, xs, h4, h5⟩ := hr
   have hxs := rdL_bytes h5
   have hld := run_loadCells_list (P := C.P) w ad xs (fun j u hj => by
    obtain ⟨a', ha, hg⟩ := h4 j u hj
    simp at ha; subst ha
    exact hI.le.cell (gcell_mono hle hg))
   have hlen : xs.length = n := by rw [hxs, hn]; simp
   rw [hlen, hxs] at hld
   have := run_bytesToString (P := C.P) w ad n c (l.map fun c => ((c.toNat : Nat) : Int)) (by rw [hld]; simp [Function.comp_def])
   rw [this, foldl_push]
   simp [bstr]
 rw [hrun]; rfl
end Go.Stp

namespace Go.Stp
structure Name where
 parts : List Str
instance : Inhabited Name := ⟨⟨default⟩⟩
instance : GoT Name := GoT.via fun e => e.parts
theorem ok_Name {n : Nat} {a : Name} (h : GoT.ok n a) : GoT.ok n a.parts := h
structure Pattern where
 parts : List Str
instance : Inhabited Pattern := ⟨⟨default⟩⟩
instance : GoT Pattern := GoT.via fun e => e.parts
structure Binding where
 letter : Str
 value : Str
instance : Inhabited Binding := ⟨⟨default, default⟩⟩
instance : GoT Binding := GoT.via fun e => (e.letter, e.value)
instance : Flat Binding := ⟨fun a x => Flat.f (let e := a; (e.letter, e.value)) x, fun a x => Flat.o (let e := a; (e.letter, e.value)) x⟩
structure TableEntry where
 name : Name
 value : Int
instance : Inhabited TableEntry := ⟨⟨default, default⟩⟩
instance : GoT TableEntry := GoT.via fun e => (e.name, e.value)
theorem ok_TableEntry {n : Nat} {a : TableEntry} (h : GoT.ok n a) : GoT.ok n a.name ∧ GoT.ok n a.value := h
structure Interest where
 name : Name
 nonce : Int
 hopLimit : Int
 lifetime : Int
instance : Inhabited Interest := ⟨⟨default, default, default, default⟩⟩
instance : GoT Interest := GoT.via fun e => (e.name, e.nonce, e.hopLimit, e.lifetime)
structure DataP where
 name : Name
 content : List UInt8
 keyName : Name
 freshUntil : Int
 signature : Int
instance : Inhabited DataP := ⟨⟨default, default, default, default, default⟩⟩
instance : GoT DataP := GoT.via fun e => (e.name, e.content, e.keyName, e.freshUntil, e.signature)
structure Key where
 name : Name
 secret : Int
instance : Inhabited Key := ⟨⟨default, default⟩⟩
instance : GoT Key := GoT.via fun e => (e.name, e.secret)
structure Rule where
 dataPattern : Pattern
 keyPattern : Pattern
instance : Inhabited Rule := ⟨⟨default, default⟩⟩
instance : GoT Rule := GoT.via fun e => (e.dataPattern, e.keyPattern)
structure TrustPolicy where
 keys : List Key
 rules : List Rule
 anchors : List Name
 certificates : List DataP
instance : Inhabited TrustPolicy := ⟨⟨default, default, default, default⟩⟩
instance : GoT TrustPolicy := GoT.via fun e => (e.keys, e.rules, e.anchors, e.certificates)
structure CacheEntry where
 data : DataP
 lastUsed : Int
instance : Inhabited CacheEntry := ⟨⟨default, default⟩⟩
instance : GoT CacheEntry := GoT.via fun e => (e.data, e.lastUsed)
structure ContentStore where
 capacity : Int
 entries : List CacheEntry
instance : Inhabited ContentStore := ⟨⟨default, default⟩⟩
instance : GoT ContentStore := GoT.via fun e => (e.capacity, e.entries)
structure Requester where
 face : Int
 nonce : Int
 expiry : Int
instance : Inhabited Requester := ⟨⟨default, default, default⟩⟩
instance : GoT Requester := GoT.via fun e => (e.face, e.nonce, e.expiry)
instance : Flat Requester := ⟨fun a x => Flat.f (let e := a; (e.face, e.nonce, e.expiry)) x, fun a x => Flat.o (let e := a; (e.face, e.nonce, e.expiry)) x⟩
structure PendingInterest where
 name : Name
 requesters : List Requester
 lastSent : Int
instance : Inhabited PendingInterest := ⟨⟨default, default, default⟩⟩
instance : GoT PendingInterest := GoT.via fun e => (e.name, e.requesters, e.lastSent)
structure SeenNonce where
 name : Name
 nonce : Int
instance : Inhabited SeenNonce := ⟨⟨default, default⟩⟩
instance : GoT SeenNonce := GoT.via fun e => (e.name, e.nonce)
structure Route where
 pfx : Name
 face : Int
 cost : Int
instance : Inhabited Route := ⟨⟨default, default, default⟩⟩
instance : GoT Route := GoT.via fun e => (e.pfx, e.face, e.cost)
structure Measurement where
 pfx : Name
 face : Int
 failures : Int
instance : Inhabited Measurement := ⟨⟨default, default, default⟩⟩
instance : GoT Measurement := GoT.via fun e => (e.pfx, e.face, e.failures)
structure NodeP where
 locl : List DataP
 cache : ContentStore
 pending : List PendingInterest
 seen : List SeenNonce
 routes : List Route
 measurements : List Measurement
 dropped : Int
instance : Inhabited NodeP := ⟨⟨default, default, default, default, default, default, default⟩⟩
instance : GoT NodeP := GoT.via fun e => (e.locl, e.cache, e.pending, e.seen, e.routes, e.measurements, e.dropped)
structure Outgoing where
 face : Int
 isInterest : Bool
 interest : Interest
 data : DataP
instance : Inhabited Outgoing := ⟨⟨default, default, default, default⟩⟩
instance : GoT Outgoing := GoT.via fun e => (e.face, e.isInterest, e.interest, e.data)
structure Action where
 node : NodeP
 outgoing : List Outgoing
instance : Inhabited Action := ⟨⟨default, default⟩⟩
instance : GoT Action := GoT.via fun e => (e.node, e.outgoing)
structure Link where
 a : Int
 b : Int
instance : Inhabited Link := ⟨⟨default, default⟩⟩
instance : GoT Link := GoT.via fun e => (e.a, e.b)
instance : Flat Link := ⟨fun a x => Flat.f (let e := a; (e.a, e.b)) x, fun a x => Flat.o (let e := a; (e.a, e.b)) x⟩
structure Topology where
 size : Int
 links : List Link
instance : Inhabited Topology := ⟨⟨default, default⟩⟩
instance : GoT Topology := GoT.via fun e => (e.size, e.links)
structure Advertisement where
 origin : Int
 version : Int
 neighbors : List Int
 prefixes : List Name
instance : Inhabited Advertisement := ⟨⟨default, default, default, default⟩⟩
instance : GoT Advertisement := GoT.via fun e => (e.origin, e.version, e.neighbors, e.prefixes)
structure Manifest where
 segmentSize : Int
 length : Int
 digests : List Int
instance : Inhabited Manifest := ⟨⟨default, default, default⟩⟩
instance : GoT Manifest := GoT.via fun e => (e.segmentSize, e.length, e.digests)
structure Segment where
 content : List UInt8
instance : Inhabited Segment := ⟨⟨default⟩⟩
instance : GoT Segment := GoT.via fun e => e.content
structure Fetcher where
 manifest : Manifest
 received : Int
 segments : List Segment
 outstanding : Int
 window : Int
 threshold : Int
 losses : Int
instance : Inhabited Fetcher := ⟨⟨default, default, default, default, default, default, default⟩⟩
instance : GoT Fetcher := GoT.via fun e => (e.manifest, e.received, e.segments, e.outstanding, e.window, e.threshold, e.losses)
structure Grant where
 name : Name
 secret : Int
instance : Inhabited Grant := ⟨⟨default, default⟩⟩
instance : GoT Grant := GoT.via fun e => (e.name, e.secret)
structure Reader where
 node : Int
 name : Name
 epoch : Int
instance : Inhabited Reader := ⟨⟨default, default, default⟩⟩
instance : GoT Reader := GoT.via fun e => (e.node, e.name, e.epoch)
structure StateVector where
 entries : List TableEntry
instance : Inhabited StateVector := ⟨⟨default⟩⟩
instance : GoT StateVector := GoT.via fun e => e.entries
theorem ok_StateVector {n : Nat} {a : StateVector} (h : GoT.ok n a) : GoT.ok n a.entries := h
structure Publication where
 publisher : Name
 seq : Int
 content : List UInt8
instance : Inhabited Publication := ⟨⟨default, default, default⟩⟩
instance : GoT Publication := GoT.via fun e => (e.publisher, e.seq, e.content)
theorem ok_Publication {n : Nat} {a : Publication} (h : GoT.ok n a) : GoT.ok n a.publisher ∧ GoT.ok n a.seq ∧ GoT.ok n a.content := h
structure Member where
 name : Name
 vector : StateVector
 publications : List Publication
instance : Inhabited Member := ⟨⟨default, default, default⟩⟩
instance : GoT Member := GoT.via fun e => (e.name, e.vector, e.publications)
theorem ok_Member {n : Nat} {a : Member} (h : GoT.ok n a) : GoT.ok n a.name ∧ GoT.ok n a.vector ∧ GoT.ok n a.publications := h
structure Record where
 kind : Int
 data : DataP
instance : Inhabited Record := ⟨⟨default, default⟩⟩
instance : GoT Record := GoT.via fun e => (e.kind, e.data)
structure Log where
 durable : List Record
 volatile : List Record
instance : Inhabited Log := ⟨⟨default, default⟩⟩
instance : GoT Log := GoT.via fun e => (e.durable, e.volatile)
structure Repository where
 log : Log
 quota : Int
instance : Inhabited Repository := ⟨⟨default, default⟩⟩
instance : GoT Repository := GoT.via fun e => (e.log, e.quota)
structure Consumer where
 node : Int
 index : Int
 name : Name
 attempts : Int
 wait : Int
 satisfied : Bool
 data : DataP
instance : Inhabited Consumer := ⟨⟨default, default, default, default, default, default, default⟩⟩
instance : GoT Consumer := GoT.via fun e => (e.node, e.index, e.name, e.attempts, e.wait, e.satisfied, e.data)
structure PacketInFlight where
 to : Int
 face : Int
 isInterest : Bool
 interest : Interest
 data : DataP
instance : Inhabited PacketInFlight := ⟨⟨default, default, default, default, default⟩⟩
instance : GoT PacketInFlight := GoT.via fun e => (e.to, e.face, e.isInterest, e.interest, e.data)
structure Network where
 topology : Topology
 trust : TrustPolicy
 producers : List TableEntry
 nodes : List NodeP
 downNodes : Int
 failedLinks : List Int
 inFlight : List PacketInFlight
 consumers : List Consumer
 now : Int
 dropped : Int
instance : Inhabited Network := ⟨⟨default, default, default, default, default, default, default, default, default, default⟩⟩
instance : GoT Network := GoT.via fun e => (e.topology, e.trust, e.producers, e.nodes, e.downNodes, e.failedLinks, e.inFlight, e.consumers, e.now, e.dropped)
structure EventP where
 kind : Int
 n : Int
 name : Name
 forged : PacketInFlight
instance : Inhabited EventP := ⟨⟨default, default, default, default⟩⟩
instance : GoT EventP := GoT.via fun e => (e.kind, e.n, e.name, e.forged)
structure SyncGroup where
 topology : Topology
 members : List Member
instance : Inhabited SyncGroup := ⟨⟨default, default⟩⟩
instance : GoT SyncGroup := GoT.via fun e => (e.topology, e.members)
structure AccessController where
 keys : List Key
 master : Int
 epoch : Int
 readers : List Reader
instance : Inhabited AccessController := ⟨⟨default, default, default, default⟩⟩
instance : GoT AccessController := GoT.via fun e => (e.keys, e.master, e.epoch, e.readers)
end Go.Stp

namespace Go.Stp
class Sz (α : Type) [GoT α] where
 n : α → Nat
 low : ∀ {a : α}, GoT.ok 10 a → n a ≤ 1048576 → GoT.ok 0 a
def sz {α : Type} [GoT α] [Sz α] (a : α) : Nat := Sz.n a
instance : Sz ByteArray := ⟨fun s => s.size, fun _ h => h⟩
instance : Sz UInt8 := ⟨fun _ => 0, fun _ _ => trivial⟩
instance : Sz Bool := ⟨fun _ => 0, fun _ _ => trivial⟩
instance : Sz Int := ⟨fun _ => 0, fun h _ => h⟩
def szL {α : Type} [GoT α] [Sz α] (l : List α) : Nat := (l.map sz).sum
theorem sz_le_sum {α : Type} [GoT α] [Sz α] : ∀ {l : List α} {a : α}, a ∈ l → sz a ≤ szL l
 | b :: l, a, h => by
  unfold szL
  simp only [List.map_cons, List.sum_cons]
  rcases List.mem_cons.1 h with rfl | h
  ·omega
  ·have := sz_le_sum h; unfold szL at this; omega
instance {α : Type} [GoT α] [Sz α] : Sz (List α) := ⟨fun l => l.length + szL l, fun h hs => ⟨by rw [bd_0]; omega, fun a ha => Sz.low (h.2 a ha) (by have := sz_le_sum ha; unfold sz at this; omega)⟩⟩
instance {α β : Type} [GoT α] [GoT β] [Sz α] [Sz β] : Sz (α × β) := ⟨fun a => sz a.1 + sz a.2, fun h hs => ⟨Sz.low h.1 (by unfold sz at hs; omega), Sz.low h.2 (by unfold sz at hs; omega)⟩⟩
@[reducible] def Sz.via {α β : Type} [GoT β] [Sz β] (e : α → β) : @Sz α (GoT.via e) := @Sz.mk α (GoT.via e) (fun a => sz (e a)) (fun {a} h hs => Sz.low (a := e a) h hs)
theorem sz_list {α : Type} [GoT α] [Sz α] (l : List α) : sz l = l.length + szL l := rfl
instance : Sz Name := Sz.via (fun e : Name => e.parts)
instance : Sz Pattern := Sz.via (fun e : Pattern => e.parts)
instance : Sz Binding := Sz.via (fun e : Binding => (e.letter, e.value))
instance : Sz TableEntry := Sz.via (fun e : TableEntry => (e.name, e.value))
theorem sz_TableEntry (a : TableEntry) : sz a = sz a.name := by
 show (sz a.name + 0) = sz a.name
 omega
instance : Sz Interest := Sz.via (fun e : Interest => (e.name, e.nonce, e.hopLimit, e.lifetime))
instance : Sz DataP := Sz.via (fun e : DataP => (e.name, e.content, e.keyName, e.freshUntil, e.signature))
instance : Sz Key := Sz.via (fun e : Key => (e.name, e.secret))
instance : Sz Rule := Sz.via (fun e : Rule => (e.dataPattern, e.keyPattern))
instance : Sz TrustPolicy := Sz.via (fun e : TrustPolicy => (e.keys, e.rules, e.anchors, e.certificates))
instance : Sz CacheEntry := Sz.via (fun e : CacheEntry => (e.data, e.lastUsed))
instance : Sz ContentStore := Sz.via (fun e : ContentStore => (e.capacity, e.entries))
instance : Sz Requester := Sz.via (fun e : Requester => (e.face, e.nonce, e.expiry))
instance : Sz PendingInterest := Sz.via (fun e : PendingInterest => (e.name, e.requesters, e.lastSent))
instance : Sz SeenNonce := Sz.via (fun e : SeenNonce => (e.name, e.nonce))
instance : Sz Route := Sz.via (fun e : Route => (e.pfx, e.face, e.cost))
instance : Sz Measurement := Sz.via (fun e : Measurement => (e.pfx, e.face, e.failures))
instance : Sz NodeP := Sz.via (fun e : NodeP => (e.locl, e.cache, e.pending, e.seen, e.routes, e.measurements, e.dropped))
instance : Sz Outgoing := Sz.via (fun e : Outgoing => (e.face, e.isInterest, e.interest, e.data))
instance : Sz Action := Sz.via (fun e : Action => (e.node, e.outgoing))
instance : Sz Link := Sz.via (fun e : Link => (e.a, e.b))
instance : Sz Topology := Sz.via (fun e : Topology => (e.size, e.links))
instance : Sz Advertisement := Sz.via (fun e : Advertisement => (e.origin, e.version, e.neighbors, e.prefixes))
instance : Sz Manifest := Sz.via (fun e : Manifest => (e.segmentSize, e.length, e.digests))
instance : Sz Segment := Sz.via (fun e : Segment => e.content)
instance : Sz Fetcher := Sz.via (fun e : Fetcher => (e.manifest, e.received, e.segments, e.outstanding, e.window, e.threshold, e.losses))
instance : Sz Grant := Sz.via (fun e : Grant => (e.name, e.secret))
instance : Sz Reader := Sz.via (fun e : Reader => (e.node, e.name, e.epoch))
instance : Sz StateVector := Sz.via (fun e : StateVector => e.entries)
instance : Sz Publication := Sz.via (fun e : Publication => (e.publisher, e.seq, e.content))
instance : Sz Member := Sz.via (fun e : Member => (e.name, e.vector, e.publications))
instance : Sz Record := Sz.via (fun e : Record => (e.kind, e.data))
instance : Sz Log := Sz.via (fun e : Log => (e.durable, e.volatile))
instance : Sz Repository := Sz.via (fun e : Repository => (e.log, e.quota))
instance : Sz Consumer := Sz.via (fun e : Consumer => (e.node, e.index, e.name, e.attempts, e.wait, e.satisfied, e.data))
instance : Sz PacketInFlight := Sz.via (fun e : PacketInFlight => (e.to, e.face, e.isInterest, e.interest, e.data))
instance : Sz Network := Sz.via (fun e : Network => (e.topology, e.trust, e.producers, e.nodes, e.downNodes, e.failedLinks, e.inFlight, e.consumers, e.now, e.dropped))
instance : Sz EventP := Sz.via (fun e : EventP => (e.kind, e.n, e.name, e.forged))
instance : Sz SyncGroup := Sz.via (fun e : SyncGroup => (e.topology, e.members))
instance : Sz AccessController := Sz.via (fun e : AccessController => (e.keys, e.master, e.epoch, e.readers))
end Go.Stp

namespace Go.Stp
set_option linter.unusedVariables false
set_option linter.unusedSimpArgs false
def a2g (n_ : Int) (a : Int) (b : Int) : Bool :=
 bif decide (a ≤ n_) then
  (decide (n_ ≤ b))
 else
  false
def a1c (x_ : Int) (least : Int) (most : Int) : Bool :=
 bif decide (x_ ≥ least) then
  (decide (x_ ≤ most))
 else
  false
end Go.Stp

namespace Go.Stp
open GoT (X k ok sh fa oa)
def offP (p : Option Addr) (c lo kk : Nat) : Option Addr := if c = lo then p else p.map (·.add (lo * kk))
section
variable {α : Type} [GoT α]
theorem RdL.take {G : GH} : ∀ {xs : List Value} {l : List α} (i : Nat), RdL G xs l → RdL G (xs.take (i * k α)) (l.take i)
 | xs, [], i, h => by
  have : xs = [] := h
  subst this
  simp only [List.take_nil]; rfl
 | xs, a :: l, 0, _ => by simp only [Nat.zero_mul, List.take_zero]; rfl
 | xs, a :: l, i + 1, ⟨x, ys, h1, h2, h3⟩ => by
  refine ⟨x, ys.take (i * k α), ?_, h2, h3.take i⟩
  rw [h1, Nat.add_mul, Nat.one_mul, List.take_append, GoT.len, List.take_of_length_le (by rw [GoT.len]; omega), Nat.add_sub_cancel]
theorem RdL.drop {G : GH} : ∀ {xs : List Value} {l : List α} (i : Nat), RdL G xs l → RdL G (xs.drop (i * k α)) (l.drop i)
 | xs, [], i, h => by
  have : xs = [] := h
  subst this
  simp only [List.drop_nil]; rfl
 | xs, a :: l, 0, h => by simp only [Nat.zero_mul, List.drop_zero]; exact h
 | xs, a :: l, i + 1, ⟨x, ys, h1, h2, h3⟩ => by
  have := h3.drop i
  rw [h1, Nat.add_mul, Nat.one_mul, List.drop_append, GoT.len, List.drop_eq_nil_of_le (by rw [GoT.len]; omega), Nat.add_sub_cancel]
  exact this
theorem RdSl.pre {G : GH} {p : Option Addr} {c : Nat} {l : List α} (h : RdSl G p c l) (i : Nat) : RdSl G p c (l.take i) := by
 obtain ⟨h1, h2, xs, h3, h4⟩ := h
 refine ⟨by rw [List.length_take]; omega, by rw [List.length_take]; omega, xs.take (i * k α), fun j u hj => h3 j u ?_, h4.take i⟩
 rw [List.getElem?_take] at hj
 split at hj
 ·exact hj
 ·cases hj
theorem RdSl.suf {G : GH} {p : Option Addr} {c : Nat} {l : List α} (h : RdSl G p c l) (i : Nat) : RdSl G (offP p c i (k α)) (c - i) (l.drop i) := by
 obtain ⟨h1, h2, xs, h3, h4⟩ := h
 refine ⟨by rw [List.length_drop]; omega, by rw [List.length_drop]; omega, xs.drop (i * k α), fun j u hj => ?_, h4.drop i⟩
 rw [List.getElem?_drop] at hj
 obtain ⟨a, ha, hg⟩ := h3 _ u hj
 unfold offP
 split
 ·rename_i e
  have : xs.length = l.length * k α := h4.len
  have hlt := (List.getElem?_eq_some_iff.1 hj).1
  have : l.length * k α ≤ i * k α := Nat.mul_le_mul_right _ (by omega)
  omega
 ·exact ⟨a.add (i * k α), by rw [ha]; rfl, by rw [addr_add_add]; exact hg⟩
end
theorem elemO_info {P : Program} {tt : TT} (ht : TabOk P tt) {T kk : Nat} (h : elemO tt T = some kk) (w : World) : P.underlying T = some (.slice (P.elem T)) ∧ (sizeOf (P.elem T)).run P w = .ok kk w := by
 unfold elemO at h
 split at h
 ·rename_i ti hT
  split at h
  ·rename_i e hd
   split at h
   ·rename_i te hE
    simp only [Option.some.injEq] at h; subst h
    obtain ⟨hu, _⟩ := ht.get hT
    obtain ⟨_, inf, hinf, _, hs, _⟩ := ht.get hE
    rw [hd] at hu
    have he : P.elem T = e := by simp [Program.elem, hu]
    rw [he]
    exact ⟨hu, by rw [run_sizeOf hinf, hs]⟩
   ·cases h
  ·cases h
 ·cases h
theorem addr_add0 (a : Addr) : a.add 0 = a := by simp [Addr.add]
theorem looks_slH {C : Cx} {env : Env} {L : Locs} {R : Rows} {G : GH} {o : Oper} {x y : Operand} {T n c kk : Nat} {p : Option Addr} {h : Int} (m : Nat) (ht : TabOk C.P C.tt) (ho : o.op = .slice T x none (some y) none) (hT : elemO C.tt T = some kk)
  (hx : ev env x = some (.v (.slice p n c))) (hy : ev env y = some (.v (.int .i64 h))) (h0 : h = (m : Int)) (h1 : m ≤ c) : Looks C env L R G o (.v (.slice p m c)) := by
 intro a w G' bs _ hA hI
 subst h0
 obtain ⟨hu, hs⟩ := elemO_info ht hT w
 unfold execOp
 simp only [ho, Option.map, ev_conc hA hx, ev_conc hA hy, conc, Sem.run_bind, run_sliceAt_slice w T _ _ _ _ hu, run_slice_h w T p n c hu .i64 (m : Int) (by omega) (by omega), hs, Result.andThen_ok]
 simp only [sliced, Nat.zero_mul, Nat.sub_zero, Int.toNat_natCast]
 cases p <;> simp [addr_add0] <;> rfl
theorem looks_slL {C : Cx} {env : Env} {L : Locs} {R : Rows} {G : GH} {o : Oper} {x y : Operand} {T n c kk : Nat} {p : Option Addr} {h : Int} (m : Nat) (ht : TabOk C.P C.tt) (ho : o.op = .slice T x (some y) none none) (hT : elemO C.tt T = some kk)
  (hx : ev env x = some (.v (.slice p n c))) (hy : ev env y = some (.v (.int .i64 h))) (h0 : h = (m : Int)) (h1 : m ≤ n) : Looks C env L R G o (.v (.slice (offP p c m kk) (n - m) (c - m))) := by
 intro a w G' bs _ hA hI
 subst h0
 obtain ⟨hu, hs⟩ := elemO_info ht hT w
 unfold execOp
 simp only [ho, Option.map, ev_conc hA hx, ev_conc hA hy, conc, Sem.run_bind, run_sliceAt_slice w T _ _ _ _ hu, run_slice_l w T p n c hu .i64 (m : Int) (by omega) (by omega), hs, Result.andThen_ok]
 simp only [sliced, Int.toNat_natCast, offP]
 rfl
end Go.Stp

namespace Go.Stp
open GoT (X k ok sh fa oa)
theorem WX.did {C : Cx} {ops : Array Oper} {o : Oper} {r : List Oper} {s : List It} {env : Env} {L : Locs} {R : Rows} {Γ : Facts} {ι : Type} {env' : ι → Env} {R' : ι → Rows} {Γ' : ι → Facts} (hg : gd ops env o = some true)
  (h : ∀ a w G bs, At C.fn.ntmps env bs a → HInv C w G bs L R → AllK C.M G Γ → ∃ v w' i, (execOp a.eval o).run C.P w = .ok (.value v) w' ∧ Sat C (env' i) L (R' i) (Γ' i) (a.put o.dst v) w')
  (k : ∀ i, WX C (.ops ops r :: s) (env' i) L (R' i) (Γ' i)) : WX C (.ops ops (o :: r) :: s) env L R Γ := by
 rintro a w ⟨G, bs, hA, hI, hΓ⟩
 obtain ⟨v, w', i, hrun, hS⟩ := h a w G bs hA hI hΓ
 show wpList C.P ops (cont C s) (o :: r) a w
 unfold wpList
 rw [if_pos (gd_sound hA hg)]
 refine .inl ?_
 unfold Oper.wp
 rw [hrun]
 simp only [Oper.upon]
 exact k i _ _ hS
theorem HInv.wr {C : Cx} {w : World} {G : GH} {bs : Nat → Nat} {L : Locs} {R : Rows} (hI : HInv C w G bs L R) {ρ : Nat} {row : Row} (hρ : look R ρ = some row) {o1 T : Nat} {cur cur' : Array Value} (hp : row.p = some ⟨bs ρ, o1, none⟩) (hc0 : row.c ≠ 0)
  (hh : w.heap[bs ρ]? = some (.cells cur T (0, 0))) (hcs : o1 + row.c * row.k ≤ cur.size) (hsz : cur'.size = cur.size) {n' : Nat} {xs' : List Value} (hn' : n' ≤ row.c) (hl : xs'.length = n' * row.k) (hxs : (cur'.toList.drop o1).take (n' * row.k) = xs') :
  HInv C (w.setRow (bs ρ) cur') G bs L (setR R ρ ⟨row.k, row.p, n', row.c, xs'⟩) := by
 have hrow := hI.row ρ row hρ
 obtain ⟨hBb, hGb, hcm⟩ : C.M (bs ρ) ∧ G (bs ρ) = none ∧ row.c ≤ maxLen := by
  rcases hrow.2 with ⟨h0, _⟩ | ⟨_, _, h1, h2, _, h5, _⟩
  ·exact absurd h0 hc0
  ·exact ⟨h1, h2, h5⟩
 have hLρ : ∀ l, look L ρ ≠ some l := fun l hl => hI.dis ρ l row hl hρ
 have h999 : ρ ≠ 999 := fun e => by subst e; exact hI.nr row hρ
 have hrow' : RowOk C.M (w.setRow (bs ρ) cur') G (bs ρ) ⟨row.k, row.p, n', row.c, xs'⟩ :=
  ⟨hl, .inr ⟨o1, hp, hBb, hGb, hn', hcm, cur', T, setRow_heap w _ cur _ T _ hh, by rw [hsz]; exact hcs, hxs⟩⟩
 have honly : Only w (w.setRow (bs ρ) cur') (bs ρ) (row.c ≠ 0) := ⟨rfl, rfl, rfl, by simp [World.setRow], fun j hj hne => setRow_other w _ j _ (hne hc0)⟩
 have hlook : ∀ j, look (setR R ρ ⟨row.k, row.p, n', row.c, xs'⟩) j = if ρ = j then some ⟨row.k, row.p, n', row.c, xs'⟩ else look R j := by
  intro j
  rw [look_setR]
  split
  ·rename_i e; subst e; rw [hρ]; rfl
  ·rfl
 have hI' := hI.upd (ρ := ρ) (b' := bs ρ) h999 (row.c ≠ 0) (fun _ => ⟨.inr ⟨row, hρ, hc0⟩, hBb, hGb⟩) honly (.inl ⟨rfl, hc0⟩) hlook hLρ hrow'
 have hbs : (fun j => if j = ρ then bs ρ else bs j) = bs := by funext j; split <;> simp_all
 rwa [hbs] at hI'
theorem zeroCells_zrep (z : Array Value) (n : Nat) (hz : 0 < z.size) : (Builtin.zeroCells z n).toList = zrep n z.toList := zrep_range z hz n
section
variable {α : Type}
def keepC (kk : Nat) (f : α → Bool) : List α → List Value → List Value
 | [], _ => []
 | a :: l, xs => bif f a then keepC kk f l (xs.drop kk) else xs.take kk ++ keepC kk f l (xs.drop kk)
theorem keepC_snoc (kk : Nat) (f : α → Bool) : ∀ (l : List α) (a : α) (xs : List Value), keepC kk f (l ++ [a]) xs = keepC kk f l xs ++ (bif f a then [] else (xs.drop (l.length * kk)).take kk)
 | [], a, xs => by cases hf : f a <;> simp [keepC, hf]
 | b :: l, a, xs => by
  have e : (b :: l).length * kk = kk + l.length * kk := by rw [List.length_cons, Nat.add_mul]; omega
  simp only [List.cons_append, keepC, keepC_snoc kk f l a, e, ← List.drop_drop]
  cases f b <;> simp
end
section
variable {α : Type} [GoT α]
theorem OwL.keep (f : α → Bool) : ∀ {h : GH} {xs : List Value} {l : List α}, OwL h xs l → OwL h (keepC (k α) f l xs) (l.filter fun a => !f a)
 | h, xs, [], _ => rfl
 | h, xs, a :: l, ⟨x, ys, q1, q2, e, r1, r2, r3, r4, r5⟩ => by
  have h1 : xs.take (k α) = sh a x := by rw [e, ← GoT.len a x, List.take_left]
  have h2 : xs.drop (k α) = ys := by rw [e, ← GoT.len a x, List.drop_left]
  simp only [keepC, h1, h2]
  cases hf : f a
  ·rw [List.filter_cons_of_pos (by simp [hf])]
   exact ⟨x, _, q1, q2, rfl, r1, r2, r3, r4, OwL.keep f r5⟩
  ·rw [List.filter_cons_of_neg (by simp [hf])]
   exact (OwL.keep f r5).mono r2
structure DelInv (f : α → Bool) (l : List α) (xs0 : List Value) (i j : Nat) (xs : List Value) : Prop where
 ij : i < j
 jn : j ≤ l.length
 len : xs.length = l.length * k α
 pre : xs.take (i * k α) = keepC (k α) f (l.take j) xs0
 cnt : i = ((l.take j).filter fun a => !f a).length
 rest : ∀ m, j * k α ≤ m → xs[m]? = xs0[m]?
theorem DelInv.skip {f : α → Bool} {l : List α} {xs0 xs : List Value} {i j : Nat} {a : α} (h : DelInv f l xs0 i j xs) (hj : l[j]? = some a) (ha : f a = true) : DelInv f l xs0 i (j + 1) xs := by
 have hlt := (List.getElem?_eq_some_iff.1 hj).1
 have htk : l.take (j + 1) = l.take j ++ [a] := by rw [List.take_add_one, hj]; rfl
 refine ⟨by have := h.ij; omega, by omega, h.len, ?_, ?_, fun m hm => h.rest m (by rw [Nat.add_mul] at hm; omega)⟩
 ·rw [htk, keepC_snoc, ha, cond_true, List.append_nil]; exact h.pre
 ·rw [htk, List.filter_append]; simp only [List.filter_cons, ha, Bool.not_true, Bool.false_eq_true, if_false, List.filter_nil, List.append_nil]; exact h.cnt
theorem DelInv.keep {f : α → Bool} {l : List α} {xs0 xs vs : List Value} {i j : Nat} {a : α} (h0 : xs0.length = l.length * k α) (h : DelInv f l xs0 i j xs) (hj : l[j]? = some a) (ha : f a = false) (hv : vs.length = k α) (hx : ∀ q u, vs[q]? = some u → xs0[j * k α + q]? = some u) :
  DelInv f l xs0 (i + 1) (j + 1) (xs.take (i * k α + 0) ++ vs ++ xs.drop (i * k α + 0 + vs.length)) := by
 have hlt := (List.getElem?_eq_some_iff.1 hj).1
 have htk : l.take (j + 1) = l.take j ++ [a] := by rw [List.take_add_one, hj]; rfl
 have htj : (l.take j).length = j := by simp; omega
 have hij := h.ij
 have hik : (i + 1) * k α ≤ j * k α := Nat.mul_le_mul_right _ hij
 have hjk : (j + 1) * k α ≤ l.length * k α := Nat.mul_le_mul_right _ hlt
 have hlen := h.len
 rw [Nat.add_mul, Nat.one_mul] at hik hjk
 have hvs : vs = (xs0.drop (j * k α)).take (k α) := by
  apply List.ext_getElem?
  intro q
  by_cases hq : q < k α
  ·rw [List.getElem?_take, if_pos hq, List.getElem?_drop]
   have : vs[q]? = some (vs[q]'(by omega)) := List.getElem?_eq_getElem (by omega)
   rw [this]; exact (hx q _ this).symm
  ·rw [List.getElem?_eq_none (by omega), List.getElem?_eq_none (by simp; omega)]
 have hlt1 : (xs.take (i * k α) ++ vs).length = (i + 1) * k α := by rw [Nat.add_mul, Nat.one_mul, List.length_append, List.length_take, hv]; omega
 refine ⟨by omega, by omega, ?_, ?_, ?_, fun m hm => ?_⟩
 ·simp only [List.length_append, List.length_take, List.length_drop]; omega
 ·rw [Nat.add_zero (i * k α), ← hlt1, List.take_left, htk, keepC_snoc, ha, cond_false, h.pre, htj, hvs]
 ·rw [htk, List.filter_append]; simp only [List.filter_cons, ha, Bool.not_false, if_true, List.filter_nil, List.length_append, List.length_cons, List.length_nil]; rw [← h.cnt]
 ·rw [Nat.add_mul, Nat.one_mul] at hm
  rw [Nat.add_zero (i * k α), List.getElem?_append_right (by rw [hlt1, Nat.add_mul, Nat.one_mul]; omega), List.getElem?_drop, hlt1, hv, Nat.add_mul, Nat.one_mul, show i * k α + k α + (m - (i * k α + k α)) = m by omega]
  exact h.rest m (by omega)
end
theorem Kp.lent {H : GH} {w w1 w2 : World} (h : Kp H w w1) (k : Kp emp w1 w2) : Kp H w w2 := h.trans (k.wide fun _ _ _ => rfl)
theorem WX.callHN {C : Cx} {ops : Array Oper} {o : Oper} {r : List Oper} {s : List It} {env : Env} {L : Locs} {R : Rows} {Γ Γ1 : Facts} {f : Operand} {args : List Operand} {ats : Array TypeId} {g : FuncId} {sf : SV} {svs : List SV} {caps : (Nat → Nat) → List Value} {fs : List MF}
  {Ψ : World → GH → Value → World → Prop} (ks : List Nat) (hks : giveK ks Γ = some (fs, Γ1)) (hg : gd ops env o = some true) (ho : o.op = .call { callee := .value f, args := args.toArray, argTypes := ats })
  (hf : ev env f = some sf) (hsf : ∀ bs, conc bs sf = .func (.func g) #[] (caps bs).toArray) (hargs : evs env args = some svs)
  (hc : ∀ w G bs H, HInv C w G bs L R → Le H G → Le H (hp w) → Sep H fs → AllK C.M (cut (hp w) H) Γ1 → Does C.P g (svs.map (conc bs) ++ caps bs).toArray w H (Ψ w H))
  (k : ∀ a w w' G bs H v, At C.fn.ntmps env bs a → HInv C w G bs L R → Le H G → (∀ b o, H b = some o → C.M b) → AllK C.M (cut G H) Γ1 → Kp H w w' → Ψ w H v w' → wpList C.P ops (cont C s) r (a.put o.dst v) w') :
  WX C (.ops ops (o :: r) :: s) env L R Γ := by
 rintro a w ⟨G, bs, hA, hI, hΓ⟩
 show wpList C.P ops (cont C s) (o :: r) a w
 unfold wpList
 rw [if_pos (gd_sound hA hg)]
 refine .inl ?_
 unfold Oper.wp
 obtain ⟨H, q1, q2, q3, q4⟩ := giveK_spec hks hΓ
 obtain ⟨he, hcalls⟩ := hc w G bs H hI q1 (q1.trans hI.le) q3 (q4.mono (cut_mono hI.le))
 rw [exec_call he ho (by rw [ev_conc hA hf, hsf]) (evs_sound hA args svs hargs)]
 simp only [Oper.upon]
 refine hcalls.mono fun e w' ⟨v, hv, hb, hψ⟩ => ?_
 subst hv
 exact k a w w' G bs H v hA hI q1 q2 q4 hb hψ
theorem WX.callN {C : Cx} {ops : Array Oper} {o : Oper} {r : List Oper} {s : List It} {env : Env} {L : Locs} {R : Rows} {Γ Γ1 : Facts} {f : Operand} {args : List Operand} {ats : Array TypeId} {g : FuncId} {sf : SV} {svs : List SV} {caps : (Nat → Nat) → List Value} {fs : List MF}
  {ι : Type} {val val' : ι → Value} {gs ds : ι → List MF} {Q : Prop} {d : Nat} {Γ' : ι → Facts} (ks : List Nat) (n : Nat) (hks : giveK ks Γ = some (fs, Γ1)) (hds : ∀ i h, Sep h (gs i) → All h (ds i)) (hdk : ∀ i, ∀ f ∈ ds i, f.k = .der) (hg : gd ops env o = some true) (hd : o.dst = some d) (hlt : Nat.blt d C.fn.ntmps = true) (ho : o.op = .call { callee := .value f, args := args.toArray, argTypes := ats })
  (hf : ev env f = some sf) (hsf : ∀ bs, conc bs sf = .func (.func g) #[] (caps bs).toArray) (hargs : evs env args = some svs)
  (hc : ∀ w G bs H, HInv C w G bs L R → Le H G → Le H (hp w) → Sep H fs → AllK C.M (cut (hp w) H) Γ1 → Does C.P g (svs.map (conc bs) ++ caps bs).toArray w H (Post w H val gs Q))
  (hv : ∀ i, normV (val i) = some (val' i)) (hΓ' : ∀ i, addF n (ds i ++ gs i) Γ1 = some (Γ' i))
  (k : ∀ i, Q → WX C (.ops ops r :: s) ((d, .v (val' i)) :: env) L R (Γ' i)) : WX C (.ops ops (o :: r) :: s) env L R Γ :=
 WX.callHN (Ψ := fun w H v w' => Post w H val gs Q v w') ks hks hg ho hf hsf hargs hc fun a' w w' G bs H v hA hI hHG hHM hΓ hb hv' => by
  obtain ⟨i, h, rfl, hq, hle, hdom, hs⟩ := hv'
  rw [hd, ← normV_eq (hv i)]
  obtain ⟨hI', hdj⟩ := hI.called hHG hHM hb hle hdom
  refine k i hq _ _ ⟨join (cut G H) h, bs, hA.put (by simpa [Nat.blt_eq] using hlt) (.v _), hI', hΓ.after hdj (fun b o hb' => ?_) hs (hdk i) (hds i h hs) (hΓ' i)⟩
  rcases hdom b o hb' with h1 | h1
  ·exact .inl (Nat.le_trans hI.keep.size h1)
  ·cases hx : H b with
   | none => exact absurd hx h1
   | some q => exact hHM b q hx
end Go.Stp

namespace Go.Stp
open GoT (X k ok sh fa oa)
theorem WX.cap {C : Cx} {s : List It} {env : Env} {L : Locs} {R : Rows} {Γ : Facts} {row : Row} (ρ : Nat) (hρ : look R ρ = some row) (k : row.n ≤ row.c → WX C s env L R Γ) : WX C s env L R Γ := by
 rintro a w ⟨G, bs, hA, hI, hΓ⟩
 refine k ?_ a w ⟨G, bs, hA, hI, hΓ⟩
 rcases (hI.row ρ row hρ).2 with ⟨h1, h2⟩ | ⟨_, _, _, _, h, _⟩ <;> omega
def LooksP (C : Cx) (env : Env) (o : Oper) (sv : SV) : Prop := ∀ a w bs, At C.fn.ntmps env bs a → (execOp a.eval o).run C.P w = .ok (.value (conc bs sv)) w
theorem DX.seeP {C : Cx} {ops : Array Oper} {tl : List Nat} {s : List It} {bs : Nat → Nat} {G0 : GH} {fuel : Nat} {listed : Array Bool} {env : Env} {L : Locs} {R : Rows} {Γ : Facts} {d : Nat} {o : Oper} {sv : SV} (i : Nat) (hb : mayP ops listed i = true) (hi : getO ops.toList i = some o)
  (hg : gd ops env o = some true) (hd : o.dst = some d) (hlt : Nat.blt d C.fn.ntmps = true) (hl : LooksP C env o sv)
  (k : DX C ops tl s bs G0 fuel (listed.setIfInBounds i true) ((d, sv) :: env) L R Γ) : DX C ops tl s bs G0 (fuel + 1) listed env L R Γ := by
 rw [getO_eq] at hi
 exact DX.takeP hb (by simpa using hi) hd (by simpa [Nat.blt_eq] using hlt) hg (fun _ => hl) (fun h => by cases h) k
theorem looksP_arith {C : Cx} {env : Env} {o : Oper} {b : BinOp} {x y : Operand} {T T' : Nat} {m n q : Int} (ho : o.op = .binOp b T x y T')
  (hx : ev env x = some (.v (.int .i64 m))) (hy : ev env y = some (.v (.int .i64 n))) (hq : arithO b m n = some q) (hr : I64 q) : LooksP C env o (.v (.int .i64 q)) := by
 intro a w bs hA
 unfold execOp
 simp only [ho, ev_conc hA hx, ev_conc hA hy, conc]
 have := wrap_i64 hr
 cases b <;> simp [arithO] at hq <;> subst hq <;> simp [eqGuard, binOp, Op.intArith, this]
theorem looksP_wrap {C : Cx} {env : Env} {o : Oper} {b : BinOp} {x y : Operand} {T T' : Nat} {m n q : Int} (ho : o.op = .binOp b T x y T')
  (hx : ev env x = some (.v (.int .i64 m))) (hy : ev env y = some (.v (.int .i64 n))) (hq : arithO b m n = some q) : LooksP C env o (.v (.int .i64 (IntKind.i64.wrap q))) := by
 intro a w bs hA
 unfold execOp
 simp only [ho, ev_conc hA hx, ev_conc hA hy, conc]
 cases b <;> simp [arithO] at hq <;> subst hq <;> simp [eqGuard, binOp, Op.intArith]
theorem looksP_slH {C : Cx} {env : Env} {o : Oper} {x y : Operand} {T n c kk : Nat} {p : Option Addr} {h : Int} (m : Nat) (ht : TabOk C.P C.tt) (ho : o.op = .slice T x none (some y) none) (hT : elemO C.tt T = some kk)
  (hx : ev env x = some (.v (.slice p n c))) (hy : ev env y = some (.v (.int .i64 h))) (h0 : h = (m : Int)) (h1 : m ≤ c) : LooksP C env o (.v (.slice p m c)) := by
 intro a w bs hA
 subst h0
 obtain ⟨hu, hs⟩ := elemO_info ht hT w
 unfold execOp
 simp only [ho, Option.map, ev_conc hA hx, ev_conc hA hy, conc, Sem.run_bind, run_sliceAt_slice w T _ _ _ _ hu, run_slice_h w T p n c hu .i64 (m : Int) (by omega) (by omega), hs, Result.andThen_ok]
 simp only [sliced, Nat.zero_mul, Nat.sub_zero, Int.toNat_natCast]
 cases p <;> simp [addr_add0] <;> rfl
theorem looksP_slL {C : Cx} {env : Env} {o : Oper} {x y : Operand} {T n c kk : Nat} {p : Option Addr} {h : Int} (m : Nat) (ht : TabOk C.P C.tt) (ho : o.op = .slice T x (some y) none none) (hT : elemO C.tt T = some kk)
  (hx : ev env x = some (.v (.slice p n c))) (hy : ev env y = some (.v (.int .i64 h))) (h0 : h = (m : Int)) (h1 : m ≤ n) : LooksP C env o (.v (.slice (offP p c m kk) (n - m) (c - m))) := by
 intro a w bs hA
 subst h0
 obtain ⟨hu, hs⟩ := elemO_info ht hT w
 unfold execOp
 simp only [ho, Option.map, ev_conc hA hx, ev_conc hA hy, conc, Sem.run_bind, run_sliceAt_slice w T _ _ _ _ hu, run_slice_l w T p n c hu .i64 (m : Int) (by omega) (by omega), hs, Result.andThen_ok]
 simp only [sliced, Int.toNat_natCast, offP]
 rfl
theorem src_pre {P : Program} {T e b m : Nat} {M : Nat → Prop} {w : World} {G : GH} {src : Row} (hu : P.underlying T = some (.slice e)) (hr : RowOk M w G b src) (hone : ∀ u ∈ src.xs, u.oneCell' = true) (hm : m ≤ src.n) : Src P src.k T (.slice src.p m src.c) m (src.xs.take (m * src.k)) w := by
 obtain ⟨h1, h2⟩ := hr
 have hlen : (src.xs.take (m * src.k)).length = m * src.k := by rw [List.length_take, h1]; exact Nat.min_eq_left (Nat.mul_le_mul_right _ hm)
 rcases h2 with ⟨hc, hn⟩ | ⟨o1, hp, _, _, _, _, cur, T', hh, _, htk⟩
 ·have hm0 : m = 0 := by omega
  subst hm0
  simp only [Nat.zero_mul, List.take_zero]
  cases hpp : src.p with
  | none => exact Src.ofNil w hu _
  | some ad => exact Src.ofSlice w hu ad 0 _ [] (by simp) (fun j u h => by simp at h) (fun u h => by cases h)
 ·rw [hp]
  refine Src.ofSlice w hu _ m src.c _ hlen (fun j u hj => ?_) (fun u hu => hone u (List.mem_of_mem_take hu))
  rw [Addr.add_lit, cell_of_row w _ _ cur T' _ hh]
  rw [List.getElem?_take] at hj
  split at hj
  ·rw [← htk, List.getElem?_take, List.getElem?_drop] at hj
   split at hj
   ·simpa using hj
   ·cases hj
  ·cases hj
theorem src_suf {P : Program} {T e b m : Nat} {M : Nat → Prop} {w : World} {G : GH} {src : Row} (hu : P.underlying T = some (.slice e)) (hr : RowOk M w G b src) (hone : ∀ u ∈ src.xs, u.oneCell' = true) (hm : m ≤ src.n) : Src P src.k T (.slice (offP src.p src.c m src.k) (src.n - m) (src.c - m)) (src.n - m) (src.xs.drop (m * src.k)) w := by
 obtain ⟨h1, h2⟩ := hr
 have hlen : (src.xs.drop (m * src.k)).length = (src.n - m) * src.k := by rw [List.length_drop, h1, Nat.sub_mul]
 by_cases hmn : src.n - m = 0
 ·have hnil : src.xs.drop (m * src.k) = [] := List.eq_nil_of_length_eq_zero (by rw [hlen, hmn, Nat.zero_mul])
  rw [hnil, hmn]
  cases hpp : offP src.p src.c m src.k with
  | none => exact Src.ofNil w hu _
  | some ad => exact Src.ofSlice w hu ad 0 _ [] (by simp) (fun j u h => by simp at h) (fun u h => by cases h)
 ·rcases h2 with ⟨hc, hn⟩ | ⟨o1, hp, _, _, hnc, _, cur, T', hh, _, htk⟩
  ·omega
  ·have hoff : offP src.p src.c m src.k = some ⟨b, o1 + m * src.k, none⟩ := by unfold offP; rw [if_neg (by omega), hp]; simp [Addr.add_lit]
   rw [hoff]
   refine Src.ofSlice w hu _ (src.n - m) (src.c - m) _ hlen (fun j u hj => ?_) (fun u hu => hone u (List.mem_of_mem_drop hu))
   rw [Addr.add_lit, cell_of_row w _ _ cur T' _ hh]
   rw [List.getElem?_drop, ← htk, List.getElem?_take, List.getElem?_drop] at hj
   split at hj
   ·simpa [Nat.add_assoc] using hj
   ·cases hj
theorem WX.appPre {C : Cx} {ops : Array Oper} {o : Oper} {r : List Oper} {s : List It} {env : Env} {L : Locs} {R : Rows} {Γ : Facts} {d : Nat} {x y : Operand} {T kk by_ : Nat} {z : Value} {row src : Row} (ρ σ m n' : Nat) {R' : Option Addr → Nat → Rows} (ht : TabOk C.P C.tt)
  (hg : gd ops env o = some true) (hd : o.dst = some d) (hlt : Nat.blt d C.fn.ntmps = true) (ho : o.op = .call { callee := .builtin .append, args := #[x, y], argTypes := #[T, T] })
  (hx : ev env x = some (.v (.slice row.p row.n row.c))) (hy : ev env y = some (.v (.slice src.p m src.c))) (hap : appO C.tt T = some (kk, by_, z)) (hz : z.cells.size = kk) (hρ : look R ρ = some row) (hσ : look R σ = some src) (hkk : row.k = kk) (hks : src.k = kk) (hfree : envFree ρ env = true)
  (hone : ∀ u ∈ src.xs, u.oneCell' = true) (hm : m ≤ src.n) (hn : row.n + m = n') (hroom : n' * by_ ≤ 140737488355328) (hmax : n' ≤ 9223372036854775807)
  (hR : ∀ p' c', setRO R ρ ⟨row.k, p', n', c', row.xs ++ src.xs.take (m * kk)⟩ = some (R' p' c'))
  (k : ∀ p' c', WX C (.ops ops r :: s) ((d, .v (.slice p' n' c')) :: env) L (R' p' c') Γ) : WX C (.ops ops (o :: r) :: s) env L R Γ := by
 subst hn
 refine WX.appX (ι := Unit) ρ m (fun _ => src.xs.take (m * kk)) (fun _ => Γ) ht hg hd hlt ho hx hy hap hz hρ hkk hfree (fun w G bs hI hΓ => ⟨(), ?_, hΓ⟩) hroom (by simp only [maxLen]; omega) (fun _ p' c' => by rw [← setRO_eq (hR p' c')]; exact k p' c')
 obtain ⟨ti, e, te, hT, hde, hE, h1, _⟩ := appO_some hap
 obtain ⟨hu, _⟩ := ht.get hT
 rw [hde] at hu
 subst hks
 exact src_pre hu (hI.row σ src hσ) hone hm
theorem WX.appSuf {C : Cx} {ops : Array Oper} {o : Oper} {r : List Oper} {s : List It} {env : Env} {L : Locs} {R : Rows} {Γ : Facts} {d : Nat} {x y : Operand} {T kk by_ : Nat} {z : Value} {row src : Row} (ρ σ m n' : Nat) {R' : Option Addr → Nat → Rows} (ht : TabOk C.P C.tt)
  (hg : gd ops env o = some true) (hd : o.dst = some d) (hlt : Nat.blt d C.fn.ntmps = true) (ho : o.op = .call { callee := .builtin .append, args := #[x, y], argTypes := #[T, T] })
  (hx : ev env x = some (.v (.slice row.p row.n row.c))) (hy : ev env y = some (.v (.slice (offP src.p src.c m kk) (src.n - m) (src.c - m)))) (hap : appO C.tt T = some (kk, by_, z)) (hz : z.cells.size = kk) (hρ : look R ρ = some row) (hσ : look R σ = some src) (hkk : row.k = kk) (hks : src.k = kk) (hfree : envFree ρ env = true)
  (hone : ∀ u ∈ src.xs, u.oneCell' = true) (hm : m ≤ src.n) (hn : row.n + (src.n - m) = n') (hroom : n' * by_ ≤ 140737488355328) (hmax : n' ≤ 9223372036854775807)
  (hR : ∀ p' c', setRO R ρ ⟨row.k, p', n', c', row.xs ++ src.xs.drop (m * kk)⟩ = some (R' p' c'))
  (k : ∀ p' c', WX C (.ops ops r :: s) ((d, .v (.slice p' n' c')) :: env) L (R' p' c') Γ) : WX C (.ops ops (o :: r) :: s) env L R Γ := by
 subst hn
 refine WX.appX (ι := Unit) ρ (src.n - m) (fun _ => src.xs.drop (m * kk)) (fun _ => Γ) ht hg hd hlt ho hx hy hap hz hρ hkk hfree (fun w G bs hI hΓ => ⟨(), ?_, hΓ⟩) hroom (by simp only [maxLen]; omega) (fun _ p' c' => by rw [← setRO_eq (hR p' c')]; exact k p' c')
 obtain ⟨ti, e, te, hT, hde, hE, h1, _⟩ := appO_some hap
 obtain ⟨hu, _⟩ := ht.get hT
 rw [hde] at hu
 subst hks
 exact src_suf hu (hI.row σ src hσ) hone hm
section
variable {α : Type} [GoT α]
theorem ol_split {h : GH} {xs : List Value} {l : List α} (m : Nat) (hm : m ≤ l.length) (hs : Sep h [MF.ol xs l]) : Sep h [MF.ol (xs.take (m * k α)) (l.take m), MF.ol (xs.drop (m * k α)) (l.drop m)] := by
 have ho : OwL h xs l := sep_one hs
 rw [← List.take_append_drop m l] at ho
 obtain ⟨h1, h2, a1, a2, a3, a4, a5⟩ := ho.split
 have hl : (l.take m).length = m := by simp; omega
 rw [hl] at a4 a5
 exact ⟨h1, h2, a1, a2, a3, a4, one_sep a5⟩
theorem ol_drop {h : GH} {xs : List Value} {l : List α} {m m2 : Nat} (hm : m ≤ m2) (hl : m2 ≤ l.length) (hs : Sep h [MF.ol (xs.drop (m * k α)) (l.drop m)]) : Sep h [MF.ol (xs.drop (m2 * k α)) (l.drop m2)] := by
 have h1 := ol_split (m2 - m) (by rw [List.length_drop]; omega) hs
 obtain ⟨_, h2, _, a2, _, _, a5⟩ := h1
 have e1 : (xs.drop (m * k α)).drop ((m2 - m) * k α) = xs.drop (m2 * k α) := by rw [List.drop_drop, ← Nat.add_mul]; congr 2; omega
 have e2 : (l.drop m).drop (m2 - m) = l.drop m2 := by rw [List.drop_drop]; congr 1; omega
 rw [e1, e2] at a5
 exact a5.mono a2
end
end Go.Stp

namespace Go.Stp
open GoT (X k ok sh fa oa)
def Gr {α : Type} (P : Program) (m : Sem α) : Prop := ∀ w v w', m.run P w = .ok v w' → Kp emp w w'
theorem Gr.bind {α β : Type} {P : Program} {m : Sem α} {f : α → Sem β} (hm : Gr P m) (hf : ∀ v, Gr P (f v)) : Gr P (m >>= f) := fun w v w' h => by
 rw [Sem.run_bind] at h
 cases hr : m.run P w with
 | ok x w1 => rw [hr] at h; exact (hm w x w1 hr).trans (hf x w1 v w' h)
 | _ => rw [hr] at h; cases h
theorem gr_pure {α : Type} {P : Program} (x : α) : Gr P (pure x : Sem α) := fun w v w' h => by
 rw [Sem.run_pure] at h; cases h; exact Kp.refl _ _
theorem gr_halt {α : Type} {P : Program} (x : Halt) : Gr P (.halt x : Sem α) := fun w v w' h => by cases h
theorem gr_program {P : Program} : Gr P program := fun w v w' h => by cases h; exact Kp.refl _ _
theorem gr_underlying {P : Program} (t : TypeId) : Gr P (underlying t) := Gr.bind gr_program fun _ => by
 split
 ·exact gr_pure _
 ·exact gr_halt _
theorem gr_typeInfo {P : Program} (t : TypeId) : Gr P (typeInfo t) := Gr.bind gr_program fun _ => by
 split
 ·exact gr_pure _
 ·exact gr_halt _
theorem gr_sizeOf {P : Program} (t : TypeId) : Gr P (Go.sizeOf t) := Gr.bind (gr_typeInfo t) fun _ => gr_pure _
theorem gr_zeroValue {P : Program} (t : TypeId) : Gr P (zeroValue t) := Gr.bind (gr_typeInfo t) fun _ => by
 split
 ·exact gr_pure _
 ·exact gr_halt _
theorem gr_newRow {P : Program} (e : TypeId) (cs : Array Value) : Gr P (newRow e cs) := Gr.bind (fun w v w' h => by
 have h' : Result.ok w.heap.size (w.alloc (Obj.cells cs e)) = .ok v w' := h
 cases h'
 exact (Kp.refl emp w).alloc _) fun _ => gr_pure _
theorem gr_buildSlice {P : Program} (t : TypeId) (n : Nat) (ps : Array (Nat × Value)) : Gr P (Instr.buildSlice t n ps) := by
 unfold Instr.buildSlice
 refine Gr.bind (gr_underlying _) fun d => ?_
 split
 ·rename_i el
  refine Gr.bind (gr_sizeOf _) fun size => ?_
  have key : ∀ z : Array Value, Gr P (match Instr.fill (fun i => some (i * size, size)) ((Array.range (n * size)).map (z[· % z.size]!)) ps.toList with
    | some cells => do pure (Value.slice (some (← newRow el cells)) n n)
    | _ => stuck "buildSlice: a part of the wrong size") := fun z => by
   split
   ·exact Gr.bind (gr_newRow _ _) fun _ => gr_pure _
   ·exact gr_halt _
  have rest : Gr P (do
    let zero ← if n * size = 0 then pure #[] else do pure (← zeroValue el).cells
    match Instr.fill (fun i => some (i * size, size)) ((Array.range (n * size)).map (zero[· % zero.size]!)) ps.toList with
    | some cells => do pure (Value.slice (some (← newRow el cells)) n n)
    | _ => stuck "buildSlice: a part of the wrong size") := by
   by_cases h2 : n * size = 0
   ·rw [if_pos h2]; exact Gr.bind (gr_pure _) fun z => key z
   ·rw [if_neg h2]; first | exact Gr.bind (gr_zeroValue el) fun v => key v.cells | exact Gr.bind (m := (do pure (← zeroValue el).cells)) (Gr.bind (gr_zeroValue el) fun _ => gr_pure _) fun z => key z | exact Gr.bind (gr_zeroValue el) fun v => Gr.bind (gr_pure _) fun z => key z
  by_cases h2 : n * size = 0
  ·simp only [if_pos h2] at rest ⊢
   by_cases h1 : n * size > 2 ^ 24
   ·rw [if_pos h1]; exact Gr.bind (gr_halt _) fun _ => rest
   ·rw [if_neg h1]; exact rest
  ·simp only [if_neg h2] at rest ⊢
   by_cases h1 : n * size > 2 ^ 24
   ·rw [if_pos h1]; exact Gr.bind (gr_halt _) fun _ => rest
   ·rw [if_neg h1]; exact rest
 ·exact gr_halt _
def presO : Op → Bool
 | .alloc _ => true
 | .box _ _ => true
 | .buildSlice _ _ _ => true
 | _ => false
theorem gr_pres {P : Program} {ev : Operand → Value} {o : Oper} (h : presO o.op = true) : Gr P (execOp ev o) := by
 unfold execOp
 cases ho : o.op <;> rw [ho] at h <;> simp only [presO, Bool.false_eq_true] at h
 ·exact Gr.bind (Gr.bind (gr_zeroValue _) fun _ => Gr.bind (gr_newRow _ _) fun _ => gr_pure _) fun _ => gr_pure _
 ·exact Gr.bind (Gr.bind (gr_newRow _ _) fun _ => gr_pure _) fun _ => gr_pure _
 ·exact Gr.bind (gr_buildSlice _ _ _) fun _ => gr_pure _
theorem presO_enter {P : Program} {ev : Operand → Value} {o : Oper} (h : presO o.op = true) {w w' : World} {x : Next} (hr : (execOp ev o).run P w = .ok x w') : ∃ v, x = .value v := by
 unfold execOp at hr
 cases ho : o.op <;> rw [ho] at h <;> simp only [presO, Bool.false_eq_true] at h <;> rw [ho] at hr <;> simp only [Sem.run_bind] at hr
 all_goals (
  revert hr
  generalize (Sem.run P _ w) = q
  intro hr
  cases q with
  | ok y w1 => simp only [Result.andThen_ok, Sem.run_pure] at hr; cases hr; exact ⟨_, rfl⟩
  | _ => cases hr)
theorem wpOp_pres {P : Program} {ops : Array Oper} {Q : Exit → Act → World → Prop} {k : Nat} {o : Oper} (ho : ops[k]? = some o) (hp : presO o.op = true) {K : Act → World → Prop} {a : Act} {w : World} (h : wpOp P ops Q k K a w) : wpOp P ops Q k (fun a' w' => Kp emp w w' ∧ K a' w') a w := by
 unfold wpOp at h ⊢
 simp only [ho] at h ⊢
 split at h
 ·rename_i hw
  rw [if_pos hw]
  refine h.imp (fun h => ?_) id
  unfold Oper.wp at h ⊢
  generalize hr : (execOp a.eval o).run P w = r at h ⊢
  cases r with
  | ok x w' =>
   obtain ⟨v, rfl⟩ := presO_enter hp hr
   exact ⟨gr_pres hp _ _ _ hr, h⟩
  | halt x w' => cases x <;> exact h
 ·rename_i hw
  rw [if_neg hw]
  exact ⟨Kp.refl _ _, h⟩
def presB (ops : Array Oper) (k : Nat) : Bool := match getO ops.toList k with | some o => presO o.op | none => false
def seqL2 (ops : Array Oper) (tl : List Nat) : List Nat → Array Bool → Bool
 | [], listed => (Region.ready .any ops listed).isEmpty
 | k :: r, listed => decide (Region.ready .any ops listed = [k]) && (tl.contains k || presB ops k) && seqL2 ops tl r (listed.setIfInBounds k true)
theorem wpAnyT_of_seq2 {P : Program} {ops : Array Oper} {Q : Exit → Act → World → Prop} {S : World → Prop} {tl : List Nat} (hS : ∀ w w', Kp emp w w' → S w → S w') : ∀ (is : List Nat) (l : List Oper) (listed : Array Bool) (a : Act) (w : World), pickO ops.toList is = some l → seqL2 ops tl is listed = true → wpList P ops Q l a w → wpAnyT P ops Q S tl is.length listed a w
 | [], l, _, _, _, hl, hB, h => by simp [pickO] at hl; subst hl; exact ⟨by simpa [seqL2] using hB, h⟩
 | k :: is, l, listed, a, w, hl, hB, h => by
  simp only [pickO] at hl
  split at hl
  ·rename_i o ho
   split at hl
   ·rename_i q hq
    simp at hl; subst hl
    have ho2 := ho
    rw [getO_eq] at ho
    have h0 : ops[k]? = some o := by simpa using ho
    simp only [seqL2, Bool.and_eq_true, decide_eq_true_eq, Bool.or_eq_true] at hB
    refine ⟨fun h1 => (by rw [hB.1.1] at h1; cases h1), fun i hi => ?_⟩
    rw [hB.1.1] at hi
    have hik : i = k := by simpa using hi
    subst hik
    have hw : wpOp P ops Q i (wpList P ops Q q) a w := by unfold wpOp; simp only [h0]; exact h
    rcases hB.1.2 with ht | hp
    ·exact wpOp_mono (fun a' w' h' => ⟨fun h => (by rw [ht] at h; cases h), wpAnyT_of_seq2 hS is q _ a' w' hq hB.2 h'⟩) hw
    ·have hp' : presO o.op = true := by unfold presB at hp; rw [ho2] at hp; exact hp
     exact wpOp_mono (fun a' w' h' => ⟨fun _ => hS _ _ h'.1, wpAnyT_of_seq2 hS is q _ a' w' hq hB.2 h'.2⟩) (wpOp_pres h0 hp' hw)
   ·cases hl
  ·cases hl
theorem SB.keep {C : Cx} {bs : Nat → Nat} {G0 : GH} {L : Locs} {R : Rows} {w w' : World} (hb : Kp emp w w') (h : SB C bs G0 L R w) : SB C bs G0 L R w' := by
 obtain ⟨G, hle, hI⟩ := h
 exact ⟨_, hle.trans (le_join_l (cut G emp) emp), (hI.called (emp_le _) (fun _ _ h => by cases h) hb (emp_le _) (fun _ _ h => by cases h)).1⟩
theorem DX.tail2 {C : Cx} {ops : Array Oper} {tl : List Nat} {s : List It} {bs : Nat → Nat} {G0 : GH} {fuel : Nat} {listed : Array Bool} {env : Env} {L : Locs} {R : Rows} {Γ : Facts} {rest : List Oper} (is : List Nat) (hr : pickO ops.toList is = some rest) (hf : fuel = is.length) (hs : seqL2 ops tl is listed = true)
  (k : WX C (.ops ops rest :: s) env L R Γ) : DX C ops tl s bs G0 fuel listed env L R Γ := by
 intro _ a w G _ hS
 subst hf
 exact wpAnyT_of_seq2 (fun _ _ hb h => h.keep hb) is rest listed a w hr hs (k a w ⟨G, bs, hS⟩)
def DXS (C : Cx) (ops : Array Oper) (tl : List Nat) (s : List It) (S : World → Prop) (bs : Nat → Nat) (G0 : GH) (fuel : Nat) (listed : Array Bool) (env : Env) (L : Locs) (R : Rows) (Γ : Facts) : Prop :=
 Closed ops listed → ∀ a w G, Le G0 G → SatB C env L R Γ G bs a w → wpAnyT C.P ops (cont C s) S tl fuel listed a w
structure DXA (C : Cx) (ops : Array Oper) (tl : List Nat) (s : List It) (bs : Nat → Nat) (G0 : GH) (fuel : Nat) (listed : Array Bool) (env : Env) (L : Locs) (R : Rows) (Γ : Facts) (j d : Nat) (l : Loc) : Prop where
 no : DXS C ops tl s (SB C bs G0 L R) bs G0 (fuel + 1) listed env L R Γ
 yes : ∀ b, DXS C ops tl s (SB C bs G0 L R) (fun i => if i = d then b else bs i) G0 fuel (listed.setIfInBounds j true) ((d, .p d 0) :: env) ((d, l) :: L) R Γ
theorem DX.pend {C : Cx} {ops : Array Oper} {tl : List Nat} {s : List It} {bs : Nat → Nat} {G0 : GH} {fuel : Nat} {listed : Array Bool} {env : Env} {L : Locs} {R : Rows} {Γ : Facts} (j d : Nat) (l : Loc) (k : DXA C ops tl s bs G0 fuel listed env L R Γ j d l) : DX C ops tl s bs G0 (fuel + 1) listed env L R Γ := k.no
theorem HInv.unalloc {C : Cx} {w : World} {G : GH} {bs : Nat → Nat} {L : Locs} {R : Rows} {d b : Nat} {l : Loc} (hI : HInv C w G (fun i => if i = d then b else bs i) ((d, l) :: L) R) (hL : keyHas d L = false) (hR : keyHas d R = false) (h999 : d ≠ 999) : HInv C w G bs L R := by
 have hnL : ∀ {i : Nat} {x : Loc}, look L i = some x → i ≠ d := fun h => keyHas_not hL h
 have hnR : ∀ {i : Nat} {x : Row}, look R i = some x → i ≠ d := fun h => keyHas_not hR h
 have hup : ∀ {i : Nat} {x : Loc}, look L i = some x → look ((d, l) :: L) i = some x := fun h => by rw [look_cons, if_neg (Ne.symm (hnL h))]; exact h
 have hact : ∀ {i : Nat}, Acts L R i → Acts ((d, l) :: L) R i ∧ i ≠ d := fun h => by
  rcases h with ⟨x, hx⟩ | ⟨r, hr, hc⟩
  ·exact ⟨.inl ⟨x, hup hx⟩, hnL hx⟩
  ·exact ⟨.inr ⟨r, hr, hc⟩, hnR hr⟩
 refine ⟨hI.keep, hI.le, fun i x hx => ?_, fun i r hr => ?_, fun i j hij hi hj => ?_, fun i x r hx hr => hI.dis i x r (hup hx) hr, fun b' hb' => ?_, hI.nr⟩
 ·have := hI.loc i x (hup hx)
  simpa only [if_neg (hnL hx)] using this
 ·have := hI.row i r hr
  simpa only [if_neg (hnR hr)] using this
 ·obtain ⟨h1, h2⟩ := hact hi
  obtain ⟨h3, h4⟩ := hact hj
  have := hI.inj i j hij h1 h3
  simpa only [if_neg h2, if_neg h4] using this
 ·have := hI.pin b' hb'
  simpa only [if_neg (Ne.symm h999)] using this
theorem At.less {n d : Nat} {s : SV} {env : Env} {bs : Nat → Nat} {a : Act} (h : At n ((d, s) :: env) bs a) (hd : look env d = none) : At n env bs a := by
 refine ⟨h.size, h.dfr, fun e x hx => h.slot e x ?_⟩
 rw [look_cons]
 split
 ·rename_i he; subst he; rw [hd] at hx; cases hx
 ·exact hx
theorem At.swap {n d e : Nat} {s t : SV} {env : Env} {bs : Nat → Nat} {a : Act} (h : At n ((e, t) :: (d, s) :: env) bs a) (hde : Nat.beq e d = false) : At n ((d, s) :: (e, t) :: env) bs a := by
 have hne : e ≠ d := fun h => by subst h; simp at hde
 refine ⟨h.size, h.dfr, fun i x hx => h.slot i x ?_⟩
 rw [look_cons] at hx ⊢
 split
 ·rename_i he; subst he
  rw [if_neg (Ne.symm hne), look_cons, if_pos rfl] at hx; exact hx
 ·rename_i he
  rw [look_cons]
  split
  ·rename_i hd; subst hd; rw [if_pos rfl] at hx; exact hx
  ·rename_i hd; rw [if_neg hd, look_cons, if_neg he] at hx; exact hx
theorem pend_step {C : Cx} {ops : Array Oper} {tl : List Nat} {s : List It} {bs : Nat → Nat} {G0 G : GH} {fuel : Nat} {listed : Array Bool} {env : Env} {L : Locs} {R : Rows} {Γ : Facts} {j d : Nat} {l : Loc} {oj : Oper} {a : Act} {w : World} (ht : TabOk C.P C.tt) (hj : ops[j]? = some oj) (hd : oj.dst = some d) (hlt : d < C.fn.ntmps) (hg : gd ops env oj = some true) (hl : ladd C.tt env oj.op = some l) (hnl : labHas d env L R = false)
  (hle : Le G0 G) (hS : SatB C env L R Γ G bs a w) (hc : Closed ops (listed.setIfInBounds j true))
  (k : ∀ b, DXS C ops tl s (SB C bs G0 L R) (fun i => if i = d then b else bs i) G0 fuel (listed.setIfInBounds j true) ((d, .p d 0) :: env) ((d, l) :: L) R Γ) :
  wpOp C.P ops (cont C s) j (fun a' w' => (tl.contains j = false → SB C bs G0 L R w → SB C bs G0 L R w') ∧ wpAnyT C.P ops (cont C s) (SB C bs G0 L R) tl fuel (listed.setIfInBounds j true) a' w') a w := by
 obtain ⟨hA, hI, hΓ⟩ := hS
 unfold wpOp
 simp only [hj]
 rw [if_pos (gd_sound hA hg)]
 refine .inl ?_
 unfold Oper.wp
 rw [ladd_sound ht hA hl]
 simp only [Oper.upon, hd]
 have hI' := hI.alloc d (labHas_not hnl).2.2.2 (labHas_not hnl).2.1 (labHas_not hnl).2.2.1 l
 have hA' := (hA.notH (d := d) (bs' := fun j => if j = d then w.heap.size else bs j) (labHas_not hnl).1 (fun i hi => if_neg hi)).put hlt (.p d 0)
 simp only [conc, if_true] at hA'
 exact ⟨fun _ _ => ⟨G, hle, hI'.unalloc (labHas_not hnl).2.1 (labHas_not hnl).2.2.1 (labHas_not hnl).2.2.2⟩, k _ hc _ _ G hle ⟨hA', hI', hΓ⟩⟩
theorem DXA.tail {C : Cx} {ops : Array Oper} {tl : List Nat} {s : List It} {bs : Nat → Nat} {G0 : GH} {fuel : Nat} {listed : Array Bool} {env : Env} {L : Locs} {R : Rows} {Γ : Facts} {j d : Nat} {l : Loc} {oj : Oper} {rest : List Oper} (is : List Nat) (ht : TabOk C.P C.tt) (hj : getO ops.toList j = some oj) (hd : oj.dst = some d) (hlt : Nat.blt d C.fn.ntmps = true) (hg : gd ops env oj = some true) (hl : ladd C.tt env oj.op = some l) (hnl : labHas d env L R = false)
  (hr : Region.ready .any ops listed = [j]) (hp : pickO ops.toList is = some rest) (hf : fuel = is.length) (hs : seqL2 ops tl is (listed.setIfInBounds j true) = true) (k : WX C (.ops ops rest :: s) ((d, .p d 0) :: env) ((d, l) :: L) R Γ) : DXA C ops tl s bs G0 fuel listed env L R Γ j d l := by
 rw [getO_eq] at hj
 have hj' : ops[j]? = some oj := by simpa using hj
 have yes : ∀ b, DXS C ops tl s (SB C bs G0 L R) (fun i => if i = d then b else bs i) G0 fuel (listed.setIfInBounds j true) ((d, .p d 0) :: env) ((d, l) :: L) R Γ := fun b _ a w G _ hS => by
  subst hf
  exact wpAnyT_of_seq2 (fun _ _ hb h => h.keep hb) is rest _ a w hp hs (k a w ⟨G, _, hS⟩)
 refine ⟨fun hc a w G hle hS => ⟨fun h => (by rw [hr] at h; cases h), fun i hi => ?_⟩, yes⟩
 have hc' := hc.set hi
 rw [hr] at hi
 obtain rfl : i = j := by simpa using hi
 exact pend_step ht hj' hd (by simpa [Nat.blt_eq] using hlt) hg hl hnl hle hS hc' yes
theorem DXA.take {C : Cx} {ops : Array Oper} {tl : List Nat} {s : List It} {bs : Nat → Nat} {G0 : GH} {fuel : Nat} {listed : Array Bool} {env : Env} {L : Locs} {R : Rows} {Γ : Facts} {j d e : Nat} {l : Loc} {o : Oper} {sv : SV} (i : Nat) (hb : mayP ops listed i = true) (hb2 : mayP ops (listed.setIfInBounds j true) i = true) (hij : Nat.beq i j = false) (hi : getO ops.toList i = some o)
  (hg : gd ops env o = some true) (hg2 : gd ops ((d, .p d 0) :: env) o = some true) (he : o.dst = some e) (hlt : Nat.blt e C.fn.ntmps = true) (hed : Nat.beq e d = false) (hnd : look env d = none) (hl : LooksP C env o sv)
  (k : DXA C ops tl s bs G0 fuel (listed.setIfInBounds i true) ((e, sv) :: env) L R Γ j d l) : DXA C ops tl s bs G0 (fuel + 1) listed env L R Γ j d l := by
 rw [getO_eq] at hi
 have hi' : ops[i]? = some o := by simpa using hi
 have hne : i ≠ j := fun h => by subst h; simp at hij
 have hlt' : e < C.fn.ntmps := by simpa [Nat.blt_eq] using hlt
 have first : ∀ {bs' : Nat → Nat} {env' : Env} {L' : Locs} {f : Nat} {li : Array Bool}, mayP ops li i = true → gd ops env' o = some true → (∀ a w bs'', At C.fn.ntmps env' bs'' a → (execOp a.eval o).run C.P w = .ok (.value (conc bs'' sv)) w) →
   DXS C ops tl s (SB C bs G0 L R) bs' G0 f (li.setIfInBounds i true) ((e, sv) :: env') L' R Γ → DXS C ops tl s (SB C bs G0 L R) bs' G0 (f + 1) li env' L' R Γ := by
  intro bs' env' L' f li hm hgd hlk kk hcl a w G hle hS
  obtain ⟨hA, hI, hΓ⟩ := hS
  simp only [mayP, Bool.and_eq_true] at hm
  obtain ⟨⟨h1, h4⟩, h5⟩ := hm
  have hr : i ∈ Region.ready .any ops li := by simpa using h5
  refine wpAnyT_firstP hi' (Region.noSelect_spec h1) (fun c a w h => (cont_panic C s c _ _ h).elim) f li a w (Region.free_spec hi' h4) hr (v := conc bs' sv) (.inl ⟨gd_sound hA hgd, fun w' _ => hlk a w' bs' hA⟩) ?_
  rw [he]
  exact kk (hcl.set hr) _ _ G hle ⟨hA.put hlt' sv, hI, hΓ⟩
 refine ⟨first hb hg hl k.no, fun b => first hb2 hg2 (fun a w bs'' hA => hl a w bs'' (hA.less hnd)) ?_⟩
 intro hcl a w G hle ⟨hA, hI, hΓ⟩
 have := k.yes b
 rw [Array.setIfInBounds_comm _ _ (Ne.symm hne)] at hcl ⊢
 exact this hcl a w G hle ⟨hA.swap hed, hI, hΓ⟩
theorem looksP_pure {C : Cx} {env : Env} {o : Oper} {sv : SV} (ht : TabOk C.P C.tt) (h : pureS C.tt env [] o.op = some sv) : LooksP C env o sv := fun _ w _ hA => pureS_any ht w hA h
theorem DXA.der {C : Cx} {ops : Array Oper} {tl : List Nat} {s : List It} {bs : Nat → Nat} {G0 : GH} {fuel : Nat} {listed : Array Bool} {env : Env} {L : Locs} {R : Rows} {Γ : Facts} {j d : Nat} {l : Loc} (m : Nat) (f : MF) (hk : f.k = .der) (h : ∀ G, AllK C.M G Γ → f.p G)
  (k : DXA C ops tl s bs G0 fuel listed env L R ((m, f) :: Γ) j d l) : DXA C ops tl s bs G0 fuel listed env L R Γ j d l :=
 ⟨fun hcl a w G hle ⟨hA, hI, hΓ⟩ => k.no hcl a w G hle ⟨hA, hI, hΓ.der m f hk (h G hΓ)⟩, fun b hcl a w G hle ⟨hA, hI, hΓ⟩ => k.yes b hcl a w G hle ⟨hA, hI, hΓ.der m f hk (h G hΓ)⟩⟩
theorem DXA.callG {C : Cx} {ops : Array Oper} {tl : List Nat} {st : List It} {bs : Nat → Nat} {G0 : GH} {fuel : Nat} {listed : Array Bool} {env : Env} {L : Locs} {R : Rows} {Γ : Facts} {j d e : Nat} {l : Loc} {o oj : Oper} (i : Nat) {f : Operand} {args : List Operand} {ats : Array TypeId} {g : FuncId} {sf : SV} {svs : List SV} {caps : (Nat → Nat) → List Value}
  {ι : Type} {Q : Prop} {val : ι → Value} {Γ' : ι → Facts} {Ψ : World → Value → World → Prop} (ht : TabOk C.P C.tt) (hj : getO ops.toList j = some oj) (hd : oj.dst = some d) (hlt : Nat.blt d C.fn.ntmps = true) (hg : gd ops env oj = some true) (hl : ladd C.tt env oj.op = some l) (hnl : labHas d env L R = false) (hnd : look env d = none)
  (hr : (Region.ready .any ops listed).all (fun x => Nat.beq x i || Nat.beq x j) = true) (hr1 : (Region.ready .any ops listed).contains i = true) (hr2 : Region.ready .any ops (listed.setIfInBounds j true) = [i]) (hij : Nat.beq i j = false)
  (hi : getO ops.toList i = some o) (hgi : gd ops env o = some true) (hgi2 : gd ops ((d, .p d 0) :: env) o = some true) (he : o.dst = some e) (hlte : Nat.blt e C.fn.ntmps = true) (hed : Nat.beq e d = false) (ho : o.op = .call { callee := .value f, args := args.toArray, argTypes := ats })
  (hf : ev env f = some sf) (hf2 : ev ((d, .p d 0) :: env) f = some sf) (hsf : ∀ bs, conc bs sf = .func (.func g) #[] (caps bs).toArray) (hargs : evs env args = some svs) (hargs2 : evs ((d, .p d 0) :: env) args = some svs)
  (hc : ∀ w G bs, HInv C w G bs L R → AllK C.M (hp w) Γ → Does C.P g (svs.map (conc bs) ++ caps bs).toArray w emp (Ψ w))
  (hΨ : ∀ w v w' G bs (L : Locs) (R : Rows), HInv C w G bs L R → AllK C.M G Γ → Kp emp w w' → Ψ w v w' → ∃ x G', Q ∧ v = val x ∧ Le G G' ∧ HInv C w' G' bs L R ∧ AllK C.M G' (Γ' x))
  (k : ∀ x, Q → DXA C ops tl st bs G0 fuel (listed.setIfInBounds i true) ((e, .v (val x)) :: env) L R (Γ' x) j d l) : DXA C ops tl st bs G0 (fuel + 1) listed env L R Γ j d l := by
 rw [getO_eq] at hi hj
 have hi' : ops[i]? = some o := by simpa using hi
 have hj' : ops[j]? = some oj := by simpa using hj
 have hne : i ≠ j := fun h => by subst h; simp at hij
 have hlte' : e < C.fn.ntmps := by simpa [Nat.blt_eq] using hlte
 obtain ⟨l1, l2, l3, l4⟩ := labHas_not hnl
 have step : ∀ {bs' : Nat → Nat} {env' : Env} {L' : Locs} {fu : Nat} {li : Array Bool} {a : Act} {w : World} {G : GH}, gd ops env' o = some true → ev env' f = some sf → evs env' args = some svs → Le G0 G → SatB C env' L' R Γ G bs' a w → (∀ w G, HInv C w G bs' L' R → HInv C w G bs' L R) → (∀ w G, HInv C w G bs' L' R → HInv C w G bs L R) → Closed ops (li.setIfInBounds i true) →
   (∀ x, Q → DXS C ops tl st (SB C bs G0 L R) bs' G0 fu (li.setIfInBounds i true) ((e, .v (val x)) :: env') L' R (Γ' x)) →
   wpOp C.P ops (cont C st) i (fun a' w' => (tl.contains i = false → SB C bs G0 L R w → SB C bs G0 L R w') ∧ wpAnyT C.P ops (cont C st) (SB C bs G0 L R) tl fu (li.setIfInBounds i true) a' w') a w := by
  intro bs' env' L' fu li a w G h1 h2 h3 hle hS hsub hsub2 hcl kk
  obtain ⟨hA, hI, hΓ⟩ := hS
  unfold wpOp
  simp only [hi']
  rw [if_pos (gd_sound hA h1)]
  refine .inl ?_
  unfold Oper.wp
  obtain ⟨hen, hcalls⟩ := hc w G bs' (hsub w G hI) (hΓ.mono hI.le)
  rw [exec_call hen ho (by rw [ev_conc hA h2, hsf]) (evs_sound hA args svs h3)]
  simp only [Oper.upon]
  refine hcalls.mono fun ee w' ⟨v, hv, hb, hψ⟩ => ?_
  subst hv
  rw [he]
  obtain ⟨x, G', hq, hv, hGG, hI', hΓ'⟩ := hΨ w v w' G bs' L' R hI hΓ hb hψ
  subst hv
  exact ⟨fun _ _ => ⟨G', hle.trans hGG, hsub2 w' G' hI'⟩, kk x hq hcl _ _ G' (hle.trans hGG) ⟨hA.put hlte' (.v (val x)), hI', hΓ'⟩⟩
 have yes : ∀ b, DXS C ops tl st (SB C bs G0 L R) (fun i => if i = d then b else bs i) G0 (fuel + 1) (listed.setIfInBounds j true) ((d, .p d 0) :: env) ((d, l) :: L) R Γ := fun b hcl a w G hle hS => by
  refine ⟨fun h => (by rw [hr2] at h; cases h), fun x hx => ?_⟩
  have hcl' := hcl.set hx
  rw [hr2] at hx
  obtain rfl : x = i := by simpa using hx
  refine step hgi2 hf2 hargs2 hle hS (fun w G h => h.sub (fun q y hy => by rw [look_cons, if_neg (Ne.symm (keyHas_not l2 hy))]; exact hy) (Sub.refl _)) (fun w G h => h.unalloc l2 l3 l4) hcl' (fun x hq => ?_)
  intro hcl2 a w G hle ⟨hA, hI, hΓ⟩
  have := (k x hq).yes b
  rw [Array.setIfInBounds_comm _ _ (Ne.symm hne)] at hcl2 ⊢
  exact this hcl2 a w G hle ⟨hA.swap hed, hI, hΓ⟩
 refine ⟨fun hcl a w G hle hS => ⟨fun h => (by rw [h] at hr1; simp at hr1), fun x hx => ?_⟩, yes⟩
 have hcl' := hcl.set hx
 have hx' := List.all_eq_true.1 hr x hx
 simp only [Bool.or_eq_true] at hx'
 rcases hx' with h | h
 ·have := Nat.eq_of_beq_eq_true h
  subst this
  exact step hgi hf hargs hle hS (fun _ _ h => h) (fun _ _ h => h) hcl' (fun x hq => (k x hq).no)
 ·have := Nat.eq_of_beq_eq_true h
  subst this
  exact pend_step ht hj' hd (by simpa [Nat.blt_eq] using hlt) hg hl hnl hle hS hcl' yes
theorem DXA.callV {C : Cx} {ops : Array Oper} {tl : List Nat} {st : List It} {bs : Nat → Nat} {G0 : GH} {fuel : Nat} {listed : Array Bool} {env : Env} {L : Locs} {R : Rows} {Γ : Facts} {j d e : Nat} {l : Loc} {o oj : Oper} (i : Nat) {f : Operand} {args : List Operand} {ats : Array TypeId} {g : FuncId} {sf : SV} {svs : List SV} {caps : (Nat → Nat) → List Value}
  {c : Value} {Q : Prop} (ht : TabOk C.P C.tt) (hj : getO ops.toList j = some oj) (hd : oj.dst = some d) (hlt : Nat.blt d C.fn.ntmps = true) (hg : gd ops env oj = some true) (hl : ladd C.tt env oj.op = some l) (hnl : labHas d env L R = false) (hnd : look env d = none)
  (hr : (Region.ready .any ops listed).all (fun x => Nat.beq x i || Nat.beq x j) = true) (hr1 : (Region.ready .any ops listed).contains i = true) (hr2 : Region.ready .any ops (listed.setIfInBounds j true) = [i]) (hij : Nat.beq i j = false)
  (hi : getO ops.toList i = some o) (hgi : gd ops env o = some true) (hgi2 : gd ops ((d, .p d 0) :: env) o = some true) (he : o.dst = some e) (hlte : Nat.blt e C.fn.ntmps = true) (hed : Nat.beq e d = false) (ho : o.op = .call { callee := .value f, args := args.toArray, argTypes := ats })
  (hf : ev env f = some sf) (hf2 : ev ((d, .p d 0) :: env) f = some sf) (hsf : ∀ bs, conc bs sf = .func (.func g) #[] (caps bs).toArray) (hargs : evs env args = some svs) (hargs2 : evs ((d, .p d 0) :: env) args = some svs)
  (hc : ∀ w G bs, HInv C w G bs L R → AllK C.M (hp w) Γ → Does C.P g (svs.map (conc bs) ++ caps bs).toArray w emp fun v _ => v = c ∧ Q)
  (k : Q → DXA C ops tl st bs G0 fuel (listed.setIfInBounds i true) ((e, .v c) :: env) L R Γ j d l) : DXA C ops tl st bs G0 (fuel + 1) listed env L R Γ j d l :=
 DXA.callG (ι := Unit) (Q := Q) (val := fun _ => c) (Γ' := fun _ => Γ) (Ψ := fun _ v _ => v = c ∧ Q) i ht hj hd hlt hg hl hnl hnd hr hr1 hr2 hij hi hgi hgi2 he hlte hed ho hf hf2 hsf hargs hargs2 hc
  (fun w v w' G bs L R hI hΓ hb ⟨hv, hq⟩ => ⟨(), join (cut G emp) emp, hq, hv, le_join_l (cut G emp) emp, (hI.called (emp_le _) (fun _ _ h => by cases h) hb (emp_le _) (fun _ _ h => by cases h)).1, hΓ.mono (le_join_l (cut G emp) emp)⟩) (fun _ => k)
theorem DXA.callF {C : Cx} {ops : Array Oper} {tl : List Nat} {st : List It} {bs : Nat → Nat} {G0 : GH} {fuel : Nat} {listed : Array Bool} {env : Env} {L : Locs} {R : Rows} {Γ : Facts} {j d e : Nat} {l : Loc} {o oj : Oper} (i m : Nat) {f : Operand} {args : List Operand} {ats : Array TypeId} {g : FuncId} {sf : SV} {svs : List SV} {caps : (Nat → Nat) → List Value}
  {ι : Type} {val val' : ι → Value} {gs ds : ι → List MF} {Q : Prop} {Γ' : ι → Facts} (hds : ∀ i h, Sep h (gs i) → All h (ds i)) (hdk : ∀ i, ∀ f ∈ ds i, f.k = .der) (ht : TabOk C.P C.tt) (hj : getO ops.toList j = some oj) (hd : oj.dst = some d) (hlt : Nat.blt d C.fn.ntmps = true) (hg : gd ops env oj = some true) (hl : ladd C.tt env oj.op = some l) (hnl : labHas d env L R = false) (hnd : look env d = none)
  (hr : (Region.ready .any ops listed).all (fun x => Nat.beq x i || Nat.beq x j) = true) (hr1 : (Region.ready .any ops listed).contains i = true) (hr2 : Region.ready .any ops (listed.setIfInBounds j true) = [i]) (hij : Nat.beq i j = false)
  (hi : getO ops.toList i = some o) (hgi : gd ops env o = some true) (hgi2 : gd ops ((d, .p d 0) :: env) o = some true) (he : o.dst = some e) (hlte : Nat.blt e C.fn.ntmps = true) (hed : Nat.beq e d = false) (ho : o.op = .call { callee := .value f, args := args.toArray, argTypes := ats })
  (hf : ev env f = some sf) (hf2 : ev ((d, .p d 0) :: env) f = some sf) (hsf : ∀ bs, conc bs sf = .func (.func g) #[] (caps bs).toArray) (hargs : evs env args = some svs) (hargs2 : evs ((d, .p d 0) :: env) args = some svs)
  (hc : ∀ w G bs, HInv C w G bs L R → AllK C.M (hp w) Γ → Does C.P g (svs.map (conc bs) ++ caps bs).toArray w emp (Post w emp val gs Q))
  (hv : ∀ i, normV (val i) = some (val' i)) (hΓ' : ∀ i, addF m (ds i ++ gs i) Γ = some (Γ' i))
  (k : ∀ x, Q → DXA C ops tl st bs G0 fuel (listed.setIfInBounds i true) ((e, .v (val' x)) :: env) L R (Γ' x) j d l) : DXA C ops tl st bs G0 (fuel + 1) listed env L R Γ j d l :=
 DXA.callG (ι := ι) (Q := Q) (val := val') (Γ' := Γ') (Ψ := fun w v w' => Post w emp val gs Q v w') i ht hj hd hlt hg hl hnl hnd hr hr1 hr2 hij hi hgi hgi2 he hlte hed ho hf hf2 hsf hargs hargs2 hc
  (fun w v w' G bs L R hI hΓ hb hv' => by
   obtain ⟨x, h, rfl, hq, hle1, hdom, hs⟩ := hv'
   obtain ⟨hI', hdj⟩ := hI.called (emp_le _) (fun _ _ h => by cases h) hb hle1 hdom
   exact ⟨x, join (cut G emp) h, hq, (normV_eq (hv x)).symm, le_join_l (cut G emp) h, hI', hΓ.after hdj (fun b o hb' => .inl ((hdom b o hb').elim (Nat.le_trans hI.keep.size) (fun h => absurd rfl h))) hs (hdk x) (hds x h hs) (hΓ' x)⟩) k
end Go.Stp

namespace Go.Stp
open GoT (X k ok sh fa oa)
theorem looks_cap {C : Cx} {env : Env} {L : Locs} {R : Rows} {G : GH} {o : Oper} {x : Operand} {T n c e : Nat} {p : Option Addr} {ti : TI} (ht : TabOk C.P C.tt) (ho : o.op = .call { callee := .builtin .cap, args := #[x], argTypes := #[T] }) (hT : look C.tt T = some ti) (hd : ti.desc = .slice e)
  (hx : ev env x = some (.v (.slice p n c))) : Looks C env L R G o (.v (.int .i64 (c : Int))) := by
 intro a w G' bs _ hA hI
 have hu : C.P.underlying T = some (.slice e) := by rw [← hd]; exact (ht.get hT).1
 unfold execOp
 simp [ho, resolve, invoke, builtin, ev_conc hA hx, conc, Builtin.cap_, run_underlying hu, goInt]
theorem WX.widen {C : Cx} {s : List It} {env : Env} {L : Locs} {R : Rows} {Γ : Facts} {row : Row} (ρ n' : Nat) {R' : List Value → Rows} (hρ : look R ρ = some row) (hn : row.n ≤ n') (hc : n' ≤ row.c) (hR : ∀ jk, setRO R ρ ⟨row.k, row.p, n', row.c, row.xs ++ jk⟩ = some (R' jk))
  (k : ∀ jk, jk.length = (n' - row.n) * row.k → WX C s env L (R' jk) Γ) : WX C s env L R Γ := by
 rintro a w ⟨G, bs, hA, hI, hΓ⟩
 have hrow := hI.row ρ row hρ
 have triv : row.n = 0 → n' = 0 → cont C s .normal a w := fun h1 h2 => by
  refine k [] (by rw [h1, h2]; simp) a w ⟨G, bs, hA, ?_, hΓ⟩
  rw [setRO_eq (hR [])]
  have : (⟨row.k, row.p, n', row.c, row.xs ++ []⟩ : Row) = row := by rw [List.append_nil, h2, ← h1]
  rw [this]
  exact hI.respell (look_setR_same hρ)
 rcases hrow.2 with ⟨h0, hn0⟩ | ⟨o1, hp, _, _, hnc, _, cur, T, hh, hcs, htk⟩
 ·exact triv hn0 (by omega)
 ·by_cases hc0 : row.c = 0
  ·exact triv (by omega) (by omega)
  ·have hn1 : row.n * row.k ≤ n' * row.k := Nat.mul_le_mul_right _ hn
   have hn2 : n' * row.k ≤ row.c * row.k := Nat.mul_le_mul_right _ hc
   have hl : ((cur.toList.drop o1).take (n' * row.k)).length = n' * row.k := by simp; omega
   have hsp : (cur.toList.drop o1).take (n' * row.k) = row.xs ++ ((cur.toList.drop o1).take (n' * row.k)).drop (row.n * row.k) := by
    have h1 : row.xs = ((cur.toList.drop o1).take (n' * row.k)).take (row.n * row.k) := by rw [List.take_take, Nat.min_eq_left hn1, htk]
    rw [h1, List.take_append_drop]
   refine k (((cur.toList.drop o1).take (n' * row.k)).drop (row.n * row.k)) (by rw [List.length_drop, hl, Nat.sub_mul]) a w ⟨G, bs, hA, ?_, hΓ⟩
   rw [setRO_eq (hR _), ← hsp]
   have := hI.wr hρ hp hc0 hh hcs rfl hc hl rfl
   rwa [setRow_self w (bs ρ) cur T (0, 0) hh] at this
theorem run_copyK {P : Program} (w : World) (dT sT ty elem kk g o dLen dCap : Nat) (a : Addr) (sLen sCap : Nat) (cur : Array Value) (t : TypeId) (cs : List Value) (hu : P.underlying dT = some (.slice elem)) (hs : (Go.sizeOf elem).run P w = .ok kk w)
  (hg : w.heap[g]? = some (.cells cur t (0, 0))) (hn : cs.length = Nat.min sLen dLen * kk) (hsrc : ∀ j v, cs[j]? = some v → w.cell? (a.add j) = some v) (hfit : o + cs.length ≤ cur.size) (h1 : ∀ v ∈ cs, v.oneCell' = true) :
  (Builtin.copy_ #[dT, sT] ty #[.slice (some ⟨g, o, none⟩) dLen dCap, .slice (some a) sLen sCap]).run P w = .ok (goInt (Nat.min sLen dLen)) (w.setRow g (cur.toList.take o ++ cs ++ cur.toList.drop (o + cs.length)).toArray) := by
 have hl := run_loadCells_list (P := P) w a cs hsrc
 have hst := run_storeCells_at P g o t cs 0 cur w hg (by simpa using hfit) h1
 simp [Builtin.copy_, run_underlying hu, Builtin.lenOf, Builtin.firstCells, hs, ← hn, hl, hst]
theorem WX.cpy {C : Cx} {ops : Array Oper} {o : Oper} {r : List Oper} {s : List It} {env : Env} {L : Locs} {R R' : Rows} {Γ : Facts} {d : Nat} {x y : Operand} {T e kk by_ dl dc sl sc : Nat} {z : List Value} {sp : Option Addr} {row : Row} (ρ i m : Nat) (news : List Value) (ht : TabOk C.P C.tt)
  (hg : gd ops env o = some true) (hd : o.dst = some d) (hlt : Nat.blt d C.fn.ntmps = true) (ho : o.op = .call { callee := .builtin .copy, args := #[x, y], argTypes := #[T, T] }) (hel : elO C.tt T = some (e, kk, by_, z))
  (hx : ev env x = some (.v (.slice (offP row.p row.c i kk) dl dc))) (hy : ev env y = some (.v (.slice sp sl sc))) (hρ : look R ρ = some row) (hkk : row.k = kk) (hm : Nat.min sl dl = m) (him : i + m ≤ row.n) (hnl : news.length = m * kk) (hone : ∀ u ∈ news, u.oneCell' = true)
  (hsrc : ∀ w G bs, HInv C w G bs L R → ∀ j u, news[j]? = some u → ∃ a, sp = some a ∧ w.cell? (a.add j) = some u) (hR : setRO R ρ ⟨row.k, row.p, row.n, row.c, row.xs.take (i * kk) ++ news ++ row.xs.drop (i * kk + news.length)⟩ = some R')
  (k : WX C (.ops ops r :: s) ((d, .v (.int .i64 (m : Int))) :: env) L R' Γ) : WX C (.ops ops (o :: r) :: s) env L R Γ := by
 refine WX.did (ι := Unit) (env' := fun _ => ((d, .v (.int .i64 (m : Int))) :: env)) (R' := fun _ => R') (Γ' := fun _ => Γ) hg (fun a w G bs hA hI hΓ => ?_) (fun _ => k)
 obtain ⟨hu, i', v, te, hE, hte, hi', h0, hs, _, hv, hzl, hpos⟩ := elO_some ht hel
 have hsz : ∀ w, (Go.sizeOf e).run C.P w = .ok kk w := fun w => by rw [run_sizeOf hi', hs]
 rw [setRO_eq hR, hd]
 subst hkk
 have hlt' : d < C.fn.ntmps := by simpa [Nat.blt_eq] using hlt
 by_cases hm0 : m = 0
 ·have hn0 : news = [] := List.eq_nil_of_length_eq_zero (by rw [hnl, hm0, Nat.zero_mul])
  have hmin : min sl dl = 0 := hm.trans hm0
  have hrun : (execOp a.eval o).run C.P w = .ok (.value (.int .i64 (m : Int))) w := by
   unfold execOp
   simp only [ho, resolve, invoke, builtin, Sem.run_bind, Sem.run_pure, Result.andThen_ok, List.map_toArray, List.map_cons, List.map_nil, ev_conc hA hx, ev_conc hA hy, conc_v]
   cases hpp : offP row.p row.c i row.k <;> cases hqq : sp <;> simp [Builtin.copy_, run_underlying hu, Builtin.lenOf, Builtin.firstCells, hsz, hmin, loadCells, loadCellsFrom, storeCells, goInt, hm0]
  have hrr : (⟨row.k, row.p, row.n, row.c, row.xs.take (i * row.k) ++ news ++ row.xs.drop (i * row.k + news.length)⟩ : Row) = row := by
   rw [hn0]; simp
  exact ⟨_, w, (), hrun, G, bs, hA.put hlt' (.v (.int .i64 (m : Int))), by rw [hrr]; exact hI.respell (look_setR_same hρ), hΓ⟩
 ·have hrow := hI.row ρ row hρ
  obtain ⟨o1, hp', hc0, cur, T', hh, hcs, htk, hnc⟩ := hrow.some (by omega)
  have hoff : offP row.p row.c i row.k = some ⟨bs ρ, o1 + i * row.k, none⟩ := by
   unfold offP; rw [if_neg (by omega), hp']; simp [Addr.add_lit]
  have hmk : 0 < m * row.k := Nat.mul_pos (by omega) hpos
  obtain ⟨u0, hu0⟩ : ∃ u, news[0]? = some u := ⟨_, List.getElem?_eq_getElem (by omega)⟩
  obtain ⟨sa, hsa, _⟩ := hsrc w G bs hI 0 u0 hu0
  have hik : (i + m) * row.k ≤ row.n * row.k := Nat.mul_le_mul_right _ him
  have hck : row.n * row.k ≤ row.c * row.k := Nat.mul_le_mul_right _ hnc
  rw [Nat.add_mul] at hik
  have hcp := run_copyK (P := C.P) w T T o.type e row.k (bs ρ) (o1 + i * row.k) dl dc sa sl sc cur T' news hu (hsz w) hh (by rw [hm]; exact hnl) (fun j u hj => by
   obtain ⟨a', h1, h2⟩ := hsrc w G bs hI j u hj
   rw [hsa] at h1; cases h1; exact h2) (by omega) hone
  have hrun : (execOp a.eval o).run C.P w = .ok (.value (.int .i64 (m : Int))) (w.setRow (bs ρ) (cur.toList.take (o1 + i * row.k) ++ news ++ cur.toList.drop (o1 + i * row.k + news.length)).toArray) := by
   unfold execOp
   simp only [ho, resolve, invoke, builtin, Sem.run_bind, Sem.run_pure, Result.andThen_ok, List.map_toArray, List.map_cons, List.map_nil, ev_conc hA hx, ev_conc hA hy, conc_v, hoff, hsa, hcp]
   simp [goInt, hm]
  refine ⟨_, _, (), hrun, G, bs, hA.put hlt' (.v (.int .i64 (m : Int))), ?_, hΓ⟩
  refine hI.wr hρ hp' hc0 hh hcs ?_ hnc ?_ ?_
  ·simp only [List.size_toArray, List.length_append, List.length_take, List.length_drop, Array.length_toList]; omega
  ·have h1 := hrow.1
   simp only [List.length_append, List.length_take, List.length_drop]; omega
  ·rw [← htk]
   exact splice_take cur.toList news o1 (i * row.k) (row.n * row.k) (by omega) (by simp; omega)
theorem src_cells {C : Cx} {w : World} {G : GH} {bs : Nat → Nat} {L : Locs} {R : Rows} {σ : Nat} {src : Row} (hI : HInv C w G bs L R) (hσ : look R σ = some src) (j m : Nat) (hjm : j + m ≤ src.n) :
  ∀ q u, ((src.xs.drop (j * src.k)).take (m * src.k))[q]? = some u → ∃ a, offP src.p src.c j src.k = some a ∧ w.cell? (a.add q) = some u := fun q u hq => by
 have hlen := (hI.row σ src hσ).1
 rw [List.getElem?_take] at hq
 split at hq
 ·rename_i hqm
  have hm0 : 0 < m := by
   rcases Nat.eq_zero_or_pos m with h | h
   ·rw [h, Nat.zero_mul] at hqm; omega
   ·exact h
  obtain ⟨o1, hp, hc0, cur, T, hh, hcs, htk, hnc⟩ := (hI.row σ src hσ).some (by omega)
  refine ⟨⟨bs σ, o1 + j * src.k, none⟩, by unfold offP; rw [if_neg (by omega), hp]; simp [Addr.add_lit], ?_⟩
  rw [Addr.add_lit, cell_of_row w _ _ cur T _ hh]
  rw [List.getElem?_drop, ← htk, List.getElem?_take, List.getElem?_drop] at hq
  split at hq
  ·simpa [Nat.add_assoc] using hq
  ·cases hq
 ·cases hq
theorem src_cells0 {C : Cx} {w : World} {G : GH} {bs : Nat → Nat} {L : Locs} {R : Rows} {σ : Nat} {src : Row} (hI : HInv C w G bs L R) (hσ : look R σ = some src) :
  ∀ q u, src.xs[q]? = some u → ∃ a, src.p = some a ∧ w.cell? (a.add q) = some u := fun q u hq => by
 have hlen := (hI.row σ src hσ).1
 have hlt := (List.getElem?_eq_some_iff.1 hq).1
 have hn0 : 0 < src.n := by
  rcases Nat.eq_zero_or_pos src.n with h | h
  ·rw [h, Nat.zero_mul] at hlen; omega
  ·exact h
 obtain ⟨o1, hp, hc0, cur, T, hh, hcs, htk, hnc⟩ := (hI.row σ src hσ).some hn0
 refine ⟨_, hp, ?_⟩
 rw [Addr.add_lit, cell_of_row w _ _ cur T _ hh]
 rw [← htk, List.getElem?_take, List.getElem?_drop] at hq
 split at hq
 ·simpa using hq
 ·cases hq
theorem run_append_zeros {P : Program} (w : World) (t tn ty e : TypeId) (i : TypeInfo) (z : Value) (kn : IntKind) (ht : P.underlying t = some (.slice e)) (htn : P.underlying tn = some (.int kn)) (hi : P.info? e = some i) (hz : i.zero = some z) (base : Option Addr) (sLen sCap : Nat) (olds : List Value)
  (hold : (Builtin.firstCells i.size sLen (.slice base sLen sCap)).run P w.drew = .ok olds.toArray w.drew) (n : Nat) (h0 : 0 < n) (hs : 0 < i.size) (hg : sCap < sLen + n) (h63 : ((sLen + n : Nat) : Int) ≤ 9223372036854775807) (h48 : n * i.bytes ≤ 281474976710656) (hfit : Builtin.nextslicecap (sLen + n) sCap * i.bytes ≤ 281474976710656) :
  (Builtin.append_ #[t, tn] ty #[.slice base sLen sCap, .int .i64 n]).run P w = .ok (.slice (some ⟨w.heap.size, 0, none⟩) (sLen + n) (grownCap w (sLen + n) sCap e))
   (w.drew.alloc (.cells (olds.toArray ++ Builtin.zeroCells z.cells n ++ Builtin.zeroCells z.cells (grownCap w (sLen + n) sCap e - (sLen + n))) e)) := by
 have hn : n ≠ 0 := by omega
 have hw : IntKind.i64.wrap (n : Int) = n := wrap_i64 (by unfold I64; omega)
 have hnr : ¬ (sLen + n ≤ sCap) := by omega
 have h63' : ¬ (9223372036854775807 < ((sLen : Int) + (n : Int))) := by omega
 have h48' : ¬ (281474976710656 < Builtin.nextslicecap (sLen + n) sCap * i.bytes) := by omega
 have h48i : ¬ (281474976710656 < (n : Int) * (i.bytes : Int)) := by rw [← Int.natCast_mul]; omega
 have hneg : ¬ ((n : Int) < 0) := by omega
 have hns : ¬ (n * i.size = 0) := Nat.mul_ne_zero hn (by omega)
 simp [Builtin.append_, run_underlying ht, run_underlying htn, sizeOf, typeInfo, zeroValue, hi, hz, asInt, asIntOf, hw, hn, hneg, hns, hnr, h63', h48', h48i, Question.forced, hold, newRow, grownCap]
theorem WX.appZ {C : Cx} {ops : Array Oper} {o : Oper} {r : List Oper} {s : List It} {env : Env} {L : Locs} {R : Rows} {Γ : Facts} {d : Nat} {x y : Operand} {T tn e kk by_ : Nat} {z : List Value} {row : Row} {tin : TI} {kn : IntKind} {q : Int} (ρ i m : Nat) (ht : TabOk C.P C.tt)
  (hg : gd ops env o = some true) (hd : o.dst = some d) (hlt : Nat.blt d C.fn.ntmps = true) (ho : o.op = .call { callee := .builtin .append, args := #[x, y], argTypes := #[T, tn] }) (hel : elO C.tt T = some (e, kk, by_, z)) (htn : look C.tt tn = some tin) (hkn : tin.desc = .int kn)
  (hx : ev env x = some (.v (.slice row.p i row.c))) (hy : ev env y = some (.v (.int .i64 q))) (hq : q = (m : Int)) (hρ : look R ρ = some row) (hkk : row.k = kk) (hi : i ≤ row.n) (hm : 0 < m) (hcap : row.c < i + m) (hroom : (i + m) * by_ ≤ 140737488355328) (hmax : i + m ≤ 4611686018427387904) (hnl : labHas d env L R = false)
  (k : ∀ p' c', WX C (.ops ops r :: s) ((d, .v (.slice p' (i + m) c')) :: env) L ((d, ⟨kk, p', i + m, c', row.xs.take (i * kk) ++ zrep m z⟩) :: R) Γ) : WX C (.ops ops (o :: r) :: s) env L R Γ := by
 subst hq
 refine WX.did (ι := Option Addr × Nat) (env' := fun pc => ((d, .v (.slice pc.1 (i + m) pc.2)) :: env)) (R' := fun pc => ((d, ⟨kk, pc.1, i + m, pc.2, row.xs.take (i * kk) ++ zrep m z⟩) :: R)) (Γ' := fun _ => Γ) hg (fun a w G bs hA hI hΓ => ?_) (fun pc => k pc.1 pc.2)
 obtain ⟨hu, inf, v, te, hE, hte, hinf, h0, hs, hby, hv, hzl, hpos⟩ := elO_some ht hel
 have hun : C.P.underlying tn = some (.int kn) := by rw [← hkn]; exact (ht.get htn).1
 have hrow := hI.row ρ row hρ
 subst hkk
 have hvs : v.cells.size = row.k := by rw [← hzl, ← hv]; simp
 have hil : (row.xs.take (i * row.k)).length = i * row.k := by rw [List.length_take, hrow.1]; exact Nat.min_eq_left (Nat.mul_le_mul_right _ hi)
 have hold : (Builtin.firstCells inf.size i (.slice row.p i row.c)).run C.P w.drew = .ok (row.xs.take (i * row.k)).toArray w.drew := by
  rcases hrow.2 with ⟨hc, hn⟩ | ⟨o1, hp, _, _, _, _, cur, T', hh, _, htk⟩
  ·have hi0 : i = 0 := by omega
   subst hi0
   cases hpp : row.p <;> simp [Builtin.firstCells, loadCells, loadCellsFrom]
  ·rw [hp]
   refine run_firstCells_some (P := C.P) w.drew inf.size i ⟨bs ρ, o1, none⟩ i row.c _ (by rw [hil, hs]) (fun j u hj => ?_)
   rw [Addr.add_lit]
   show w.cell? _ = _
   rw [cell_of_row w _ _ cur T' _ hh]
   rw [List.getElem?_take] at hj
   split at hj
   ·rw [← htk, List.getElem?_take, List.getElem?_drop] at hj
    split at hj
    ·simpa using hj
    ·cases hj
   ·cases hj
 have hby2 : m * inf.bytes ≤ (i + m) * inf.bytes := Nat.mul_le_mul_right _ (by omega)
 rw [← hby] at hroom
 have hrun := run_append_zeros (P := C.P) w T tn o.type e inf v kn hu hun hinf h0 row.p i row.c _ hold m hm (by omega) hcap (by omega) (by omega) (growslice_fits (by omega) hroom)
 have hge := grownCap_ge w (i + m) row.c e
 have hcm := grownCap_le_maxLen w (i + m) row.c e (show i + m ≤ maxLen by simp only [maxLen]; omega)
 have hz1 : (Builtin.zeroCells v.cells m).toList = zrep m z := by rw [← hv]; exact zeroCells_zrep v.cells m (by omega)
 have hzm : (Builtin.zeroCells v.cells m).size = m * row.k := by rw [← Array.length_toList, hz1, zrep_len, hzl]
 have hexec : (execOp a.eval o).run C.P w = .ok (.value (.slice (some ⟨w.heap.size, 0, none⟩) (i + m) (grownCap w (i + m) row.c e))) (w.drew.alloc (.cells ((row.xs.take (i * row.k)).toArray ++ Builtin.zeroCells v.cells m ++ Builtin.zeroCells v.cells (grownCap w (i + m) row.c e - (i + m))) e)) := by
  unfold execOp
  simp only [ho, resolve, invoke, builtin, Sem.run_bind, Sem.run_pure, Result.andThen_ok, List.map_toArray, List.map_cons, List.map_nil, ev_conc hA hx, ev_conc hA hy, conc_v, hrun]
 refine ⟨_, _, (some ⟨w.heap.size, 0, none⟩, grownCap w (i + m) row.c e), hexec, G, fun j => if j = d then w.heap.size else bs j, ?_, ?_, hΓ⟩
 ·rw [hd]
  exact (hA.notH (d := d) (labHas_not hnl).1 (fun i hi => if_neg hi)).put (by simpa [Nat.blt_eq] using hlt) (.v _)
 ·have hlen : (row.xs.take (i * row.k) ++ zrep m z).length = (i + m) * row.k := by rw [List.length_append, hil, zrep_len, hzl, Nat.add_mul]
  refine hI.upd (ρ := d) (labHas_not hnl).2.2.2 False (fun h => h.elim) ⟨rfl, rfl, rfl, by simp, fun j hj _ => heap_alloc_old w.drew _ j hj⟩ (.inr (.inl (Nat.le_refl _))) (fun j => look_cons _ _ _ _) (fun l h => keyHas_not (labHas_not hnl).2.1 h rfl) ⟨hlen, .inr ⟨0, rfl, .inl hI.keep.size, hI.le.new, hge, hcm, _, e, heap_alloc_new w.drew _, ?_, ?_⟩⟩
  ·simp only [Array.size_append, List.size_toArray, size_zeroCells, hvs, hil, ← Nat.add_mul, Nat.zero_add]
   exact Nat.mul_le_mul_right _ (by omega)
  ·simp only [Array.toList_append, List.drop_zero, hz1]
   rw [← hlen]
   exact List.take_left
theorem WX.ovl {C : Cx} {ops : Array Oper} {o : Oper} {r : List Oper} {s : List It} {env : Env} {L : Locs} {R : Rows} {Γ : Facts} {d : Nat} {f x y : Operand} {T e kk by_ tR : Nat} {z : List Value} {ats : Array TypeId} {g : FuncId} {fn : Func} {sf : SV} {src row : Row} {lb cb : Nat} (σ ρ i : Nat) (ht : TabOk C.P C.tt)
  (hg : gd ops env o = some true) (hd : o.dst = some d) (hlt : Nat.blt d C.fn.ntmps = true) (ho : o.op = .call { callee := .value f, args := #[x, y], argTypes := ats }) (hf : ev env f = some sf) (hsf : ∀ bs, conc bs sf = .func (.func g) #[] #[])
  (hfn : C.P.funcs[g]? = some fn) (hname : (fn.name == "runtime.NumGoroutine") = false) (hb : fn.body.isNone = true) (hn : Extern.findNext fn = none) (he : Extern.find fn = some (Extern.SlicesOverlaps.overlaps #[T, T] #[tR])) (hel : elO C.tt T = some (e, kk, by_, z))
  (hx : ev env x = some (.v (.slice src.p src.n src.c))) (hy : ev env y = some (.v (.slice (offP row.p row.c i kk) lb cb))) (hσ : look R σ = some src) (hρ : look R ρ = some row) (hkk : row.k = kk) (hσρ : Nat.beq σ ρ = false) (hs0 : 0 < src.n) (hi : i < row.n)
  (k : WX C (.ops ops r :: s) ((d, .F) :: env) L R Γ) : WX C (.ops ops (o :: r) :: s) env L R Γ := by
 refine WX.did (ι := Unit) (env' := fun _ => ((d, .F) :: env)) (R' := fun _ => R) (Γ' := fun _ => Γ) hg (fun a w G bs hA hI hΓ => ?_) (fun _ => k)
 obtain ⟨hu, inf, v, te, hE, hte, hinf, h0, hs, hby, hv, hzl, hpos⟩ := elO_some ht hel
 have hsz : ∀ w, (Go.sizeOf e).run C.P w = .ok kk w := fun w => by rw [run_sizeOf hinf, hs]
 obtain ⟨o1, hp1, hc1, cur1, T1, hh1, hcs1, htk1, hnc1⟩ := (hI.row σ src hσ).some hs0
 obtain ⟨o2, hp2, hc2, cur2, T2, hh2, hcs2, htk2, hnc2⟩ := (hI.row ρ row hρ).some (by omega)
 have hne : bs σ ≠ bs ρ := hI.inj σ ρ (fun h => by subst h; simp at hσρ) (.inr ⟨src, hσ, hc1⟩) (.inr ⟨row, hρ, hc2⟩)
 have hoff : offP row.p row.c i kk = some ⟨bs ρ, o2 + i * kk, none⟩ := by unfold offP; rw [if_neg (by omega), hp2]; simp [Addr.add_lit]
 have hk2 : cur2.size ≠ 0 := by
  have h1 : 0 < row.c * row.k := Nat.mul_pos (by omega) (by rw [hkk]; exact hpos)
  omega
 have hov := Lib.run_overlaps_apart (P := C.P) w T tR e hu kk hsz ⟨bs σ, o1, none⟩ ⟨bs ρ, o2 + i * kk, none⟩ src.n src.c lb cb hne T1 T2 cur1.size cur2.size (by simp [World.shape?, hh1]) (by simp [World.shape?, hh2]) hk2 (by simp [World.frozen?, hh1]) (by simp [World.frozen?, hh1])
 have hrun : (execOp a.eval o).run C.P w = .ok (.value (.bool false)) w := by
  have h1 : fn.name ≠ "runtime.NumGoroutine" := by simpa using hname
  have hcall := run_callFunc_extern (P := C.P) hfn hname hb hn he #[.slice (some ⟨bs σ, o1, none⟩) src.n src.c, .slice (some ⟨bs ρ, o2 + i * kk, none⟩) lb cb] w
  rw [hov] at hcall
  unfold execOp
  simp [ho, resolve, ev_conc hA hf, hsf, Deferred.ofValue, invoke, ev_conc hA hx, ev_conc hA hy, conc_v, hp1, hoff, hcall]
 refine ⟨_, w, (), hrun, G, bs, ?_, hI, hΓ⟩
 rw [hd]
 exact hA.put (by simpa [Nat.blt_eq] using hlt) .F
theorem ol_insert {α : Type} [GoT α] {h : GH} {xs ys : List Value} {l v : List α} (m : Nat) (hm : m ≤ l.length) (hs : Sep h [MF.ol xs l, MF.ol ys v]) : Sep h [MF.ol (xs.take (m * k α) ++ ys ++ xs.drop (m * k α)) (l.take m ++ v ++ l.drop m)] := by
 obtain ⟨h1, h2, q1, q2, q3, q4, q5⟩ := hs
 obtain ⟨g1, g2, r1, r2, r3, r4, r5⟩ := ol_split m hm (one_sep q4 : Sep h1 [MF.ol xs l])
 have hv : OwL h2 ys v := sep_one q5
 have a1 : OwL (join g1 h2) (xs.take (m * k α) ++ ys) (l.take m ++ v) := OwL.append hv (r4 : OwL g1 _ _) (le_join_l _ _) (le_join_r (q3.mono r1 (Le.refl _))) (q3.mono r1 (Le.refl _))
 exact one_sep (OwL.append (sep_one r5 : OwL g2 _ _) a1 (join_le (r1.trans q1) q2) (r2.trans q1) (join_dj r3 (q3.mono r2 (Le.refl _)).symm))
theorem ins_new {xs ys zs : List Value} {m n v kk : Nat} (hx : xs.length = n * kk) (hy : ys.length = v * kk) (hz : zs.length = (n + v - m) * kk) (hm : m ≤ n) :
  (((xs.take (m * kk) ++ zs).take (m * kk) ++ ys ++ (xs.take (m * kk) ++ zs).drop (m * kk + ys.length)).take ((m + v) * kk) ++ (xs.drop (m * kk)).take ((n - m) * kk) ++ ((xs.take (m * kk) ++ zs).take (m * kk) ++ ys ++ (xs.take (m * kk) ++ zs).drop (m * kk + ys.length)).drop ((m + v) * kk + ((xs.drop (m * kk)).take ((n - m) * kk)).length)) = xs.take (m * kk) ++ ys ++ xs.drop (m * kk) := by
 have h1 : m * kk ≤ n * kk := Nat.mul_le_mul_right _ hm
 have h2 : (xs.take (m * kk)).length = m * kk := by rw [List.length_take]; omega
 have h3 : (xs.take (m * kk) ++ zs).take (m * kk) = xs.take (m * kk) := by rw [List.take_append_of_le_length (by omega), List.take_of_length_le (by omega)]
 have h4 : (n - m) * kk = n * kk - m * kk := Nat.sub_mul _ _ _
 have h5 : (n + v - m) * kk = n * kk + v * kk - m * kk := by rw [Nat.sub_mul, Nat.add_mul]
 have h6 : (xs.drop (m * kk)).take ((n - m) * kk) = xs.drop (m * kk) := List.take_of_length_le (by rw [List.length_drop]; omega)
 have h7 : (m + v) * kk = m * kk + v * kk := Nat.add_mul _ _ _
 rw [h3, h6]
 have h8 : (xs.take (m * kk) ++ ys).length = (m + v) * kk := by rw [List.length_append, h2, hy, h7]
 have h9 : (xs.take (m * kk) ++ ys ++ (xs.take (m * kk) ++ zs).drop (m * kk + ys.length)).take ((m + v) * kk) = xs.take (m * kk) ++ ys := by rw [← h8, List.take_left]
 have h10 : (xs.take (m * kk) ++ ys ++ (xs.take (m * kk) ++ zs).drop (m * kk + ys.length)).drop ((m + v) * kk + (xs.drop (m * kk)).length) = [] := List.drop_eq_nil_of_le (by
  simp only [List.length_append, List.length_drop, h2, hy, hx]; omega)
 rw [h9, h10, List.append_nil]
theorem ins_old {xs ys jk : List Value} {m n v kk : Nat} (hx : xs.length = n * kk) (hy : ys.length = v * kk) (hj : jk.length = (n + v - n) * kk) (hm : m ≤ n) :
  (((xs ++ jk).take ((m + v) * kk) ++ ((xs ++ jk).drop (m * kk)).take ((n - m) * kk) ++ (xs ++ jk).drop ((m + v) * kk + (((xs ++ jk).drop (m * kk)).take ((n - m) * kk)).length)).take (m * kk) ++ ys ++ ((xs ++ jk).take ((m + v) * kk) ++ ((xs ++ jk).drop (m * kk)).take ((n - m) * kk) ++ (xs ++ jk).drop ((m + v) * kk + (((xs ++ jk).drop (m * kk)).take ((n - m) * kk)).length)).drop (m * kk + ys.length)) = xs.take (m * kk) ++ ys ++ xs.drop (m * kk) := by
 have h1 : m * kk ≤ n * kk := Nat.mul_le_mul_right _ hm
 have h4 : (n - m) * kk = n * kk - m * kk := Nat.sub_mul _ _ _
 have h5 : (n + v - n) * kk = v * kk := by congr 1; omega
 have h7 : (m + v) * kk = m * kk + v * kk := Nat.add_mul _ _ _
 have h6 : ((xs ++ jk).drop (m * kk)).take ((n - m) * kk) = xs.drop (m * kk) := by
  rw [List.drop_append_of_le_length (by omega), List.take_append_of_le_length (by rw [List.length_drop]; omega), List.take_of_length_le (by rw [List.length_drop]; omega)]
 rw [h6]
 have hd : (xs.drop (m * kk)).length = n * kk - m * kk := by rw [List.length_drop, hx]
 have h8 : ((xs ++ jk).take ((m + v) * kk)).length = (m + v) * kk := by rw [List.length_take, List.length_append, hj, h5, hx, h7]; omega
 have h9 : (xs ++ jk).drop ((m + v) * kk + (xs.drop (m * kk)).length) = [] := List.drop_eq_nil_of_le (by rw [List.length_append, hj, h5, hx, h7, hd]; omega)
 rw [h9, List.append_nil]
 have h10 : ((xs ++ jk).take ((m + v) * kk) ++ xs.drop (m * kk)).take (m * kk) = xs.take (m * kk) := by
  rw [List.take_append_of_le_length (by omega), List.take_take, Nat.min_eq_left (by omega), List.take_append_of_le_length (by omega)]
 have h11 : ((xs ++ jk).take ((m + v) * kk) ++ xs.drop (m * kk)).drop (m * kk + ys.length) = xs.drop (m * kk) := by
  rw [hy, ← h7]
  have := List.drop_left (l₁ := (xs ++ jk).take ((m + v) * kk)) (l₂ := xs.drop (m * kk))
  rwa [h8] at this
 rw [h10, h11]
end Go.Stp

namespace Go.Stp
def TX (C : Cx) (ops : Array Oper) (tl : List Nat) (s : List It) (S : World → Prop) (fuel : Nat) (listed : Array Bool) (env : Env) (L : Locs) (R : Rows) (Γ : Facts) : Prop :=
 (∀ w w', Kp emp w w' → S w → S w') → ∀ a w, Sat C env L R Γ a w → wpAnyT C.P ops (cont C s) S tl fuel listed a w
theorem DX.toTX {C : Cx} {ops : Array Oper} {tl : List Nat} {s : List It} {bs : Nat → Nat} {G0 : GH} {fuel : Nat} {listed : Array Bool} {env : Env} {L : Locs} {R : Rows} {Γ : Facts} (k : ∀ S, TX C ops tl s S fuel listed env L R Γ) : DX C ops tl s bs G0 fuel listed env L R Γ :=
 fun _ a w G _ hS => k _ (fun _ _ hb h => h.keep hb) a w ⟨G, bs, hS⟩
def TXI (C : Cx) (ops : Array Oper) (tl : List Nat) (s : List It) (S : World → Prop) (fuel : Nat) (listed : Array Bool) : Act → World → Prop := fun a w => (∀ w w', Kp emp w w' → S w → S w') → wpAnyT C.P ops (cont C s) S tl fuel listed a w
theorem upon_then {P : Program} {o : Oper} {a : Act} {next I : Act → World → Prop} {Q : Exit → Act → World → Prop} {r : Result Next} (h : o.upon P a next (Exit.then I Q) r) : o.upon P a next Q r := by
 cases r with
 | ok x w => cases x <;> exact h
 | halt x w => cases x <;> exact h
theorem TX.step {C : Cx} {ops : Array Oper} {tl : List Nat} {s : List It} {S : World → Prop} {fuel : Nat} {listed : Array Bool} {env : Env} {L : Locs} {R : Rows} {Γ : Facts} {x : Nat} {o : Oper} (hS : ∀ w w', Kp emp w w' → S w → S w') (hi : ops[x]? = some o) (hp : tl.contains x = true ∨ presO o.op = true)
  (kx : WX C (.ops ops [o] :: .iter (TXI C ops tl s S fuel (listed.setIfInBounds x true)) :: s) env L R Γ) {a : Act} {w : World} (hSat : Sat C env L R Γ a w) :
  wpOp C.P ops (cont C s) x (fun a' w' => (tl.contains x = false → S w → S w') ∧ wpAnyT C.P ops (cont C s) S tl fuel (listed.setIfInBounds x true) a' w') a w := by
 have h : wpOp C.P ops (cont C s) x (TXI C ops tl s S fuel (listed.setIfInBounds x true)) a w := by
  have h1 : wpList C.P ops (Exit.then (TXI C ops tl s S fuel (listed.setIfInBounds x true)) (cont C s)) [o] a w := kx a w hSat
  unfold wpOp
  simp only [hi]
  unfold wpList at h1
  split at h1
  ·rename_i hw
   rw [if_pos hw]
   exact h1.imp (fun h => upon_then (o := o) h) id
  ·rename_i hw
   rw [if_neg hw]
   exact h1
 rcases hp with ht | hp
 ·exact wpOp_mono (fun a' w' h' => ⟨fun h => (by rw [ht] at h; cases h), h' hS⟩) h
 ·exact wpOp_mono (fun a' w' h' => ⟨fun _ => hS _ _ h'.1, h'.2 hS⟩) (wpOp_pres hi hp h)
def tlB (ops : Array Oper) (tl : List Nat) (x : Nat) : Bool := tl.contains x || presB ops x
theorem tlB_spec {ops : Array Oper} {tl : List Nat} {x : Nat} {o : Oper} (hi : getO ops.toList x = some o) (h : tlB ops tl x = true) : ops[x]? = some o ∧ (tl.contains x = true ∨ presO o.op = true) := by
 unfold tlB presB at h
 rw [hi] at h
 rw [getO_eq] at hi
 exact ⟨by simpa using hi, by simpa using h⟩
theorem TX.one {C : Cx} {ops : Array Oper} {tl : List Nat} {s : List It} {S : World → Prop} {fuel : Nat} {listed : Array Bool} {env : Env} {L : Locs} {R : Rows} {Γ : Facts} {o : Oper} (x : Nat) (hr : Region.ready .any ops listed = [x]) (hi : getO ops.toList x = some o) (hp : tlB ops tl x = true)
  (kx : WX C (.ops ops [o] :: .iter (TXI C ops tl s S fuel (listed.setIfInBounds x true)) :: s) env L R Γ) : TX C ops tl s S (fuel + 1) listed env L R Γ := fun hS a w hSat => by
 obtain ⟨h1, h2⟩ := tlB_spec hi hp
 refine ⟨fun h => (by rw [hr] at h; cases h), fun j hj => ?_⟩
 rw [hr] at hj
 obtain rfl : j = x := by simpa using hj
 exact TX.step hS h1 h2 kx hSat
theorem WX.back0 {C : Cx} {ops : Array Oper} {tl : List Nat} {s : List It} {S : World → Prop} {fuel : Nat} {listed : Array Bool} {env : Env} {L : Locs} {R : Rows} {Γ : Facts} (k : TX C ops tl s S fuel listed env L R Γ) : WX C (.iter (TXI C ops tl s S fuel listed) :: s) env L R Γ :=
 fun a w hSat hS => k hS a w hSat
theorem TX.tail {C : Cx} {ops : Array Oper} {tl : List Nat} {s : List It} {S : World → Prop} {fuel : Nat} {listed : Array Bool} {env : Env} {L : Locs} {R : Rows} {Γ : Facts} {rest : List Oper} (is : List Nat) (hr : pickO ops.toList is = some rest) (hf : fuel = is.length) (hs : seqL2 ops tl is listed = true)
  (k : WX C (.ops ops rest :: s) env L R Γ) : TX C ops tl s S fuel listed env L R Γ := fun hS a w hSat => by
 subst hf
 exact wpAnyT_of_seq2 hS is rest listed a w hr hs (k a w hSat)
end Go.Stp

namespace Go.Stp
def TS (C : Cx) (ops : Array Oper) (tl : List Nat) (s : List It) (S : World → Prop) (fuel : Nat) (listed : Array Bool) (env : Env) (L : Locs) (R : Rows) (Γ : Facts) (x : Nat) : Prop :=
 (∀ w w', Kp emp w w' → S w → S w') → ∀ a w, Sat C env L R Γ a w → wpOp C.P ops (cont C s) x (fun a' w' => (tl.contains x = false → S w → S w') ∧ wpAnyT C.P ops (cont C s) S tl fuel (listed.setIfInBounds x true) a' w') a w
theorem TS.op {C : Cx} {ops : Array Oper} {tl : List Nat} {s : List It} {S : World → Prop} {fuel : Nat} {listed : Array Bool} {env : Env} {L : Locs} {R : Rows} {Γ : Facts} {o : Oper} (x : Nat) (hi : getO ops.toList x = some o) (hp : tlB ops tl x = true)
  (kx : WX C (.ops ops [o] :: .iter (TXI C ops tl s S fuel (listed.setIfInBounds x true)) :: s) env L R Γ) : TS C ops tl s S fuel listed env L R Γ x := fun hS a w hSat => by
 obtain ⟨h1, h2⟩ := tlB_spec hi hp
 exact TX.step hS h1 h2 kx hSat
theorem TX.all1 {C : Cx} {ops : Array Oper} {tl : List Nat} {s : List It} {S : World → Prop} {fuel : Nat} {listed : Array Bool} {env : Env} {L : Locs} {R : Rows} {Γ : Facts} (x : Nat) (hr : Region.ready .any ops listed = [x]) (kx : TS C ops tl s S fuel listed env L R Γ x) : TX C ops tl s S (fuel + 1) listed env L R Γ := fun hS a w hSat => by
 refine ⟨fun h => (by rw [hr] at h; cases h), fun j hj => ?_⟩
 rw [hr] at hj
 obtain rfl : j = x := by simpa using hj
 exact kx hS a w hSat
theorem TX.all2 {C : Cx} {ops : Array Oper} {tl : List Nat} {s : List It} {S : World → Prop} {fuel : Nat} {listed : Array Bool} {env : Env} {L : Locs} {R : Rows} {Γ : Facts} (x y : Nat) (hr : Region.ready .any ops listed = [x, y]) (kx : TS C ops tl s S fuel listed env L R Γ x) (ky : TS C ops tl s S fuel listed env L R Γ y) : TX C ops tl s S (fuel + 1) listed env L R Γ := fun hS a w hSat => by
 refine ⟨fun h => (by rw [hr] at h; cases h), fun j hj => ?_⟩
 rw [hr] at hj
 rcases List.mem_cons.1 hj with rfl | hj
 ·exact kx hS a w hSat
 ·obtain rfl : j = y := by simpa using hj
  exact ky hS a w hSat
theorem TX.all3 {C : Cx} {ops : Array Oper} {tl : List Nat} {s : List It} {S : World → Prop} {fuel : Nat} {listed : Array Bool} {env : Env} {L : Locs} {R : Rows} {Γ : Facts} (x y z : Nat) (hr : Region.ready .any ops listed = [x, y, z]) (kx : TS C ops tl s S fuel listed env L R Γ x) (ky : TS C ops tl s S fuel listed env L R Γ y) (kz : TS C ops tl s S fuel listed env L R Γ z) : TX C ops tl s S (fuel + 1) listed env L R Γ := fun hS a w hSat => by
 refine ⟨fun h => (by rw [hr] at h; cases h), fun j hj => ?_⟩
 rw [hr] at hj
 rcases List.mem_cons.1 hj with rfl | hj
 ·exact kx hS a w hSat
 rcases List.mem_cons.1 hj with rfl | hj
 ·exact ky hS a w hSat
 ·obtain rfl : j = z := by simpa using hj
  exact kz hS a w hSat
theorem TS.callG {C : Cx} {ops : Array Oper} {tl : List Nat} {st : List It} {S : World → Prop} {fuel : Nat} {listed : Array Bool} {env : Env} {L : Locs} {R : Rows} {Γ : Facts} {o : Oper} (i : Nat) {f : Operand} {args : List Operand} {ats : Array TypeId} {g : FuncId} {sf : SV} {svs : List SV} {caps : (Nat → Nat) → List Value}
  {Ψ : World → Value → World → Prop} {d : Nat} (hi : getO ops.toList i = some o) (hg : gd ops env o = some true) (hd : o.dst = some d) (ho : o.op = .call { callee := .value f, args := args.toArray, argTypes := ats })
  (hf : ev env f = some sf) (hsf : ∀ bs, conc bs sf = .func (.func g) #[] (caps bs).toArray) (hargs : evs env args = some svs)
  (hc : ∀ w G bs, HInv C w G bs L R → AllK C.M (hp w) Γ → Does C.P g (svs.map (conc bs) ++ caps bs).toArray w emp (Ψ w))
  (k : ∀ a w w' G bs v, (∀ w w', Kp emp w w' → S w → S w') → At C.fn.ntmps env bs a → HInv C w G bs L R → AllK C.M G Γ → Kp emp w w' → Ψ w v w' → wpAnyT C.P ops (cont C st) S tl fuel (listed.setIfInBounds i true) (a.put (some d) v) w') : TS C ops tl st S fuel listed env L R Γ i := by
 intro hS a w ⟨G, bs, hA, hI, hΓ⟩
 rw [getO_eq] at hi
 have hi' : ops[i]? = some o := by simpa using hi
 unfold wpOp
 simp only [hi']
 rw [if_pos (gd_sound hA hg)]
 refine .inl ?_
 unfold Oper.wp
 obtain ⟨he, hcalls⟩ := hc w G bs hI (hΓ.mono hI.le)
 rw [exec_call he ho (by rw [ev_conc hA hf, hsf]) (evs_sound hA args svs hargs)]
 simp only [Oper.upon]
 refine hcalls.mono fun e w' ⟨v, hv, hb, hψ⟩ => ?_
 subst hv
 rw [hd]
 exact ⟨fun _ hs => hS _ _ hb hs, k a w w' G bs v hS hA hI hΓ hb hψ⟩
theorem TS.callV {C : Cx} {ops : Array Oper} {tl : List Nat} {st : List It} {S : World → Prop} {fuel : Nat} {listed : Array Bool} {env : Env} {L : Locs} {R : Rows} {Γ : Facts} {o : Oper} (i : Nat) {f : Operand} {args : List Operand} {ats : Array TypeId} {g : FuncId} {sf : SV} {svs : List SV} {caps : (Nat → Nat) → List Value}
  {c : Value} {Q : Prop} {d : Nat} (hi : getO ops.toList i = some o) (hg : gd ops env o = some true) (hd : o.dst = some d) (hlt : Nat.blt d C.fn.ntmps = true) (ho : o.op = .call { callee := .value f, args := args.toArray, argTypes := ats })
  (hf : ev env f = some sf) (hsf : ∀ bs, conc bs sf = .func (.func g) #[] (caps bs).toArray) (hargs : evs env args = some svs)
  (hc : ∀ w G bs, HInv C w G bs L R → AllK C.M (hp w) Γ → Does C.P g (svs.map (conc bs) ++ caps bs).toArray w emp fun v _ => v = c ∧ Q)
  (k : Q → TX C ops tl st S fuel (listed.setIfInBounds i true) ((d, .v c) :: env) L R Γ) : TS C ops tl st S fuel listed env L R Γ i :=
 TS.callG (Ψ := fun _ v _ => v = c ∧ Q) i hi hg hd ho hf hsf hargs hc fun a w w' G bs v hS hA hI hΓ hb ⟨hv, hq⟩ => by
  subst hv
  have hI' := (hI.called (emp_le _) (fun _ _ h => by cases h) hb (emp_le _) (fun _ _ h => by cases h)).1
  exact k hq hS _ _ ⟨_, _, hA.put (by simpa [Nat.blt_eq] using hlt) (.v v), hI', hΓ.mono (le_join_l (cut G emp) emp)⟩
theorem TS.callF {C : Cx} {ops : Array Oper} {tl : List Nat} {st : List It} {S : World → Prop} {fuel : Nat} {listed : Array Bool} {env : Env} {L : Locs} {R : Rows} {Γ : Facts} {o : Oper} (i m : Nat) {f : Operand} {args : List Operand} {ats : Array TypeId} {g : FuncId} {sf : SV} {svs : List SV} {caps : (Nat → Nat) → List Value}
  {ι : Type} {val val' : ι → Value} {gs ds : ι → List MF} {Q : Prop} {d : Nat} {Γ' : ι → Facts} (hds : ∀ i h, Sep h (gs i) → All h (ds i)) (hdk : ∀ i, ∀ f ∈ ds i, f.k = .der) (hi : getO ops.toList i = some o) (hg : gd ops env o = some true) (hd : o.dst = some d) (hlt : Nat.blt d C.fn.ntmps = true) (ho : o.op = .call { callee := .value f, args := args.toArray, argTypes := ats })
  (hf : ev env f = some sf) (hsf : ∀ bs, conc bs sf = .func (.func g) #[] (caps bs).toArray) (hargs : evs env args = some svs)
  (hc : ∀ w G bs, HInv C w G bs L R → AllK C.M (hp w) Γ → Does C.P g (svs.map (conc bs) ++ caps bs).toArray w emp (Post w emp val gs Q))
  (hv : ∀ i, normV (val i) = some (val' i)) (hΓ' : ∀ i, addF m (ds i ++ gs i) Γ = some (Γ' i))
  (k : ∀ j, Q → TX C ops tl st S fuel (listed.setIfInBounds i true) ((d, .v (val' j)) :: env) L R (Γ' j)) : TS C ops tl st S fuel listed env L R Γ i :=
 TS.callG (Ψ := fun w v w' => Post w emp val gs Q v w') i hi hg hd ho hf hsf hargs hc fun a w w' G bs v hS hA hI hΓ hb hv' => by
  obtain ⟨j, h, rfl, hq, hle1, hdom, hs⟩ := hv'
  rw [← normV_eq (hv j)]
  obtain ⟨hI', hdj⟩ := hI.called (emp_le _) (fun _ _ h => by cases h) hb hle1 hdom
  exact k j hq hS _ _ ⟨_, _, hA.put (by simpa [Nat.blt_eq] using hlt) (.v _), hI', hΓ.after hdj (fun b o hb' => .inl ((hdom b o hb').elim (Nat.le_trans hI.keep.size) (fun h => absurd rfl h))) hs (hdk j) (hds j h hs) (hΓ' j)⟩
theorem TX.der {C : Cx} {ops : Array Oper} {tl : List Nat} {s : List It} {S : World → Prop} {fuel : Nat} {listed : Array Bool} {env : Env} {L : Locs} {R : Rows} {Γ : Facts} (m : Nat) (f : MF) (hk : f.k = .der) (h : ∀ G, AllK C.M G Γ → f.p G)
  (k : TX C ops tl s S fuel listed env L R ((m, f) :: Γ)) : TX C ops tl s S fuel listed env L R Γ := fun hS a w ⟨G, bs, hA, hI, hΓ⟩ => k hS a w ⟨G, bs, hA, hI, hΓ.der m f hk (h G hΓ)⟩
theorem TS.der {C : Cx} {ops : Array Oper} {tl : List Nat} {s : List It} {S : World → Prop} {fuel : Nat} {listed : Array Bool} {env : Env} {L : Locs} {R : Rows} {Γ : Facts} {x : Nat} (m : Nat) (f : MF) (hk : f.k = .der) (h : ∀ G, AllK C.M G Γ → f.p G)
  (k : TS C ops tl s S fuel listed env L R ((m, f) :: Γ) x) : TS C ops tl s S fuel listed env L R Γ x := fun hS a w ⟨G, bs, hA, hI, hΓ⟩ => k hS a w ⟨G, bs, hA, hI, hΓ.der m f hk (h G hΓ)⟩
end Go.Stp

namespace Go.Stp
open GoT (X k ok sh fa oa)
def KeepsAt (C : Cx) (o : Oper) (a : Act) (w : World) : Prop := ∀ x w', (execOp a.eval o).run C.P w = .ok x w' → (∃ v, x = .value v) ∧ Kp emp w w'
theorem wpOp_keeps {C : Cx} {ops : Array Oper} {Q : Exit → Act → World → Prop} {k : Nat} {o : Oper} (ho : ops[k]? = some o) {K : Act → World → Prop} {a : Act} {w : World} (hp : KeepsAt C o a w) (h : wpOp C.P ops Q k K a w) : wpOp C.P ops Q k (fun a' w' => Kp emp w w' ∧ K a' w') a w := by
 unfold wpOp at h ⊢
 simp only [ho] at h ⊢
 split at h
 ·rename_i hw
  rw [if_pos hw]
  refine h.imp (fun h => ?_) id
  unfold Oper.wp at h ⊢
  generalize hr : (execOp a.eval o).run C.P w = r at h ⊢
  cases r with
  | ok x w' =>
   obtain ⟨⟨v, rfl⟩, hk⟩ := hp _ _ hr
   exact ⟨hk, h⟩
  | halt x w' => cases x <;> exact h
 ·rename_i hw
  rw [if_neg hw]
  exact ⟨Kp.refl _ _, h⟩
theorem TX.stepK {C : Cx} {ops : Array Oper} {tl : List Nat} {s : List It} {S : World → Prop} {fuel : Nat} {listed : Array Bool} {env : Env} {L : Locs} {R : Rows} {Γ : Facts} {x : Nat} {o : Oper} (hS : ∀ w w', Kp emp w w' → S w → S w') (hi : ops[x]? = some o) {a : Act} {w : World} (hp : KeepsAt C o a w)
  (kx : WX C (.ops ops [o] :: .iter (TXI C ops tl s S fuel (listed.setIfInBounds x true)) :: s) env L R Γ) (hSat : Sat C env L R Γ a w) :
  wpOp C.P ops (cont C s) x (fun a' w' => (tl.contains x = false → S w → S w') ∧ wpAnyT C.P ops (cont C s) S tl fuel (listed.setIfInBounds x true) a' w') a w := by
 have h : wpOp C.P ops (cont C s) x (TXI C ops tl s S fuel (listed.setIfInBounds x true)) a w := by
  have h1 : wpList C.P ops (Exit.then (TXI C ops tl s S fuel (listed.setIfInBounds x true)) (cont C s)) [o] a w := kx a w hSat
  unfold wpOp
  simp only [hi]
  unfold wpList at h1
  split at h1
  ·rename_i hw
   rw [if_pos hw]
   exact h1.imp (fun h => upon_then (o := o) h) id
  ·rename_i hw
   rw [if_neg hw]
   exact h1
 exact wpOp_mono (fun a' w' h' => ⟨fun _ => hS _ _ h'.1, h'.2 hS⟩) (wpOp_keeps hi hp h)
theorem TS.opK {C : Cx} {ops : Array Oper} {tl : List Nat} {s : List It} {S : World → Prop} {fuel : Nat} {listed : Array Bool} {env : Env} {L : Locs} {R : Rows} {Γ : Facts} {o : Oper} (x : Nat) (hi : getO ops.toList x = some o) (hp : ∀ a w, Sat C env L R Γ a w → KeepsAt C o a w)
  (kx : WX C (.ops ops [o] :: .iter (TXI C ops tl s S fuel (listed.setIfInBounds x true)) :: s) env L R Γ) : TS C ops tl s S fuel listed env L R Γ x := fun hS a w hSat => by
 rw [getO_eq] at hi
 exact TX.stepK hS (by simpa using hi) (hp a w hSat) kx hSat
theorem keeps_appX {C : Cx} {o : Oper} {env : Env} {L : Locs} {R : Rows} {Γ : Facts} {x y : Operand} {T tx kk by_ : Nat} {z : Value} {sv : SV} {row : Row} (ρ m : Nat) {ι : Type} (news : ι → List Value) (ht : TabOk C.P C.tt)
  (ho : o.op = .call { callee := .builtin .append, args := #[x, y], argTypes := #[T, tx] })
  (hx : ev env x = some (.v (.slice row.p row.n row.c))) (hy : ev env y = some sv) (hap : appO C.tt T = some (kk, by_, z)) (hz : z.cells.size = kk) (hρ : look R ρ = some row) (hkk : row.k = kk)
  (hsrc : ∀ w G bs, HInv C w G bs L R → AllK C.M G Γ → ∃ i, Src C.P kk tx (conc bs sv) m (news i) w)
  (hroom : (row.n + m) * by_ ≤ 140737488355328) (hmax : row.n + m ≤ maxLen) (h0 : row.c = 0) : ∀ a w, Sat C env L R Γ a w → KeepsAt C o a w := by
 rintro a w ⟨G, bs, hA, hI, hΓ⟩ v w1 hv
 obtain ⟨i, hs⟩ := hsrc w G bs hI hΓ
 obtain ⟨ti, e, te, hT, hde, hE, rfl, rfl, rfl, hpos⟩ := appO_some hap
 obtain ⟨p', c', w', b', hrun, hrow, honly, hnew⟩ := run_append_row (ty := o.type) ht hT hde hE hpos (hI.row ρ row hρ) hkk (.inl hI.keep.size) hI.le hs hmax hroom hz
 have hexec : (execOp a.eval o).run C.P w = .ok (.value (.slice p' (row.n + m) c')) w' := by
  unfold execOp
  simp only [ho, resolve, invoke, builtin, Sem.run_bind, Sem.run_pure, Result.andThen_ok, List.map_toArray, List.map_cons, List.map_nil, ev_conc hA hx, ev_conc hA hy, conc_v, hrun]
 rw [hexec] at hv
 cases hv
 exact ⟨⟨_, rfl⟩, honly.os, honly.tape, honly.output, honly.size, fun j hj _ => honly.block j hj (fun h => absurd h0 h)⟩
theorem keeps_appG {C : Cx} {o : Oper} {env : Env} {L : Locs} {R : Rows} {Γ : Facts} {x y : Operand} {T by_ q c : Nat} {z : Value} {row : Row} {α : Type} [GoT α] {kd : Kd} {p : Option Addr} {l : List α} (ρ ℓ n' : Nat) (ht : TabOk C.P C.tt)
  (ho : o.op = .call { callee := .builtin .append, args := #[x, y], argTypes := #[T, T] })
  (hx : ev env x = some (.v (.slice row.p row.n row.c))) (hy : ev env y = some (.v (.slice p q c))) (hq : q = l.length) (hap : appO C.tt T = some (GoT.k α, by_, z)) (hz : z.cells.size = GoT.k α) (hρ : look R ρ = some row) (hkk : row.k = GoT.k α)
  (hℓ : look Γ ℓ = some (MF.rs kd p c l)) (hn : row.n + l.length = n') (hroom : n' * by_ ≤ 140737488355328) (hmax : n' ≤ 9223372036854775807) (h0 : row.c = 0) : ∀ a w, Sat C env L R Γ a w → KeepsAt C o a w := by
 subst hn hq
 refine keeps_appX (ι := List Value) ρ l.length (fun xs => xs) ht ho hx hy hap hz hρ hkk (fun w G bs hI hΓ => ?_) hroom (by simp only [maxLen]; omega) h0
 obtain ⟨ti, e, te, hT, hde, hE, hks, _⟩ := appO_some hap
 obtain ⟨hu, _⟩ := ht.get hT
 rw [hde] at hu
 obtain ⟨h1, h2, xs, h4, h5⟩ := (hΓ.get ℓ hℓ : RdSl G p c l)
 refine ⟨xs, ?_⟩
 simp only [conc]
 cases hl : l with
 | nil =>
  subst hl
  have hxs : xs = [] := h5
  subst hxs
  cases hp : p with
  | none => exact Src.ofNil w hu c
  | some ad => exact Src.ofSlice w hu ad 0 c [] (by simp) (fun j u h => by simp at h) (fun u h => by cases h)
 | cons a l' =>
  have hlen := h5.len
  have hpos := GoT.pos (α := α)
  obtain ⟨u, hu0⟩ : ∃ u, xs[0]? = some u := ⟨_, List.getElem?_eq_getElem (by rw [hlen, hl]; simp only [List.length_cons, Nat.add_mul]; omega)⟩
  obtain ⟨ad, had, _⟩ := h4 0 u hu0
  subst had
  rw [← hl]
  exact Src.ofSlice w hu ad l.length c xs hlen (fun j u hj => by
   obtain ⟨ad', h', hg'⟩ := h4 j u hj
   simp at h'; subst h'
   exact hI.le.cell hg') h5.one
theorem keeps_pure {C : Cx} {o : Oper} {env : Env} {L : Locs} {R : Rows} {Γ : Facts} {sv : SV} (ht : TabOk C.P C.tt) (h : pureS C.tt env L o.op = some sv) : ∀ a w, Sat C env L R Γ a w → KeepsAt C o a w := by
 rintro a w ⟨G, bs, hA, hI, hΓ⟩ v w1 hv
 rw [pureS_sound ht hA hI h] at hv
 cases hv
 exact ⟨⟨_, rfl⟩, Kp.refl _ _⟩
end Go.Stp

