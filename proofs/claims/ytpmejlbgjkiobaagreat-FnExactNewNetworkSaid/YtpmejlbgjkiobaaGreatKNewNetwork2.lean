/-
  What the proof of one law needs: rules of the program logic, functions as Lean functions, contracts. No condition but what each says. Written by a program (pack.py) out of my own texts.
-/
import Derived.Laws.MakeOwn
import Derived.StillTail
import Derived.ChangeKeysEq
import Derived.Laws.Slices
import Derived.Laws.BytesString
import Derived.Laws.Small
import Derived.Laws.Cover3
import Derived.Laws.Strings
import Derived.Laws.CopyRow
import Derived.Lib.Overlaps
import Derived.Laws.IdiomStrings
import Derived.Test.YtpmejlbgjkiobaaGreatKNewNetwork1
open Go.IntKind (i64)
set_option linter.unusedVariables false
set_option linter.unusedSimpArgs false
namespace Go.Stp
open GoT (X k ok sh fa oa)
variable {P : Program} {T e kk by_ n len d i off : Nat} {z cs vs xs : List Value} {env : Env} {bs : Nat → Nat} {a : Act} {parts : Array (Nat × Operand)} {C : Cx} {w : World} {G h : GH} {L : Locs} {R : Rows} {ops : Array Oper} {o : Oper} {r : List Oper} {s : List It} {Γ : Facts} {x y : Operand} {row : Row} {ti : TI} {ad : Addr}
def zrep : Nat → List Value → List Value
 | 0, _ => []
 | n + 1, z => zrep n z ++ z
theorem aq2 (z : List Value) : ∀ n, (zrep n z).length = n * z.length
 | 0 => by simp [zrep]
 | n + 1 => by simp only [zrep, List.length_append, aq2 z n, Nat.add_mul]; omega
theorem ajf (z : Array Value) (hz : 0 < z.size) : ∀ n, ((Array.range (n * z.size)).map (fun i => z[i % z.size]!)).toList = zrep n z.toList
 | 0 => by simp [zrep]
 | n + 1 => by
  have ih := ajf z hz n
  simp only [Array.toList_map, Array.toList_range] at ih ⊢
  rw [Nat.add_mul, Nat.one_mul, List.range_add, List.map_append, ih, zrep]
  congr 1
  rw [List.map_map]
  apply List.ext_getElem?
  intro j
  by_cases hj : j < z.size
  ·simp [hj, Nat.mod_eq_of_lt hj]
  ·simp [hj, List.getElem?_eq_none]
def elO (tt : TT) (T : Nat) : Option (Nat × Nat × Nat × List Value) :=
 match look tt T with
 | some ti => (match ti.desc with
  | .slice e => (match look tt e with
   | some ⟨dE, sE, bE, zE⟩ => (match sE with
    | 0 => none
    | n + 1 => (match ajq ⟨dE, n + 1, bE, zE⟩ zE with
     | some z => (match Nat.beq z.length (n + 1) with
      | true => some (e, n + 1, bE, z)
      | false => none)
     | none => none))
   | none => none)
  | _ => none)
 | none => none
theorem amm {tt : TT} (ht : aek P tt) (h : elO tt T = some (e, kk, by_, z)) :
  P.underlying T = some (.slice e) ∧ ∃ i v te, look tt e = some te ∧ te.size = kk ∧ P.info? e = some i ∧ i.zero = some v ∧ i.size = kk ∧ i.bytes = by_ ∧ v.cells.toList = z ∧ z.length = kk ∧ 0 < kk := by
 unfold elO at h
 split at h
 ·rename_i ti hT
  split at h
  ·rename_i e' hd
   split at h
   ·rename_i dE sE bE zE hE
    split at h
    ·cases h
    ·rename_i n
     split at h
     ·rename_i z' hz
      split at h
      ·rename_i hb
       simp only [Option.some.injEq, Prod.mk.injEq] at h
       obtain ⟨rfl, rfl, rfl, rfl⟩ := h
       obtain ⟨hu, _⟩ := ht.get hT
       obtain ⟨_, i, hi, h0, hs, hby⟩ := ht.get hE
       exact ⟨by rw [hu, hd], i, zE, _, hE, rfl, hi, h0, hs, hby, ags hz, Nat.eq_of_beq_eq_true hb, by omega⟩
      ·cases h
     ·cases h
   ·cases h
  ·cases h
 ·cases h
def aru : Nat → List Value → Option (List Value)
 | 0, _ => some []
 | n + 1, z => (match aru n z with | some q => catO q z | none => none)
where
 catO : List Value → List Value → Option (List Value)
  | [], b => some b
  | x :: a, b => (match catO a b with | some q => some (x :: q) | none => none)
theorem av3 : ∀ {a b q : List Value}, aru.catO a b = some q → q = a ++ b
 | [], b, q, h => by simp [aru.catO] at h; exact h.symm
 | x :: a, b, q, h => by
  simp only [aru.catO] at h
  split at h
  ·rename_i q' hq; simp at h; rw [← h, av3 hq]; rfl
  ·cases h
theorem aqc : ∀ {n : Nat} {z q : List Value}, aru n z = some q → q = zrep n z
 | 0, z, q, h => by simp [aru] at h; subst h; rfl
 | n + 1, z, q, h => by
  simp only [aru] at h
  split at h
  ·rename_i q' hq; rw [av3 h, aqc hq]; rfl
  ·cases h
def bldO (tt : TT) (env : Env) (T len : Nat) (parts : List (Nat × Operand)) : Option (Nat × List Value) :=
 match elO tt T with
 | some (e, kk, _, z) => (match Nat.ble (len * kk) 16777216 with
  | true => (match aru len z with
   | some q => (match aqg tt env (fun i => some (i * kk, e)) q parts with
    | some cs => some (kk, cs)
    | none => none)
   | none => none)
  | false => none)
 | none => none
theorem are {tt : TT} {env : Env} {place : Nat → Option (Nat × Nat)} : ∀ {parts : List (Nat × Operand)} {cs r : List Value}, aqg tt env place cs parts = some r → r.length = cs.length
 | [], cs, r, h => by simp [aqg] at h; subst h; rfl
 | (i, x) :: rest, cs, r, h => by
  simp only [aqg] at h
  (repeat' split at h) <;> first | cases h | (rename_i hsp; have := are h; rw [this]; exact (ahk _ _ _ _ hsp).1)
theorem axo {tt : TT} (ht : aek P tt) (hA : At n env bs a) (h : bldO tt env T len parts.toList = some (kk, cs)) (w : World) :
  ∃ e, (Instr.buildSlice T len (parts.map fun x => (x.1, a.eval x.2))).run P w = .ok (.slice (some ⟨w.heap.size, 0, none⟩) len len) (w.alloc (.cells cs.toArray e)) ∧ cs.length = len * kk ∧ 0 < kk := by
 unfold bldO at h
 split at h
 ·rename_i e kk' by_ z hel
  split at h
  ·rename_i hle
   split at h
   ·rename_i q hq
    split at h
    ·rename_i cs' hcs
     simp only [Option.some.injEq, Prod.mk.injEq] at h
     obtain ⟨rfl, rfl⟩ := h
     obtain ⟨hu, i, v, te, hE, hte, hi, h0, hs, _, hv, hzl, hpos⟩ := amm ht hel
     have hq' := aqc hq
     have hle' : len * kk' ≤ 16777216 := Nat.le_of_ble_eq_true hle
     have hfill := aig ht hA (place := fun i => some (i * kk', e)) (place' := fun i => some (i * kk', kk')) (fun j off T' ti' h1 h2 => by
      simp only [Option.some.injEq, Prod.mk.injEq] at h1
      obtain ⟨rfl, rfl⟩ := h1
      rw [hE] at h2; simp at h2; subst h2; rw [hte]) _ _ _ hcs
     have hlen : cs'.length = len * kk' := by rw [are hcs, hq', aq2, hzl]
     refine ⟨e, ?_, hlen, hpos⟩
     have hvs : v.cells.size = kk' := by rw [← hzl, ← hv]; simp
     have hz : (if len * i.size = 0 then #[] else v.cells) = (if len * kk' = 0 then #[] else v.cells) := by rw [hs]
     by_cases hl0 : len = 0
     ·subst hl0
      have : q = [] := by rw [hq']; rfl
      subst this
      have hf' : Instr.fill (fun i => some (i * kk', kk')) #[] (List.map (fun x => (x.1, a.eval x.2)) parts.toList) = some cs'.toArray := hfill
      simp [Instr.buildSlice, run_underlying hu, sizeOf, typeInfo, zeroValue, hi, newRow, hs, Array.range_zero', hf']
     ·have hne : ¬ (len * kk' = 0) := by
       intro h; rcases Nat.mul_eq_zero.1 h with h | h <;> omega
      have hr := ajf v.cells (by omega) len
      rw [hvs, hv, ← hq'] at hr
      have hq2 : (Array.range (len * kk')).map (fun i => v.cells[i % v.cells.size]!) = q.toArray := Array.ext' (by simpa [hvs] using hr)
      have hsm : ¬ (16777216 < len * kk') := by omega
      have hf' : Instr.fill (fun i => some (i * kk', kk')) ((Array.range (len * kk')).map (fun i => v.cells[i % v.cells.size]!)) (List.map (fun x => (x.1, a.eval x.2)) parts.toList) = some cs'.toArray := by rw [hq2]; exact hfill
      simp only [Instr.buildSlice, Sem.run_bind, run_underlying hu, Result.andThen_ok, afu hi, hs, newRow]
      simp [hsm, hne, zeroValue, typeInfo, hi, h0, hf']
    ·cases h
   ·cases h
  ·cases h
 ·cases h
theorem HInv.newRow (hA : At C.fn.ntmps env bs a) (hI : HInv C w G bs L R) (hd : d < C.fn.ntmps) (hcs : cs.length = n * kk) (hn : n ≤ maxLen) (hnl : agp d env L R = false) :
  ∃ bs', At C.fn.ntmps ((d, .v (.slice (some ⟨w.heap.size, 0, none⟩) n n)) :: env) bs' (a.put (some d) (.slice (some ⟨w.heap.size, 0, none⟩) n n)) ∧
   HInv C (w.alloc (.cells cs.toArray e)) G bs' L ((d, ⟨kk, some ⟨w.heap.size, 0, none⟩, n, n, cs⟩) :: R) := by
 refine ⟨fun j => if j = d then w.heap.size else bs j, ?_, ?_⟩
 ·exact (hA.notH (d := d) (aex hnl).1 (fun i hi => if_neg hi)).put hd (.v _)
 ·refine hI.upd (ρ := d) (aex hnl).2.2.2 False (fun h => h.elim) (au4 w _ _ _) (.inr (.inl (Nat.le_refl _))) (fun j => adg _ _ _ _) (fun l h => aff (aex hnl).2.1 h rfl) ⟨hcs, .inr ⟨0, rfl, .inl hI.keep.size, hI.le.new, Nat.le_refl _, hn, cs.toArray, e, heap_alloc_new w _, by simp [hcs], by simp [← hcs]⟩⟩
theorem WX.bld (ht : aek C.P C.tt)
  (hg : gd ops env o = some true) (hd : o.dst = some d) (hlt : Nat.blt d C.fn.ntmps = true) (ho : o.op = .buildSlice T len parts) (hb : bldO C.tt env T len parts.toList = some (kk, cs)) (hlen : Nat.ble len 16777216 = true) (hnl : agp d env L R = false)
  (k : ∀ p, WX C (.ops ops r :: s) ((d, .v (.slice p len len)) :: env) L ((d, ⟨kk, p, len, len, cs⟩) :: R) Γ) : WX C (.ops ops (o :: r) :: s) env L R Γ := by
 rintro a w ⟨G, bs, hA, hI, hΓ⟩
 show wpList C.P ops (cont C s) (o :: r) a w
 unfold wpList
 rw [if_pos (aee hA hg)]
 refine .inl ?_
 unfold Oper.wp
 obtain ⟨e, hrun, hcs, _⟩ := axo ht hA hb w
 have hexec : (execOp a.eval o).run C.P w = .ok (.value (.slice (some ⟨w.heap.size, 0, none⟩) len len)) (w.alloc (.cells cs.toArray e)) := by
  unfold execOp
  simp only [ho, Sem.run_bind, hrun, Result.andThen_ok, Sem.run_pure]
 rw [hexec]
 simp only [Oper.upon, hd]
 obtain ⟨bs', hA', hI'⟩ := hI.newRow hA (d := d) (by simpa [Nat.blt_eq] using hlt) (e := e) hcs (by have := Nat.le_of_ble_eq_true hlen; simp only [maxLen]; omega) hnl
 exact k _ _ _ ⟨G, bs', hA', hI', hΓ⟩
theorem WX.mkS {q : Int} (m : Nat) (ht : aek C.P C.tt)
  (hg : gd ops env o = some true) (hd : o.dst = some d) (hlt : Nat.blt d C.fn.ntmps = true) (ho : o.op = .makeSlice T x x) (hx : ev env x = some (.v (.int .i64 q))) (hq : q = (m : Int)) (hel : elO C.tt T = some (e, kk, by_, z)) (hroom : m * by_ ≤ 281474976710656) (hmax : m ≤ 140737488355328) (hnl : agp d env L R = false)
  (k : ∀ p, WX C (.ops ops r :: s) ((d, .v (.slice p m m)) :: env) L ((d, ⟨kk, p, m, m, zrep m z⟩) :: R) Γ) : WX C (.ops ops (o :: r) :: s) env L R Γ := by
 subst hq
 rintro a w ⟨G, bs, hA, hI, hΓ⟩
 show wpList C.P ops (cont C s) (o :: r) a w
 unfold wpList
 rw [if_pos (aee hA hg)]
 refine .inl ?_
 unfold Oper.wp
 obtain ⟨hu, i, v, te, hE, hte, hi, h0, hs, hby, hv, hzl, hpos⟩ := amm ht hel
 have hvs : v.cells.size = kk := by rw [← hzl, ← hv]; simp
 have hr := ajf v.cells (by omega) m
 rw [hvs, hv] at hr
 have hbig : (i.bytes : Int) * (m : Int) ≤ 281474976710656 := by
  have h : ((m * by_ : Nat) : Int) ≤ 281474976710656 := by omega
  rw [Int.natCast_mul] at h
  rw [hby, Int.mul_comm]; exact h
 have hrun : (Instr.makeSlice T (.int .i64 m) (.int .i64 m)).run C.P w = .ok (.slice (some ⟨w.heap.size, 0, none⟩) m m) (w.alloc (.cells (zrep m z).toArray e)) := by
  have hr2 := run_make (P := C.P) w T e i v hu hi h0 .i64 .i64 m m (by omega) (Int.le_refl _) hbig (by omega)
  rw [hr2]
  have : madeCells v.cells (m * i.size) = (zrep m z).toArray := Array.ext' (by rw [hs]; simpa [madeCells, hvs] using hr)
  simp [this]
 have hexec : (execOp a.eval o).run C.P w = .ok (.value (.slice (some ⟨w.heap.size, 0, none⟩) m m)) (w.alloc (.cells (zrep m z).toArray e)) := by
  unfold execOp
  simp only [ho, ad7 hA hx, apo, Sem.run_bind, hrun, Result.andThen_ok, Sem.run_pure]
 rw [hexec]
 simp only [Oper.upon, hd]
 obtain ⟨bs', hA', hI'⟩ := hI.newRow hA (d := d) (by simpa [Nat.blt_eq] using hlt) (e := e) (cs := zrep m z) (kk := kk) (n := m) (by rw [aq2, hzl]) (by simp only [maxLen]; omega) hnl
 exact k _ _ _ ⟨G, bs', hA', hI', hΓ⟩
theorem aid.some {M : Nat → Prop} {b : Nat} {r : Row} (h : aid M w G b r) (hn : 0 < r.n) : ∃ o1, r.p = Option.some ⟨b, o1, none⟩ ∧ r.c ≠ 0 ∧ ∃ cur T, w.heap[b]? = Option.some (.cells cur T (0, 0)) ∧ o1 + r.c * r.k ≤ cur.size ∧ (cur.toList.drop o1).take (r.n * r.k) = r.xs ∧ r.n ≤ r.c := by
 rcases h.2 with ⟨_, h0⟩ | ⟨o1, h1, _, _, h4, _, cur, T, h6, h7, h8⟩
 ·omega
 ·exact ⟨o1, h1, by omega, cur, T, h6, h7, h8, h4⟩
theorem WX.idxR {m : Int} (ρ i : Nat) (ht : aek C.P C.tt)
  (hg : gd ops env o = some true) (hd : o.dst = some d) (hlt : Nat.blt d C.fn.ntmps = true) (ho : o.op = .indexAddr T x y)
  (hx : ev env x = some (.v (.slice row.p row.n row.c))) (hy : ev env y = some (.v (.int .i64 m))) (hk : ajp C.tt T = some kk) (hρ : look R ρ = some row) (hm : m = (i : Int)) (hi : i < row.n)
  (k : ∀ ad, row.p = some ad → WX C (.ops ops r :: s) ((d, .e (some ad) i kk 0) :: env) L R Γ) : WX C (.ops ops (o :: r) :: s) env L R Γ := by
 rintro a w ⟨G, bs, hA, hI, hΓ⟩
 obtain ⟨o1, hp, _⟩ := (hI.row ρ row hρ).some (by omega)
 rw [hp] at hx
 have hl := al9 (L := L) (R := R) (G := G) ht ho hx hy hk hm hi
 show wpList C.P ops (cont C s) (o :: r) a w
 unfold wpList
 rw [if_pos (aee hA hg)]
 refine .inl ?_
 unfold Oper.wp
 rw [hl a w G bs (Le.refl _) hA hI]
 simp only [Oper.upon, hd]
 exact k _ hp _ _ ⟨G, bs, hA.put (by simpa [Nat.blt_eq] using hlt) _, hI, hΓ⟩
theorem ana {α : Type} (l vs : List α) (o1 o n : Nat) (h : o + vs.length ≤ n) (hn : o1 + n ≤ l.length) : ((l.take (o1 + o) ++ vs ++ l.drop (o1 + o + vs.length)).drop o1).take n = ((l.drop o1).take n).take o ++ vs ++ ((l.drop o1).take n).drop (o + vs.length) := by
 have h0 : (l.take (o1 + o) ++ vs ++ l.drop (o1 + o + vs.length)).drop o1 = (l.drop o1).take o ++ vs ++ (l.drop o1).drop (o + vs.length) := by
  rw [List.append_assoc, List.drop_append_of_le_length (by simp; omega), List.drop_take, List.drop_drop, List.append_assoc, show o1 + o - o1 = o by omega, show o1 + (o + vs.length) = o1 + o + vs.length by omega]
 rw [h0]
 have h1 : ((l.drop o1).take o ++ vs).length = o + vs.length := by simp; omega
 rw [List.take_append, h1, List.take_of_length_le (by omega), List.take_take, Nat.min_eq_left (by omega), List.drop_take]
theorem WX.stR {R' : Rows} {sv : SV} {v : Value} (ρ : Nat) (ht : aek C.P C.tt)
  (hg : gd ops env o = some true) (hd : o.dst = none) (ho : o.op = .store T x y)
  (hx : ev env x = some (.e (some ad) i kk off)) (hy : ev env y = some sv) (hv : valO sv = some v) (hT : look C.tt T = some ti) (hvs : ajq ti v = some vs) (hlen : Nat.beq vs.length ti.size = true) (hone : oneB vs = true)
  (hρ : look R ρ = some row) (hp : row.p = some ad) (hk : row.k = kk) (hi : i < row.n) (hfit : Nat.ble (off + vs.length) kk = true) (hfree : agm ρ env = true)
  (hR : ajm R ρ ⟨row.k, row.p, row.n, row.c, row.xs.take (i * kk + off) ++ vs ++ row.xs.drop (i * kk + off + vs.length)⟩ = some R')
  (k : WX C (.ops ops r :: s) env L R' Γ) : WX C (.ops ops (o :: r) :: s) env L R Γ := by
 rintro a w ⟨G, bs, hA, hI, hΓ⟩
 have hrow := hI.row ρ row hρ
 obtain ⟨o1, hp', hc0, cur, T', hh, hcs, htk, hnc⟩ := hrow.some (by omega)
 rw [hp] at hp'; simp at hp'; subst hp'
 subst hk
 have hfit' := Nat.le_of_ble_eq_true hfit
 have hb : i * row.k + off + vs.length ≤ row.n * row.k := by
  have : (i + 1) * row.k ≤ row.n * row.k := Nat.mul_le_mul_right _ (by omega)
  rw [Nat.add_mul] at this; omega
 have hnk : o1 + row.n * row.k ≤ cur.size := by have : row.n * row.k ≤ row.c * row.k := Nat.mul_le_mul_right _ hnc; omega
 obtain ⟨_, inf, hinf, _, hs, _⟩ := ht.get hT
 have hcells : v.cells.toList = vs := ags hvs
 have hsz : v.cells.size = inf.size := by
  have : v.cells.size = vs.length := by rw [← hcells]; simp
  rw [this, hs]; exact Nat.eq_of_beq_eq_true hlen
 have hst := run_storeCells_at C.P (bs ρ) (o1 + (i * row.k + off)) T' vs 0 cur w hh (by simp; omega) (anj hone)
 simp only [Nat.add_zero] at hst
 have haddr : conc bs (.e (some ⟨bs ρ, o1, none⟩) i row.k off) = .pointer (some ⟨bs ρ, o1 + (i * row.k + off), none⟩) := by
  simp only [conc, ag2, Addr.add_lit, Nat.add_assoc]
 have hexec : (execOp a.eval o).run C.P w = .ok .skip (w.setRow (bs ρ) (cur.toList.take (o1 + (i * row.k + off)) ++ vs ++ cur.toList.drop (o1 + (i * row.k + off) + vs.length)).toArray) := by
  unfold execOp
  simp [ho, Instr.storeAt, Instr.sureAddr, storeVar, afu hinf, hsz, ad7 hA hx, haddr, ad7 hA hy, aj3 hv, hcells, hst]
 show wpList C.P ops (cont C s) (o :: r) a w
 unfold wpList
 rw [if_pos (aee hA hg)]
 refine .inl ?_
 unfold Oper.wp
 rw [hexec]
 simp only [Oper.upon, hd, Act.put]
 rw [aji hR] at k
 have hLρ : ∀ l, look L ρ ≠ some l := fun l hl => hI.dis ρ l row hl hρ
 obtain ⟨hBb, hGb, hcm⟩ : C.M (bs ρ) ∧ G (bs ρ) = none ∧ row.c ≤ maxLen := by
  rcases hrow.2 with ⟨h0, _⟩ | ⟨_, _, h1, h2, _, h5, _⟩
  ·exact absurd h0 hc0
  ·exact ⟨h1, h2, h5⟩
 have hlook : ∀ j, look (setR R ρ ⟨row.k, row.p, row.n, row.c, row.xs.take (i * row.k + off) ++ vs ++ row.xs.drop (i * row.k + off + vs.length)⟩) j = if ρ = j then some ⟨row.k, row.p, row.n, row.c, row.xs.take (i * row.k + off) ++ vs ++ row.xs.drop (i * row.k + off + vs.length)⟩ else look R j := by
  intro j
  rw [aja]
  split
  ·rename_i e; subst e; rw [hρ]; rfl
  ·rfl
 have hrow' : aid C.M (w.setRow (bs ρ) (cur.toList.take (o1 + (i * row.k + off)) ++ vs ++ cur.toList.drop (o1 + (i * row.k + off) + vs.length)).toArray) G (bs ρ) ⟨row.k, row.p, row.n, row.c, row.xs.take (i * row.k + off) ++ vs ++ row.xs.drop (i * row.k + off + vs.length)⟩ := by
  refine ⟨?_, .inr ⟨o1, hp, hBb, hGb, hnc, hcm, _, T', setRow_heap w _ cur _ T' _ hh, ?_, ?_⟩⟩
  ·have h1 := hrow.1
   simp only [List.length_append, List.length_take, List.length_drop]; omega
  ·simp only [List.size_toArray, List.length_append, List.length_take, List.length_drop, Array.length_toList]; omega
  ·rw [← htk]
   exact ana cur.toList vs o1 (i * row.k + off) (row.n * row.k) hb (by simpa using hnk)
 have honly : Only w (w.setRow (bs ρ) (cur.toList.take (o1 + (i * row.k + off)) ++ vs ++ cur.toList.drop (o1 + (i * row.k + off) + vs.length)).toArray) (bs ρ) (row.c ≠ 0) :=
  ⟨rfl, rfl, rfl, by simp [World.setRow], fun j hj hne => setRow_other w _ j _ (hne hc0)⟩
 have h999 : ρ ≠ 999 := fun e => by subst e; exact hI.nr row hρ
 have hI' := hI.upd (ρ := ρ) (b' := bs ρ) h999 (row.c ≠ 0) (fun _ => ⟨.inr ⟨row, hρ, hc0⟩, hBb, hGb⟩) honly (.inl ⟨rfl, hc0⟩) hlook hLρ hrow'
 have hbs : (fun j => if j = ρ then bs ρ else bs j) = bs := by funext j; split <;> simp_all
 rw [hbs] at hI'
 exact k _ _ ⟨G, bs, hA, hI', hΓ⟩
theorem WX.ldR {α : Type} [GoT α] {l : List α} (ρ n : Nat) (a : α) {val : X α → Value} {Γ' : X α → Facts} (ht : aek C.P C.tt)
  (hg : gd ops env o = some true) (hd : o.dst = some d) (hlt : Nat.blt d C.fn.ntmps = true) (ho : o.op = .load T x)
  (hx : ev env x = some (.e (some ad) i (k α) off)) (hT : look C.tt T = some ti) (hρ : look R ρ = some row) (hp : row.p = some ad) (hk : row.k = k α) (hn : i < row.n) (hrd : ∀ G, AllK C.M G Γ → RdL G row.xs l) (ha : l[i]? = some a)
  (hv : ∀ x, asm ti (sh a x) off = some (val x)) (hf : ∀ x, addF n (fa .der a x) Γ = some (Γ' x))
  (k : ∀ x, (∀ j u, (sh a x)[j]? = some u → row.xs[i * k α + j]? = some u) → WX C (.ops ops r :: s) ((d, .v (val x)) :: env) L R (Γ' x)) : WX C (.ops ops (o :: r) :: s) env L R Γ := by
 rintro a' w ⟨G, bs, hA, hI, hΓ⟩
 obtain ⟨x', h6, h7⟩ := (hrd G hΓ).get ha
 have hrow := hI.row ρ row hρ
 obtain ⟨o1, hp', hc0, cur, T', hh, hcs, htk, hnc⟩ := hrow.some (by omega)
 rw [hp] at hp'; simp at hp'; subst hp'
 have hc : ∀ j u, (sh a x')[j]? = some u → w.cell? (((⟨bs ρ, o1, none⟩ : Addr).add (i * GoT.k α)).add j) = some u := fun j u hj => by
  have h8 := h7 j u hj
  rw [← htk, List.getElem?_take, List.getElem?_drop] at h8
  rw [ag2, Addr.add_lit, cell_of_row w _ _ cur T' _ hh]
  split at h8
  ·simpa using h8
  ·cases h8
 have hl : (execOp a'.eval o).run C.P w = .ok (.value (val x')) w := by
  unfold execOp
  have hrun := ahg (P := C.P) ht hT (w := w) (a := (⟨bs ρ, o1, none⟩ : Addr).add (i * GoT.k α)) (cs := sh a x') (off := off) (v := val x') hc (hv x')
  simp only [ho, ad7 hA hx, conc, Instr.loadAt, Instr.sureAddr, Sem.run_bind, Sem.run_pure, Result.andThen_ok, hrun]
 show wpList C.P ops (cont C s) (o :: r) a' w
 unfold wpList
 rw [if_pos (aee hA hg)]
 refine .inl ?_
 unfold Oper.wp
 rw [hl]
 simp only [Oper.upon, hd]
 exact k x' h7 _ _ ⟨G, bs, hA.put (by simpa [Nat.blt_eq] using hlt) (.v (val x')), hI, AllK.ders (hf x') (fun f hf => GoT.fak f hf) h6 hΓ⟩
def OwH {α : Type} [GoT α] (h : GH) (xs : List Value) (l : List α) (i : Nat) : Prop :=
 ∃ h1 h2, Le h1 h ∧ Le h2 h ∧ Dj h1 h2 ∧ OwL h1 (xs.take (i * GoT.k α)) (l.take i) ∧ OwL h2 (xs.drop ((i + 1) * GoT.k α)) (l.drop (i + 1))
def MF.oh {α : Type} [GoT α] (xs : List Value) (l : List α) (i : Nat) : MF := ⟨.lin, fun G => OwH G xs l i, fun h ⟨h1, h2, a, b, c⟩ => ⟨h1, h2, a.trans h, b.trans h, c⟩⟩
section
variable {α : Type} [GoT α]
theorem OwL.openE {l : List α} {e : α} (ho : OwL h xs l) (hi : l[i]? = some e) :
  ∃ x : X α, (xs = xs.take (i * k α) ++ sh e x ++ xs.drop ((i + 1) * k α) ∧ (xs.take (i * k α)).length = i * k α) ∧ Sep h (oa e x ++ [MF.oh xs l i]) := by
 obtain ⟨hlt, rfl⟩ := List.getElem?_eq_some_iff.1 hi
 have hsp : l = l.take i ++ (l[i] :: l.drop (i + 1)) := by rw [← List.drop_eq_getElem_cons hlt, List.take_append_drop]
 have hlen := ho.len
 rw [hsp] at ho
 obtain ⟨h1, h2, a1, a2, a3, a4, a5⟩ := ho.split
 have hti : (l.take i).length = i := by simp; omega
 rw [hti] at a4 a5
 obtain ⟨x, ys, q1, q2, e1, r1, r2, r3, r4, r5⟩ := a5
 have hk1 : (i + 1) * k α ≤ l.length * k α := Nat.mul_le_mul_right _ hlt
 have hk2 : (i + 1) * k α = i * k α + k α := by rw [Nat.add_mul, Nat.one_mul]
 have hys : ys = xs.drop ((i + 1) * k α) := by
  rw [hk2, ← List.drop_drop, e1, ← GoT.len l[i] x, List.drop_left]
 refine ⟨x, ⟨?_, by simp; omega⟩, Sep.both (r1.trans a2) (afg a1 (r2.trans a2)) ((agf (a3.mono (Le.refl _) r1) r3.symm).symm) r4 (aiz ⟨h1, q2, adz _ _, aer (a3.mono (Le.refl _) r2), a3.mono (Le.refl _) r2, a4, by rw [← hys]; exact r5⟩)⟩
 rw [List.append_assoc, ← hys, ← e1, List.take_append_drop]
theorem OwL.closeE {l : List α} {e : α} {x : X α} (hi : i < l.length) (hs : Sep h (oa e x ++ [MF.oh xs l i])) : OwL h (xs.take (i * k α) ++ sh e x ++ xs.drop ((i + 1) * k α)) (l.set i e) := by
 obtain ⟨h1, h2, a1, a2, a3, a4, a5⟩ := hs.append
 obtain ⟨q1, q2, r1, r2, r3, r4, r5⟩ := (ais a5 : OwH h2 xs l i)
 have : l.set i e = l.take i ++ [e] ++ l.drop (i + 1) := by
  rw [List.set_eq_take_append_cons_drop, if_pos hi]; simp
 rw [this]
 refine OwL.append r5 (h := join q1 h1) (OwL.snoc a4 r4 (adz _ _) (aer ((a3.mono (Le.refl _) r1).symm)) ((a3.mono (Le.refl _) r1).symm)) (afg (r1.trans a2) a1) (r2.trans a2) (agf r3 (a3.mono (Le.refl _) r2))
theorem as1 {β : Type} (A S B vs : List β) (off : Nat) (h : off + vs.length ≤ S.length) : (A ++ S ++ B).take (A.length + off) ++ vs ++ (A ++ S ++ B).drop (A.length + off + vs.length) = A ++ (S.take off ++ vs ++ S.drop (off + vs.length)) ++ B := by
 have h1 : (A ++ S ++ B).take (A.length + off) = A ++ S.take off := by
  rw [List.append_assoc, List.take_length_add_append, List.take_append_of_le_length (by omega)]
 have h2 : (A ++ S ++ B).drop (A.length + off + vs.length) = S.drop (off + vs.length) ++ B := by
  rw [List.append_assoc, Nat.add_assoc, List.drop_length_add_append, List.drop_append_of_le_length (by omega)]
 rw [h1, h2]; simp
theorem OwL.set {l : List α} {e e' : α} (ho : OwL h xs l) (hi : l[i]? = some e) (hs : ∀ x : X α, (sh e x).take off ++ vs ++ (sh e x).drop (off + vs.length) = sh e' x) (hf : off + vs.length ≤ k α) (hoa : ∀ x : X α, oa e' x = oa e x) :
  OwL h (xs.take (i * k α + off) ++ vs ++ xs.drop (i * k α + off + vs.length)) (l.set i e') := by
 obtain ⟨x, ⟨hx, hl⟩, hsep⟩ := ho.openE hi
 have := OwL.closeE (e := e') (x := x) (List.getElem?_eq_some_iff.1 hi).1 (by rw [hoa]; exact hsep)
 rw [← hs] at this
 have h2 := as1 (xs.take (i * k α)) (sh e x) (xs.drop ((i + 1) * k α)) vs off (by rw [GoT.len]; exact hf)
 rw [← hx, hl] at h2
 rw [h2]; exact this
end
end Go.Stp
namespace Go.Stp
open GoT (X k ok sh fa oa)
variable {j i fuel d c T : Nat} {listed : Array Bool} {C : Cx} {bs : Nat → Nat} {L : Locs} {R : Rows} {s st : List It} {env : Env} {Γ Γ0 : Facts} {o : Oper} {G0 : GH} {f x : Operand} {args : List Operand} {ats : Array TypeId} {g : FuncId} {sf : SV} {svs : List SV} {caps : (Nat → Nat) → List Value} {α : Type} {kd : Kd}
section
variable {P : Program} {ops : Array Oper} {Q : Exit → Act → World → Prop} {S : World → Prop} {tl : List Nat}
def ax5 (ops : Array Oper) (j k : Nat) : Bool :=
 match ops[j]? with
 | some oj => oj.after.any fun e => Region.binds .any e && e.on == k
 | none => false
def ancL (ops : Array Oper) : Nat → List Nat → List Nat
 | 0, acc => acc
 | k + 1, acc => (match acc.any (fun m => ax5 ops m k) with | true => ancL ops k (k :: acc) | false => ancL ops k acc)
def waits (ops : Array Oper) (j i : Nat) : Bool := (ancL ops j [j]).contains i
def Closed (ops : Array Oper) (listed : Array Bool) : Prop := ∀ j o, ops[j]? = some o → listed.getD j false = true → ∀ e ∈ o.after, Region.binds .any e = true → listed.getD e.on false = true
theorem att {k : Nat} (h : ax5 ops j k = true) : ∃ o, ops[j]? = some o ∧ ∃ e ∈ o.after, Region.binds .any e = true ∧ e.on = k := by
 unfold ax5 at h
 split at h
 ·rename_i oj ho
  obtain ⟨e, he, hb⟩ := Array.any_eq_true'.1 h
  simp only [Bool.and_eq_true, beq_iff_eq] at hb
  exact ⟨oj, ho, e, he, hb.1, hb.2⟩
 ·cases h
theorem an1 {listed : Array Bool} {j : Nat} (hc : Closed ops listed) (hr : j ∈ Region.ready .any ops listed) : ∀ (k : Nat) (acc : List Nat), (∀ m ∈ acc, m = j ∨ listed.getD m false = true) → ∀ m ∈ ancL ops k acc, m = j ∨ listed.getD m false = true
 | 0, acc, h => h
 | k + 1, acc, h => by
  unfold ancL
  split
  ·rename_i ha
   obtain ⟨m, hm, he⟩ := List.any_eq_true.1 ha
   obtain ⟨o, ho, e, hE, hb, hk⟩ := att he
   refine an1 hc hr k (k :: acc) fun x hx => ?_
   rcases List.mem_cons.1 hx with rfl | hx
   ·right
    rcases h m hm with rfl | hl
    ·obtain ⟨_, o', ho', hall⟩ := mem_ready.1 hr
     rw [ho] at ho'; cases ho'
     rw [← hk]; exact hall e hE hb
    ·rw [← hk]; exact hc m o ho hl e hE hb
   ·exact h x hx
  ·exact an1 hc hr k acc h
theorem atk (hc : Closed ops listed) (hw : waits ops j i = true) (hij : j ≠ i) (hi : listed.getD i true = false) (hr : j ∈ Region.ready .any ops listed) : False := by
 have hm : i ∈ ancL ops j [j] := by simpa [waits] using hw
 rcases an1 hc hr j [j] (fun m hm => .inl (by simpa using hm)) i hm with h | h
 ·exact hij h.symm
 ·rcases Nat.lt_or_ge i listed.size with h' | h'
  ·simp [h'] at hi h; rw [hi] at h; cases h
  ·simp [Array.getElem?_eq_none h'] at h
theorem Closed.set (hc : Closed ops listed) (hr : i ∈ Region.ready .any ops listed) : Closed ops (listed.setIfInBounds i true) := by
 intro j o ho hl e he hb
 by_cases hji : j = i
 ·subst hji
  obtain ⟨_, o', ho', hall⟩ := mem_ready.1 hr
  rw [ho] at ho'; cases ho'
  exact getD_set_true (hall e he hb)
 ·rw [getD_set_ne false (Ne.symm hji)] at hl
  exact getD_set_true (hc j o ho hl e he hb)
theorem as3 (ops : Array Oper) : Closed ops (Array.replicate ops.size false) := by
 intro j o ho hl
 have : j < ops.size := (Array.getElem?_eq_some_iff.1 ho).1
 simp [this] at hl
def afk (P : Program) (ops : Array Oper) (Q : Exit → Act → World → Prop) (S : World → Prop) (tl : List Nat) : Nat → Array Bool → Act → World → Prop
 | 0, listed, a, w => Region.ready .any ops listed = [] ∧ Q .normal a w
 | fuel + 1, listed, a, w =>
  (Region.ready .any ops listed = [] → Q .normal a w) ∧
  ∀ i ∈ Region.ready .any ops listed, wpOp P ops Q i (fun a' w' => (tl.contains i = false → S w → S w') ∧ afk P ops Q S tl fuel (listed.setIfInBounds i true) a' w') a w
theorem ap8 : ∀ (fuel : Nat) (listed : Array Bool) (a : Act) (w : World), afk P ops Q S tl fuel listed a w → wpAny P .any ops Q fuel listed a w
 | 0, _, _, _, h => h
 | fuel + 1, _, _, _, h => ⟨h.1, fun i hi => wpOp_mono (fun a' w' h' => ap8 fuel _ a' w' h'.2) (h.2 i hi)⟩
theorem awi {oj : Oper} (hiun : listed.getD i true = false) (hall : ∀ e ∈ oj.after, Region.binds .any e = true → listed.getD e.on false = true) : ∀ e ∈ oj.after, Region.binds .any e = true → e.on ≠ i := fun e he hb heq => by
 have h1 := hall e he hb
 rw [heq] at h1
 rcases Nat.lt_or_ge i listed.size with h' | h'
 ·simp [h'] at hiun h1; rw [hiun] at h1; cases h1
 ·simp [Array.getElem?_eq_none h'] at h1
theorem am4 {i : Nat} {oi : Oper} {v : Value} (hi : ops[i]? = some oi) (hit : tl.contains i = false) (hsel : ∀ (j : Nat) (o : Oper) cs b, ops[j]? = some o → o.op ≠ .select cs b)
  (hQ : ∀ c a w, Q (.panic c) (a.put oi.dst v) w → Q (.panic c) a w) :
  ∀ (fuel : Nat) (listed : Array Bool) (a : Act) (w : World), Closed ops listed → (∀ j ∈ tl, listed.getD j true = false → waits ops j i = true) →
   (∀ j oj, ops[j]? = some oj → j ≠ i → listed.getD j true = false → (∀ e ∈ oj.after, Region.binds .any e = true → e.on ≠ i) → oi.apart ops oj = true) →
   i ∈ Region.ready .any ops listed → YieldsIf P ops S oi v a → S w →
   afk P ops Q S tl fuel (listed.setIfInBounds i true) (a.put oi.dst v) w → afk P ops Q S tl (fuel + 1) listed a w := by
 intro fuel
 induction fuel with
 | zero =>
  intro listed a w _ _ _ hr hy hS H
  refine ⟨fun h => (by rw [h] at hr; cases hr), fun j hj => ?_⟩
  by_cases hji : j = i
  ·subst hji; exact hy.wpOp hi hS ⟨fun _ h => h, H⟩
  ·have := ready_mono hj hji
   rw [H.1] at this
   cases this
 | succ fuel ih =>
  intro listed a w hc hw hfree hr hy hS H
  refine ⟨fun h => (by rw [h] at hr; cases hr), fun j hj => ?_⟩
  by_cases hji : j = i
  ·subst hji; exact hy.wpOp hi hS ⟨fun _ h => h, H⟩
  ·have h1 := H.2 j (ready_mono hj hji)
   obtain ⟨hjun, oj, hoj, hall⟩ := mem_ready.1 hj
   have hiun := (mem_ready.1 hr).1
   have hnot := awi (i := i) hiun hall
   have hjt : tl.contains j = false := by
    cases hb : tl.contains j with
    | false => rfl
    | true => exact (atk hc (hw j (by simpa using hb) hjun) hji hiun hj).elim
   have h2 := wpOp_putIf hoj (hfree j oj hoj hji hjun hnot) (fun cs b => hsel i oi cs b hi) (fun cs b => hsel j oj cs b hoj) hQ hy
    (K := fun a' w' => S w' ∧ afk P ops Q S tl fuel ((listed.setIfInBounds j true).setIfInBounds i true) a' w') (by
     refine wpOp_mono (fun a' w' h3 => ?_) h1
     rw [Array.setIfInBounds_comm _ _ hji]
     exact ⟨h3.1 hjt hS, h3.2⟩)
   have hun : ∀ k, (listed.setIfInBounds j true).getD k true = false → listed.getD k true = false := fun k hk => by
    by_cases hjk : j = k
    ·subst hjk; exact hjun
    ·rw [getD_set_ne true hjk] at hk; exact hk
   exact wpOp_mono (fun a' w' h3 => ⟨fun _ _ => h3.2.1, ih (listed.setIfInBounds j true) a' w' (hc.set hj) (fun k hk hkn => hw k hk (hun k hkn)) (fun k ok hk hki hkn hno => hfree k ok hk hki (hun k hkn) hno) (ready_mono hr (Ne.symm hji)) h3.1 h3.2.1 h3.2.2⟩) h2
theorem agn {i : Nat} {oi : Oper} {v : Value} (hi : ops[i]? = some oi) (hsel : ∀ (j : Nat) (o : Oper) cs b, ops[j]? = some o → o.op ≠ .select cs b)
  (hQ : ∀ c a w, Q (.panic c) (a.put oi.dst v) w → Q (.panic c) a w) :
  ∀ (fuel : Nat) (listed : Array Bool) (a : Act) (w : World),
   (∀ j oj, ops[j]? = some oj → j ≠ i → listed.getD j true = false → (∀ e ∈ oj.after, Region.binds .any e = true → e.on ≠ i) → oi.apart ops oj = true) →
   i ∈ Region.ready .any ops listed → YieldsIf P ops (fun _ => True) oi v a →
   afk P ops Q S tl fuel (listed.setIfInBounds i true) (a.put oi.dst v) w → afk P ops Q S tl (fuel + 1) listed a w := by
 intro fuel
 induction fuel with
 | zero =>
  intro listed a w _ hr hy H
  refine ⟨fun h => (by rw [h] at hr; cases hr), fun j hj => ?_⟩
  by_cases hji : j = i
  ·subst hji; exact hy.wpOp hi trivial ⟨fun _ h => h, H⟩
  ·have := ready_mono hj hji
   rw [H.1] at this
   cases this
 | succ fuel ih =>
  intro listed a w hfree hr hy H
  refine ⟨fun h => (by rw [h] at hr; cases hr), fun j hj => ?_⟩
  by_cases hji : j = i
  ·subst hji; exact hy.wpOp hi trivial ⟨fun _ h => h, H⟩
  ·have h1 := H.2 j (ready_mono hj hji)
   obtain ⟨hjun, oj, hoj, hall⟩ := mem_ready.1 hj
   have hiun := (mem_ready.1 hr).1
   have hnot := awi (i := i) hiun hall
   have h2 := wpOp_putIf hoj (hfree j oj hoj hji hjun hnot) (fun cs b => hsel i oi cs b hi) (fun cs b => hsel j oj cs b hoj) hQ hy
    (K := fun a' w' => (tl.contains j = false → S w → S w') ∧ afk P ops Q S tl fuel ((listed.setIfInBounds j true).setIfInBounds i true) a' w') (by
     refine wpOp_mono (fun a' w' h3 => ?_) h1
     rw [Array.setIfInBounds_comm _ _ hji]
     exact h3)
   have hun : ∀ k, (listed.setIfInBounds j true).getD k true = false → listed.getD k true = false := fun k hk => by
    by_cases hjk : j = k
    ·subst hjk; exact hjun
    ·rw [getD_set_ne true hjk] at hk; exact hk
   exact wpOp_mono (fun a' w' h3 => ⟨h3.2.1, ih (listed.setIfInBounds j true) a' w' (fun k ok hk hki hkn hno => hfree k ok hk hki (hun k hkn) hno) (ready_mono hr (Ne.symm hji)) h3.1 h3.2.2⟩) h2
def anx (ops : List Oper) : List Nat → Option (List Oper)
 | [] => some []
 | i :: r => (match getO ops i with
  | some o => (match anx ops r with | some q => some (o :: q) | none => none)
  | none => none)
def seqL (ops : Array Oper) (tl : List Nat) : List Nat → Array Bool → Bool
 | [], listed => (Region.ready .any ops listed).isEmpty
 | k :: r, listed => decide (Region.ready .any ops listed = [k]) && tl.contains k && seqL ops tl r (listed.setIfInBounds k true)
theorem akp : ∀ (is : List Nat) (l : List Oper) (listed : Array Bool) (a : Act) (w : World), anx ops.toList is = some l → seqL ops tl is listed = true → wpList P ops Q l a w → afk P ops Q S tl is.length listed a w
 | [], l, _, _, _, hl, hB, h => by simp [anx] at hl; subst hl; exact ⟨by simpa [seqL] using hB, h⟩
 | k :: is, l, listed, a, w, hl, hB, h => by
  simp only [anx] at hl
  split at hl
  ·rename_i o ho
   split at hl
   ·rename_i q hq
    simp at hl; subst hl
    rw [aey] at ho
    have h0 : ops[k]? = some o := by simpa using ho
    simp only [seqL, Bool.and_eq_true, decide_eq_true_eq] at hB
    refine ⟨fun h1 => (by rw [hB.1.1] at h1; cases h1), fun i hi => ?_⟩
    rw [hB.1.1] at hi
    have hik : i = k := by simpa using hi
    subst hik
    have hw : wpOp P ops Q i (wpList P ops Q q) a w := by unfold wpOp; simp only [h0]; exact h
    exact wpOp_mono (fun a' w' h' => ⟨fun h => (by rw [hB.1.2] at h; cases h), akp is q _ a' w' hq hB.2 h'⟩) hw
   ·cases hl
  ·cases hl
end
def SB (C : Cx) (bs : Nat → Nat) (G0 : GH) (L : Locs) (R : Rows) : World → Prop := fun w => ∃ G, Le G0 G ∧ HInv C w G bs L R
def DX (C : Cx) (ops : Array Oper) (tl : List Nat) (s : List It) (bs : Nat → Nat) (G0 : GH) (fuel : Nat) (listed : Array Bool) (env : Env) (L : Locs) (R : Rows) (Γ : Facts) : Prop :=
 Closed ops listed → ∀ a w G, Le G0 G → SatB C env L R Γ G bs a w → afk C.P ops (cont C s) (SB C bs G0 L R) tl fuel listed a w
theorem agy (C : Cx) (s : List It) (c : List PanicEntry) (a : Act) (w : World) : cont C s (.panic c) a w → False := by
 induction s with
 | nil => rintro ⟨_, v, h, _⟩; cases h
 | cons x s ih => cases x <;> exact ih
theorem HInv.drew {w : World} {G : GH} (h : HInv C w G bs L R) : HInv C { w with drawn := w.drawn + 1 } G bs L R :=
 ⟨⟨h.keep.os, h.keep.tape, h.keep.output, h.keep.size, h.keep.block⟩, h.le, h.loc, h.row, h.inj, h.dis, h.pin, h.nr⟩
theorem WX.draw {id : Nat} {ops : Array Oper} (tl : List Nat) (hm : C.P.follows .mixedOrders = true)
  (k : ∀ bs G0, AllK C.M G0 Γ → DX C ops tl s bs G0 ops.size (Array.replicate ops.size false) env L R Γ) : WX C (.code (.region id ops true) :: s) env L R Γ := by
 rintro a w ⟨G, bs, hA, hI, hΓ⟩
 show (Code.region id ops true).wp C.P (cont C s) a w
 exact wp_region_any hm (ap8 _ _ _ _ (k bs G hΓ (as3 ops) a _ G (Le.refl _) ⟨hA, hI.drew, hΓ⟩))
def mayP (ops : Array Oper) (listed : Array Bool) (i : Nat) : Bool :=
 Region.noSelect ops && Region.free .any ops listed i && (Region.ready .any ops listed).contains i
def mayB (ops : Array Oper) (tl : List Nat) (listed : Array Bool) (i : Nat) : Bool :=
 mayP ops listed i && !tl.contains i && tl.all (fun j => listed.getD j true || waits ops j i)
theorem DX.take {C : Cx} {ops : Array Oper} {tl : List Nat} {s : List It} {bs : Nat → Nat} {G0 : GH} {fuel : Nat} {listed : Array Bool} {env : Env} {L : Locs} {R : Rows} {Γ : Facts} {i d : Nat} {o : Oper} {sv : SV} {b : Bool} (hb : mayB ops tl listed i = true) (hi : ops[i]? = some o) (hd : o.dst = some d) (hlt : d < C.fn.ntmps)
  (hg : gd ops env o = some b) (hl : b = true → Looks C env L R G0 o sv) (hu : b = false → sv = .v undef)
  (k : DX C ops tl s bs G0 fuel (listed.setIfInBounds i true) ((d, sv) :: env) L R Γ) : DX C ops tl s bs G0 (fuel + 1) listed env L R Γ := by
 intro hcl a w G hle ⟨hA, hI, hΓ⟩
 simp only [mayB, mayP, Bool.and_eq_true, Bool.not_eq_true', List.all_eq_true, Bool.or_eq_true] at hb
 obtain ⟨⟨⟨⟨h1, h4⟩, h5⟩, h3⟩, h6⟩ := hb
 have hr : i ∈ Region.ready .any ops listed := by simpa using h5
 refine am4 hi h3 (Region.noSelect_spec h1) (fun c a w h => (agy C s c _ _ h).elim) fuel listed a w hcl (fun j hj hun => (h6 j hj).resolve_left (by rw [hun]; simp)) (Region.free_spec hi h4) hr (v := conc bs sv) ?_ ⟨G, hle, hI⟩ ?_
 ·cases b with
  | true => exact .inl ⟨aee hA hg, fun w' ⟨G', hle', hI'⟩ => hl rfl a w' G' bs hle' hA hI'⟩
  | false => exact .inr ⟨aee hA hg, by rw [hu rfl]; rfl⟩
 ·rw [hd]
  exact k (hcl.set hr) _ _ G hle ⟨hA.put hlt sv, hI, hΓ⟩
theorem DX.takeP {C : Cx} {ops : Array Oper} {tl : List Nat} {s : List It} {bs : Nat → Nat} {G0 : GH} {fuel : Nat} {listed : Array Bool} {env : Env} {L : Locs} {R : Rows} {Γ : Facts} {i d : Nat} {o : Oper} {sv : SV} {b : Bool} (hb : mayP ops listed i = true) (hi : ops[i]? = some o) (hd : o.dst = some d) (hlt : d < C.fn.ntmps)
  (hg : gd ops env o = some b) (hl : b = true → ∀ a w bs, At C.fn.ntmps env bs a → (execOp a.eval o).run C.P w = .ok (.value (conc bs sv)) w) (hu : b = false → sv = .v undef)
  (k : DX C ops tl s bs G0 fuel (listed.setIfInBounds i true) ((d, sv) :: env) L R Γ) : DX C ops tl s bs G0 (fuel + 1) listed env L R Γ := by
 intro hcl a w G hle ⟨hA, hI, hΓ⟩
 simp only [mayP, Bool.and_eq_true] at hb
 obtain ⟨⟨h1, h4⟩, h5⟩ := hb
 have hr : i ∈ Region.ready .any ops listed := by simpa using h5
 refine agn hi (Region.noSelect_spec h1) (fun c a w h => (agy C s c _ _ h).elim) fuel listed a w (Region.free_spec hi h4) hr (v := conc bs sv) ?_ ?_
 ·cases b with
  | true => exact .inl ⟨aee hA hg, fun w' _ => hl rfl a w' bs hA⟩
  | false => exact .inr ⟨aee hA hg, by rw [hu rfl]; rfl⟩
 ·rw [hd]
  exact k (hcl.set hr) _ _ G hle ⟨hA.put hlt sv, hI, hΓ⟩
theorem aj2 (ht : aek C.P C.tt) {a : Act} (w : World) (hA : At C.fn.ntmps env bs a) {sv : SV} (h : aor C.tt env [] o.op = some sv) : (execOp a.eval o).run C.P w = .ok (.value (conc bs sv)) w :=
 ahc (C := ⟨C.P, C.fn, C.tt, w, emp, none, fun _ _ => True⟩) (L := []) (R := []) (G := emp) ht hA ⟨Kp.refl _ _, aes _, by simp [look], by simp [look], fun i j _ hi => by rcases hi with ⟨l, h⟩ | ⟨r, h, _⟩ <;> simp [look] at h, by simp [look], (fun b h => by cases h), by simp [look]⟩ h
def ajy (ops : Array Oper) (tl : List Nat) : Array Bool → List (Nat × Bool) → Bool
 | _, [] => true
 | listed, (i, p) :: r => (match p with | true => mayP ops listed i | false => mayB ops tl listed i) && ajy ops tl (listed.setIfInBounds i true) r
def apc : Array Bool → List (Nat × Bool) → Array Bool
 | l, [] => l
 | l, (i, _) :: r => apc (l.setIfInBounds i true) r
def ahf (tt : TT) (m : Nat) (ops : Array Oper) (L : Locs) : Env → List (Nat × Bool) → Option Env
 | env, [] => some env
 | env, (i, p) :: r => (match getO ops.toList i with
  | some o => (match o.dst with
   | some d => (match Nat.blt d m with
    | true => (match gd ops env o with
     | some true => (match aor tt env (match p with | true => [] | false => L) o.op with
      | some sv => ahf tt m ops L ((d, sv) :: env) r
      | none => none)
     | some false => ahf tt m ops L ((d, .v undef) :: env) r
     | none => none)
    | false => none)
   | none => none)
  | none => none)
theorem DX.takes {C : Cx} {ops : Array Oper} {tl : List Nat} {s : List It} {bs : Nat → Nat} {G0 : GH} {L : Locs} {R : Rows} {Γ : Facts} (ht : aek C.P C.tt) : ∀ (is : List (Nat × Bool)) {fuel : Nat} {listed : Array Bool} {env env' : Env}, ajy ops tl listed is = true →
  ahf C.tt C.fn.ntmps ops L env is = some env' → DX C ops tl s bs G0 fuel (apc listed is) env' L R Γ → DX C ops tl s bs G0 (fuel + is.length) listed env L R Γ
 | [], _, _, _, _, _, h, k => by simp [ahf] at h; subst h; exact k
 | (i, p) :: r, fuel, listed, env, env', hb, h, k => by
  simp only [ajy, Bool.and_eq_true] at hb
  simp only [ahf] at h
  split at h
  ·rename_i o ho
   rw [aey] at ho
   have ho' : ops[i]? = some o := by simpa using ho
   split at h
   ·rename_i d hd
    split at h
    ·rename_i hlt
     have hlt' : d < C.fn.ntmps := by simpa [Nat.blt_eq] using hlt
     split at h
     ·rename_i hg
      split at h
      ·rename_i sv hsv
       cases p with
       | true => exact DX.takeP hb.1 ho' hd hlt' hg (fun _ a w bs' hA => aj2 ht w hA hsv) (fun h => by cases h) (DX.takes ht r hb.2 h k)
       | false => exact DX.take hb.1 ho' hd hlt' hg (fun _ a w G' bs' hle hA hI => ahc ht hA hI hsv) (fun h => by cases h) (DX.takes ht r hb.2 h k)
      ·cases h
     ·rename_i hg
      cases p with
      | true => exact DX.takeP hb.1 ho' hd hlt' hg (fun h => by cases h) (fun _ => rfl) (DX.takes ht r hb.2 h k)
      | false => exact DX.take hb.1 ho' hd hlt' hg (fun h => by cases h) (fun _ => rfl) (DX.takes ht r hb.2 h k)
     ·cases h
    ·cases h
   ·cases h
  ·cases h
theorem DX.tail {ops : Array Oper} {tl : List Nat} {rest : List Oper} (is : List Nat) (hr : anx ops.toList is = some rest) (hf : fuel = is.length) (hs : seqL ops tl is listed = true)
  (k : WX C (.ops ops rest :: s) env L R Γ) : DX C ops tl s bs G0 fuel listed env L R Γ := by
 intro _ a w G _ hS
 subst hf
 exact akp is rest listed a w hr hs (k a w ⟨G, bs, hS⟩)
theorem DX.callG {ops : Array Oper} {tl : List Nat} (i : Nat)
  {Ψ : World → Value → World → Prop} (hit : tl.contains i = false) (hr : Region.ready .any ops listed = [i]) (hi : getO ops.toList i = some o) (hg : gd ops env o = some true) (hd : o.dst = some d) (ho : o.op = .call { callee := .value f, args := args.toArray, argTypes := ats })
  (hf : ev env f = some sf) (hsf : ∀ bs, conc bs sf = .func (.func g) #[] (caps bs).toArray) (hargs : evs env args = some svs)
  (hc : ∀ w G bs, HInv C w G bs L R → AllK C.M (hp w) Γ → Does C.P g (svs.map (conc bs) ++ caps bs).toArray w emp (Ψ w))
  (k : ∀ a w w' G v, Le G0 G → At C.fn.ntmps env bs a → HInv C w G bs L R → AllK C.M G Γ → Kp emp w w' → Ψ w v w' → SB C bs G0 L R w' ∧ (Closed ops (listed.setIfInBounds i true) → afk C.P ops (cont C st) (SB C bs G0 L R) tl fuel (listed.setIfInBounds i true) (a.put (some d) v) w')) : DX C ops tl st bs G0 (fuel + 1) listed env L R Γ := by
 intro hcl a w G hle ⟨hA, hI, hΓ⟩
 rw [aey] at hi
 have hi' : ops[i]? = some o := by simpa using hi
 refine ⟨fun h => (by rw [hr] at h; cases h), fun j hj => ?_⟩
 have hcl' := hcl.set hj
 rw [hr] at hj
 obtain rfl : j = i := by simpa using hj
 unfold wpOp
 simp only [hi']
 rw [if_pos (aee hA hg)]
 refine .inl ?_
 unfold Oper.wp
 obtain ⟨he, hcalls⟩ := hc w G bs hI (hΓ.mono hI.le)
 rw [ah9 he ho (by rw [ad7 hA hf, hsf]) (ah0 hA args svs hargs)]
 simp only [Oper.upon]
 refine hcalls.mono fun e w' ⟨v, hv, hb, hψ⟩ => ?_
 subst hv
 rw [hd]
 obtain ⟨q1, q2⟩ := k a w w' G v hle hA hI hΓ hb hψ
 exact ⟨fun _ _ => q1, q2 hcl'⟩
theorem DX.callV {ops : Array Oper} {tl : List Nat} (i : Nat)
  {c : Value} {Q : Prop} (hit : tl.contains i = false) (hr : Region.ready .any ops listed = [i]) (hi : getO ops.toList i = some o) (hg : gd ops env o = some true) (hd : o.dst = some d) (hlt : Nat.blt d C.fn.ntmps = true) (ho : o.op = .call { callee := .value f, args := args.toArray, argTypes := ats })
  (hf : ev env f = some sf) (hsf : ∀ bs, conc bs sf = .func (.func g) #[] (caps bs).toArray) (hargs : evs env args = some svs)
  (hc : ∀ w G bs, HInv C w G bs L R → AllK C.M (hp w) Γ → Does C.P g (svs.map (conc bs) ++ caps bs).toArray w emp fun v _ => v = c ∧ Q)
  (k : Q → DX C ops tl st bs G0 fuel (listed.setIfInBounds i true) ((d, .v c) :: env) L R Γ) : DX C ops tl st bs G0 (fuel + 1) listed env L R Γ :=
 DX.callG (Ψ := fun _ v _ => v = c ∧ Q) i hit hr hi hg hd ho hf hsf hargs hc fun a w w' G v hle hA hI hΓ hb ⟨hv, hq⟩ => by
  subst hv
  have hI' := (hI.called (aes _) (fun _ _ h => by cases h) hb (aes _) (fun _ _ h => by cases h)).1
  have hle' : Le G0 (join (cut G emp) emp) := hle.trans (adz (cut G emp) emp)
  exact ⟨⟨_, hle', hI'⟩, fun hcl => k hq hcl _ _ _ hle' ⟨hA.put (by simpa [Nat.blt_eq] using hlt) (.v v), hI', hΓ.mono (adz (cut G emp) emp)⟩⟩
theorem DX.callF {ops : Array Oper} {tl : List Nat} (i m : Nat)
  {ι : Type} {val val' : ι → Value} {gs ds : ι → List MF} {Q : Prop} {Γ' : ι → Facts} (hds : ∀ i h, Sep h (gs i) → All h (ds i)) (hdk : ∀ i, ∀ f ∈ ds i, f.k = .der) (hit : tl.contains i = false) (hr : Region.ready .any ops listed = [i]) (hi : getO ops.toList i = some o) (hg : gd ops env o = some true) (hd : o.dst = some d) (hlt : Nat.blt d C.fn.ntmps = true) (ho : o.op = .call { callee := .value f, args := args.toArray, argTypes := ats })
  (hf : ev env f = some sf) (hsf : ∀ bs, conc bs sf = .func (.func g) #[] (caps bs).toArray) (hargs : evs env args = some svs)
  (hc : ∀ w G bs, HInv C w G bs L R → AllK C.M (hp w) Γ → Does C.P g (svs.map (conc bs) ++ caps bs).toArray w emp (Post w emp val gs Q))
  (hv : ∀ i, aio (val i) = some (val' i)) (hΓ' : ∀ i, addF m (ds i ++ gs i) Γ = some (Γ' i))
  (k : ∀ j, Q → DX C ops tl st bs G0 fuel (listed.setIfInBounds i true) ((d, .v (val' j)) :: env) L R (Γ' j)) : DX C ops tl st bs G0 (fuel + 1) listed env L R Γ :=
 DX.callG (Ψ := fun w v w' => Post w emp val gs Q v w') i hit hr hi hg hd ho hf hsf hargs hc fun a w w' G v hle hA hI hΓ hb hv' => by
  obtain ⟨j, h, rfl, hq, hle1, hdom, hs⟩ := hv'
  rw [← aic (hv j)]
  obtain ⟨hI', hdj⟩ := hI.called (aes _) (fun _ _ h => by cases h) hb hle1 hdom
  have hle' : Le G0 (join (cut G emp) h) := hle.trans (adz (cut G emp) h)
  exact ⟨⟨_, hle', hI'⟩, fun hcl => k j hq hcl _ _ _ hle' ⟨hA.put (by simpa [Nat.blt_eq] using hlt) (.v _), hI', hΓ.after hdj (fun b o hb' => .inl ((hdom b o hb').elim (Nat.le_trans hI.keep.size) (fun h => absurd rfl h))) hs (hdk j) (hds j h hs) (hΓ' j)⟩⟩
theorem DX.idx {ops : Array Oper} {tl : List Nat} [GoT α] {y : Operand} {kk q : Nat} {m : Int} {p : Option Addr} {l : List α} (i ℓ j : Nat) (ht : aek C.P C.tt) (h0 : AllK C.M G0 Γ0)
  (hb : mayB ops tl listed i = true) (hi : getO ops.toList i = some o) (hg : gd ops env o = some true) (hd : o.dst = some d) (hlt : Nat.blt d C.fn.ntmps = true) (ho : o.op = .indexAddr T x y)
  (hx : ev env x = some (.v (.slice p q c))) (hy : ev env y = some (.v (.int .i64 m))) (hk : ajp C.tt T = some kk) (hℓ : look Γ0 ℓ = some (MF.rs kd p c l)) (hq : q = l.length) (hm : m = (j : Int)) (hj : j < l.length)
  (k : ∀ ad, p = some ad → DX C ops tl s bs G0 fuel (listed.setIfInBounds i true) ((d, .e (some ad) j kk 0) :: env) L R Γ) : DX C ops tl s bs G0 (fuel + 1) listed env L R Γ := by
 obtain ⟨x', ad, rfl, _⟩ := RdSl.get (i := j) (h0.get ℓ hℓ : RdSl G0 p c l) (List.getElem?_eq_getElem hj)
 rw [aey] at hi
 exact DX.take hb (by simpa using hi) hd (by simpa [Nat.blt_eq] using hlt) hg (fun _ => al9 ht ho hx hy hk hm (by omega)) (fun h => by cases h) (k ad rfl)
theorem DX.ldE {ops : Array Oper} {tl : List Nat} [GoT α] {off : Nat} {ti : TI} {ad : Addr} {l : List α} (i ℓ m : Nat) (a : α) {val : X α → Value} {Γ' : X α → Facts} (ht : aek C.P C.tt) (h0 : AllK C.M G0 Γ0)
  (hb : mayB ops tl listed i = true) (hi : getO ops.toList i = some o) (hg : gd ops env o = some true) (hd : o.dst = some d) (hlt : Nat.blt d C.fn.ntmps = true) (ho : o.op = .load T x)
  (hx : ev env x = some (.e (some ad) j (GoT.k α) off)) (hT : look C.tt T = some ti) (hℓ : look Γ0 ℓ = some (MF.rs kd (some ad) c l)) (ha : l[j]? = some a)
  (hv : ∀ x, asm ti (sh a x) off = some (val x)) (hf : ∀ x, addF m (fa .der a x) Γ = some (Γ' x))
  (k : ∀ x, DX C ops tl s bs G0 fuel (listed.setIfInBounds i true) ((d, .v (val x)) :: env) L R (Γ' x)) : DX C ops tl s bs G0 (fuel + 1) listed env L R Γ := by
 obtain ⟨x', ad', had, hfa, hc⟩ := RdSl.get (i := j) (h0.get ℓ hℓ : RdSl G0 (some ad) c l) ha
 simp at had; subst had
 rw [aey] at hi
 intro hcl a' w G hle hS
 exact DX.take (Γ := Γ' x') hb (by simpa using hi) hd (by simpa [Nat.blt_eq] using hlt) hg (fun _ => anc ht ho hx hT hc (hv x')) (fun h => by cases h) (k x') hcl a' w G hle ⟨hS.1, hS.2.1, AllK.ders (hf x') (fun f hf => GoT.fak f hf) (hfa.mono hle) hS.2.2⟩
end Go.Stp
namespace Go.Stp
open GoT (X k ok sh fa oa)
variable {C : Cx} {ops : Array Oper} {o : Oper} {r : List Oper} {s : List It} {env : Env} {L : Locs} {R : Rows} {Γ : Facts} {d fuel T T' c n S i by_ : Nat} {sv : SV} {tl : List Nat} {bs : Nat → Nat} {G0 G h : GH} {listed : Array Bool} {x y : Operand} {w w' : World} {ti si : TI} {p : Option Addr} {sd : TypeDesc} {m : Int} {xs ys : List Value} {z : Value} {row : Row}
theorem WX.see
  (hg : gd ops env o = some true) (hd : o.dst = some d) (hlt : Nat.blt d C.fn.ntmps = true) (hl : ∀ G, AllK C.M G Γ → Looks C env L R G o sv)
  (k : WX C (.ops ops r :: s) ((d, sv) :: env) L R Γ) : WX C (.ops ops (o :: r) :: s) env L R Γ := WX.peek hg hd hlt fun G hΓ => ⟨sv, hl G hΓ, k⟩
theorem DX.see (i : Nat) (hb : mayB ops tl listed i = true) (hi : getO ops.toList i = some o)
  (hg : gd ops env o = some true) (hd : o.dst = some d) (hlt : Nat.blt d C.fn.ntmps = true) (hl : Looks C env L R G0 o sv)
  (k : DX C ops tl s bs G0 fuel (listed.setIfInBounds i true) ((d, sv) :: env) L R Γ) : DX C ops tl s bs G0 (fuel + 1) listed env L R Γ := by
 rw [aey] at hi
 exact DX.take hb (by simpa using hi) hd (by simpa [Nat.blt_eq] using hlt) hg (fun _ => hl) (fun h => by cases h) k
theorem DX.der (m : Nat) (f : MF) (hk : f.k = .der) (h : ∀ G, AllK C.M G Γ → f.p G)
  (k : DX C ops tl s bs G0 fuel listed env L R ((m, f) :: Γ)) : DX C ops tl s bs G0 fuel listed env L R Γ := by
 intro hcl a w G hle ⟨hA, hI, hΓ⟩
 exact k hcl a w G hle ⟨hA, hI, hΓ.der m f hk (h G hΓ)⟩
theorem DX.cases {C : Cx} {ops : Array Oper} {tl : List Nat} {s : List It} {bs : Nat → Nat} {G0 : GH} {fuel : Nat} {listed : Array Bool} {env : Env} {L : Locs} {R : Rows} {Γ : Facts} (d : Nat) {b : Bool} (h : look env d = some (.v (.bool b)))
  (kt : b = true → DX C ops tl s bs G0 fuel listed ((d, .T) :: env) L R Γ) (kf : b = false → DX C ops tl s bs G0 fuel listed ((d, .F) :: env) L R Γ) : DX C ops tl s bs G0 fuel listed env L R Γ := by
 have key : ∀ y : SV, conc bs y = conc bs (.v (.bool b)) → DX C ops tl s bs G0 fuel listed ((d, y) :: env) L R Γ → DX C ops tl s bs G0 fuel listed env L R Γ := fun y hy k hcl a w G hle ⟨hA, hI, hΓ⟩ => by
  refine k hcl a w G hle ⟨⟨hA.size, hA.dfr, fun i x' hx => ?_⟩, hI, hΓ⟩
  rw [adg] at hx
  split at hx
  ·rename_i he; subst he; simp at hx; subst hx; rw [hA.slot d _ h, hy]
  ·exact hA.slot i x' hx
 cases b with
 | true => exact key .T rfl (kt rfl)
 | false => exact key .F rfl (kf rfl)
theorem DX.slot (d : Nat) {x y : SV} (h : look env d = some x) (e : ∀ bs, conc bs x = conc bs y) (k : DX C ops tl s bs G0 fuel listed ((d, y) :: env) L R Γ) : DX C ops tl s bs G0 fuel listed env L R Γ := by
 intro hcl a w G hle ⟨hA, hI, hΓ⟩
 refine k hcl a w G hle ⟨⟨hA.size, hA.dfr, fun i x' hx => ?_⟩, hI, hΓ⟩
 rw [adg] at hx
 split at hx
 ·rename_i he; subst he; simp at hx; subst hx; rw [hA.slot d x h, e]
 ·exact hA.slot i x' hx
theorem WX.free (n : Nat) (f : MF) (hp : f.p emp) (k : WX C s env L R ((n, f) :: Γ)) : WX C s env L R Γ := by
 rintro a w ⟨G, bs, hA, hI, hΓ⟩
 exact k a w ⟨G, bs, hA, hI, hΓ.new n f (h := emp) (Le.refl _) (aes _) (fun _ => ag5 _) (fun _ _ _ h => by cases h) hp⟩
theorem WX.row0 (ρ kk : Nat) (p : Option Addr) (hnl : agp ρ env L R = false) (k : WX C s env L ((ρ, ⟨kk, p, 0, 0, []⟩) :: R) Γ) : WX C s env L R Γ := by
 rintro a w ⟨G, bs, hA, hI, hΓ⟩
 obtain ⟨l1, l2, l3, l4⟩ := aex hnl
 refine k a w ⟨G, fun j => if j = ρ then 0 else bs j, hA.notH l1 (fun i hi => if_neg hi), ?_, hΓ⟩
 exact hI.upd (ρ := ρ) (b' := 0) (r' := ⟨kk, p, 0, 0, []⟩) l4 False (fun h => h.elim) (alf w _ _) (.inr (.inr rfl)) (fun j => adg _ _ _ _) (fun l h => aff l2 h rfl) ⟨by simp, .inl ⟨rfl, rfl⟩⟩
theorem as8 (h : Kp emp w w') : Le (hp w) (hp w') := fun b o hb => by
 have hlt : b < w.heap.size := (Array.getElem?_eq_some_iff.1 hb).1
 show w'.heap[b]? = some o
 rw [h.block b hlt rfl]; exact hb
theorem ao0 {a : Addr} {k : Nat} : Value.pointer (some a) = Value.pointer (some ((a.add (0 * k)).add 0)) := by
 cases a; simp [Addr.add]
theorem anq {α : Type} [GoT α] {b : Nat} {T : TypeId} {a : α} {x : GoT.X α} (hh : w.heap[b]? = some (.cells (GoT.sh a x).toArray T (0, 0))) (hf : All (hp w) (GoT.fa .der a x)) : RdSl (hp w) (some ⟨b, 0, none⟩) 1 [a] := by
 refine ⟨Nat.le_refl _, by simp, GoT.sh a x, ?_, ?_⟩
 ·intro j u hj
  refine ⟨_, rfl, ?_⟩
  have hh' : hp w b = some (.cells (GoT.sh a x).toArray T (0, 0)) := hh
  by_cases h0 : j = 0 <;> simp [gcell, Addr.add, h0, hh'] <;> simpa [h0] using hj
 ·exact ⟨x, [], by simp, hf, rfl⟩
def beqO (b : BinOp) (p q : Bool) : Option Bool :=
 match b with
 | .eql => some (p == q)
 | .neq => some (!(p == q))
 | _ => none
theorem akr {b : BinOp} {p q c : Bool} (ht : aek C.P C.tt) (ho : o.op = .binOp b T x y T') (hT : look C.tt T = some ti) (hb : ti.desc = .bool)
  (hx : ev env x = some (.v (.bool p))) (hy : ev env y = some (.v (.bool q))) (hq : beqO b p q = some c) : Looks C env L R G o (.v (.bool c)) := by
 intro a w G' bs _ hA hI
 have hu : C.P.underlying T = some .bool := by rw [← hb]; exact (ht.get hT).1
 have he : (Op.equal T (.bool p) (.bool q)).run C.P w = .ok (p == q) w := run_equalIn_bool (P := C.P) w (Op.maxDepth - 1) T p q hu
 have hq' : (b = .eql ∧ c = (p == q)) ∨ (b = .neq ∧ c = !(p == q)) := by
  cases b <;> simp only [beqO, Option.some.injEq, reduceCtorEq] at hq
  ·exact .inl ⟨rfl, hq.symm⟩
  ·exact .inr ⟨rfl, hq.symm⟩
 unfold execOp
 simp only [ho, ad7 hA hx, ad7 hA hy, conc]
 rcases hq' with ⟨rfl, rfl⟩ | ⟨rfl, rfl⟩
 ·simp [eqGuard, binOp, Sem.run_bind, he]
 ·simp [eqGuard, binOp, Sem.run_bind, he]
theorem ajb {e : Nat} (ht : aek C.P C.tt) (ho : o.op = .binOp .eql T x (.const (.slice none 0 0)) T') (hT : look C.tt T = some ti) (hb : ti.desc = .slice e)
  (hx : ev env x = some (.v (.slice p n c))) : Looks C env L R G o (.v (.bool p.isNone)) := by
 intro a w G' bs _ hA hI
 have hu : C.P.underlying T = some (.slice e) := by rw [← hb]; exact (ht.get hT).1
 have he : (Op.equal T (.slice p n c) (.slice none 0 0)).run C.P w = .ok p.isNone w := by
  exact run_equal_slice_nil w T e p n c hu
 unfold execOp
 simp only [ho, ad7 hA hx, conc]
 simp [eqGuard, binOp, Sem.run_bind, he, Act.eval]
theorem ao3 {k q : IntKind} {n : Int} (ht : aek C.P C.tt) (ho : o.op = .convert S T x) (hS : look C.tt S = some si) (hs : si.desc = sd) (hT : look C.tt T = some ti) (hk : ti.desc = .int k)
  (hx : ev env x = some (.v (.int q n))) : Looks C env L R G o (.v (.int k (k.wrap n))) := by
 intro a w G' bs _ hA hI
 have hu : C.P.underlying T = some (.int k) := by rw [← hk]; exact (ht.get hT).1
 have hv : C.P.underlying S = some sd := by rw [← hs]; exact (ht.get hS).1
 unfold execOp
 simp only [ho, ad7 hA hx, conc]
 simp [convert, Conv.intToInt, Sem.run_bind, underlying, hu, hv]
def toU8 (n : Int) : UInt8 := UInt8.ofNat (n % 256).toNat
theorem awu (n : Int) : IntKind.u8.wrap n = ((toU8 n).toNat : Int) := by
 unfold toU8
 rw [UInt8.toNat_ofNat']
 simp [IntKind.wrap, IntKind.bits, IntKind.signed]
 omega
theorem aln {n : Int} (ht : aek C.P C.tt) (ho : o.op = .convert S T x) (hS : look C.tt S = some si) (hs : si.desc = sd) (hT : look C.tt T = some ti) (hk : ti.desc = .int .u8)
  (hx : ev env x = some (.v (.int .i64 n))) : Looks C env L R G o (.v (.int .u8 ((toU8 n).toNat : Int))) := by
 rw [← awu]; exact ao3 ht ho hS hs hT hk hx
theorem apg {c : UInt8} (ht : aek C.P C.tt) (ho : o.op = .convert S T x) (hS : look C.tt S = some si) (hs : si.desc = sd) (hT : look C.tt T = some ti) (hk : ti.desc = .int .i64)
  (hx : ev env x = some (.v (.int .u8 (c.toNat : Int)))) : Looks C env L R G o (.v (.int .i64 (c.toNat : Int))) := by
 have h := ao3 (L := L) (R := R) (G := G) ht ho hS hs hT hk hx
 rwa [ajh (by have := c.toNat_lt; unfold I64; omega)] at h
theorem afz {s : Str} {c : UInt8} (ht : aek C.P C.tt) (ho : o.op = .index T x y) (hT : look C.tt T = some ti) (hk : ti.desc = .string)
  (hx : ev env x = some (.v (.string s))) (hy : ev env y = some (.v (.int .i64 (i : Int)))) (hc : s.data.toList[i]? = some c) : Looks C env L R G o (.v (.int .u8 c.toNat)) := by
 intro a w G' bs _ hA hI
 have hu : C.P.underlying T = some .string := by rw [← hk]; exact (ht.get hT).1
 have hc' : s[i]? = some c := by
  have h1 : s.data[i]? = some c := by simpa using hc
  obtain ⟨hlt, he⟩ := Array.getElem?_eq_some_iff.1 h1
  rw [getElem?_pos s i hlt]; rw [← he]; rfl
 unfold execOp
 simp only [ho, ad7 hA hx, ad7 hA hy, conc]
 simp [Instr.index, asIntOf, Sem.run_bind, underlying, hu, hc']
theorem avd {n : Int} (ho : o.op = .call { callee := .builtin .min, args := #[x, y], argTypes := #[T, T'] })
  (hx : ev env x = some (.v (.int .i64 m))) (hy : ev env y = some (.v (.int .i64 n))) : Looks C env L R G o (.v (.int .i64 (min m n))) := by
 intro a w G' bs _ hA hI
 unfold execOp
 have : (if n < m then n else m) = min m n := by rw [Int.min_def]; split <;> split <;> omega
 simp [ho, resolve, invoke, builtin, ad7 hA hx, ad7 hA hy, conc, run_min_int2, this]
theorem av2 {n : Int} (ho : o.op = .call { callee := .builtin .max, args := #[x, y], argTypes := #[T, T'] })
  (hx : ev env x = some (.v (.int .i64 m))) (hy : ev env y = some (.v (.int .i64 n))) : Looks C env L R G o (.v (.int .i64 (max m n))) := by
 intro a w G' bs _ hA hI
 unfold execOp
 have : (if m < n then n else m) = max m n := by rw [Int.max_def]; split <;> split <;> omega
 simp [ho, resolve, invoke, builtin, ad7 hA hx, ad7 hA hy, conc, run_max_int2, this]
theorem arc {s t : Str} (ho : o.op = .binOp .add T x y T') (hx : ev env x = some (.v (.string s))) (hy : ev env y = some (.v (.string t))) (hl : s.size + t.size ≤ 9223372036854775807) : Looks C env L R G o (.v (.string (s ++ t))) := by
 intro a w G' bs _ hA hI
 unfold execOp
 have h1 : ¬ (s.size + t.size > maxLen) := by simp only [maxLen]; omega
 simp [ho, ad7 hA hx, ad7 hA hy, conc, eqGuard, binOp, Op.stringOp, h1]; omega
theorem ad3 (x : Int) : I64 (i64.wrap x) := by
 unfold I64
 simp [IntKind.wrap, IntKind.bits, IntKind.signed]
 split <;> omega
theorem okl {α : Type} [GoT α] {l : List α} (h : GoT.ok n l) : l.length ≤ bd n ∧ ∀ z ∈ l, GoT.ok n z := h
theorem afj {α : Type} [GoT α] {l : List α} (h : l.length ≤ bd n ∧ ∀ z ∈ l, GoT.ok n z) : GoT.ok n l := h
theorem ada {α : Type} [GoT α] {l : List α} (h : l.length ≤ bd n) (k : ∀ z ∈ l, GoT.ok n z) : GoT.ok n l := ⟨h, k⟩
theorem adf {α : Type} [GoT α] : GoT.ok n ([] : List α) := ⟨Nat.zero_le _, fun _ h => by cases h⟩
inductive Ctl (ρ σ : Type) where
 | ret (r : ρ)
 | nxt (s : σ)
theorem acx {α : Type} {l : List α} {e : α} (h : l[i]? = some e) : l.drop i = e :: l.drop (i + 1) := by
 obtain ⟨hi, rfl⟩ := List.getElem?_eq_some_iff.1 h
 exact List.drop_eq_getElem_cons hi
theorem all_cons {α : Type} {p : α → Prop} {a : α} {l : List α} (h : p a) (k : ∀ x ∈ l, p x) : ∀ x ∈ a :: l, p x := fun x hx => by
 rcases List.mem_cons.1 hx with rfl | hx
 ·exact h
 ·exact k x hx
theorem ata {α : Type} {p : α → Prop} {a : α} {l : List α} (k : ∀ x ∈ l, p x) (h : p a) : ∀ x ∈ l ++ [a], p x := fun x hx => by
 rcases List.mem_append.1 hx with hx | hx
 ·exact k x hx
 ·simp at hx; subst hx; exact h
theorem aeb {α : Type} {p : α → Prop} {l m : List α} (k : ∀ x ∈ l, p x) (h : ∀ x ∈ m, p x) : ∀ x ∈ l ++ m, p x := fun x hx => (List.mem_append.1 hx).elim (k x) (h x)
section
variable {α : Type} [GoT α]
theorem ay0 {a : α} {x : X α} (hs : Sep h (oa a x)) : Sep h [MF.ol (sh a x) [a]] := aiz ⟨x, [], h, emp, by simp, Le.refl _, aes _, (ag5 _).symm, hs, rfl⟩
theorem axv {l m : List α} (hs : Sep h [MF.ol xs l, MF.ol ys m]) : Sep h [MF.ol (xs ++ ys) (l ++ m)] := by
 obtain ⟨h1, h2, q1, q2, q3, q4, q5⟩ := hs
 exact aiz (OwL.append (ais q5 : OwL h2 ys m) (q4 : OwL h1 xs l) q1 q2 q3)
theorem afx {l m : List α} (hs : Sep h [MF.ol xs l]) (hf : ∀ h, OwL h ys m) : Sep h [MF.ol (xs ++ ys) (l ++ m)] :=
 aiz (OwL.append (hf emp) (ais hs : OwL h xs l) (Le.refl _) (aes _) ((ag5 _).symm))
theorem ai6 {G : GH} {c : Nat} {l : List α} (h : RdSl G none c l) : l = [] := by
 obtain ⟨_, _, xs, h1, h2⟩ := h
 have hl := h2.len
 have : xs = [] := by
  cases xs with
  | nil => rfl
  | cons u r => obtain ⟨a, ha, _⟩ := h1 0 u rfl; cases ha
 subst this
 have hp := GoT.pos (α := α)
 cases l with
 | nil => rfl
 | cons a r => simp only [List.length_nil, List.length_cons, Nat.add_mul] at hl; omega
end
theorem WX.appR1 {kk : Nat} {src : Row} (ρ σ n' : Nat) {R' : Option Addr → Nat → Rows} (ht : aek C.P C.tt)
  (hg : gd ops env o = some true) (hd : o.dst = some d) (hlt : Nat.blt d C.fn.ntmps = true) (ho : o.op = .call { callee := .builtin .append, args := #[x, y], argTypes := #[T, T] })
  (hx : ev env x = some (.v (.slice row.p row.n row.c))) (hy : ev env y = some (.v (.slice src.p src.n src.c))) (hap : appO C.tt T = some (kk, by_, z)) (hz : z.cells.size = kk) (hρ : look R ρ = some row) (hσ : look R σ = some src) (hkk : row.k = kk) (hks : src.k = kk) (hfree : agm ρ env = true)
  (hone : ∀ u ∈ src.xs, u.oneCell' = true) (hn : row.n + src.n = n') (hroom : n' * by_ ≤ 140737488355328) (hmax : n' ≤ 9223372036854775807)
  (hR : ∀ p' c', ajm R ρ ⟨row.k, p', n', c', row.xs ++ src.xs⟩ = some (R' p' c'))
  (k : ∀ p' c', WX C (.ops ops r :: s) ((d, .v (.slice p' n' c')) :: env) L (R' p' c') Γ) : WX C (.ops ops (o :: r) :: s) env L R Γ := by
 subst hn
 exact WX.appR ρ σ ht hg hd hlt ho hx hy hap hz hρ hσ hkk hks hfree hone hroom (by simp only [maxLen]; omega) hR k
theorem WX.appG1 {q : Nat} {α : Type} [GoT α] {kd : Kd} {l : List α} (ρ ℓ n n' : Nat) {R' : List Value → Option Addr → Nat → Rows} (ht : aek C.P C.tt)
  (hg : gd ops env o = some true) (hd : o.dst = some d) (hlt : Nat.blt d C.fn.ntmps = true) (ho : o.op = .call { callee := .builtin .append, args := #[x, y], argTypes := #[T, T] })
  (hx : ev env x = some (.v (.slice row.p row.n row.c))) (hy : ev env y = some (.v (.slice p q c))) (hq : q = l.length) (hap : appO C.tt T = some (GoT.k α, by_, z)) (hz : z.cells.size = GoT.k α) (hρ : look R ρ = some row) (hkk : row.k = GoT.k α) (hfree : agm ρ env = true)
  (hℓ : look Γ ℓ = some (MF.rs kd p c l)) (hn : row.n + l.length = n') (hroom : n' * by_ ≤ 140737488355328) (hmax : n' ≤ 9223372036854775807)
  (hR : ∀ xs p' c', ajm R ρ ⟨row.k, p', n', c', row.xs ++ xs⟩ = some (R' xs p' c'))
  (k : ∀ xs p' c', WX C (.ops ops r :: s) ((d, .v (.slice p' n' c')) :: env) L (R' xs p' c') ((n, MF.rl .der xs l) :: Γ)) : WX C (.ops ops (o :: r) :: s) env L R Γ := by
 subst hn
 exact WX.appG ρ ℓ n ht hg hd hlt ho hx hy hq hap hz hρ hkk hfree hℓ hroom (by simp only [maxLen]; omega) hR k
end Go.Stp
namespace Go.Stp
open GoT (X k ok sh fa oa)
variable {C : Cx} {L : Locs} {R R' : Rows} {row : Row} {s : List It} {env : Env} {Γ : Facts} {α : Type} {A B cs : List Value} {i T kk off : Nat} {ops : Array Oper} {o : Oper} {r : List Oper} {x : Operand} {ti : TI} {ad : Addr} {v : Value}
theorem HInv.respell {w : World} {G : GH} {bs : Nat → Nat} (hI : HInv C w G bs L R) (h : ∀ i r, look R' i = some r → look R i = some r) : HInv C w G bs L R' := hI.sub (Sub.refl _) h
theorem ak4 {ρ : Nat} (h : look R ρ = some row) : ∀ i r, look (setR R ρ row) i = some r → look R i = some r := fun i r hr => by
 rw [aja] at hr
 split at hr
 ·rename_i e; subst e; rw [h] at hr ⊢; simpa using hr
 ·exact hr
theorem WX.opnE {Γ1 : Facts} [GoT α] {l : List α} {e : α} {cs : X α → List Value} {R' : List Value → List Value → X α → Rows} {Γ' : List Value → List Value → X α → Facts} (ρ ℓ n i : Nat) (hρ : look R ρ = some row) (hk : row.k = k α) (hℓ : agt [ℓ] Γ = some ([MF.ol row.xs l], Γ1)) (hi : l[i]? = some e)
  (hcs : ∀ x, aq0 (sh e x) = some (cs x)) (hR : ∀ A B x, ajm R ρ ⟨row.k, row.p, row.n, row.c, A ++ cs x ++ B⟩ = some (R' A B x)) (hΓ' : ∀ A B x, addF n (fa .der e x ++ (oa e x ++ [MF.ol A (l.take i), MF.ol B (l.drop (i + 1))])) Γ1 = some (Γ' A B x))
  (k : ∀ A B x, A.length = i * k α → B.length = (l.length - (i + 1)) * k α → WX C s env L (R' A B x) (Γ' A B x)) : WX C s env L R Γ := by
 rintro a w ⟨G, bs, hA, hI, hΓ⟩
 obtain ⟨H, q1, q2, q3, q4⟩ := agi hℓ hΓ
 have hol : OwL H row.xs l := ais q3
 obtain ⟨hlt, rfl⟩ := List.getElem?_eq_some_iff.1 hi
 have hsp : l = l.take i ++ (l[i] :: l.drop (i + 1)) := by rw [← List.drop_eq_getElem_cons hlt, List.take_append_drop]
 have hlen := hol.len
 rw [hsp] at hol
 obtain ⟨h1, h2, a1, a2, a3, a4, a5⟩ := hol.split
 have hti : (l.take i).length = i := by simp; omega
 rw [hti] at a4 a5
 obtain ⟨x, ys, g1, g2, e1, r1, r2, r3, r4, r5⟩ := a5
 have hk1 : (i + 1) * GoT.k α ≤ l.length * GoT.k α := Nat.mul_le_mul_right _ hlt
 have hk2 : (i + 1) * GoT.k α = i * GoT.k α + GoT.k α := by rw [Nat.add_mul, Nat.one_mul]
 have hxs : row.xs = row.xs.take (i * GoT.k α) ++ cs x ++ ys := by
  rw [ajg (hcs x), List.append_assoc, ← e1, List.take_append_drop]
 have hys : ys.length = (l.length - (i + 1)) * GoT.k α := by
  have := r5.len
  rw [this]; simp
 refine k (row.xs.take (i * GoT.k α)) ys x (by simp; omega) hys a w ⟨G, bs, hA, ?_, ?_⟩
 ·rw [aji (hR _ _ _), ← hxs]
  exact hI.respell (ak4 hρ)
 ·have hsep : Sep H (oa l[i] x ++ [MF.ol (row.xs.take (i * GoT.k α)) (l.take i), MF.ol ys (l.drop (i + 1))]) :=
   Sep.both (r1.trans a2) (afg a1 (r2.trans a2)) ((agf (a3.mono (Le.refl _) r1) r3.symm).symm) r4
    ⟨h1, g2, adz _ _, aer (a3.mono (Le.refl _) r2), a3.mono (Le.refl _) r2, a4, aiz r5⟩
  have := q4.after (ajs G H).symm q2 hsep (fun f hf => GoT.fak f hf) ((GoT.ow_rd (kd := .der) r4).mono (r1.trans a2)) (hΓ' _ _ x)
  rwa [at1 q1] at this
theorem aej [GoT α] {h : GH} {l : List α} {e : α} {x : X α} (hi : i < l.length) (hs : Sep h (oa e x ++ [MF.ol A (l.take i), MF.ol B (l.drop (i + 1))])) : Sep h [MF.ol (A ++ sh e x ++ B) (l.set i e)] := by
 obtain ⟨h1, h2, a1, a2, a3, a4, a5⟩ := hs.append
 obtain ⟨q1, q2, r1, r2, r3, r4, r5⟩ := a5
 have hs' : l.set i e = l.take i ++ [e] ++ l.drop (i + 1) := by
  rw [List.set_eq_take_append_cons_drop, if_pos hi]; simp
 rw [hs']
 refine aiz ?_
 exact OwL.append (ais r5 : OwL q2 B (l.drop (i + 1))) (h := join q1 h1) (OwL.snoc a4 (r4 : OwL q1 A (l.take i)) (adz _ _) (aer ((a3.mono (Le.refl _) r1).symm)) ((a3.mono (Le.refl _) r1).symm)) (afg (r1.trans a2) a1) (r2.trans a2) (agf r3 (a3.mono (Le.refl _) r2))
theorem WX.ldA {d : Nat} (ρ : Nat) (ht : aek C.P C.tt)
  (hg : gd ops env o = some true) (hd : o.dst = some d) (hlt : Nat.blt d C.fn.ntmps = true) (ho : o.op = .load T x)
  (hx : ev env x = some (.e (some ad) i kk off)) (hT : look C.tt T = some ti) (hρ : look R ρ = some row) (hp : row.p = some ad) (hk : row.k = kk) (hxs : row.xs = A ++ cs ++ B) (hA : A.length = i * kk) (hn : i < row.n)
  (hv : asm ti cs off = some v) (k : WX C (.ops ops r :: s) ((d, .v v) :: env) L R Γ) : WX C (.ops ops (o :: r) :: s) env L R Γ := by
 rintro a' w ⟨G, bs, hAt, hI, hΓ⟩
 have hrow := hI.row ρ row hρ
 obtain ⟨o1, hp', hc0, cur, T', hh, hcs, htk, hnc⟩ := hrow.some (by omega)
 rw [hp] at hp'; simp at hp'; subst hp'
 have hc : ∀ j u, cs[j]? = some u → w.cell? (((⟨bs ρ, o1, none⟩ : Addr).add (i * kk)).add j) = some u := fun j u hj => by
  have h8 : row.xs[i * kk + j]? = some u := by
   rw [hxs, List.append_assoc, List.getElem?_append_right (by omega), hA, show i * kk + j - i * kk = j by omega, List.getElem?_append_left (List.getElem?_eq_some_iff.1 hj).1]; exact hj
  rw [← htk, List.getElem?_take, List.getElem?_drop] at h8
  rw [ag2, Addr.add_lit, cell_of_row w _ _ cur T' _ hh]
  split at h8
  ·simpa using h8
  ·cases h8
 have hl : (execOp a'.eval o).run C.P w = .ok (.value v) w := by
  unfold execOp
  have hrun := ahg (P := C.P) ht hT (w := w) (a := (⟨bs ρ, o1, none⟩ : Addr).add (i * kk)) (cs := cs) (off := off) (v := v) hc hv
  simp only [ho, ad7 hAt hx, conc, Instr.loadAt, Instr.sureAddr, Sem.run_bind, Sem.run_pure, Result.andThen_ok, hrun]
 show wpList C.P ops (cont C s) (o :: r) a' w
 unfold wpList
 rw [if_pos (aee hAt hg)]
 refine .inl ?_
 unfold Oper.wp
 rw [hl]
 simp only [Oper.upon, hd]
 exact k _ _ ⟨G, bs, hAt.put (by simpa [Nat.blt_eq] using hlt) (.v v), hI, hΓ⟩
theorem WX.stA {y : Operand} {sv : SV} {cs' vs : List Value} (ρ : Nat) (ht : aek C.P C.tt)
  (hg : gd ops env o = some true) (hd : o.dst = none) (ho : o.op = .store T x y)
  (hx : ev env x = some (.e (some ad) i kk off)) (hy : ev env y = some sv) (hv : valO sv = some v) (hT : look C.tt T = some ti) (hvs : ajq ti v = some vs) (hlen : Nat.beq vs.length ti.size = true) (hone : oneB vs = true)
  (hρ : look R ρ = some row) (hp : row.p = some ad) (hk : row.k = kk) (hxs : row.xs = A ++ cs ++ B) (hA : A.length = i * kk) (hi : i < row.n) (hfit : Nat.ble (off + vs.length) kk = true) (hck : Nat.beq cs.length kk = true) (hfree : agm ρ env = true) (hsp : agr cs off vs = some cs') (hne : vs ≠ [])
  (hR : ajm R ρ ⟨row.k, row.p, row.n, row.c, A ++ cs' ++ B⟩ = some R')
  (k : WX C (.ops ops r :: s) env L R' Γ) : WX C (.ops ops (o :: r) :: s) env L R Γ := by
 subst hk
 have hck' : cs.length = row.k := Nat.eq_of_beq_eq_true hck
 obtain ⟨_, q2, q3, _⟩ := ahk _ _ _ _ hsp
 have hq := q3 hne
 have hfit' := Nat.le_of_ble_eq_true hfit
 have heq : row.xs.take (i * row.k + off) ++ vs ++ row.xs.drop (i * row.k + off + vs.length) = A ++ cs' ++ B := by
  rw [hxs, ← hA, hq]
  exact as1 A cs B vs off (by omega)
 refine WX.stR (R' := R') ρ ht hg hd ho hx hy hv hT hvs hlen hone hρ hp rfl hi hfit hfree ?_ k
 rw [heq]; exact hR
theorem afq {α : Type} [GoT α] {z : List Value} {z0 : α} {x0 : X α} (hz : z = sh z0 x0) (ho : Sep emp (oa z0 x0)) : ∀ n, OwL emp (zrep n z) (List.replicate n z0)
 | 0 => rfl
 | n + 1 => by
  rw [List.replicate_succ', zrep, hz]
  exact OwL.snoc ho (by rw [← hz]; exact afq hz ho n) (Le.refl _) (Le.refl _) (ag5 _)
theorem adq {f : MF} {fs : List MF} (h : f.p emp) (k : Sep emp fs) : Sep emp (f :: fs) := ⟨emp, emp, Le.refl _, Le.refl _, ag5 _, h, k⟩
theorem afv {p : α → Prop} {a : α} {n : Nat} (h : p a) : ∀ x ∈ List.replicate n a, p x := fun x hx => by rw [(List.mem_replicate.1 hx).2]; exact h
theorem aef {p : α → Prop} {a : α} {l : List α} (k : ∀ x ∈ l, p x) (h : p a) : ∀ x ∈ l.set i a, p x := fun x hx => by
 rcases List.mem_or_eq_of_mem_set hx with hx | rfl
 ·exact k x hx
 ·exact h
end Go.Stp
namespace Go.Stp
open GoT (X k ok sh fa oa)
variable {C : Cx} {env : Env} {L : Locs} {R : Rows} {G : GH} {o : Oper} {x y : Operand} {T T' s : Nat} {m n k : Int} {q : IntKind}
theorem avk (ho : o.op = .binOp .quo T x y T') (hx : ev env x = some (.v (.int .i64 m))) (hy : ev env y = some (.v (.int .i64 n))) (h0 : n ≠ 0) : Looks C env L R G o (.v (.int .i64 (i64.wrap (m.tdiv n)))) := by
 intro a w G' bs _ hA hI
 unfold execOp
 simp [ho, ad7 hA hx, ad7 hA hy, conc, eqGuard, binOp, Op.intDiv, h0]
theorem aiw (ho : o.op = .binOp .rem T x y T') (hx : ev env x = some (.v (.int .i64 m))) (hy : ev env y = some (.v (.int .i64 n))) (h0 : n ≠ 0) : Looks C env L R G o (.v (.int .i64 (m.tmod n))) := by
 intro a w G' bs _ hA hI
 unfold execOp
 simp [ho, ad7 hA hx, ad7 hA hy, conc, eqGuard, binOp, Op.intDiv, h0]
theorem ali (x : Int) {y : Int} (h : 0 < y) : -y < x.tmod y ∧ x.tmod y < y := by
 have h1 := Int.tmod_lt_of_pos x h
 have h2 : -y < x.tmod y := by
  by_cases hx : 0 ≤ x
  ·have := Int.tmod_nonneg y hx; omega
  ·have h3 := Int.neg_tmod (a := x) (b := y)
   have h4 := Int.tmod_lt_of_pos (-x) h
   omega
 exact ⟨h2, h1⟩
theorem aqn (ho : o.op = .binOp .shr T x y T') (hx : ev env x = some (.v (.int .i64 m))) (hy : ev env y = some (.v (.int q n))) (h0 : 0 ≤ n) : Looks C env L R G o (.v (.int .i64 (m.fdiv (2 ^ (min n.toNat 64))))) := by
 intro a w G' bs _ hA hI
 unfold execOp
 have h1 : ¬ n < 0 := by omega
 simp [ho, ad7 hA hx, ad7 hA hy, conc, eqGuard, binOp, Op.shift, h1, IntKind.bits]
def bitO (b : BinOp) (x y : Int) : Int :=
 match b with
 | .and => i64.wrap ((BitVec.ofInt 64 x &&& BitVec.ofInt 64 y).toNat : Int)
 | .or => i64.wrap ((BitVec.ofInt 64 x ||| BitVec.ofInt 64 y).toNat : Int)
 | .xor => i64.wrap ((BitVec.ofInt 64 x ^^^ BitVec.ofInt 64 y).toNat : Int)
 | _ => i64.wrap ((BitVec.ofInt 64 x &&& ~~~ BitVec.ofInt 64 y).toNat : Int)
def ay5 : BinOp → Bool
 | .and | .or | .xor | .andNot => true
 | _ => false
theorem apa {b : BinOp} (ho : o.op = .binOp b T x y T') (hb : ay5 b = true) (hx : ev env x = some (.v (.int .i64 m))) (hy : ev env y = some (.v (.int .i64 n))) : Looks C env L R G o (.v (.int .i64 (bitO b m n))) := by
 intro a w G' bs _ hA hI
 unfold execOp
 cases b <;> simp [ay5] at hb <;> simp only [ho, ad7 hA hx, ad7 hA hy, conc] <;> simp [eqGuard, binOp, Op.intBits, bitO] <;> rfl
def bstr (l : List UInt8) : Str := ⟨l.toArray⟩
theorem av7 (l : List UInt8) : (bstr l).size = l.length := by simp [bstr, ByteArray.size]
theorem ap3 : ∀ (l : List UInt8) (s : ByteArray), (l.map fun c => ((c.toNat : Nat) : Int)).foldl (fun r n => r.push (UInt8.ofNat n.toNat)) s = ⟨s.data ++ l.toArray⟩
 | [], s => by simp
 | c :: l, s => by
  simp only [List.map_cons, List.foldl_cons]
  rw [ap3 l]
  have : (s.push (UInt8.ofNat ((c.toNat : Int)).toNat)).data = s.data.push c := by
   show s.data.push _ = _
   simp
  rw [this]
  simp
theorem as0 {G : GH} : ∀ {xs : List Value} {l : List UInt8}, RdL G xs l → xs = l.map fun c => Value.int .u8 (c.toNat : Int)
 | xs, [], h => h
 | xs, c :: l, ⟨x, ys, e, _, r⟩ => by rw [e, as0 r]; rfl
theorem asf {C : Cx} {env : Env} {L : Locs} {R : Rows} {G : GH} {o : Oper} {x : Operand} {S T E n c : Nat} {si ti te : TI} {p : Option Addr} {l : List UInt8} (ht : aek C.P C.tt) (hr : RdSl G p c l) (ho : o.op = .convert S T x) (hS : look C.tt S = some si) (hs : si.desc = .slice E) (hE : look C.tt E = some te) (he : te.desc = .int .u8) (hT : look C.tt T = some ti) (hk : ti.desc = .string)
  (hx : ev env x = some (.v (.slice p n c))) (hn : n = l.length) : Looks C env L R G o (.v (.string (bstr l))) := by
 intro a w G' bs hle hA hI
 have hu : C.P.underlying T = some .string := by rw [← hk]; exact (ht.get hT).1
 have hv : C.P.underlying S = some (.slice E) := by rw [← hs]; exact (ht.get hS).1
 have hw : C.P.underlying E = some (.int .u8) := by rw [← he]; exact (ht.get hE).1
 unfold execOp
 simp only [ho, ad7 hA hx, conc]
 simp only [Sem.run_bind, run_convert_bytes_string w S T E p n c hv hw hu]
 have hrun : (Conv.bytesToString (.slice p n c)).run C.P w = .ok (.string (bstr l)) w := by
  cases hp : p with
  | none =>
   subst hp
   rw [ai6 hr]
   simp [Conv.bytesToString, bstr]
   rfl
  | some ad =>
   subst hp
   obtain ⟨_, _, xs, h4, h5⟩ := hr
   have hxs := as0 h5
   have hld := run_loadCells_list (P := C.P) w ad xs (fun j u hj => by
    obtain ⟨a', ha, hg⟩ := h4 j u hj
    simp at ha; subst ha
    exact hI.le.cell (ahv hle hg))
   have hlen : xs.length = n := by rw [hxs, hn]; simp
   rw [hlen, hxs] at hld
   have := run_bytesToString (P := C.P) w ad n c (l.map fun c => ((c.toNat : Nat) : Int)) (by rw [hld]; simp [Function.comp_def])
   rw [this, ap3]
   simp [bstr]
 rw [hrun]; rfl
theorem axq {x : Int} (h : 0 ≤ x) : i64.wrap x ≤ x := by
 simp [IntKind.wrap, IntKind.bits, IntKind.signed]
 split <;> omega
theorem apj (h : 0 < k) : (i64.wrap (k.tdiv 10)).toNat < k.toNat := by
 have h1 : k.tdiv 10 = k / 10 := Int.tdiv_eq_ediv_of_nonneg (by omega)
 have h2 : 0 ≤ k.tdiv 10 := by rw [h1]; omega
 have h3 := axq h2
 rw [h1] at h3
 rw [h1]
 omega
theorem ay8 (h : 0 < k) (hi : k ≤ 9223372036854775807) : i64.wrap (k.tdiv 10) = k / 10 := by
 have h1 : k.tdiv 10 = k / 10 := Int.tdiv_eq_ediv_of_nonneg (by omega)
 rw [h1]; exact ajh (by unfold I64; omega)
def auv (k : Int) (s : Nat) : Prop := k ≤ 9223372036854775807 ∧ k.toNat * 10 ^ s ≤ 9223372036854775807 ∧ (s = 0 ∨ 10 ^ (s - 1) ≤ 9223372036854775807)
theorem ax1 (h : k ≤ 9223372036854775807) : auv k 0 := ⟨h, by simp; omega, .inl rfl⟩
theorem apd (h : 0 < k) (hi : auv k s) : auv (i64.wrap (k.tdiv 10)) (s + 1) := by
 obtain ⟨h1, h2, h3⟩ := hi
 rw [ay8 h h1]
 refine ⟨by omega, ?_, .inr ?_⟩
 ·have h4 : (k / 10).toNat * 10 ≤ k.toNat := by omega
  have h5 : (k / 10).toNat * 10 ^ (s + 1) = (k / 10).toNat * 10 * 10 ^ s := by rw [Nat.pow_succ, Nat.mul_assoc, Nat.mul_comm (10 ^ s)]
  rw [h5]
  exact Nat.le_trans (Nat.mul_le_mul_right _ h4) h2
 ·have h4 : 1 ≤ k.toNat := by omega
  have h5 : 1 * 10 ^ s ≤ k.toNat * 10 ^ s := Nat.mul_le_mul_right _ h4
  simp only [Nat.add_sub_cancel]
  omega
theorem apf (hi : auv k s) : s ≤ 20 := by
 obtain ⟨_, _, h3⟩ := hi
 rcases h3 with h3 | h3
 ·omega
 ·by_cases hs : s ≤ 20
  ·exact hs
  ·have h4 : 10 ^ 20 ≤ 10 ^ (s - 1) := Nat.pow_le_pow_right (by omega) (by omega)
   have h5 : (10 : Nat) ^ 20 = 100000000000000000000 := by decide
   omega
end Go.Stp
namespace Go.Stp
variable {n : Nat}
structure Name where
 parts : List Str
instance : Inhabited Name := ⟨⟨default⟩⟩
instance : GoT Name := GoT.via fun e => e.parts
theorem ae4 {a : Name} (h : GoT.ok n a) : GoT.ok n a.parts := h
structure Pattern where
 parts : List Str
instance : Inhabited Pattern := ⟨⟨default⟩⟩
instance : GoT Pattern := GoT.via fun e => e.parts
theorem ad9 {a : Pattern} (h : GoT.ok n a) : GoT.ok n a.parts := h
structure Binding where
 letter : Str
 value : Str
instance : Inhabited Binding := ⟨⟨default, default⟩⟩
instance : GoT Binding := GoT.via fun e => (e.letter, e.value)
instance : Flat Binding := ⟨fun a x => Flat.f (let e := a; (e.letter, e.value)) x, fun a x => Flat.o (let e := a; (e.letter, e.value)) x⟩
structure TableEntry where
 name : Name
 value : Int
instance : Inhabited TableEntry := ⟨⟨default, default⟩⟩
instance : GoT TableEntry := GoT.via fun e => (e.name, e.value)
theorem adv {a : TableEntry} (h : GoT.ok n a) : GoT.ok n a.name ∧ GoT.ok n a.value := h
structure Interest where
 name : Name
 nonce : Int
 hopLimit : Int
 lifetime : Int
instance : Inhabited Interest := ⟨⟨default, default, default, default⟩⟩
instance : GoT Interest := GoT.via fun e => (e.name, e.nonce, e.hopLimit, e.lifetime)
theorem aep {a : Interest} (h : GoT.ok n a) : GoT.ok n a.name ∧ GoT.ok n a.nonce ∧ GoT.ok n a.hopLimit ∧ GoT.ok n a.lifetime := h
structure DataP where
 name : Name
 content : List UInt8
 keyName : Name
 freshUntil : Int
 signature : Int
instance : Inhabited DataP := ⟨⟨default, default, default, default, default⟩⟩
instance : GoT DataP := GoT.via fun e => (e.name, e.content, e.keyName, e.freshUntil, e.signature)
theorem ado {a : DataP} (h : GoT.ok n a) : GoT.ok n a.name ∧ GoT.ok n a.content ∧ GoT.ok n a.keyName ∧ GoT.ok n a.freshUntil ∧ GoT.ok n a.signature := h
structure Key where
 name : Name
 secret : Int
instance : Inhabited Key := ⟨⟨default, default⟩⟩
instance : GoT Key := GoT.via fun e => (e.name, e.secret)
theorem ag3 {a : Key} (h : GoT.ok n a) : GoT.ok n a.name ∧ GoT.ok n a.secret := h
structure Rule where
 dataPattern : Pattern
 keyPattern : Pattern
instance : Inhabited Rule := ⟨⟨default, default⟩⟩
instance : GoT Rule := GoT.via fun e => (e.dataPattern, e.keyPattern)
theorem adx {a : Rule} (h : GoT.ok n a) : GoT.ok n a.dataPattern ∧ GoT.ok n a.keyPattern := h
structure TrustPolicy where
 keys : List Key
 rules : List Rule
 anchors : List Name
 certificates : List DataP
instance : Inhabited TrustPolicy := ⟨⟨default, default, default, default⟩⟩
instance : GoT TrustPolicy := GoT.via fun e => (e.keys, e.rules, e.anchors, e.certificates)
theorem acz {a : TrustPolicy} (h : GoT.ok n a) : GoT.ok n a.keys ∧ GoT.ok n a.rules ∧ GoT.ok n a.anchors ∧ GoT.ok n a.certificates := h
structure CacheEntry where
 data : DataP
 lastUsed : Int
instance : Inhabited CacheEntry := ⟨⟨default, default⟩⟩
instance : GoT CacheEntry := GoT.via fun e => (e.data, e.lastUsed)
theorem aec {a : CacheEntry} (h : GoT.ok n a) : GoT.ok n a.data ∧ GoT.ok n a.lastUsed := h
structure ContentStore where
 capacity : Int
 entries : List CacheEntry
instance : Inhabited ContentStore := ⟨⟨default, default⟩⟩
instance : GoT ContentStore := GoT.via fun e => (e.capacity, e.entries)
theorem aei {a : ContentStore} (h : GoT.ok n a) : GoT.ok n a.capacity ∧ GoT.ok n a.entries := h
structure Requester where
 face : Int
 nonce : Int
 expiry : Int
instance : Inhabited Requester := ⟨⟨default, default, default⟩⟩
instance : GoT Requester := GoT.via fun e => (e.face, e.nonce, e.expiry)
instance : Flat Requester := ⟨fun a x => Flat.f (let e := a; (e.face, e.nonce, e.expiry)) x, fun a x => Flat.o (let e := a; (e.face, e.nonce, e.expiry)) x⟩
structure PendingInterest where
 name : Name
 requesters : List Requester
 lastSent : Int
instance : Inhabited PendingInterest := ⟨⟨default, default, default⟩⟩
instance : GoT PendingInterest := GoT.via fun e => (e.name, e.requesters, e.lastSent)
theorem ad8 {a : PendingInterest} (h : GoT.ok n a) : GoT.ok n a.name ∧ GoT.ok n a.requesters ∧ GoT.ok n a.lastSent := h
structure SeenNonce where
 name : Name
 nonce : Int
instance : Inhabited SeenNonce := ⟨⟨default, default⟩⟩
instance : GoT SeenNonce := GoT.via fun e => (e.name, e.nonce)
theorem aew {a : SeenNonce} (h : GoT.ok n a) : GoT.ok n a.name ∧ GoT.ok n a.nonce := h
structure Route where
 pfx : Name
 face : Int
 cost : Int
instance : Inhabited Route := ⟨⟨default, default, default⟩⟩
instance : GoT Route := GoT.via fun e => (e.pfx, e.face, e.cost)
theorem adn {a : Route} (h : GoT.ok n a) : GoT.ok n a.pfx ∧ GoT.ok n a.face ∧ GoT.ok n a.cost := h
structure Measurement where
 pfx : Name
 face : Int
 failures : Int
instance : Inhabited Measurement := ⟨⟨default, default, default⟩⟩
instance : GoT Measurement := GoT.via fun e => (e.pfx, e.face, e.failures)
theorem ae3 {a : Measurement} (h : GoT.ok n a) : GoT.ok n a.pfx ∧ GoT.ok n a.face ∧ GoT.ok n a.failures := h
structure NodeP where
 locl : List DataP
 cache : ContentStore
 pending : List PendingInterest
 seen : List SeenNonce
 routes : List Route
 measurements : List Measurement
 dropped : Int
instance : Inhabited NodeP := ⟨⟨default, default, default, default, default, default, default⟩⟩
instance : GoT NodeP := GoT.via fun e => (e.locl, e.cache, e.pending, e.seen, e.routes, e.measurements, e.dropped)
theorem ad6 {a : NodeP} (h : GoT.ok n a) : GoT.ok n a.locl ∧ GoT.ok n a.cache ∧ GoT.ok n a.pending ∧ GoT.ok n a.seen ∧ GoT.ok n a.routes ∧ GoT.ok n a.measurements ∧ GoT.ok n a.dropped := h
structure Outgoing where
 face : Int
 isInterest : Bool
 interest : Interest
 data : DataP
instance : Inhabited Outgoing := ⟨⟨default, default, default, default⟩⟩
instance : GoT Outgoing := GoT.via fun e => (e.face, e.isInterest, e.interest, e.data)
structure Action where
 node : NodeP
 outgoing : List Outgoing
instance : Inhabited Action := ⟨⟨default, default⟩⟩
instance : GoT Action := GoT.via fun e => (e.node, e.outgoing)
structure Link where
 a : Int
 b : Int
instance : Inhabited Link := ⟨⟨default, default⟩⟩
instance : GoT Link := GoT.via fun e => (e.a, e.b)
theorem ag7 {a : Link} (h : GoT.ok n a) : GoT.ok n a.a ∧ GoT.ok n a.b := h
instance : Flat Link := ⟨fun a x => Flat.f (let e := a; (e.a, e.b)) x, fun a x => Flat.o (let e := a; (e.a, e.b)) x⟩
structure Topology where
 size : Int
 links : List Link
instance : Inhabited Topology := ⟨⟨default, default⟩⟩
instance : GoT Topology := GoT.via fun e => (e.size, e.links)
theorem ad0 {a : Topology} (h : GoT.ok n a) : GoT.ok n a.size ∧ GoT.ok n a.links := h
structure Advertisement where
 origin : Int
 version : Int
 neighbors : List Int
 prefixes : List Name
instance : Inhabited Advertisement := ⟨⟨default, default, default, default⟩⟩
instance : GoT Advertisement := GoT.via fun e => (e.origin, e.version, e.neighbors, e.prefixes)
theorem afd {a : Advertisement} (h : GoT.ok n a) : GoT.ok n a.origin ∧ GoT.ok n a.version ∧ GoT.ok n a.neighbors ∧ GoT.ok n a.prefixes := h
structure Manifest where
 segmentSize : Int
 length : Int
 digests : List Int
instance : Inhabited Manifest := ⟨⟨default, default, default⟩⟩
instance : GoT Manifest := GoT.via fun e => (e.segmentSize, e.length, e.digests)
structure Segment where
 content : List UInt8
instance : Inhabited Segment := ⟨⟨default⟩⟩
instance : GoT Segment := GoT.via fun e => e.content
structure Fetcher where
 manifest : Manifest
 received : Int
 segments : List Segment
 outstanding : Int
 window : Int
 threshold : Int
 losses : Int
instance : Inhabited Fetcher := ⟨⟨default, default, default, default, default, default, default⟩⟩
instance : GoT Fetcher := GoT.via fun e => (e.manifest, e.received, e.segments, e.outstanding, e.window, e.threshold, e.losses)
structure Grant where
 name : Name
 secret : Int
instance : Inhabited Grant := ⟨⟨default, default⟩⟩
instance : GoT Grant := GoT.via fun e => (e.name, e.secret)
structure Reader where
 node : Int
 name : Name
 epoch : Int
instance : Inhabited Reader := ⟨⟨default, default, default⟩⟩
instance : GoT Reader := GoT.via fun e => (e.node, e.name, e.epoch)
structure StateVector where
 entries : List TableEntry
instance : Inhabited StateVector := ⟨⟨default⟩⟩
instance : GoT StateVector := GoT.via fun e => e.entries
structure Publication where
 publisher : Name
 seq : Int
 content : List UInt8
instance : Inhabited Publication := ⟨⟨default, default, default⟩⟩
instance : GoT Publication := GoT.via fun e => (e.publisher, e.seq, e.content)
structure Member where
 name : Name
 vector : StateVector
 publications : List Publication
instance : Inhabited Member := ⟨⟨default, default, default⟩⟩
instance : GoT Member := GoT.via fun e => (e.name, e.vector, e.publications)
structure Record where
 kind : Int
 data : DataP
instance : Inhabited Record := ⟨⟨default, default⟩⟩
instance : GoT Record := GoT.via fun e => (e.kind, e.data)
structure Log where
 durable : List Record
 volatile : List Record
instance : Inhabited Log := ⟨⟨default, default⟩⟩
instance : GoT Log := GoT.via fun e => (e.durable, e.volatile)
structure Repository where
 log : Log
 quota : Int
instance : Inhabited Repository := ⟨⟨default, default⟩⟩
instance : GoT Repository := GoT.via fun e => (e.log, e.quota)
structure Consumer where
 node : Int
 index : Int
 name : Name
 attempts : Int
 wait : Int
 satisfied : Bool
 data : DataP
instance : Inhabited Consumer := ⟨⟨default, default, default, default, default, default, default⟩⟩
instance : GoT Consumer := GoT.via fun e => (e.node, e.index, e.name, e.attempts, e.wait, e.satisfied, e.data)
theorem adp {a : Consumer} (h : GoT.ok n a) : GoT.ok n a.node ∧ GoT.ok n a.index ∧ GoT.ok n a.name ∧ GoT.ok n a.attempts ∧ GoT.ok n a.wait ∧ GoT.ok n a.satisfied ∧ GoT.ok n a.data := h
structure PacketInFlight where
 to : Int
 face : Int
 isInterest : Bool
 interest : Interest
 data : DataP
instance : Inhabited PacketInFlight := ⟨⟨default, default, default, default, default⟩⟩
instance : GoT PacketInFlight := GoT.via fun e => (e.to, e.face, e.isInterest, e.interest, e.data)
theorem ad5 {a : PacketInFlight} (h : GoT.ok n a) : GoT.ok n a.to ∧ GoT.ok n a.face ∧ GoT.ok n a.isInterest ∧ GoT.ok n a.interest ∧ GoT.ok n a.data := h
structure Network where
 topology : Topology
 trust : TrustPolicy
 producers : List TableEntry
 nodes : List NodeP
 downNodes : Int
 failedLinks : List Int
 inFlight : List PacketInFlight
 consumers : List Consumer
 now : Int
 dropped : Int
instance : Inhabited Network := ⟨⟨default, default, default, default, default, default, default, default, default, default⟩⟩
instance : GoT Network := GoT.via fun e => (e.topology, e.trust, e.producers, e.nodes, e.downNodes, e.failedLinks, e.inFlight, e.consumers, e.now, e.dropped)
theorem acy {a : Network} (h : GoT.ok n a) : GoT.ok n a.topology ∧ GoT.ok n a.trust ∧ GoT.ok n a.producers ∧ GoT.ok n a.nodes ∧ GoT.ok n a.downNodes ∧ GoT.ok n a.failedLinks ∧ GoT.ok n a.inFlight ∧ GoT.ok n a.consumers ∧ GoT.ok n a.now ∧ GoT.ok n a.dropped := h
structure EventP where
 kind : Int
 n : Int
 name : Name
 forged : PacketInFlight
instance : Inhabited EventP := ⟨⟨default, default, default, default⟩⟩
instance : GoT EventP := GoT.via fun e => (e.kind, e.n, e.name, e.forged)
structure SyncGroup where
 topology : Topology
 members : List Member
instance : Inhabited SyncGroup := ⟨⟨default, default⟩⟩
instance : GoT SyncGroup := GoT.via fun e => (e.topology, e.members)
structure AccessController where
 keys : List Key
 master : Int
 epoch : Int
 readers : List Reader
instance : Inhabited AccessController := ⟨⟨default, default, default, default⟩⟩
instance : GoT AccessController := GoT.via fun e => (e.keys, e.master, e.epoch, e.readers)
end Go.Stp
namespace Go.Stp
class Sz (α : Type) [GoT α] where
 n : α → Nat
 low : ∀ {a : α}, GoT.ok 10 a → n a ≤ 1048576 → GoT.ok 0 a
def sz {α : Type} [GoT α] [Sz α] (a : α) : Nat := Sz.n a
instance : Sz ByteArray := ⟨fun s => s.size, fun _ h => h⟩
instance : Sz UInt8 := ⟨fun _ => 0, fun _ _ => trivial⟩
instance : Sz Bool := ⟨fun _ => 0, fun _ _ => trivial⟩
instance : Sz Int := ⟨fun _ => 0, fun h _ => h⟩
def szL {α : Type} [GoT α] [Sz α] (l : List α) : Nat := (l.map sz).sum
theorem ao7 {α : Type} [GoT α] [Sz α] : ∀ {l : List α} {a : α}, a ∈ l → sz a ≤ szL l
 | b :: l, a, h => by
  unfold szL
  simp only [List.map_cons, List.sum_cons]
  rcases List.mem_cons.1 h with rfl | h
  ·omega
  ·have := ao7 h; unfold szL at this; omega
instance {α : Type} [GoT α] [Sz α] : Sz (List α) := ⟨fun l => l.length + szL l, fun h hs => ⟨by rw [bd_0]; omega, fun a ha => Sz.low (h.2 a ha) (by have := ao7 ha; unfold sz at this; omega)⟩⟩
instance {α β : Type} [GoT α] [GoT β] [Sz α] [Sz β] : Sz (α × β) := ⟨fun a => sz a.1 + sz a.2, fun h hs => ⟨Sz.low h.1 (by unfold sz at hs; omega), Sz.low h.2 (by unfold sz at hs; omega)⟩⟩
@[reducible] def Sz.via {α β : Type} [GoT β] [Sz β] (e : α → β) : @Sz α (GoT.via e) := @Sz.mk α (GoT.via e) (fun a => sz (e a)) (fun {a} h hs => Sz.low (a := e a) h hs)
theorem aem {α : Type} [GoT α] [Sz α] (l : List α) : sz l = l.length + szL l := rfl
theorem ay3 (s : Str) : sz s = s.size := rfl
instance : Sz Name := Sz.via (fun e : Name => e.parts)
theorem ah4 (a : Name) : sz a = sz a.parts := by
 show sz a.parts = sz a.parts
 omega
instance : Sz Pattern := Sz.via (fun e : Pattern => e.parts)
theorem aph (a : Pattern) : sz a = sz a.parts := by
 show sz a.parts = sz a.parts
 omega
instance : Sz Binding := Sz.via (fun e : Binding => (e.letter, e.value))
instance : Sz TableEntry := Sz.via (fun e : TableEntry => (e.name, e.value))
theorem aie (a : TableEntry) : sz a = sz a.name := by
 show (sz a.name + 0) = sz a.name
 omega
instance : Sz Interest := Sz.via (fun e : Interest => (e.name, e.nonce, e.hopLimit, e.lifetime))
theorem aoc (a : Interest) : sz a = sz a.name := by
 show (sz a.name + (0 + (0 + 0))) = sz a.name
 omega
instance : Sz DataP := Sz.via (fun e : DataP => (e.name, e.content, e.keyName, e.freshUntil, e.signature))
theorem ald (a : DataP) : sz a = sz a.name + sz a.content + sz a.keyName := by
 show (sz a.name + (sz a.content + (sz a.keyName + (0 + 0)))) = sz a.name + sz a.content + sz a.keyName
 omega
instance : Sz Key := Sz.via (fun e : Key => (e.name, e.secret))
theorem awg (a : Key) : sz a = sz a.name := by
 show (sz a.name + 0) = sz a.name
 omega
instance : Sz Rule := Sz.via (fun e : Rule => (e.dataPattern, e.keyPattern))
theorem aum (a : Rule) : sz a = sz a.dataPattern + sz a.keyPattern := by
 show (sz a.dataPattern + sz a.keyPattern) = sz a.dataPattern + sz a.keyPattern
 omega
instance : Sz TrustPolicy := Sz.via (fun e : TrustPolicy => (e.keys, e.rules, e.anchors, e.certificates))
theorem ak7 (a : TrustPolicy) : sz a = sz a.keys + sz a.rules + sz a.anchors + sz a.certificates := by
 show (sz a.keys + (sz a.rules + (sz a.anchors + sz a.certificates))) = sz a.keys + sz a.rules + sz a.anchors + sz a.certificates
 omega
instance : Sz CacheEntry := Sz.via (fun e : CacheEntry => (e.data, e.lastUsed))
theorem akl (a : CacheEntry) : sz a = sz a.data := by
 show (sz a.data + 0) = sz a.data
 omega
instance : Sz ContentStore := Sz.via (fun e : ContentStore => (e.capacity, e.entries))
theorem aj5 (a : ContentStore) : sz a = sz a.entries := by
 show (0 + sz a.entries) = sz a.entries
 omega
instance : Sz Requester := Sz.via (fun e : Requester => (e.face, e.nonce, e.expiry))
theorem am6 (a : Requester) : sz a = 0 := by
 show (0 + (0 + 0)) = 0
 omega
instance : Sz PendingInterest := Sz.via (fun e : PendingInterest => (e.name, e.requesters, e.lastSent))
theorem ahm (a : PendingInterest) : sz a = sz a.name + sz a.requesters := by
 show (sz a.name + (sz a.requesters + 0)) = sz a.name + sz a.requesters
 omega
instance : Sz SeenNonce := Sz.via (fun e : SeenNonce => (e.name, e.nonce))
theorem am7 (a : SeenNonce) : sz a = sz a.name := by
 show (sz a.name + 0) = sz a.name
 omega
instance : Sz Route := Sz.via (fun e : Route => (e.pfx, e.face, e.cost))
theorem alb (a : Route) : sz a = sz a.pfx := by
 show (sz a.pfx + (0 + 0)) = sz a.pfx
 omega
instance : Sz Measurement := Sz.via (fun e : Measurement => (e.pfx, e.face, e.failures))
theorem ak6 (a : Measurement) : sz a = sz a.pfx := by
 show (sz a.pfx + (0 + 0)) = sz a.pfx
 omega
instance : Sz NodeP := Sz.via (fun e : NodeP => (e.locl, e.cache, e.pending, e.seen, e.routes, e.measurements, e.dropped))
theorem amt (a : NodeP) : sz a = sz a.locl + sz a.cache + sz a.pending + sz a.seen + sz a.routes + sz a.measurements := by
 show (sz a.locl + (sz a.cache + (sz a.pending + (sz a.seen + (sz a.routes + (sz a.measurements + 0)))))) = sz a.locl + sz a.cache + sz a.pending + sz a.seen + sz a.routes + sz a.measurements
 omega
instance : Sz Outgoing := Sz.via (fun e : Outgoing => (e.face, e.isInterest, e.interest, e.data))
instance : Sz Action := Sz.via (fun e : Action => (e.node, e.outgoing))
instance : Sz Link := Sz.via (fun e : Link => (e.a, e.b))
theorem aue (a : Link) : sz a = 0 := by
 show (0 + 0) = 0
 omega
instance : Sz Topology := Sz.via (fun e : Topology => (e.size, e.links))
theorem amv (a : Topology) : sz a = sz a.links := by
 show (0 + sz a.links) = sz a.links
 omega
instance : Sz Advertisement := Sz.via (fun e : Advertisement => (e.origin, e.version, e.neighbors, e.prefixes))
instance : Sz Manifest := Sz.via (fun e : Manifest => (e.segmentSize, e.length, e.digests))
instance : Sz Segment := Sz.via (fun e : Segment => e.content)
instance : Sz Fetcher := Sz.via (fun e : Fetcher => (e.manifest, e.received, e.segments, e.outstanding, e.window, e.threshold, e.losses))
instance : Sz Grant := Sz.via (fun e : Grant => (e.name, e.secret))
instance : Sz Reader := Sz.via (fun e : Reader => (e.node, e.name, e.epoch))
instance : Sz StateVector := Sz.via (fun e : StateVector => e.entries)
instance : Sz Publication := Sz.via (fun e : Publication => (e.publisher, e.seq, e.content))
instance : Sz Member := Sz.via (fun e : Member => (e.name, e.vector, e.publications))
instance : Sz Record := Sz.via (fun e : Record => (e.kind, e.data))
instance : Sz Log := Sz.via (fun e : Log => (e.durable, e.volatile))
instance : Sz Repository := Sz.via (fun e : Repository => (e.log, e.quota))
instance : Sz Consumer := Sz.via (fun e : Consumer => (e.node, e.index, e.name, e.attempts, e.wait, e.satisfied, e.data))
theorem anm (a : Consumer) : sz a = sz a.name + sz a.data := by
 show (0 + (0 + (sz a.name + (0 + (0 + (0 + sz a.data)))))) = sz a.name + sz a.data
 omega
instance : Sz PacketInFlight := Sz.via (fun e : PacketInFlight => (e.to, e.face, e.isInterest, e.interest, e.data))
theorem ai4 (a : PacketInFlight) : sz a = sz a.interest + sz a.data := by
 show (0 + (0 + (0 + (sz a.interest + sz a.data)))) = sz a.interest + sz a.data
 omega
instance : Sz Network := Sz.via (fun e : Network => (e.topology, e.trust, e.producers, e.nodes, e.downNodes, e.failedLinks, e.inFlight, e.consumers, e.now, e.dropped))
theorem ai8 (a : Network) : sz a = sz a.topology + sz a.trust + sz a.producers + sz a.nodes + sz a.failedLinks + sz a.inFlight + sz a.consumers := by
 show (sz a.topology + (sz a.trust + (sz a.producers + (sz a.nodes + (0 + (sz a.failedLinks + (sz a.inFlight + (sz a.consumers + (0 + 0))))))))) = sz a.topology + sz a.trust + sz a.producers + sz a.nodes + sz a.failedLinks + sz a.inFlight + sz a.consumers
 omega
instance : Sz EventP := Sz.via (fun e : EventP => (e.kind, e.n, e.name, e.forged))
instance : Sz SyncGroup := Sz.via (fun e : SyncGroup => (e.topology, e.members))
instance : Sz AccessController := Sz.via (fun e : AccessController => (e.keys, e.master, e.epoch, e.readers))
end Go.Stp
namespace Go.Stp
open GoT (X k ok sh fa oa)
variable {G : GH} {p : Option Addr} {c T kk n : Nat} {C : Cx} {env : Env} {L : Locs} {R : Rows} {o : Oper} {x y : Operand} {h : Int}
def offP (p : Option Addr) (c lo kk : Nat) : Option Addr := if c = lo then p else p.map (·.add (lo * kk))
section
variable {α : Type} [GoT α]
theorem RdL.take {G : GH} : ∀ {xs : List Value} {l : List α} (i : Nat), RdL G xs l → RdL G (xs.take (i * k α)) (l.take i)
 | xs, [], i, h => by
  have : xs = [] := h
  subst this
  simp only [List.take_nil]; rfl
 | xs, a :: l, 0, _ => by simp only [Nat.zero_mul, List.take_zero]; rfl
 | xs, a :: l, i + 1, ⟨x, ys, h1, h2, h3⟩ => by
  refine ⟨x, ys.take (i * k α), ?_, h2, h3.take i⟩
  rw [h1, Nat.add_mul, Nat.one_mul, List.take_append, GoT.len, List.take_of_length_le (by rw [GoT.len]; omega), Nat.add_sub_cancel]
theorem RdL.drop {G : GH} : ∀ {xs : List Value} {l : List α} (i : Nat), RdL G xs l → RdL G (xs.drop (i * k α)) (l.drop i)
 | xs, [], i, h => by
  have : xs = [] := h
  subst this
  simp only [List.drop_nil]; rfl
 | xs, a :: l, 0, h => by simp only [Nat.zero_mul, List.drop_zero]; exact h
 | xs, a :: l, i + 1, ⟨x, ys, h1, h2, h3⟩ => by
  have := h3.drop i
  rw [h1, Nat.add_mul, Nat.one_mul, List.drop_append, GoT.len, List.drop_eq_nil_of_le (by rw [GoT.len]; omega), Nat.add_sub_cancel]
  exact this
theorem RdSl.pre {l : List α} (h : RdSl G p c l) (i : Nat) : RdSl G p c (l.take i) := by
 obtain ⟨h1, h2, xs, h3, h4⟩ := h
 refine ⟨by rw [List.length_take]; omega, by rw [List.length_take]; omega, xs.take (i * k α), fun j u hj => h3 j u ?_, h4.take i⟩
 rw [List.getElem?_take] at hj
 split at hj
 ·exact hj
 ·cases hj
end
theorem alr {P : Program} {tt : TT} (ht : aek P tt) (h : ajp tt T = some kk) (w : World) : P.underlying T = some (.slice (P.elem T)) ∧ (sizeOf (P.elem T)).run P w = .ok kk w := by
 unfold ajp at h
 split at h
 ·rename_i ti hT
  split at h
  ·rename_i e hd
   split at h
   ·rename_i te hE
    simp only [Option.some.injEq] at h; subst h
    obtain ⟨hu, _⟩ := ht.get hT
    obtain ⟨_, inf, hinf, _, hs, _⟩ := ht.get hE
    rw [hd] at hu
    have he : P.elem T = e := by simp [Program.elem, hu]
    rw [he]
    exact ⟨hu, by rw [afu hinf, hs]⟩
   ·cases h
  ·cases h
 ·cases h
theorem aqk (a : Addr) : a.add 0 = a := by simp [Addr.add]
theorem avj (m : Nat) (ht : aek C.P C.tt) (ho : o.op = .slice T x none (some y) none) (hT : ajp C.tt T = some kk)
  (hx : ev env x = some (.v (.slice p n c))) (hy : ev env y = some (.v (.int .i64 h))) (h0 : h = (m : Int)) (h1 : m ≤ c) : Looks C env L R G o (.v (.slice p m c)) := by
 intro a w G' bs _ hA hI
 subst h0
 obtain ⟨hu, hs⟩ := alr ht hT w
 unfold execOp
 simp only [ho, Option.map, ad7 hA hx, ad7 hA hy, conc, Sem.run_bind, run_sliceAt_slice w T _ _ _ _ hu, run_slice_h w T p n c hu .i64 (m : Int) (by omega) (by omega), hs, Result.andThen_ok]
 simp only [sliced, Nat.zero_mul, Nat.sub_zero, Int.toNat_natCast]
 cases p <;> simp [aqk] <;> rfl
end Go.Stp
namespace Go.Stp
open GoT (X k ok sh fa oa)
variable {C : Cx} {ops : Array Oper} {o : Oper} {r : List Oper} {s : List It} {env : Env} {L : Locs} {R : Rows} {Γ : Facts} {w : World} {row : Row} {T i j : Nat} {x : Operand} {xs0 xs : List Value} {H : GH}
theorem WX.did {ι : Type} {env' : ι → Env} {R' : ι → Rows} {Γ' : ι → Facts} (hg : gd ops env o = some true)
  (h : ∀ a w G bs, At C.fn.ntmps env bs a → HInv C w G bs L R → AllK C.M G Γ → ∃ v w' i, (execOp a.eval o).run C.P w = .ok (.value v) w' ∧ Sat C (env' i) L (R' i) (Γ' i) (a.put o.dst v) w')
  (k : ∀ i, WX C (.ops ops r :: s) (env' i) L (R' i) (Γ' i)) : WX C (.ops ops (o :: r) :: s) env L R Γ := by
 rintro a w ⟨G, bs, hA, hI, hΓ⟩
 obtain ⟨v, w', i, hrun, hS⟩ := h a w G bs hA hI hΓ
 show wpList C.P ops (cont C s) (o :: r) a w
 unfold wpList
 rw [if_pos (aee hA hg)]
 refine .inl ?_
 unfold Oper.wp
 rw [hrun]
 simp only [Oper.upon]
 exact k i _ _ hS
theorem HInv.wr {G : GH} {bs : Nat → Nat} (hI : HInv C w G bs L R) {ρ : Nat} (hρ : look R ρ = some row) {o1 : Nat} {cur cur' : Array Value} (hp : row.p = some ⟨bs ρ, o1, none⟩) (hc0 : row.c ≠ 0)
  (hh : w.heap[bs ρ]? = some (.cells cur T (0, 0))) (hcs : o1 + row.c * row.k ≤ cur.size) (hsz : cur'.size = cur.size) {n' : Nat} {xs' : List Value} (hn' : n' ≤ row.c) (hl : xs'.length = n' * row.k) (hxs : (cur'.toList.drop o1).take (n' * row.k) = xs') :
  HInv C (w.setRow (bs ρ) cur') G bs L (setR R ρ ⟨row.k, row.p, n', row.c, xs'⟩) := by
 have hrow := hI.row ρ row hρ
 obtain ⟨hBb, hGb, hcm⟩ : C.M (bs ρ) ∧ G (bs ρ) = none ∧ row.c ≤ maxLen := by
  rcases hrow.2 with ⟨h0, _⟩ | ⟨_, _, h1, h2, _, h5, _⟩
  ·exact absurd h0 hc0
  ·exact ⟨h1, h2, h5⟩
 have hLρ : ∀ l, look L ρ ≠ some l := fun l hl => hI.dis ρ l row hl hρ
 have h999 : ρ ≠ 999 := fun e => by subst e; exact hI.nr row hρ
 have hrow' : aid C.M (w.setRow (bs ρ) cur') G (bs ρ) ⟨row.k, row.p, n', row.c, xs'⟩ :=
  ⟨hl, .inr ⟨o1, hp, hBb, hGb, hn', hcm, cur', T, setRow_heap w _ cur _ T _ hh, by rw [hsz]; exact hcs, hxs⟩⟩
 have honly : Only w (w.setRow (bs ρ) cur') (bs ρ) (row.c ≠ 0) := ⟨rfl, rfl, rfl, by simp [World.setRow], fun j hj hne => setRow_other w _ j _ (hne hc0)⟩
 have hlook : ∀ j, look (setR R ρ ⟨row.k, row.p, n', row.c, xs'⟩) j = if ρ = j then some ⟨row.k, row.p, n', row.c, xs'⟩ else look R j := by
  intro j
  rw [aja]
  split
  ·rename_i e; subst e; rw [hρ]; rfl
  ·rfl
 have hI' := hI.upd (ρ := ρ) (b' := bs ρ) h999 (row.c ≠ 0) (fun _ => ⟨.inr ⟨row, hρ, hc0⟩, hBb, hGb⟩) honly (.inl ⟨rfl, hc0⟩) hlook hLρ hrow'
 have hbs : (fun j => if j = ρ then bs ρ else bs j) = bs := by funext j; split <;> simp_all
 rwa [hbs] at hI'
section
variable {α : Type}
def aoq (kk : Nat) (f : α → Bool) : List α → List Value → List Value
 | [], _ => []
 | a :: l, xs => bif f a then aoq kk f l (xs.drop kk) else xs.take kk ++ aoq kk f l (xs.drop kk)
theorem alw (kk : Nat) (f : α → Bool) : ∀ (l : List α) (a : α) (xs : List Value), aoq kk f (l ++ [a]) xs = aoq kk f l xs ++ (bif f a then [] else (xs.drop (l.length * kk)).take kk)
 | [], a, xs => by cases hf : f a <;> simp [aoq, hf]
 | b :: l, a, xs => by
  have e : (b :: l).length * kk = kk + l.length * kk := by rw [List.length_cons, Nat.add_mul]; omega
  simp only [List.cons_append, aoq, alw kk f l a, e, ← List.drop_drop]
  cases f b <;> simp
end
section
variable {α : Type} [GoT α]
theorem OwL.keep (f : α → Bool) : ∀ {h : GH} {xs : List Value} {l : List α}, OwL h xs l → OwL h (aoq (k α) f l xs) (l.filter fun a => !f a)
 | h, xs, [], _ => rfl
 | h, xs, a :: l, ⟨x, ys, q1, q2, e, r1, r2, r3, r4, r5⟩ => by
  have h1 : xs.take (k α) = sh a x := by rw [e, ← GoT.len a x, List.take_left]
  have h2 : xs.drop (k α) = ys := by rw [e, ← GoT.len a x, List.drop_left]
  simp only [aoq, h1, h2]
  cases hf : f a
  ·rw [List.filter_cons_of_pos (by simp [hf])]
   exact ⟨x, _, q1, q2, rfl, r1, r2, r3, r4, OwL.keep f r5⟩
  ·rw [List.filter_cons_of_neg (by simp [hf])]
   exact (OwL.keep f r5).mono r2
structure DelInv (f : α → Bool) (l : List α) (xs0 : List Value) (i j : Nat) (xs : List Value) : Prop where
 ij : i < j
 jn : j ≤ l.length
 len : xs.length = l.length * k α
 pre : xs.take (i * k α) = aoq (k α) f (l.take j) xs0
 cnt : i = ((l.take j).filter fun a => !f a).length
 rest : ∀ m, j * k α ≤ m → xs[m]? = xs0[m]?
theorem DelInv.skip {f : α → Bool} {l : List α} {a : α} (h : DelInv f l xs0 i j xs) (hj : l[j]? = some a) (ha : f a = true) : DelInv f l xs0 i (j + 1) xs := by
 have hlt := (List.getElem?_eq_some_iff.1 hj).1
 have htk : l.take (j + 1) = l.take j ++ [a] := by rw [List.take_add_one, hj]; rfl
 refine ⟨by have := h.ij; omega, by omega, h.len, ?_, ?_, fun m hm => h.rest m (by rw [Nat.add_mul] at hm; omega)⟩
 ·rw [htk, alw, ha, cond_true, List.append_nil]; exact h.pre
 ·rw [htk, List.filter_append]; simp only [List.filter_cons, ha, Bool.not_true, Bool.false_eq_true, if_false, List.filter_nil, List.append_nil]; exact h.cnt
theorem DelInv.keep {f : α → Bool} {l : List α} {vs : List Value} {a : α} (h0 : xs0.length = l.length * k α) (h : DelInv f l xs0 i j xs) (hj : l[j]? = some a) (ha : f a = false) (hv : vs.length = k α) (hx : ∀ q u, vs[q]? = some u → xs0[j * k α + q]? = some u) :
  DelInv f l xs0 (i + 1) (j + 1) (xs.take (i * k α + 0) ++ vs ++ xs.drop (i * k α + 0 + vs.length)) := by
 have hlt := (List.getElem?_eq_some_iff.1 hj).1
 have htk : l.take (j + 1) = l.take j ++ [a] := by rw [List.take_add_one, hj]; rfl
 have htj : (l.take j).length = j := by simp; omega
 have hij := h.ij
 have hik : (i + 1) * k α ≤ j * k α := Nat.mul_le_mul_right _ hij
 have hjk : (j + 1) * k α ≤ l.length * k α := Nat.mul_le_mul_right _ hlt
 have hlen := h.len
 rw [Nat.add_mul, Nat.one_mul] at hik hjk
 have hvs : vs = (xs0.drop (j * k α)).take (k α) := by
  apply List.ext_getElem?
  intro q
  by_cases hq : q < k α
  ·rw [List.getElem?_take, if_pos hq, List.getElem?_drop]
   have : vs[q]? = some (vs[q]'(by omega)) := List.getElem?_eq_getElem (by omega)
   rw [this]; exact (hx q _ this).symm
  ·rw [List.getElem?_eq_none (by omega), List.getElem?_eq_none (by simp; omega)]
 have hlt1 : (xs.take (i * k α) ++ vs).length = (i + 1) * k α := by rw [Nat.add_mul, Nat.one_mul, List.length_append, List.length_take, hv]; omega
 refine ⟨by omega, by omega, ?_, ?_, ?_, fun m hm => ?_⟩
 ·simp only [List.length_append, List.length_take, List.length_drop]; omega
 ·rw [Nat.add_zero (i * k α), ← hlt1, List.take_left, htk, alw, ha, cond_false, h.pre, htj, hvs]
 ·rw [htk, List.filter_append]; simp only [List.filter_cons, ha, Bool.not_false, if_true, List.filter_nil, List.length_append, List.length_cons, List.length_nil]; rw [← h.cnt]
 ·rw [Nat.add_mul, Nat.one_mul] at hm
  rw [Nat.add_zero (i * k α), List.getElem?_append_right (by rw [hlt1, Nat.add_mul, Nat.one_mul]; omega), List.getElem?_drop, hlt1, hv, Nat.add_mul, Nat.one_mul, show i * k α + k α + (m - (i * k α + k α)) = m by omega]
  exact h.rest m (by omega)
theorem DelInv.done {f : α → Bool} {l : List α} (h : DelInv f l xs0 i j xs) (hj : ¬ j < l.length) : xs.take (i * k α) = aoq (k α) f l xs0 ∧ i = (l.filter fun a => !f a).length := by
 have : l.take j = l := List.take_of_length_le (by omega)
 have h1 := h.pre
 have h2 := h.cnt
 rw [this] at h1 h2
 exact ⟨h1, h2⟩
end
theorem Kp.lent {w1 w2 : World} (h : Kp H w w1) (k : Kp emp w1 w2) : Kp H w w2 := h.trans (k.wide fun _ _ _ => rfl)
end Go.Stp
namespace Go.Stp
open GoT (X k ok sh fa oa)
variable {C : Cx} {s : List It} {env : Env} {L : Locs} {R : Rows} {Γ Γ1 : Facts} {row src : Row} {ops : Array Oper} {d T T' n c kk by_ m2 i off : Nat} {o : Oper} {b : BinOp} {x y : Operand} {m q : Int} {p : Option Addr} {h G : GH} {r : List Oper} {z v : Value} {R' : Option Addr → Nat → Rows} {xs : List Value} {ti : TI} {ad : Addr} {g g' : MF}
def alh (C : Cx) (env : Env) (o : Oper) (sv : SV) : Prop := ∀ a w bs, At C.fn.ntmps env bs a → (execOp a.eval o).run C.P w = .ok (.value (conc bs sv)) w
theorem DX.seeP {tl : List Nat} {bs : Nat → Nat} {G0 : GH} {fuel : Nat} {listed : Array Bool} {sv : SV} (i : Nat) (hb : mayP ops listed i = true) (hi : getO ops.toList i = some o)
  (hg : gd ops env o = some true) (hd : o.dst = some d) (hlt : Nat.blt d C.fn.ntmps = true) (hl : alh C env o sv)
  (k : DX C ops tl s bs G0 fuel (listed.setIfInBounds i true) ((d, sv) :: env) L R Γ) : DX C ops tl s bs G0 (fuel + 1) listed env L R Γ := by
 rw [aey] at hi
 exact DX.takeP hb (by simpa using hi) hd (by simpa [Nat.blt_eq] using hlt) hg (fun _ => hl) (fun h => by cases h) k
theorem ahn {n : Int} (ho : o.op = .binOp b T x y T')
  (hx : ev env x = some (.v (.int .i64 m))) (hy : ev env y = some (.v (.int .i64 n))) (hq : ahz b m n = some q) (hr : I64 q) : alh C env o (.v (.int .i64 q)) := by
 intro a w bs hA
 unfold execOp
 simp only [ho, ad7 hA hx, ad7 hA hy, conc]
 have := ajh hr
 cases b <;> simp [ahz] at hq <;> subst hq <;> simp [eqGuard, binOp, Op.intArith, this]
theorem ahd {n : Int} (ho : o.op = .binOp b T x y T')
  (hx : ev env x = some (.v (.int .i64 m))) (hy : ev env y = some (.v (.int .i64 n))) (hq : ahz b m n = some q) : alh C env o (.v (.int .i64 (i64.wrap q))) := by
 intro a w bs hA
 unfold execOp
 simp only [ho, ad7 hA hx, ad7 hA hy, conc]
 cases b <;> simp [ahz] at hq <;> subst hq <;> simp [eqGuard, binOp, Op.intArith]
theorem ah7 {h : Int} (m : Nat) (ht : aek C.P C.tt) (ho : o.op = .slice T x none (some y) none) (hT : ajp C.tt T = some kk)
  (hx : ev env x = some (.v (.slice p n c))) (hy : ev env y = some (.v (.int .i64 h))) (h0 : h = (m : Int)) (h1 : m ≤ c) : alh C env o (.v (.slice p m c)) := by
 intro a w bs hA
 subst h0
 obtain ⟨hu, hs⟩ := alr ht hT w
 unfold execOp
 simp only [ho, Option.map, ad7 hA hx, ad7 hA hy, conc, Sem.run_bind, run_sliceAt_slice w T _ _ _ _ hu, run_slice_h w T p n c hu .i64 (m : Int) (by omega) (by omega), hs, Result.andThen_ok]
 simp only [sliced, Nat.zero_mul, Nat.sub_zero, Int.toNat_natCast]
 cases p <;> simp [aqk] <;> rfl
theorem alz {h : Int} (m : Nat) (ht : aek C.P C.tt) (ho : o.op = .slice T x (some y) none none) (hT : ajp C.tt T = some kk)
  (hx : ev env x = some (.v (.slice p n c))) (hy : ev env y = some (.v (.int .i64 h))) (h0 : h = (m : Int)) (h1 : m ≤ n) : alh C env o (.v (.slice (offP p c m kk) (n - m) (c - m))) := by
 intro a w bs hA
 subst h0
 obtain ⟨hu, hs⟩ := alr ht hT w
 unfold execOp
 simp only [ho, Option.map, ad7 hA hx, ad7 hA hy, conc, Sem.run_bind, run_sliceAt_slice w T _ _ _ _ hu, run_slice_l w T p n c hu .i64 (m : Int) (by omega) (by omega), hs, Result.andThen_ok]
 simp only [sliced, Int.toNat_natCast, offP]
 rfl
section
variable {α : Type} [GoT α]
end
end Go.Stp
namespace Go.Stp
open GoT (X k ok sh fa oa)
variable {α ι : Type} {P : Program} {o oj : Oper} {C : Cx} {bs : Nat → Nat} {G0 G : GH} {L : Locs} {R : Rows} {w : World} {ops : Array Oper} {tl : List Nat} {s st : List It} {fuel d n e j : Nat} {listed : Array Bool} {env : Env} {Γ : Facts} {rest : List Oper} {l : Loc} {a : Act} {sv sf : SV} {f : Operand} {args : List Operand} {ats : Array TypeId} {g : FuncId} {svs : List SV} {caps : (Nat → Nat) → List Value} {Q : Prop}
def Gr {α : Type} (P : Program) (m : Sem α) : Prop := ∀ w v w', m.run P w = .ok v w' → Kp emp w w'
theorem Gr.bind {α β : Type} {P : Program} {m : Sem α} {f : α → Sem β} (hm : Gr P m) (hf : ∀ v, Gr P (f v)) : Gr P (m >>= f) := fun w v w' h => by
 rw [Sem.run_bind] at h
 cases hr : m.run P w with
 | ok x w1 => rw [hr] at h; exact (hm w x w1 hr).trans (hf x w1 v w' h)
 | _ => rw [hr] at h; cases h
theorem ago (x : α) : Gr P (pure x : Sem α) := fun w v w' h => by
 rw [Sem.run_pure] at h; cases h; exact Kp.refl _ _
theorem aka (x : Halt) : Gr P (.halt x : Sem α) := fun w v w' h => by cases h
theorem ap1 : Gr P program := fun w v w' h => by cases h; exact Kp.refl _ _
theorem aqe (t : TypeId) : Gr P (underlying t) := Gr.bind ap1 fun _ => by
 split
 ·exact ago _
 ·exact aka _
theorem ao9 (t : TypeId) : Gr P (typeInfo t) := Gr.bind ap1 fun _ => by
 split
 ·exact ago _
 ·exact aka _
theorem ava (t : TypeId) : Gr P (Go.sizeOf t) := Gr.bind (ao9 t) fun _ => ago _
theorem aho (t : TypeId) : Gr P (zeroValue t) := Gr.bind (ao9 t) fun _ => by
 split
 ·exact ago _
 ·exact aka _
theorem ann (e : TypeId) (cs : Array Value) : Gr P (newRow e cs) := Gr.bind (fun w v w' h => by
 have h' : Result.ok w.heap.size (w.alloc (Obj.cells cs e)) = .ok v w' := h
 cases h'
 exact (Kp.refl emp w).alloc _) fun _ => ago _
theorem aq3 {P : Program} (t : TypeId) (n : Nat) (ps : Array (Nat × Value)) : Gr P (Instr.buildSlice t n ps) := by
 unfold Instr.buildSlice
 refine Gr.bind (aqe _) fun d => ?_
 split
 ·rename_i el
  refine Gr.bind (ava _) fun size => ?_
  have key : ∀ z : Array Value, Gr P (match Instr.fill (fun i => some (i * size, size)) ((Array.range (n * size)).map (z[· % z.size]!)) ps.toList with
    | some cells => do pure (Value.slice (some (← newRow el cells)) n n)
    | _ => stuck "buildSlice: a part of the wrong size") := fun z => by
   split
   ·exact Gr.bind (ann _ _) fun _ => ago _
   ·exact aka _
  have rest : Gr P (do
    let zero ← if n * size = 0 then pure #[] else do pure (← zeroValue el).cells
    match Instr.fill (fun i => some (i * size, size)) ((Array.range (n * size)).map (zero[· % zero.size]!)) ps.toList with
    | some cells => do pure (Value.slice (some (← newRow el cells)) n n)
    | _ => stuck "buildSlice: a part of the wrong size") := by
   by_cases h2 : n * size = 0
   ·rw [if_pos h2]; exact Gr.bind (ago _) fun z => key z
   ·rw [if_neg h2]; first | exact Gr.bind (aho el) fun v => key v.cells | exact Gr.bind (m := (do pure (← zeroValue el).cells)) (Gr.bind (aho el) fun _ => ago _) fun z => key z | exact Gr.bind (aho el) fun v => Gr.bind (ago _) fun z => key z
  by_cases h2 : n * size = 0
  ·simp only [if_pos h2] at rest ⊢
   by_cases h1 : n * size > 2 ^ 24
   ·rw [if_pos h1]; exact Gr.bind (aka _) fun _ => rest
   ·rw [if_neg h1]; exact rest
  ·simp only [if_neg h2] at rest ⊢
   by_cases h1 : n * size > 2 ^ 24
   ·rw [if_pos h1]; exact Gr.bind (aka _) fun _ => rest
   ·rw [if_neg h1]; exact rest
 ·exact aka _
def aq4 : Op → Bool
 | .alloc _ => true
 | .box _ _ => true
 | .buildSlice _ _ _ => true
 | _ => false
theorem axn {ev : Operand → Value} (h : aq4 o.op = true) : Gr P (execOp ev o) := by
 unfold execOp
 cases ho : o.op <;> rw [ho] at h <;> simp only [aq4, Bool.false_eq_true] at h
 ·exact Gr.bind (Gr.bind (aho _) fun _ => Gr.bind (ann _ _) fun _ => ago _) fun _ => ago _
 ·exact Gr.bind (Gr.bind (ann _ _) fun _ => ago _) fun _ => ago _
 ·exact Gr.bind (aq3 _ _ _) fun _ => ago _
theorem ask {P : Program} {ev : Operand → Value} {o : Oper} (h : aq4 o.op = true) {w w' : World} {x : Next} (hr : (execOp ev o).run P w = .ok x w') : ∃ v, x = .value v := by
 unfold execOp at hr
 cases ho : o.op <;> rw [ho] at h <;> simp only [aq4, Bool.false_eq_true] at h <;> rw [ho] at hr <;> simp only [Sem.run_bind] at hr
 all_goals (
  revert hr
  generalize (Sem.run P _ w) = q
  intro hr
  cases q with
  | ok y w1 => simp only [Result.andThen_ok, Sem.run_pure] at hr; cases hr; exact ⟨_, rfl⟩
  | _ => cases hr)
theorem arz {P : Program} {ops : Array Oper} {Q : Exit → Act → World → Prop} {k : Nat} {o : Oper} (ho : ops[k]? = some o) (hp : aq4 o.op = true) {K : Act → World → Prop} {a : Act} {w : World} (h : wpOp P ops Q k K a w) : wpOp P ops Q k (fun a' w' => Kp emp w w' ∧ K a' w') a w := by
 unfold wpOp at h ⊢
 simp only [ho] at h ⊢
 split at h
 ·rename_i hw
  rw [if_pos hw]
  refine h.imp (fun h => ?_) id
  unfold Oper.wp at h ⊢
  generalize hr : (execOp a.eval o).run P w = r at h ⊢
  cases r with
  | ok x w' =>
   obtain ⟨v, rfl⟩ := ask hp hr
   exact ⟨axn hp _ _ _ hr, h⟩
  | halt x w' => cases x <;> exact h
 ·rename_i hw
  rw [if_neg hw]
  exact ⟨Kp.refl _ _, h⟩
def awc (ops : Array Oper) (k : Nat) : Bool := match getO ops.toList k with | some o => aq4 o.op | none => false
def asl (ops : Array Oper) (tl : List Nat) : List Nat → Array Bool → Bool
 | [], listed => (Region.ready .any ops listed).isEmpty
 | k :: r, listed => decide (Region.ready .any ops listed = [k]) && (tl.contains k || awc ops k) && asl ops tl r (listed.setIfInBounds k true)
theorem ag9 {P : Program} {ops : Array Oper} {Q : Exit → Act → World → Prop} {S : World → Prop} {tl : List Nat} (hS : ∀ w w', Kp emp w w' → S w → S w') : ∀ (is : List Nat) (l : List Oper) (listed : Array Bool) (a : Act) (w : World), anx ops.toList is = some l → asl ops tl is listed = true → wpList P ops Q l a w → afk P ops Q S tl is.length listed a w
 | [], l, _, _, _, hl, hB, h => by simp [anx] at hl; subst hl; exact ⟨by simpa [asl] using hB, h⟩
 | k :: is, l, listed, a, w, hl, hB, h => by
  simp only [anx] at hl
  split at hl
  ·rename_i o ho
   split at hl
   ·rename_i q hq
    simp at hl; subst hl
    have ho2 := ho
    rw [aey] at ho
    have h0 : ops[k]? = some o := by simpa using ho
    simp only [asl, Bool.and_eq_true, decide_eq_true_eq, Bool.or_eq_true] at hB
    refine ⟨fun h1 => (by rw [hB.1.1] at h1; cases h1), fun i hi => ?_⟩
    rw [hB.1.1] at hi
    have hik : i = k := by simpa using hi
    subst hik
    have hw : wpOp P ops Q i (wpList P ops Q q) a w := by unfold wpOp; simp only [h0]; exact h
    rcases hB.1.2 with ht | hp
    ·exact wpOp_mono (fun a' w' h' => ⟨fun h => (by rw [ht] at h; cases h), ag9 hS is q _ a' w' hq hB.2 h'⟩) hw
    ·have hp' : aq4 o.op = true := by unfold awc at hp; rw [ho2] at hp; exact hp
     exact wpOp_mono (fun a' w' h' => ⟨fun _ => hS _ _ h'.1, ag9 hS is q _ a' w' hq hB.2 h'.2⟩) (arz h0 hp' hw)
   ·cases hl
  ·cases hl
theorem SB.keep {w' : World} (hb : Kp emp w w') (h : SB C bs G0 L R w) : SB C bs G0 L R w' := by
 obtain ⟨G, hle, hI⟩ := h
 exact ⟨_, hle.trans (adz (cut G emp) emp), (hI.called (aes _) (fun _ _ h => by cases h) hb (aes _) (fun _ _ h => by cases h)).1⟩
theorem DX.tail2 (is : List Nat) (hr : anx ops.toList is = some rest) (hf : fuel = is.length) (hs : asl ops tl is listed = true)
  (k : WX C (.ops ops rest :: s) env L R Γ) : DX C ops tl s bs G0 fuel listed env L R Γ := by
 intro _ a w G _ hS
 subst hf
 exact ag9 (fun _ _ hb h => h.keep hb) is rest listed a w hr hs (k a w ⟨G, bs, hS⟩)
def DXS (C : Cx) (ops : Array Oper) (tl : List Nat) (s : List It) (S : World → Prop) (bs : Nat → Nat) (G0 : GH) (fuel : Nat) (listed : Array Bool) (env : Env) (L : Locs) (R : Rows) (Γ : Facts) : Prop :=
 Closed ops listed → ∀ a w G, Le G0 G → SatB C env L R Γ G bs a w → afk C.P ops (cont C s) S tl fuel listed a w
structure DXA (C : Cx) (ops : Array Oper) (tl : List Nat) (s : List It) (bs : Nat → Nat) (G0 : GH) (fuel : Nat) (listed : Array Bool) (env : Env) (L : Locs) (R : Rows) (Γ : Facts) (j d : Nat) (l : Loc) : Prop where
 no : DXS C ops tl s (SB C bs G0 L R) bs G0 (fuel + 1) listed env L R Γ
 yes : ∀ b, DXS C ops tl s (SB C bs G0 L R) (fun i => if i = d then b else bs i) G0 fuel (listed.setIfInBounds j true) ((d, .p d 0) :: env) ((d, l) :: L) R Γ
theorem DX.pend (j d : Nat) (l : Loc) (k : DXA C ops tl s bs G0 fuel listed env L R Γ j d l) : DX C ops tl s bs G0 (fuel + 1) listed env L R Γ := k.no
theorem HInv.unalloc {b : Nat} (hI : HInv C w G (fun i => if i = d then b else bs i) ((d, l) :: L) R) (hL : ajd d L = false) (hR : ajd d R = false) (h999 : d ≠ 999) : HInv C w G bs L R := by
 have hnL : ∀ {i : Nat} {x : Loc}, look L i = some x → i ≠ d := fun h => aff hL h
 have hnR : ∀ {i : Nat} {x : Row}, look R i = some x → i ≠ d := fun h => aff hR h
 have hup : ∀ {i : Nat} {x : Loc}, look L i = some x → look ((d, l) :: L) i = some x := fun h => by rw [adg, if_neg (Ne.symm (hnL h))]; exact h
 have hact : ∀ {i : Nat}, Acts L R i → Acts ((d, l) :: L) R i ∧ i ≠ d := fun h => by
  rcases h with ⟨x, hx⟩ | ⟨r, hr, hc⟩
  ·exact ⟨.inl ⟨x, hup hx⟩, hnL hx⟩
  ·exact ⟨.inr ⟨r, hr, hc⟩, hnR hr⟩
 refine ⟨hI.keep, hI.le, fun i x hx => ?_, fun i r hr => ?_, fun i j hij hi hj => ?_, fun i x r hx hr => hI.dis i x r (hup hx) hr, fun b' hb' => ?_, hI.nr⟩
 ·have := hI.loc i x (hup hx)
  simpa only [if_neg (hnL hx)] using this
 ·have := hI.row i r hr
  simpa only [if_neg (hnR hr)] using this
 ·obtain ⟨h1, h2⟩ := hact hi
  obtain ⟨h3, h4⟩ := hact hj
  have := hI.inj i j hij h1 h3
  simpa only [if_neg h2, if_neg h4] using this
 ·have := hI.pin b' hb'
  simpa only [if_neg (Ne.symm h999)] using this
theorem At.less {s : SV} (h : At n ((d, s) :: env) bs a) (hd : look env d = none) : At n env bs a := by
 refine ⟨h.size, h.dfr, fun e x hx => h.slot e x ?_⟩
 rw [adg]
 split
 ·rename_i he; subst he; rw [hd] at hx; cases hx
 ·exact hx
theorem At.swap {s t : SV} (h : At n ((e, t) :: (d, s) :: env) bs a) (hde : Nat.beq e d = false) : At n ((d, s) :: (e, t) :: env) bs a := by
 have hne : e ≠ d := fun h => by subst h; simp at hde
 refine ⟨h.size, h.dfr, fun i x hx => h.slot i x ?_⟩
 rw [adg] at hx ⊢
 split
 ·rename_i he; subst he
  rw [if_neg (Ne.symm hne), adg, if_pos rfl] at hx; exact hx
 ·rename_i he
  rw [adg]
  split
  ·rename_i hd; subst hd; rw [if_pos rfl] at hx; exact hx
  ·rename_i hd; rw [if_neg hd, adg, if_neg he] at hx; exact hx
theorem aqx (ht : aek C.P C.tt) (hj : ops[j]? = some oj) (hd : oj.dst = some d) (hlt : d < C.fn.ntmps) (hg : gd ops env oj = some true) (hl : ladd C.tt env oj.op = some l) (hnl : agp d env L R = false)
  (hle : Le G0 G) (hS : SatB C env L R Γ G bs a w) (hc : Closed ops (listed.setIfInBounds j true))
  (k : ∀ b, DXS C ops tl s (SB C bs G0 L R) (fun i => if i = d then b else bs i) G0 fuel (listed.setIfInBounds j true) ((d, .p d 0) :: env) ((d, l) :: L) R Γ) :
  wpOp C.P ops (cont C s) j (fun a' w' => (tl.contains j = false → SB C bs G0 L R w → SB C bs G0 L R w') ∧ afk C.P ops (cont C s) (SB C bs G0 L R) tl fuel (listed.setIfInBounds j true) a' w') a w := by
 obtain ⟨hA, hI, hΓ⟩ := hS
 unfold wpOp
 simp only [hj]
 rw [if_pos (aee hA hg)]
 refine .inl ?_
 unfold Oper.wp
 rw [alq ht hA hl]
 simp only [Oper.upon, hd]
 have hI' := hI.alloc d (aex hnl).2.2.2 (aex hnl).2.1 (aex hnl).2.2.1 l
 have hA' := (hA.notH (d := d) (bs' := fun j => if j = d then w.heap.size else bs j) (aex hnl).1 (fun i hi => if_neg hi)).put hlt (.p d 0)
 simp only [conc, if_true] at hA'
 exact ⟨fun _ _ => ⟨G, hle, hI'.unalloc (aex hnl).2.1 (aex hnl).2.2.1 (aex hnl).2.2.2⟩, k _ hc _ _ G hle ⟨hA', hI', hΓ⟩⟩
theorem DXA.tail (is : List Nat) (ht : aek C.P C.tt) (hj : getO ops.toList j = some oj) (hd : oj.dst = some d) (hlt : Nat.blt d C.fn.ntmps = true) (hg : gd ops env oj = some true) (hl : ladd C.tt env oj.op = some l) (hnl : agp d env L R = false)
  (hr : Region.ready .any ops listed = [j]) (hp : anx ops.toList is = some rest) (hf : fuel = is.length) (hs : asl ops tl is (listed.setIfInBounds j true) = true) (k : WX C (.ops ops rest :: s) ((d, .p d 0) :: env) ((d, l) :: L) R Γ) : DXA C ops tl s bs G0 fuel listed env L R Γ j d l := by
 rw [aey] at hj
 have hj' : ops[j]? = some oj := by simpa using hj
 have yes : ∀ b, DXS C ops tl s (SB C bs G0 L R) (fun i => if i = d then b else bs i) G0 fuel (listed.setIfInBounds j true) ((d, .p d 0) :: env) ((d, l) :: L) R Γ := fun b _ a w G _ hS => by
  subst hf
  exact ag9 (fun _ _ hb h => h.keep hb) is rest _ a w hp hs (k a w ⟨G, _, hS⟩)
 refine ⟨fun hc a w G hle hS => ⟨fun h => (by rw [hr] at h; cases h), fun i hi => ?_⟩, yes⟩
 have hc' := hc.set hi
 rw [hr] at hi
 obtain rfl : i = j := by simpa using hi
 exact aqx ht hj' hd (by simpa [Nat.blt_eq] using hlt) hg hl hnl hle hS hc' yes
theorem DXA.take (i : Nat) (hb : mayP ops listed i = true) (hb2 : mayP ops (listed.setIfInBounds j true) i = true) (hij : Nat.beq i j = false) (hi : getO ops.toList i = some o)
  (hg : gd ops env o = some true) (hg2 : gd ops ((d, .p d 0) :: env) o = some true) (he : o.dst = some e) (hlt : Nat.blt e C.fn.ntmps = true) (hed : Nat.beq e d = false) (hnd : look env d = none) (hl : alh C env o sv)
  (k : DXA C ops tl s bs G0 fuel (listed.setIfInBounds i true) ((e, sv) :: env) L R Γ j d l) : DXA C ops tl s bs G0 (fuel + 1) listed env L R Γ j d l := by
 rw [aey] at hi
 have hi' : ops[i]? = some o := by simpa using hi
 have hne : i ≠ j := fun h => by subst h; simp at hij
 have hlt' : e < C.fn.ntmps := by simpa [Nat.blt_eq] using hlt
 have first : ∀ {bs' : Nat → Nat} {env' : Env} {L' : Locs} {f : Nat} {li : Array Bool}, mayP ops li i = true → gd ops env' o = some true → (∀ a w bs'', At C.fn.ntmps env' bs'' a → (execOp a.eval o).run C.P w = .ok (.value (conc bs'' sv)) w) →
   DXS C ops tl s (SB C bs G0 L R) bs' G0 f (li.setIfInBounds i true) ((e, sv) :: env') L' R Γ → DXS C ops tl s (SB C bs G0 L R) bs' G0 (f + 1) li env' L' R Γ := by
  intro bs' env' L' f li hm hgd hlk kk hcl a w G hle hS
  obtain ⟨hA, hI, hΓ⟩ := hS
  simp only [mayP, Bool.and_eq_true] at hm
  obtain ⟨⟨h1, h4⟩, h5⟩ := hm
  have hr : i ∈ Region.ready .any ops li := by simpa using h5
  refine agn hi' (Region.noSelect_spec h1) (fun c a w h => (agy C s c _ _ h).elim) f li a w (Region.free_spec hi' h4) hr (v := conc bs' sv) (.inl ⟨aee hA hgd, fun w' _ => hlk a w' bs' hA⟩) ?_
  rw [he]
  exact kk (hcl.set hr) _ _ G hle ⟨hA.put hlt' sv, hI, hΓ⟩
 refine ⟨first hb hg hl k.no, fun b => first hb2 hg2 (fun a w bs'' hA => hl a w bs'' (hA.less hnd)) ?_⟩
 intro hcl a w G hle ⟨hA, hI, hΓ⟩
 have := k.yes b
 rw [Array.setIfInBounds_comm _ _ (Ne.symm hne)] at hcl ⊢
 exact this hcl a w G hle ⟨hA.swap hed, hI, hΓ⟩
theorem akg (ht : aek C.P C.tt) (h : aor C.tt env [] o.op = some sv) : alh C env o sv := fun _ w _ hA => aj2 ht w hA h
theorem DXA.der (m : Nat) (f : MF) (hk : f.k = .der) (h : ∀ G, AllK C.M G Γ → f.p G)
  (k : DXA C ops tl s bs G0 fuel listed env L R ((m, f) :: Γ) j d l) : DXA C ops tl s bs G0 fuel listed env L R Γ j d l :=
 ⟨fun hcl a w G hle ⟨hA, hI, hΓ⟩ => k.no hcl a w G hle ⟨hA, hI, hΓ.der m f hk (h G hΓ)⟩, fun b hcl a w G hle ⟨hA, hI, hΓ⟩ => k.yes b hcl a w G hle ⟨hA, hI, hΓ.der m f hk (h G hΓ)⟩⟩
theorem DXA.callG (i : Nat) {val : ι → Value} {Γ' : ι → Facts} {Ψ : World → Value → World → Prop} (ht : aek C.P C.tt) (hj : getO ops.toList j = some oj) (hd : oj.dst = some d) (hlt : Nat.blt d C.fn.ntmps = true) (hg : gd ops env oj = some true) (hl : ladd C.tt env oj.op = some l) (hnl : agp d env L R = false) (hnd : look env d = none)
  (hr : (Region.ready .any ops listed).all (fun x => Nat.beq x i || Nat.beq x j) = true) (hr1 : (Region.ready .any ops listed).contains i = true) (hr2 : Region.ready .any ops (listed.setIfInBounds j true) = [i]) (hij : Nat.beq i j = false)
  (hi : getO ops.toList i = some o) (hgi : gd ops env o = some true) (hgi2 : gd ops ((d, .p d 0) :: env) o = some true) (he : o.dst = some e) (hlte : Nat.blt e C.fn.ntmps = true) (hed : Nat.beq e d = false) (ho : o.op = .call { callee := .value f, args := args.toArray, argTypes := ats })
  (hf : ev env f = some sf) (hf2 : ev ((d, .p d 0) :: env) f = some sf) (hsf : ∀ bs, conc bs sf = .func (.func g) #[] (caps bs).toArray) (hargs : evs env args = some svs) (hargs2 : evs ((d, .p d 0) :: env) args = some svs)
  (hc : ∀ w G bs, HInv C w G bs L R → AllK C.M (hp w) Γ → Does C.P g (svs.map (conc bs) ++ caps bs).toArray w emp (Ψ w))
  (hΨ : ∀ w v w' G bs (L : Locs) (R : Rows), HInv C w G bs L R → AllK C.M G Γ → Kp emp w w' → Ψ w v w' → ∃ x G', Q ∧ v = val x ∧ Le G G' ∧ HInv C w' G' bs L R ∧ AllK C.M G' (Γ' x))
  (k : ∀ x, Q → DXA C ops tl st bs G0 fuel (listed.setIfInBounds i true) ((e, .v (val x)) :: env) L R (Γ' x) j d l) : DXA C ops tl st bs G0 (fuel + 1) listed env L R Γ j d l := by
 rw [aey] at hi hj
 have hi' : ops[i]? = some o := by simpa using hi
 have hj' : ops[j]? = some oj := by simpa using hj
 have hne : i ≠ j := fun h => by subst h; simp at hij
 have hlte' : e < C.fn.ntmps := by simpa [Nat.blt_eq] using hlte
 obtain ⟨l1, l2, l3, l4⟩ := aex hnl
 have step : ∀ {bs' : Nat → Nat} {env' : Env} {L' : Locs} {fu : Nat} {li : Array Bool} {a : Act} {w : World} {G : GH}, gd ops env' o = some true → ev env' f = some sf → evs env' args = some svs → Le G0 G → SatB C env' L' R Γ G bs' a w → (∀ w G, HInv C w G bs' L' R → HInv C w G bs' L R) → (∀ w G, HInv C w G bs' L' R → HInv C w G bs L R) → Closed ops (li.setIfInBounds i true) →
   (∀ x, Q → DXS C ops tl st (SB C bs G0 L R) bs' G0 fu (li.setIfInBounds i true) ((e, .v (val x)) :: env') L' R (Γ' x)) →
   wpOp C.P ops (cont C st) i (fun a' w' => (tl.contains i = false → SB C bs G0 L R w → SB C bs G0 L R w') ∧ afk C.P ops (cont C st) (SB C bs G0 L R) tl fu (li.setIfInBounds i true) a' w') a w := by
  intro bs' env' L' fu li a w G h1 h2 h3 hle hS hsub hsub2 hcl kk
  obtain ⟨hA, hI, hΓ⟩ := hS
  unfold wpOp
  simp only [hi']
  rw [if_pos (aee hA h1)]
  refine .inl ?_
  unfold Oper.wp
  obtain ⟨hen, hcalls⟩ := hc w G bs' (hsub w G hI) (hΓ.mono hI.le)
  rw [ah9 hen ho (by rw [ad7 hA h2, hsf]) (ah0 hA args svs h3)]
  simp only [Oper.upon]
  refine hcalls.mono fun ee w' ⟨v, hv, hb, hψ⟩ => ?_
  subst hv
  rw [he]
  obtain ⟨x, G', hq, hv, hGG, hI', hΓ'⟩ := hΨ w v w' G bs' L' R hI hΓ hb hψ
  subst hv
  exact ⟨fun _ _ => ⟨G', hle.trans hGG, hsub2 w' G' hI'⟩, kk x hq hcl _ _ G' (hle.trans hGG) ⟨hA.put hlte' (.v (val x)), hI', hΓ'⟩⟩
 have yes : ∀ b, DXS C ops tl st (SB C bs G0 L R) (fun i => if i = d then b else bs i) G0 (fuel + 1) (listed.setIfInBounds j true) ((d, .p d 0) :: env) ((d, l) :: L) R Γ := fun b hcl a w G hle hS => by
  refine ⟨fun h => (by rw [hr2] at h; cases h), fun x hx => ?_⟩
  have hcl' := hcl.set hx
  rw [hr2] at hx
  obtain rfl : x = i := by simpa using hx
  refine step hgi2 hf2 hargs2 hle hS (fun w G h => h.sub (fun q y hy => by rw [adg, if_neg (Ne.symm (aff l2 hy))]; exact hy) (Sub.refl _)) (fun w G h => h.unalloc l2 l3 l4) hcl' (fun x hq => ?_)
  intro hcl2 a w G hle ⟨hA, hI, hΓ⟩
  have := (k x hq).yes b
  rw [Array.setIfInBounds_comm _ _ (Ne.symm hne)] at hcl2 ⊢
  exact this hcl2 a w G hle ⟨hA.swap hed, hI, hΓ⟩
 refine ⟨fun hcl a w G hle hS => ⟨fun h => (by rw [h] at hr1; simp at hr1), fun x hx => ?_⟩, yes⟩
 have hcl' := hcl.set hx
 have hx' := List.all_eq_true.1 hr x hx
 simp only [Bool.or_eq_true] at hx'
 rcases hx' with h | h
 ·have := Nat.eq_of_beq_eq_true h
  subst this
  exact step hgi hf hargs hle hS (fun _ _ h => h) (fun _ _ h => h) hcl' (fun x hq => (k x hq).no)
 ·have := Nat.eq_of_beq_eq_true h
  subst this
  exact aqx ht hj' hd (by simpa [Nat.blt_eq] using hlt) hg hl hnl hle hS hcl' yes
theorem DXA.callV (i : Nat)
  {c : Value} (ht : aek C.P C.tt) (hj : getO ops.toList j = some oj) (hd : oj.dst = some d) (hlt : Nat.blt d C.fn.ntmps = true) (hg : gd ops env oj = some true) (hl : ladd C.tt env oj.op = some l) (hnl : agp d env L R = false) (hnd : look env d = none)
  (hr : (Region.ready .any ops listed).all (fun x => Nat.beq x i || Nat.beq x j) = true) (hr1 : (Region.ready .any ops listed).contains i = true) (hr2 : Region.ready .any ops (listed.setIfInBounds j true) = [i]) (hij : Nat.beq i j = false)
  (hi : getO ops.toList i = some o) (hgi : gd ops env o = some true) (hgi2 : gd ops ((d, .p d 0) :: env) o = some true) (he : o.dst = some e) (hlte : Nat.blt e C.fn.ntmps = true) (hed : Nat.beq e d = false) (ho : o.op = .call { callee := .value f, args := args.toArray, argTypes := ats })
  (hf : ev env f = some sf) (hf2 : ev ((d, .p d 0) :: env) f = some sf) (hsf : ∀ bs, conc bs sf = .func (.func g) #[] (caps bs).toArray) (hargs : evs env args = some svs) (hargs2 : evs ((d, .p d 0) :: env) args = some svs)
  (hc : ∀ w G bs, HInv C w G bs L R → AllK C.M (hp w) Γ → Does C.P g (svs.map (conc bs) ++ caps bs).toArray w emp fun v _ => v = c ∧ Q)
  (k : Q → DXA C ops tl st bs G0 fuel (listed.setIfInBounds i true) ((e, .v c) :: env) L R Γ j d l) : DXA C ops tl st bs G0 (fuel + 1) listed env L R Γ j d l :=
 DXA.callG (ι := Unit) (Q := Q) (val := fun _ => c) (Γ' := fun _ => Γ) (Ψ := fun _ v _ => v = c ∧ Q) i ht hj hd hlt hg hl hnl hnd hr hr1 hr2 hij hi hgi hgi2 he hlte hed ho hf hf2 hsf hargs hargs2 hc
  (fun w v w' G bs L R hI hΓ hb ⟨hv, hq⟩ => ⟨(), join (cut G emp) emp, hq, hv, adz (cut G emp) emp, (hI.called (aes _) (fun _ _ h => by cases h) hb (aes _) (fun _ _ h => by cases h)).1, hΓ.mono (adz (cut G emp) emp)⟩) (fun _ => k)
theorem DXA.callF (i m : Nat) {val val' : ι → Value} {gs ds : ι → List MF} {Γ' : ι → Facts} (hds : ∀ i h, Sep h (gs i) → All h (ds i)) (hdk : ∀ i, ∀ f ∈ ds i, f.k = .der) (ht : aek C.P C.tt) (hj : getO ops.toList j = some oj) (hd : oj.dst = some d) (hlt : Nat.blt d C.fn.ntmps = true) (hg : gd ops env oj = some true) (hl : ladd C.tt env oj.op = some l) (hnl : agp d env L R = false) (hnd : look env d = none)
  (hr : (Region.ready .any ops listed).all (fun x => Nat.beq x i || Nat.beq x j) = true) (hr1 : (Region.ready .any ops listed).contains i = true) (hr2 : Region.ready .any ops (listed.setIfInBounds j true) = [i]) (hij : Nat.beq i j = false)
  (hi : getO ops.toList i = some o) (hgi : gd ops env o = some true) (hgi2 : gd ops ((d, .p d 0) :: env) o = some true) (he : o.dst = some e) (hlte : Nat.blt e C.fn.ntmps = true) (hed : Nat.beq e d = false) (ho : o.op = .call { callee := .value f, args := args.toArray, argTypes := ats })
  (hf : ev env f = some sf) (hf2 : ev ((d, .p d 0) :: env) f = some sf) (hsf : ∀ bs, conc bs sf = .func (.func g) #[] (caps bs).toArray) (hargs : evs env args = some svs) (hargs2 : evs ((d, .p d 0) :: env) args = some svs)
  (hc : ∀ w G bs, HInv C w G bs L R → AllK C.M (hp w) Γ → Does C.P g (svs.map (conc bs) ++ caps bs).toArray w emp (Post w emp val gs Q))
  (hv : ∀ i, aio (val i) = some (val' i)) (hΓ' : ∀ i, addF m (ds i ++ gs i) Γ = some (Γ' i))
  (k : ∀ x, Q → DXA C ops tl st bs G0 fuel (listed.setIfInBounds i true) ((e, .v (val' x)) :: env) L R (Γ' x) j d l) : DXA C ops tl st bs G0 (fuel + 1) listed env L R Γ j d l :=
 DXA.callG (ι := ι) (Q := Q) (val := val') (Γ' := Γ') (Ψ := fun w v w' => Post w emp val gs Q v w') i ht hj hd hlt hg hl hnl hnd hr hr1 hr2 hij hi hgi hgi2 he hlte hed ho hf hf2 hsf hargs hargs2 hc
  (fun w v w' G bs L R hI hΓ hb hv' => by
   obtain ⟨x, h, rfl, hq, hle1, hdom, hs⟩ := hv'
   obtain ⟨hI', hdj⟩ := hI.called (aes _) (fun _ _ h => by cases h) hb hle1 hdom
   exact ⟨x, join (cut G emp) h, hq, (aic (hv x)).symm, adz (cut G emp) h, hI', hΓ.after hdj (fun b o hb' => .inl ((hdom b o hb').elim (Nat.le_trans hI.keep.size) (fun h => absurd rfl h))) hs (hdk x) (hds x h hs) (hΓ' x)⟩) k
end Go.Stp
namespace Go.Stp
open GoT (X k ok sh fa oa)
variable {C : Cx} {env : Env} {L : Locs} {R : Rows} {G : GH} {o : Oper} {x y : Operand} {T n e d kk by_ σ m v : Nat} {s : List It} {Γ : Facts} {row src : Row} {P : Program} {ops : Array Oper} {r : List Oper} {z xs ys : List Value} {w : World} {bs : Nat → Nat}
theorem auk (w : World) (dT sT ty elem kk g o dLen dCap : Nat) (a : Addr) (sLen sCap : Nat) (cur : Array Value) (t : TypeId) (cs : List Value) (hu : P.underlying dT = some (.slice elem)) (hs : (Go.sizeOf elem).run P w = .ok kk w)
  (hg : w.heap[g]? = some (.cells cur t (0, 0))) (hn : cs.length = Nat.min sLen dLen * kk) (hsrc : ∀ j v, cs[j]? = some v → w.cell? (a.add j) = some v) (hfit : o + cs.length ≤ cur.size) (h1 : ∀ v ∈ cs, v.oneCell' = true) :
  (Builtin.copy_ #[dT, sT] ty #[.slice (some ⟨g, o, none⟩) dLen dCap, .slice (some a) sLen sCap]).run P w = .ok (goInt (Nat.min sLen dLen)) (w.setRow g (cur.toList.take o ++ cs ++ cur.toList.drop (o + cs.length)).toArray) := by
 have hl := run_loadCells_list (P := P) w a cs hsrc
 have hst := run_storeCells_at P g o t cs 0 cur w hg (by simpa using hfit) h1
 simp [Builtin.copy_, run_underlying hu, Builtin.lenOf, Builtin.firstCells, hs, ← hn, hl, hst]
theorem WX.cpy {R' : Rows} {dl dc sl sc : Nat} {sp : Option Addr} (ρ i m : Nat) (news : List Value) (ht : aek C.P C.tt)
  (hg : gd ops env o = some true) (hd : o.dst = some d) (hlt : Nat.blt d C.fn.ntmps = true) (ho : o.op = .call { callee := .builtin .copy, args := #[x, y], argTypes := #[T, T] }) (hel : elO C.tt T = some (e, kk, by_, z))
  (hx : ev env x = some (.v (.slice (offP row.p row.c i kk) dl dc))) (hy : ev env y = some (.v (.slice sp sl sc))) (hρ : look R ρ = some row) (hkk : row.k = kk) (hm : Nat.min sl dl = m) (him : i + m ≤ row.n) (hnl : news.length = m * kk) (hone : ∀ u ∈ news, u.oneCell' = true)
  (hsrc : ∀ w G bs, HInv C w G bs L R → AllK C.M G Γ → ∀ j u, news[j]? = some u → ∃ a, sp = some a ∧ w.cell? (a.add j) = some u) (hR : ajm R ρ ⟨row.k, row.p, row.n, row.c, row.xs.take (i * kk) ++ news ++ row.xs.drop (i * kk + news.length)⟩ = some R')
  (k : WX C (.ops ops r :: s) ((d, .v (.int .i64 (m : Int))) :: env) L R' Γ) : WX C (.ops ops (o :: r) :: s) env L R Γ := by
 refine WX.did (ι := Unit) (env' := fun _ => ((d, .v (.int .i64 (m : Int))) :: env)) (R' := fun _ => R') (Γ' := fun _ => Γ) hg (fun a w G bs hA hI hΓ => ?_) (fun _ => k)
 obtain ⟨hu, i', v, te, hE, hte, hi', h0, hs, _, hv, hzl, hpos⟩ := amm ht hel
 have hsz : ∀ w, (Go.sizeOf e).run C.P w = .ok kk w := fun w => by rw [afu hi', hs]
 rw [aji hR, hd]
 subst hkk
 have hlt' : d < C.fn.ntmps := by simpa [Nat.blt_eq] using hlt
 by_cases hm0 : m = 0
 ·have hn0 : news = [] := List.eq_nil_of_length_eq_zero (by rw [hnl, hm0, Nat.zero_mul])
  have hmin : min sl dl = 0 := hm.trans hm0
  have hrun : (execOp a.eval o).run C.P w = .ok (.value (.int .i64 (m : Int))) w := by
   unfold execOp
   simp only [ho, resolve, invoke, builtin, Sem.run_bind, Sem.run_pure, Result.andThen_ok, List.map_toArray, List.map_cons, List.map_nil, ad7 hA hx, ad7 hA hy, apo]
   cases hpp : offP row.p row.c i row.k <;> cases hqq : sp <;> simp [Builtin.copy_, run_underlying hu, Builtin.lenOf, Builtin.firstCells, hsz, hmin, loadCells, loadCellsFrom, storeCells, goInt, hm0]
  have hrr : (⟨row.k, row.p, row.n, row.c, row.xs.take (i * row.k) ++ news ++ row.xs.drop (i * row.k + news.length)⟩ : Row) = row := by
   rw [hn0]; simp
  exact ⟨_, w, (), hrun, G, bs, hA.put hlt' (.v (.int .i64 (m : Int))), by rw [hrr]; exact hI.respell (ak4 hρ), hΓ⟩
 ·have hrow := hI.row ρ row hρ
  obtain ⟨o1, hp', hc0, cur, T', hh, hcs, htk, hnc⟩ := hrow.some (by omega)
  have hoff : offP row.p row.c i row.k = some ⟨bs ρ, o1 + i * row.k, none⟩ := by
   unfold offP; rw [if_neg (by omega), hp']; simp [Addr.add_lit]
  have hmk : 0 < m * row.k := Nat.mul_pos (by omega) hpos
  obtain ⟨u0, hu0⟩ : ∃ u, news[0]? = some u := ⟨_, List.getElem?_eq_getElem (by omega)⟩
  obtain ⟨sa, hsa, _⟩ := hsrc w G bs hI hΓ 0 u0 hu0
  have hik : (i + m) * row.k ≤ row.n * row.k := Nat.mul_le_mul_right _ him
  have hck : row.n * row.k ≤ row.c * row.k := Nat.mul_le_mul_right _ hnc
  rw [Nat.add_mul] at hik
  have hcp := auk (P := C.P) w T T o.type e row.k (bs ρ) (o1 + i * row.k) dl dc sa sl sc cur T' news hu (hsz w) hh (by rw [hm]; exact hnl) (fun j u hj => by
   obtain ⟨a', h1, h2⟩ := hsrc w G bs hI hΓ j u hj
   rw [hsa] at h1; cases h1; exact h2) (by omega) hone
  have hrun : (execOp a.eval o).run C.P w = .ok (.value (.int .i64 (m : Int))) (w.setRow (bs ρ) (cur.toList.take (o1 + i * row.k) ++ news ++ cur.toList.drop (o1 + i * row.k + news.length)).toArray) := by
   unfold execOp
   simp only [ho, resolve, invoke, builtin, Sem.run_bind, Sem.run_pure, Result.andThen_ok, List.map_toArray, List.map_cons, List.map_nil, ad7 hA hx, ad7 hA hy, apo, hoff, hsa, hcp]
   simp [goInt, hm]
  refine ⟨_, _, (), hrun, G, bs, hA.put hlt' (.v (.int .i64 (m : Int))), ?_, hΓ⟩
  refine hI.wr hρ hp' hc0 hh hcs ?_ hnc ?_ ?_
  ·simp only [List.size_toArray, List.length_append, List.length_take, List.length_drop, Array.length_toList]; omega
  ·have h1 := hrow.1
   simp only [List.length_append, List.length_take, List.length_drop]; omega
  ·rw [← htk]
   exact ana cur.toList news o1 (i * row.k) (row.n * row.k) (by omega) (by simp; omega)
theorem ao2 (hI : HInv C w G bs L R) (hσ : look R σ = some src) (j m : Nat) (hjm : j + m ≤ src.n) :
  ∀ q u, ((src.xs.drop (j * src.k)).take (m * src.k))[q]? = some u → ∃ a, offP src.p src.c j src.k = some a ∧ w.cell? (a.add q) = some u := fun q u hq => by
 have hlen := (hI.row σ src hσ).1
 rw [List.getElem?_take] at hq
 split at hq
 ·rename_i hqm
  have hm0 : 0 < m := by
   rcases Nat.eq_zero_or_pos m with h | h
   ·rw [h, Nat.zero_mul] at hqm; omega
   ·exact h
  obtain ⟨o1, hp, hc0, cur, T, hh, hcs, htk, hnc⟩ := (hI.row σ src hσ).some (by omega)
  refine ⟨⟨bs σ, o1 + j * src.k, none⟩, by unfold offP; rw [if_neg (by omega), hp]; simp [Addr.add_lit], ?_⟩
  rw [Addr.add_lit, cell_of_row w _ _ cur T _ hh]
  rw [List.getElem?_drop, ← htk, List.getElem?_take, List.getElem?_drop] at hq
  split at hq
  ·simpa [Nat.add_assoc] using hq
  ·cases hq
 ·cases hq
end Go.Stp
namespace Go.Stp
variable {C : Cx} {ops : Array Oper} {tl : List Nat} {s : List It} {fuel x : Nat} {listed : Array Bool} {env : Env} {L : Locs} {R : Rows} {Γ : Facts} {S : World → Prop} {o : Oper}
def TX (C : Cx) (ops : Array Oper) (tl : List Nat) (s : List It) (S : World → Prop) (fuel : Nat) (listed : Array Bool) (env : Env) (L : Locs) (R : Rows) (Γ : Facts) : Prop :=
 (∀ w w', Kp emp w w' → S w → S w') → ∀ a w, Sat C env L R Γ a w → afk C.P ops (cont C s) S tl fuel listed a w
theorem DX.toTX {bs : Nat → Nat} {G0 : GH} (k : ∀ S, TX C ops tl s S fuel listed env L R Γ) : DX C ops tl s bs G0 fuel listed env L R Γ :=
 fun _ a w G _ hS => k _ (fun _ _ hb h => h.keep hb) a w ⟨G, bs, hS⟩
def TXI (C : Cx) (ops : Array Oper) (tl : List Nat) (s : List It) (S : World → Prop) (fuel : Nat) (listed : Array Bool) : Act → World → Prop := fun a w => (∀ w w', Kp emp w w' → S w → S w') → afk C.P ops (cont C s) S tl fuel listed a w
theorem arw {P : Program} {o : Oper} {a : Act} {next I : Act → World → Prop} {Q : Exit → Act → World → Prop} {r : Result Next} (h : o.upon P a next (Exit.then I Q) r) : o.upon P a next Q r := by
 cases r with
 | ok x w => cases x <;> exact h
 | halt x w => cases x <;> exact h
theorem TX.step (hS : ∀ w w', Kp emp w w' → S w → S w') (hi : ops[x]? = some o) (hp : tl.contains x = true ∨ aq4 o.op = true)
  (kx : WX C (.ops ops [o] :: .iter (TXI C ops tl s S fuel (listed.setIfInBounds x true)) :: s) env L R Γ) {a : Act} {w : World} (hSat : Sat C env L R Γ a w) :
  wpOp C.P ops (cont C s) x (fun a' w' => (tl.contains x = false → S w → S w') ∧ afk C.P ops (cont C s) S tl fuel (listed.setIfInBounds x true) a' w') a w := by
 have h : wpOp C.P ops (cont C s) x (TXI C ops tl s S fuel (listed.setIfInBounds x true)) a w := by
  have h1 : wpList C.P ops (Exit.then (TXI C ops tl s S fuel (listed.setIfInBounds x true)) (cont C s)) [o] a w := kx a w hSat
  unfold wpOp
  simp only [hi]
  unfold wpList at h1
  split at h1
  ·rename_i hw
   rw [if_pos hw]
   exact h1.imp (fun h => arw (o := o) h) id
  ·rename_i hw
   rw [if_neg hw]
   exact h1
 rcases hp with ht | hp
 ·exact wpOp_mono (fun a' w' h' => ⟨fun h => (by rw [ht] at h; cases h), h' hS⟩) h
 ·exact wpOp_mono (fun a' w' h' => ⟨fun _ => hS _ _ h'.1, h'.2 hS⟩) (arz hi hp h)
def tlB (ops : Array Oper) (tl : List Nat) (x : Nat) : Bool := tl.contains x || awc ops x
theorem atc (hi : getO ops.toList x = some o) (h : tlB ops tl x = true) : ops[x]? = some o ∧ (tl.contains x = true ∨ aq4 o.op = true) := by
 unfold tlB awc at h
 rw [hi] at h
 rw [aey] at hi
 exact ⟨by simpa using hi, by simpa using h⟩
theorem TX.one (x : Nat) (hr : Region.ready .any ops listed = [x]) (hi : getO ops.toList x = some o) (hp : tlB ops tl x = true)
  (kx : WX C (.ops ops [o] :: .iter (TXI C ops tl s S fuel (listed.setIfInBounds x true)) :: s) env L R Γ) : TX C ops tl s S (fuel + 1) listed env L R Γ := fun hS a w hSat => by
 obtain ⟨h1, h2⟩ := atc hi hp
 refine ⟨fun h => (by rw [hr] at h; cases h), fun j hj => ?_⟩
 rw [hr] at hj
 obtain rfl : j = x := by simpa using hj
 exact TX.step hS h1 h2 kx hSat
theorem WX.back0 (k : TX C ops tl s S fuel listed env L R Γ) : WX C (.iter (TXI C ops tl s S fuel listed) :: s) env L R Γ :=
 fun a w hSat hS => k hS a w hSat
theorem TX.tail {rest : List Oper} (is : List Nat) (hr : anx ops.toList is = some rest) (hf : fuel = is.length) (hs : asl ops tl is listed = true)
  (k : WX C (.ops ops rest :: s) env L R Γ) : TX C ops tl s S fuel listed env L R Γ := fun hS a w hSat => by
 subst hf
 exact ag9 hS is rest listed a w hr hs (k a w hSat)
end Go.Stp
namespace Go.Stp
variable {C : Cx} {ops : Array Oper} {tl : List Nat} {s st : List It} {S : World → Prop} {fuel d : Nat} {listed : Array Bool} {env : Env} {L : Locs} {R : Rows} {Γ : Facts} {o : Oper} {f : Operand} {args : List Operand} {ats : Array TypeId} {g : FuncId} {sf : SV} {svs : List SV} {caps : (Nat → Nat) → List Value} {Q : Prop}
def TS (C : Cx) (ops : Array Oper) (tl : List Nat) (s : List It) (S : World → Prop) (fuel : Nat) (listed : Array Bool) (env : Env) (L : Locs) (R : Rows) (Γ : Facts) (x : Nat) : Prop :=
 (∀ w w', Kp emp w w' → S w → S w') → ∀ a w, Sat C env L R Γ a w → wpOp C.P ops (cont C s) x (fun a' w' => (tl.contains x = false → S w → S w') ∧ afk C.P ops (cont C s) S tl fuel (listed.setIfInBounds x true) a' w') a w
theorem TS.op (x : Nat) (hi : getO ops.toList x = some o) (hp : tlB ops tl x = true)
  (kx : WX C (.ops ops [o] :: .iter (TXI C ops tl s S fuel (listed.setIfInBounds x true)) :: s) env L R Γ) : TS C ops tl s S fuel listed env L R Γ x := fun hS a w hSat => by
 obtain ⟨h1, h2⟩ := atc hi hp
 exact TX.step hS h1 h2 kx hSat
theorem TX.all1 (x : Nat) (hr : Region.ready .any ops listed = [x]) (kx : TS C ops tl s S fuel listed env L R Γ x) : TX C ops tl s S (fuel + 1) listed env L R Γ := fun hS a w hSat => by
 refine ⟨fun h => (by rw [hr] at h; cases h), fun j hj => ?_⟩
 rw [hr] at hj
 obtain rfl : j = x := by simpa using hj
 exact kx hS a w hSat
theorem TX.all2 (x y : Nat) (hr : Region.ready .any ops listed = [x, y]) (kx : TS C ops tl s S fuel listed env L R Γ x) (ky : TS C ops tl s S fuel listed env L R Γ y) : TX C ops tl s S (fuel + 1) listed env L R Γ := fun hS a w hSat => by
 refine ⟨fun h => (by rw [hr] at h; cases h), fun j hj => ?_⟩
 rw [hr] at hj
 rcases List.mem_cons.1 hj with rfl | hj
 ·exact kx hS a w hSat
 ·obtain rfl : j = y := by simpa using hj
  exact ky hS a w hSat
theorem TS.callG (i : Nat)
  {Ψ : World → Value → World → Prop} (hi : getO ops.toList i = some o) (hg : gd ops env o = some true) (hd : o.dst = some d) (ho : o.op = .call { callee := .value f, args := args.toArray, argTypes := ats })
  (hf : ev env f = some sf) (hsf : ∀ bs, conc bs sf = .func (.func g) #[] (caps bs).toArray) (hargs : evs env args = some svs)
  (hc : ∀ w G bs, HInv C w G bs L R → AllK C.M (hp w) Γ → Does C.P g (svs.map (conc bs) ++ caps bs).toArray w emp (Ψ w))
  (k : ∀ a w w' G bs v, (∀ w w', Kp emp w w' → S w → S w') → At C.fn.ntmps env bs a → HInv C w G bs L R → AllK C.M G Γ → Kp emp w w' → Ψ w v w' → afk C.P ops (cont C st) S tl fuel (listed.setIfInBounds i true) (a.put (some d) v) w') : TS C ops tl st S fuel listed env L R Γ i := by
 intro hS a w ⟨G, bs, hA, hI, hΓ⟩
 rw [aey] at hi
 have hi' : ops[i]? = some o := by simpa using hi
 unfold wpOp
 simp only [hi']
 rw [if_pos (aee hA hg)]
 refine .inl ?_
 unfold Oper.wp
 obtain ⟨he, hcalls⟩ := hc w G bs hI (hΓ.mono hI.le)
 rw [ah9 he ho (by rw [ad7 hA hf, hsf]) (ah0 hA args svs hargs)]
 simp only [Oper.upon]
 refine hcalls.mono fun e w' ⟨v, hv, hb, hψ⟩ => ?_
 subst hv
 rw [hd]
 exact ⟨fun _ hs => hS _ _ hb hs, k a w w' G bs v hS hA hI hΓ hb hψ⟩
theorem TS.callV (i : Nat)
  {c : Value} (hi : getO ops.toList i = some o) (hg : gd ops env o = some true) (hd : o.dst = some d) (hlt : Nat.blt d C.fn.ntmps = true) (ho : o.op = .call { callee := .value f, args := args.toArray, argTypes := ats })
  (hf : ev env f = some sf) (hsf : ∀ bs, conc bs sf = .func (.func g) #[] (caps bs).toArray) (hargs : evs env args = some svs)
  (hc : ∀ w G bs, HInv C w G bs L R → AllK C.M (hp w) Γ → Does C.P g (svs.map (conc bs) ++ caps bs).toArray w emp fun v _ => v = c ∧ Q)
  (k : Q → TX C ops tl st S fuel (listed.setIfInBounds i true) ((d, .v c) :: env) L R Γ) : TS C ops tl st S fuel listed env L R Γ i :=
 TS.callG (Ψ := fun _ v _ => v = c ∧ Q) i hi hg hd ho hf hsf hargs hc fun a w w' G bs v hS hA hI hΓ hb ⟨hv, hq⟩ => by
  subst hv
  have hI' := (hI.called (aes _) (fun _ _ h => by cases h) hb (aes _) (fun _ _ h => by cases h)).1
  exact k hq hS _ _ ⟨_, _, hA.put (by simpa [Nat.blt_eq] using hlt) (.v v), hI', hΓ.mono (adz (cut G emp) emp)⟩
theorem TS.callF (i m : Nat)
  {ι : Type} {val val' : ι → Value} {gs ds : ι → List MF} {Γ' : ι → Facts} (hds : ∀ i h, Sep h (gs i) → All h (ds i)) (hdk : ∀ i, ∀ f ∈ ds i, f.k = .der) (hi : getO ops.toList i = some o) (hg : gd ops env o = some true) (hd : o.dst = some d) (hlt : Nat.blt d C.fn.ntmps = true) (ho : o.op = .call { callee := .value f, args := args.toArray, argTypes := ats })
  (hf : ev env f = some sf) (hsf : ∀ bs, conc bs sf = .func (.func g) #[] (caps bs).toArray) (hargs : evs env args = some svs)
  (hc : ∀ w G bs, HInv C w G bs L R → AllK C.M (hp w) Γ → Does C.P g (svs.map (conc bs) ++ caps bs).toArray w emp (Post w emp val gs Q))
  (hv : ∀ i, aio (val i) = some (val' i)) (hΓ' : ∀ i, addF m (ds i ++ gs i) Γ = some (Γ' i))
  (k : ∀ j, Q → TX C ops tl st S fuel (listed.setIfInBounds i true) ((d, .v (val' j)) :: env) L R (Γ' j)) : TS C ops tl st S fuel listed env L R Γ i :=
 TS.callG (Ψ := fun w v w' => Post w emp val gs Q v w') i hi hg hd ho hf hsf hargs hc fun a w w' G bs v hS hA hI hΓ hb hv' => by
  obtain ⟨j, h, rfl, hq, hle1, hdom, hs⟩ := hv'
  rw [← aic (hv j)]
  obtain ⟨hI', hdj⟩ := hI.called (aes _) (fun _ _ h => by cases h) hb hle1 hdom
  exact k j hq hS _ _ ⟨_, _, hA.put (by simpa [Nat.blt_eq] using hlt) (.v _), hI', hΓ.after hdj (fun b o hb' => .inl ((hdom b o hb').elim (Nat.le_trans hI.keep.size) (fun h => absurd rfl h))) hs (hdk j) (hds j h hs) (hΓ' j)⟩
theorem TX.der (m : Nat) (f : MF) (hk : f.k = .der) (h : ∀ G, AllK C.M G Γ → f.p G)
  (k : TX C ops tl s S fuel listed env L R ((m, f) :: Γ)) : TX C ops tl s S fuel listed env L R Γ := fun hS a w ⟨G, bs, hA, hI, hΓ⟩ => k hS a w ⟨G, bs, hA, hI, hΓ.der m f hk (h G hΓ)⟩
theorem TS.der {x : Nat} (m : Nat) (f : MF) (hk : f.k = .der) (h : ∀ G, AllK C.M G Γ → f.p G)
  (k : TS C ops tl s S fuel listed env L R ((m, f) :: Γ) x) : TS C ops tl s S fuel listed env L R Γ x := fun hS a w ⟨G, bs, hA, hI, hΓ⟩ => k hS a w ⟨G, bs, hA, hI, hΓ.der m f hk (h G hΓ)⟩
end Go.Stp
namespace Go.Stp
open GoT (X k ok sh fa oa)
variable {C : Cx} {ops : Array Oper} {tl : List Nat} {s : List It} {S : World → Prop} {fuel : Nat} {listed : Array Bool} {env : Env} {L : Locs} {R : Rows} {Γ : Facts} {o : Oper} {sv : SV}
def am1 (C : Cx) (o : Oper) (a : Act) (w : World) : Prop := ∀ x w', (execOp a.eval o).run C.P w = .ok x w' → (∃ v, x = .value v) ∧ Kp emp w w'
theorem atn {C : Cx} {ops : Array Oper} {Q : Exit → Act → World → Prop} {k : Nat} {o : Oper} (ho : ops[k]? = some o) {K : Act → World → Prop} {a : Act} {w : World} (hp : am1 C o a w) (h : wpOp C.P ops Q k K a w) : wpOp C.P ops Q k (fun a' w' => Kp emp w w' ∧ K a' w') a w := by
 unfold wpOp at h ⊢
 simp only [ho] at h ⊢
 split at h
 ·rename_i hw
  rw [if_pos hw]
  refine h.imp (fun h => ?_) id
  unfold Oper.wp at h ⊢
  generalize hr : (execOp a.eval o).run C.P w = r at h ⊢
  cases r with
  | ok x w' =>
   obtain ⟨⟨v, rfl⟩, hk⟩ := hp _ _ hr
   exact ⟨hk, h⟩
  | halt x w' => cases x <;> exact h
 ·rename_i hw
  rw [if_neg hw]
  exact ⟨Kp.refl _ _, h⟩
theorem TX.stepK {x : Nat} (hS : ∀ w w', Kp emp w w' → S w → S w') (hi : ops[x]? = some o) {a : Act} {w : World} (hp : am1 C o a w)
  (kx : WX C (.ops ops [o] :: .iter (TXI C ops tl s S fuel (listed.setIfInBounds x true)) :: s) env L R Γ) (hSat : Sat C env L R Γ a w) :
  wpOp C.P ops (cont C s) x (fun a' w' => (tl.contains x = false → S w → S w') ∧ afk C.P ops (cont C s) S tl fuel (listed.setIfInBounds x true) a' w') a w := by
 have h : wpOp C.P ops (cont C s) x (TXI C ops tl s S fuel (listed.setIfInBounds x true)) a w := by
  have h1 : wpList C.P ops (Exit.then (TXI C ops tl s S fuel (listed.setIfInBounds x true)) (cont C s)) [o] a w := kx a w hSat
  unfold wpOp
  simp only [hi]
  unfold wpList at h1
  split at h1
  ·rename_i hw
   rw [if_pos hw]
   exact h1.imp (fun h => arw (o := o) h) id
  ·rename_i hw
   rw [if_neg hw]
   exact h1
 exact wpOp_mono (fun a' w' h' => ⟨fun _ => hS _ _ h'.1, h'.2 hS⟩) (atn hi hp h)
theorem TS.opK (x : Nat) (hi : getO ops.toList x = some o) (hp : ∀ a w, Sat C env L R Γ a w → am1 C o a w)
  (kx : WX C (.ops ops [o] :: .iter (TXI C ops tl s S fuel (listed.setIfInBounds x true)) :: s) env L R Γ) : TS C ops tl s S fuel listed env L R Γ x := fun hS a w hSat => by
 rw [aey] at hi
 exact TX.stepK hS (by simpa using hi) (hp a w hSat) kx hSat
theorem atl {x y : Operand} {T tx kk by_ : Nat} {z : Value} {row : Row} (ρ m : Nat) {ι : Type} (news : ι → List Value) (ht : aek C.P C.tt)
  (ho : o.op = .call { callee := .builtin .append, args := #[x, y], argTypes := #[T, tx] })
  (hx : ev env x = some (.v (.slice row.p row.n row.c))) (hy : ev env y = some sv) (hap : appO C.tt T = some (kk, by_, z)) (hz : z.cells.size = kk) (hρ : look R ρ = some row) (hkk : row.k = kk)
  (hsrc : ∀ w G bs, HInv C w G bs L R → AllK C.M G Γ → ∃ i, Src C.P kk tx (conc bs sv) m (news i) w)
  (hroom : (row.n + m) * by_ ≤ 140737488355328) (hmax : row.n + m ≤ maxLen) (h0 : row.c = 0) : ∀ a w, Sat C env L R Γ a w → am1 C o a w := by
 rintro a w ⟨G, bs, hA, hI, hΓ⟩ v w1 hv
 obtain ⟨i, hs⟩ := hsrc w G bs hI hΓ
 obtain ⟨ti, e, te, hT, hde, hE, rfl, rfl, rfl, hpos⟩ := ai2 hap
 obtain ⟨p', c', w', b', hrun, hrow, honly, hnew⟩ := ahs (ty := o.type) ht hT hde hE hpos (hI.row ρ row hρ) hkk (.inl hI.keep.size) hI.le hs hmax hroom hz
 have hexec : (execOp a.eval o).run C.P w = .ok (.value (.slice p' (row.n + m) c')) w' := by
  unfold execOp
  simp only [ho, resolve, invoke, builtin, Sem.run_bind, Sem.run_pure, Result.andThen_ok, List.map_toArray, List.map_cons, List.map_nil, ad7 hA hx, ad7 hA hy, apo, hrun]
 rw [hexec] at hv
 cases hv
 exact ⟨⟨_, rfl⟩, honly.os, honly.tape, honly.output, honly.size, fun j hj _ => honly.block j hj (fun h => absurd h0 h)⟩
theorem afn {C : Cx} {o : Oper} {env : Env} {L : Locs} {R : Rows} {Γ : Facts} {x y : Operand} {T by_ q c : Nat} {z : Value} {row : Row} {α : Type} [GoT α] {kd : Kd} {p : Option Addr} {l : List α} (ρ ℓ n' : Nat) (ht : aek C.P C.tt)
  (ho : o.op = .call { callee := .builtin .append, args := #[x, y], argTypes := #[T, T] })
  (hx : ev env x = some (.v (.slice row.p row.n row.c))) (hy : ev env y = some (.v (.slice p q c))) (hq : q = l.length) (hap : appO C.tt T = some (GoT.k α, by_, z)) (hz : z.cells.size = GoT.k α) (hρ : look R ρ = some row) (hkk : row.k = GoT.k α)
  (hℓ : look Γ ℓ = some (MF.rs kd p c l)) (hn : row.n + l.length = n') (hroom : n' * by_ ≤ 140737488355328) (hmax : n' ≤ 9223372036854775807) (h0 : row.c = 0) : ∀ a w, Sat C env L R Γ a w → am1 C o a w := by
 subst hn hq
 refine atl (ι := List Value) ρ l.length (fun xs => xs) ht ho hx hy hap hz hρ hkk (fun w G bs hI hΓ => ?_) hroom (by simp only [maxLen]; omega) h0
 obtain ⟨ti, e, te, hT, hde, hE, hks, _⟩ := ai2 hap
 obtain ⟨hu, _⟩ := ht.get hT
 rw [hde] at hu
 obtain ⟨h1, h2, xs, h4, h5⟩ := (hΓ.get ℓ hℓ : RdSl G p c l)
 refine ⟨xs, ?_⟩
 simp only [conc]
 cases hl : l with
 | nil =>
  subst hl
  have hxs : xs = [] := h5
  subst hxs
  cases hp : p with
  | none => exact Src.ofNil w hu c
  | some ad => exact Src.ofSlice w hu ad 0 c [] (by simp) (fun j u h => by simp at h) (fun u h => by cases h)
 | cons a l' =>
  have hlen := h5.len
  have hpos := GoT.pos (α := α)
  obtain ⟨u, hu0⟩ : ∃ u, xs[0]? = some u := ⟨_, List.getElem?_eq_getElem (by rw [hlen, hl]; simp only [List.length_cons, Nat.add_mul]; omega)⟩
  obtain ⟨ad, had, _⟩ := h4 0 u hu0
  subst had
  rw [← hl]
  exact Src.ofSlice w hu ad l.length c xs hlen (fun j u hj => by
   obtain ⟨ad', h', hg'⟩ := h4 j u hj
   simp at h'; subst h'
   exact hI.le.cell hg') h5.one
theorem ae0 (ht : aek C.P C.tt) (h : aor C.tt env L o.op = some sv) : ∀ a w, Sat C env L R Γ a w → am1 C o a w := by
 rintro a w ⟨G, bs, hA, hI, hΓ⟩ v w1 hv
 rw [ahc ht hA hI h] at hv
 cases hv
 exact ⟨⟨_, rfl⟩, Kp.refl _ _⟩
end Go.Stp
namespace Go.Stp
variable {b i T : Nat} {o : Obj} {G h : GH} {w : World} {C : Cx} {bs : Nat → Nat} {L : Locs} {R : Rows} {l : Loc} {Γ Γ1 : Facts} {cs : List Value}
def NN (x : Int) : Prop := 0 ≤ x ∧ x ≤ 9223372036854775807
theorem NN.i64 {x : Int} (h : NN x) : -9223372036854775808 ≤ x ∧ x ≤ 9223372036854775807 := ⟨by have := h.1; omega, h.2⟩
open GoT (X k ok sh fa oa)
def sgl (b : Nat) (o : Obj) : GH := fun x => if x = b then some o else none
theorem aif (b : Nat) (o : Obj) : sgl b o b = some o := by simp [sgl]
theorem ako {x : Nat} (o : Obj) (h : x ≠ b) : sgl b o x = none := by simp [sgl, h]
theorem ar7 (h : G b = some o) : Le (sgl b o) G := fun x q hx => by
 by_cases hb : x = b
 ·subst hb; rw [aif] at hx; cases hx; exact h
 ·rw [ako o hb] at hx; cases hx
theorem amd (h : G b = none) : Dj (sgl b o) G := fun x => by
 by_cases hb : x = b
 ·subst hb; exact .inr h
 ·exact .inl (ako o hb)
theorem agl (hg : G b = none) : cut G h b = none := by
 unfold cut; cases h b <;> simp [hg]
theorem aqt (hg : h b = some o) : cut G h b = none := by
 unfold cut; rw [hg]
theorem aid.less {M : Nat → Prop} {G' : GH} {r : Row} (h : aid M w G b r) (hg : r.c ≠ 0 → G b = none → G' b = none) : aid M w G' b r := by
 refine ⟨h.1, ?_⟩
 rcases h.2 with h0 | ⟨o, h1, h2, h3, h4⟩
 ·exact .inl h0
 ·by_cases hc : r.c = 0
  ·exact .inl ⟨hc, by omega⟩
  ·exact .inr ⟨o, h1, h2, hg hc h3, h4⟩
def delL : Locs → Nat → Locs
 | [], _ => []
 | (j, l) :: r, i => (match Nat.beq j i with | true => delL r i | false => (j, l) :: delL r i)
theorem al4 : ∀ (L : Locs) (i j : Nat), look (delL L i) j = if i = j then none else look L j
 | [], i, j => by simp [delL, look]
 | (m, l) :: r, i, j => by
  simp only [delL]
  split
  ·rename_i h
   have hm : m = i := Nat.eq_of_beq_eq_true h
   subst hm
   rw [al4 r, adg]
   by_cases h2 : m = j <;> simp [h2]
  ·rename_i h
   have hm : m ≠ i := Nat.ne_of_beq_eq_false h
   rw [adg, adg, al4 r]
   by_cases h2 : m = j
   ·subst h2; simp [Ne.symm hm]
   ·simp [h2]
abbrev lobj (l : Loc) : Obj := .cells l.cs.toArray l.T (0, 0)
theorem HInv.drop (hI : HInv C w G bs L R) (hl : look L i = some l) : HInv C w (join G (sgl (bs i) (lobj l))) bs (delL L i) R := by
 obtain ⟨h1, h2, h3⟩ := hI.loc i l hl
 have up : ∀ {j : Nat} {x : Loc}, look (delL L i) j = some x → i ≠ j ∧ look L j = some x := fun {j x} h => by
  rw [al4] at h
  by_cases hij : i = j
  ·simp [hij] at h
  ·simp [hij] at h; exact ⟨hij, h⟩
 have act : ∀ {j : Nat}, Acts (delL L i) R j → Acts L R j := fun h => by
  rcases h with ⟨x, hx⟩ | h
  ·exact .inl ⟨x, (up hx).2⟩
  ·exact .inr h
 have none : ∀ {j : Nat}, i ≠ j → Acts L R j → G (bs j) = none → join G (sgl (bs i) (lobj l)) (bs j) = none := fun {j} hij ha hg => by
  unfold join; rw [hg]
  exact ako _ (fun e => hI.inj i j hij (.inl ⟨l, hl⟩) ha e.symm)
 refine ⟨hI.keep, afg hI.le (ar7 h1), fun j x hx => ?_, fun j r hr => ?_, fun j m hjm ha hb => hI.inj j m hjm (act ha) (act hb), fun j x r hx hr => hI.dis j x r (up hx).2 hr, hI.pin, hI.nr⟩
 ·obtain ⟨hij, hx'⟩ := up hx
  obtain ⟨q1, q2, q3⟩ := hI.loc j x hx'
  exact ⟨q1, q2, none hij (.inl ⟨x, hx'⟩) q3⟩
 ·exact (hI.row j r hr).less fun hc hg => none (fun e => by subst e; exact hI.dis i l r hl hr) (.inr ⟨r, hr, hc⟩) hg
theorem HInv.take {L' : Locs} (hI : HInv C w G bs L R) (hL : ∀ j, look L' j = if i = j then some l else look L j) (hR : ∀ r, look R i ≠ some r) (hg : G (bs i) = some (lobj l)) (hM : C.M (bs i)) : HInv C w (cut G (sgl (bs i) (lobj l))) bs L' R := by
 have hcut : ∀ b, G b = none → cut G (sgl (bs i) (lobj l)) b = none := fun b h => agl h
 have ne : ∀ {j : Nat}, G (bs j) = none → bs i ≠ bs j := fun h e => by rw [← e, hg] at h; cases h
 have gn : ∀ {j : Nat}, Acts L R j → G (bs j) = none := fun {j} ha => by
  rcases ha with ⟨x, hx⟩ | ⟨r, hr, hc⟩
  ·exact (hI.loc j x hx).2.2
  ·rcases (hI.row j r hr).2 with ⟨h0, _⟩ | ⟨_, _, _, h3, _⟩
   ·exact absurd h0 hc
   ·exact h3
 have act : ∀ {j : Nat}, i ≠ j → Acts L' R j → Acts L R j := fun {j} hij h => by
  rcases h with ⟨x, hx⟩ | h
  ·rw [hL, if_neg hij] at hx; exact .inl ⟨x, hx⟩
  ·exact .inr h
 refine ⟨hI.keep, (ai0 _ _).trans hI.le, fun j x hx => ?_, fun j r hr => (hI.row j r hr).less fun _ h => hcut _ h, fun j m hjm ha hb => ?_, fun j x r hx hr => ?_, hI.pin, hI.nr⟩
 ·rw [hL] at hx
  by_cases hij : i = j
  ·subst hij; simp at hx; subst hx
   exact ⟨hI.le _ _ hg, hM, aqt (aif _ _)⟩
  ·simp [hij] at hx
   obtain ⟨q1, q2, q3⟩ := hI.loc j x hx
   exact ⟨q1, q2, hcut _ q3⟩
 ·by_cases hij : i = j
  ·subst hij
   exact ne (gn (act hjm hb))
  ·by_cases him : i = m
   ·subst him
    exact fun e => ne (gn (act hij ha)) e.symm
   ·exact hI.inj j m hjm (act hij ha) (act him hb)
 ·rw [hL] at hx
  by_cases hij : i = j
  ·subst hij; exact hR r hr
  ·simp [hij] at hx; exact hI.dis j x r hx hr
theorem Post.ofL {ι : Type} {val : ι → Value} {gs : ι → List MF} {Q : Prop} {v : Value} {fs : List MF} (lab : Nat) (ks : List Nat) (i : ι) (hI : HInv C w G bs L R) (hΓ : AllK C.M G Γ) (hl : look L lab = some ⟨T, cs⟩) (hk : agt ks Γ = some (fs, Γ1)) (hv : v = val i) (hf : gs i = MF.bx (bs lab) T cs :: fs) (hq : Q) : Post C.w0 C.H val gs Q v w := by
 obtain ⟨H, q1, q2, q3, q4⟩ := agi hk hΓ
 obtain ⟨h1, h2, h3⟩ := hI.loc lab _ hl
 have hd : Dj (sgl (bs lab) (lobj ⟨T, cs⟩)) H := (amd h3).mono (Le.refl _) q1
 refine ⟨i, join (sgl (bs lab) (lobj ⟨T, cs⟩)) H, hv, hq, afg (ar7 h1) (q1.trans hI.le), fun b o hx => ?_, ?_⟩
 ·by_cases hbb : b = bs lab
  ·subst hbb; exact h2
  ·unfold join at hx; rw [ako _ hbb] at hx; exact q2 b o hx
 ·rw [hf]
  exact ⟨_, H, adz _ _, aer hd, hd, aif _ _, q3⟩
end Go.Stp
namespace Go.Stp
open GoT (X k ok sh fa oa)
variable {S D E T : Nat} {ts td te : TI} {C : Cx} {o : Oper} {env : Env} {L : Locs} {R : Rows} {Γ : Facts} {x y : Operand} {s : ByteArray} {G : GH}
theorem RdL.bytes (G : GH) : ∀ (l : List UInt8), RdL G (l.map fun b => Value.int .u8 b.toNat) l
 | [] => rfl
 | _ :: l => ⟨(), _, rfl, All.nil, RdL.bytes G l⟩
end Go.Stp
namespace Go.Stp
variable {C : Cx} {env : Env} {L : Locs} {R : Rows} {G h : GH} {o : Oper} {x y : Operand} {T c fuel : Nat} {ti : TI} {s : List It} {l : Int} {p : Option Addr} {Γ : Facts} {ops : Array Oper} {tl : List Nat} {S : World → Prop} {listed : Array Bool} {ι : Type}
section
open GoT (k X sh oa)
variable {α : Type} [GoT α]
theorem OwL.take {h : GH} : ∀ {xs : List Value} {l : List α} (i : Nat), OwL h xs l → OwL h (xs.take (i * k α)) (l.take i)
 | xs, [], i, e => by
  have : xs = [] := e
  subst this
  simp only [List.take_nil]; rfl
 | xs, a :: l, 0, _ => by simp only [Nat.zero_mul, List.take_zero]; rfl
 | xs, a :: l, i + 1, ⟨x, ys, h1, h2, e, q1, q2, q3, q4, q5⟩ => by
  refine ⟨x, ys.take (i * k α), h1, h2, ?_, q1, q2, q3, q4, q5.take i⟩
  rw [e, Nat.add_mul, Nat.one_mul, List.take_append, GoT.len, List.take_of_length_le (by rw [GoT.len]; omega), Nat.add_sub_cancel]
theorem OwL.drop {h : GH} : ∀ {xs : List Value} {l : List α} (i : Nat), OwL h xs l → OwL h (xs.drop (i * k α)) (l.drop i)
 | xs, [], i, e => by
  have : xs = [] := e
  subst this
  simp only [List.drop_nil]; rfl
 | xs, a :: l, 0, e => by simpa using e
 | xs, a :: l, i + 1, ⟨x, ys, h1, h2, e, q1, q2, q3, q4, q5⟩ => by
  have := (q5.drop i).mono q2
  rw [e, Nat.add_mul, Nat.one_mul, List.drop_append, GoT.len, List.drop_eq_nil_of_le (by rw [GoT.len]; omega), Nat.add_sub_cancel, List.nil_append]
  simpa using this
end
end Go.Stp
namespace Go.Stp
variable {ops : Array Oper} {listed : Array Bool} {i : Nat} {tl : List Nat}
def agx (ops : Array Oper) (listed : Array Bool) (i : Nat) : Bool :=
 !listed.getD i true && (match ops[i]? with | some o => o.after.all (fun e => !Region.binds .any e || listed.getD e.on false) | none => false)
section
open GoT (X k ok sh fa oa)
end
end Go.Stp
namespace Go.Stp
open GoT (X k ok sh fa oa)
variable {C : Cx} {w w' : World} {G G0 : GH} {bs : Nat → Nat} {L L0 : Locs} {R : Rows} {b fuel d : Nat} {o : Oper} {ops : Array Oper} {s : List It} {env : Env} {Γ : Facts} {tl : List Nat} {listed : Array Bool} {S : World → Prop} {sv : SV}
def SY (C : Cx) (bs : Nat → Nat) (G0 : GH) (L0 : Locs) (R : Rows) : World → Prop := fun w => ∃ G, Le G0 G ∧ G (bs 999) = none ∧ HInv C w G bs L0 R
structure YOk (C : Cx) (bs : Nat → Nat) (L0 L : Locs) (R : Rows) : Prop where
 act : ∀ j, Acts L0 R j → bs j ≠ bs 999
 sub : ∀ j x, look L0 j = some x → look L j = some x
 lab : ∃ l, look L 999 = some l
theorem HInv.more (hI : HInv C w G bs L R) {o : Obj} (hh : w.heap[b]? = some o) (ha : ∀ j, Acts L R j → bs j ≠ b) : HInv C w (join G (sgl b o)) bs L R := by
 have none : ∀ {j : Nat}, Acts L R j → G (bs j) = none → join G (sgl b o) (bs j) = none := fun {j} h hg => by
  unfold join; rw [hg]; exact ako _ (ha j h)
 refine ⟨hI.keep, afg hI.le (ar7 hh), fun j x hx => ?_, fun j r hr => ?_, hI.inj, hI.dis, hI.pin, hI.nr⟩
 ·obtain ⟨q1, q2, q3⟩ := hI.loc j x hx
  exact ⟨q1, q2, none (.inl ⟨x, hx⟩) q3⟩
 ·exact (hI.row j r hr).less fun hc hg => none (.inr ⟨r, hr, hc⟩) hg
theorem SY.keep (hb : Kp emp w w') (h : SY C bs G0 L0 R w) : SY C bs G0 L0 R w' := by
 obtain ⟨G, hle, hn, hI⟩ := h
 refine ⟨join (cut G emp) emp, hle.trans (adz (cut G emp) emp), ?_, (hI.called (aes _) (fun _ _ h => by cases h) hb (aes _) (fun _ _ h => by cases h)).1⟩
 unfold join
 rw [agl hn]
 rfl
theorem SY.cur {o : Obj} (ha : ∀ j, Acts L0 R j → bs j ≠ bs 999) (hb : bs 999 = b) (hM : C.M b) (hh : w.heap[b]? = some o) (hk : Kp (sgl b o) w w') (h : SY C bs G0 L0 R w) : SY C bs G0 L0 R w' := by
 subst hb
 obtain ⟨G, hle, hn, hI⟩ := h
 have h1 := ((hI.more hh ha).called (Hc := sgl (bs 999) o) (h := emp) (aer (amd hn).symm) (fun b q hx => by
  by_cases hbb : b = bs 999
  ·subst hbb; exact hM
  ·rw [ako _ hbb] at hx; cases hx) hk (aes _) (fun _ _ h => by cases h)).1
 refine ⟨_, hle.trans ((ail (adz _ _) (amd hn).symm).trans (adz _ _)), ?_, h1⟩
 unfold join
 rw [aqt (aif _ _)]
 rfl
theorem SY.of (hy : YOk C bs L0 L R) (hle : Le G0 G) (hI : HInv C w G bs L R) : SY C bs G0 L0 R w := by
 obtain ⟨l, hl⟩ := hy.lab
 exact ⟨G, hle, (hI.loc 999 l hl).2.2, hI.sub hy.sub (Sub.refl _)⟩
def DY (C : Cx) (ops : Array Oper) (tl : List Nat) (s : List It) (bs : Nat → Nat) (G0 : GH) (L0 : Locs) (fuel : Nat) (listed : Array Bool) (env : Env) (L : Locs) (R : Rows) (Γ : Facts) : Prop :=
 YOk C bs L0 L R → Closed ops listed → ∀ a w G, Le G0 G → SatB C env L R Γ G bs a w → afk C.P ops (cont C s) (SY C bs G0 L0 R) tl fuel listed a w
theorem DY.take {C : Cx} {ops : Array Oper} {tl : List Nat} {s : List It} {bs : Nat → Nat} {G0 : GH} {L0 : Locs} {fuel : Nat} {listed : Array Bool} {env : Env} {L : Locs} {R : Rows} {Γ : Facts} {i d : Nat} {o : Oper} {sv : SV} {b : Bool} (hb : mayB ops tl listed i = true) (hi : ops[i]? = some o) (hd : o.dst = some d) (hlt : d < C.fn.ntmps)
  (hg : gd ops env o = some b) (hl : b = true → Looks C env L0 R G0 o sv) (hu : b = false → sv = .v undef)
  (k : DY C ops tl s bs G0 L0 fuel (listed.setIfInBounds i true) ((d, sv) :: env) L R Γ) : DY C ops tl s bs G0 L0 (fuel + 1) listed env L R Γ := by
 intro hy hcl a w G hle ⟨hA, hI, hΓ⟩
 simp only [mayB, mayP, Bool.and_eq_true, Bool.not_eq_true', List.all_eq_true, Bool.or_eq_true] at hb
 obtain ⟨⟨⟨⟨h1, h4⟩, h5⟩, h3⟩, h6⟩ := hb
 have hr : i ∈ Region.ready .any ops listed := by simpa using h5
 refine am4 hi h3 (Region.noSelect_spec h1) (fun c a w h => (agy C s c _ _ h).elim) fuel listed a w hcl (fun j hj hun => (h6 j hj).resolve_left (by rw [hun]; simp)) (Region.free_spec hi h4) hr (v := conc bs sv) ?_ (SY.of hy hle hI) ?_
 ·cases b with
  | true => exact .inl ⟨aee hA hg, fun w' ⟨G', hle', _, hI'⟩ => hl rfl a w' G' bs hle' hA hI'⟩
  | false => exact .inr ⟨aee hA hg, by rw [hu rfl]; rfl⟩
 ·rw [hd]
  exact k hy (hcl.set hr) _ _ G hle ⟨hA.put hlt sv, hI, hΓ⟩
theorem DY.takeP {C : Cx} {ops : Array Oper} {tl : List Nat} {s : List It} {bs : Nat → Nat} {G0 : GH} {L0 : Locs} {fuel : Nat} {listed : Array Bool} {env : Env} {L : Locs} {R : Rows} {Γ : Facts} {i d : Nat} {o : Oper} {sv : SV} {b : Bool} (hb : mayP ops listed i = true) (hi : ops[i]? = some o) (hd : o.dst = some d) (hlt : d < C.fn.ntmps)
  (hg : gd ops env o = some b) (hl : b = true → ∀ a w bs, At C.fn.ntmps env bs a → (execOp a.eval o).run C.P w = .ok (.value (conc bs sv)) w) (hu : b = false → sv = .v undef)
  (k : DY C ops tl s bs G0 L0 fuel (listed.setIfInBounds i true) ((d, sv) :: env) L R Γ) : DY C ops tl s bs G0 L0 (fuel + 1) listed env L R Γ := by
 intro hy hcl a w G hle ⟨hA, hI, hΓ⟩
 simp only [mayP, Bool.and_eq_true] at hb
 obtain ⟨⟨h1, h4⟩, h5⟩ := hb
 have hr : i ∈ Region.ready .any ops listed := by simpa using h5
 refine agn hi (Region.noSelect_spec h1) (fun c a w h => (agy C s c _ _ h).elim) fuel listed a w (Region.free_spec hi h4) hr (v := conc bs sv) ?_ ?_
 ·cases b with
  | true => exact .inl ⟨aee hA hg, fun w' _ => hl rfl a w' bs hA⟩
  | false => exact .inr ⟨aee hA hg, by rw [hu rfl]; rfl⟩
 ·rw [hd]
  exact k hy (hcl.set hr) _ _ G hle ⟨hA.put hlt sv, hI, hΓ⟩
theorem DY.takes {C : Cx} {ops : Array Oper} {tl : List Nat} {s : List It} {bs : Nat → Nat} {G0 : GH} {L0 : Locs} {L : Locs} {R : Rows} {Γ : Facts} (ht : aek C.P C.tt) : ∀ (is : List (Nat × Bool)) {fuel : Nat} {listed : Array Bool} {env env' : Env}, ajy ops tl listed is = true →
  ahf C.tt C.fn.ntmps ops L0 env is = some env' → DY C ops tl s bs G0 L0 fuel (apc listed is) env' L R Γ → DY C ops tl s bs G0 L0 (fuel + is.length) listed env L R Γ
 | [], _, _, _, _, _, h, k => by simp [ahf] at h; subst h; exact k
 | (i, p) :: r, fuel, listed, env, env', hb, h, k => by
  simp only [ajy, Bool.and_eq_true] at hb
  simp only [ahf] at h
  split at h
  ·rename_i o ho
   rw [aey] at ho
   have ho' : ops[i]? = some o := by simpa using ho
   split at h
   ·rename_i d hd
    split at h
    ·rename_i hlt
     have hlt' : d < C.fn.ntmps := by simpa [Nat.blt_eq] using hlt
     split at h
     ·rename_i hg
      split at h
      ·rename_i sv hsv
       cases p with
       | true => exact DY.takeP hb.1 ho' hd hlt' hg (fun _ a w bs' hA => aj2 ht w hA hsv) (fun h => by cases h) (DY.takes ht r hb.2 h k)
       | false => exact DY.take hb.1 ho' hd hlt' hg (fun _ a w G' bs' hle hA hI => ahc ht hA hI hsv) (fun h => by cases h) (DY.takes ht r hb.2 h k)
      ·cases h
     ·rename_i hg
      cases p with
      | true => exact DY.takeP hb.1 ho' hd hlt' hg (fun h => by cases h) (fun _ => rfl) (DY.takes ht r hb.2 h k)
      | false => exact DY.take hb.1 ho' hd hlt' hg (fun h => by cases h) (fun _ => rfl) (DY.takes ht r hb.2 h k)
     ·cases h
    ·cases h
   ·cases h
  ·cases h
def CurK (C : Cx) (S : World → Prop) : Prop := ∀ b w w' o, C.pin = some b → C.M b → w.heap[b]? = some o → Kp (sgl b o) w w' → S w → S w'
theorem DY.toTX (k : ∀ S, CurK C S → TX C ops tl s S fuel listed env L R Γ) : DY C ops tl s bs G0 L0 fuel listed env L R Γ :=
 fun hy _ a w G _ hS => k _ (fun b _ _ _ hp hM hh hk h => h.cur hy.act (hS.2.1.pin b hp) hM hh hk) (fun _ _ hb h => h.keep hb) a w ⟨G, bs, hS⟩
theorem TX.takeP {C : Cx} {ops : Array Oper} {tl : List Nat} {s : List It} {S : World → Prop} {fuel : Nat} {listed : Array Bool} {env : Env} {L : Locs} {R : Rows} {Γ : Facts} {i d : Nat} {o : Oper} {sv : SV} {b : Bool} (hb : mayP ops listed i = true) (hi : ops[i]? = some o) (hd : o.dst = some d) (hlt : d < C.fn.ntmps)
  (hg : gd ops env o = some b) (hl : b = true → ∀ a w bs, At C.fn.ntmps env bs a → (execOp a.eval o).run C.P w = .ok (.value (conc bs sv)) w) (hu : b = false → sv = .v undef)
  (k : TX C ops tl s S fuel (listed.setIfInBounds i true) ((d, sv) :: env) L R Γ) : TX C ops tl s S (fuel + 1) listed env L R Γ := by
 intro hS a w ⟨G, bs, hA, hI, hΓ⟩
 simp only [mayP, Bool.and_eq_true] at hb
 obtain ⟨⟨h1, h4⟩, h5⟩ := hb
 have hr : i ∈ Region.ready .any ops listed := by simpa using h5
 refine agn hi (Region.noSelect_spec h1) (fun c a w h => (agy C s c _ _ h).elim) fuel listed a w (Region.free_spec hi h4) hr (v := conc bs sv) ?_ ?_
 ·cases b with
  | true => exact .inl ⟨aee hA hg, fun w' _ => hl rfl a w' bs hA⟩
  | false => exact .inr ⟨aee hA hg, by rw [hu rfl]; rfl⟩
 ·rw [hd]
  exact k hS _ _ ⟨G, bs, hA.put hlt sv, hI, hΓ⟩
theorem TX.takes {C : Cx} {ops : Array Oper} {tl : List Nat} {s : List It} {S : World → Prop} {L : Locs} {R : Rows} {Γ : Facts} (ht : aek C.P C.tt) : ∀ (is : List Nat) {fuel : Nat} {listed : Array Bool} {env env' : Env}, ajy ops tl listed (is.map fun i => (i, true)) = true →
  ahf C.tt C.fn.ntmps ops [] env (is.map fun i => (i, true)) = some env' → TX C ops tl s S fuel (apc listed (is.map fun i => (i, true))) env' L R Γ → TX C ops tl s S (fuel + is.length) listed env L R Γ
 | [], _, _, _, _, _, h, k => by simp [ahf] at h; subst h; exact k
 | i :: r, fuel, listed, env, env', hb, h, k => by
  simp only [List.map_cons, ajy, Bool.and_eq_true] at hb
  simp only [List.map_cons, ahf] at h
  split at h
  ·rename_i o ho
   rw [aey] at ho
   have ho' : ops[i]? = some o := by simpa using ho
   split at h
   ·rename_i d hd
    split at h
    ·rename_i hlt
     have hlt' : d < C.fn.ntmps := by simpa [Nat.blt_eq] using hlt
     split at h
     ·rename_i hg
      split at h
      ·rename_i sv hsv
       exact TX.takeP hb.1 ho' hd hlt' hg (fun _ a w bs' hA => aj2 ht w hA hsv) (fun h => by cases h) (TX.takes ht r hb.2 h k)
      ·cases h
     ·rename_i hg
      exact TX.takeP hb.1 ho' hd hlt' hg (fun h => by cases h) (fun _ => rfl) (TX.takes ht r hb.2 h k)
     ·cases h
    ·cases h
   ·cases h
  ·cases h
theorem TX.seeP (i : Nat) (hb : mayP ops listed i = true) (hi : getO ops.toList i = some o) (hg : gd ops env o = some true) (hd : o.dst = some d) (hlt : Nat.blt d C.fn.ntmps = true)
  (hl : alh C env o sv) (k : TX C ops tl s S fuel (listed.setIfInBounds i true) ((d, sv) :: env) L R Γ) : TX C ops tl s S (fuel + 1) listed env L R Γ := by
 rw [aey] at hi
 exact TX.takeP hb (by simpa using hi) hd (by simpa [Nat.blt_eq] using hlt) hg (fun _ a w bs hA => hl a w bs hA) (fun h => by cases h) k
theorem TS.peek (i : Nat) (hi : getO ops.toList i = some o) (hg : gd ops env o = some true) (hd : o.dst = some d) (hlt : Nat.blt d C.fn.ntmps = true)
  (k : ∀ G, AllK C.M G Γ → ∃ sv Γ', Looks C env L R G o sv ∧ (AllK C.M G Γ → AllK C.M G Γ') ∧ TX C ops tl s S fuel (listed.setIfInBounds i true) ((d, sv) :: env) L R Γ') : TS C ops tl s S fuel listed env L R Γ i := by
 intro hS a w ⟨G, bs, hA, hI, hΓ⟩
 obtain ⟨sv, Γ', hl, hΓ', hk⟩ := k G hΓ
 rw [aey] at hi
 have hi' : ops[i]? = some o := by simpa using hi
 unfold wpOp
 simp only [hi']
 rw [if_pos (aee hA hg)]
 refine .inl ?_
 unfold Oper.wp
 rw [hl a w G bs (Le.refl _) hA hI]
 simp only [Oper.upon, hd]
 exact ⟨fun _ h => h, hk hS _ _ ⟨G, bs, hA.put (by simpa [Nat.blt_eq] using hlt) sv, hI, hΓ' hΓ⟩⟩
theorem TS.see (i : Nat) (hi : getO ops.toList i = some o) (hg : gd ops env o = some true) (hd : o.dst = some d) (hlt : Nat.blt d C.fn.ntmps = true)
  (hl : ∀ G, AllK C.M G Γ → Looks C env L R G o sv) (k : TX C ops tl s S fuel (listed.setIfInBounds i true) ((d, sv) :: env) L R Γ) : TS C ops tl s S fuel listed env L R Γ i :=
 TS.peek i hi hg hd hlt fun G hΓ => ⟨sv, Γ, hl G hΓ, fun h => h, k⟩
theorem WX.respL {L' : Locs} (h : L = L') (k : WX C s env L' R Γ) : WX C s env L R Γ := h ▸ k
end Go.Stp
