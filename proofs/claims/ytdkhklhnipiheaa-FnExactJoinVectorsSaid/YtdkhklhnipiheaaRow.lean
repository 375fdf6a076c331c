/-
  Slices of the call's own that may still be written: make, a literal, append, a store into an element, and the moment from which nobody writes them any more. No condition.
-/
import Derived.Test.YtdkhklhnipiheaaData
namespace Go.Stp
open GoT (X k ok sh fa oa)
/-! ### labels -/
def capsFree (ρ : Nat) : List (Nat × Nat) → Bool
  | [] => true
  | (i, _) :: r => (match Nat.beq i ρ with | true => false | false => capsFree ρ r)
def svFree (ρ : Nat) : SV → Bool
  | .p i _ => (match Nat.beq i ρ with | true => false | false => true)
  | .f _ caps => capsFree ρ caps
  | _ => true
def envFree (ρ : Nat) : Env → Bool
  | [] => true
  | (_, s) :: r => (match svFree ρ s with | true => envFree ρ r | false => false)
theorem capsFree_spec {ρ : Nat} : ∀ {l : List (Nat × Nat)}, capsFree ρ l = true → ∀ c ∈ l, c.1 ≠ ρ
  | (i, o) :: r, h, c, hc => by
    simp only [capsFree] at h
    split at h
    · cases h
    · rename_i hb
      rcases List.mem_cons.1 hc with rfl | hc
      · intro e; simp at e; subst e; simp at hb
      · exact capsFree_spec h c hc
theorem conc_free {bs bs' : Nat → Nat} {ρ : Nat} (h : ∀ i, i ≠ ρ → bs' i = bs i) {s : SV} (hs : svFree ρ s = true) : conc bs' s = conc bs s := by
  cases s with
  | p i off =>
    simp only [svFree] at hs
    split at hs
    · cases hs
    · rename_i hb; simp only [conc]; rw [h i (fun e => by subst e; simp at hb)]
  | f g caps =>
    simp only [svFree] at hs
    simp only [conc]
    congr 2
    exact List.map_congr_left fun c hc => by rw [h c.1 (capsFree_spec hs c hc)]
  | _ => rfl
theorem envFree_spec {ρ : Nat} : ∀ {env : Env}, envFree ρ env = true → ∀ {d : Nat} {s : SV}, look env d = some s → svFree ρ s = true
  | [], _, d, s, h => by simp [look] at h
  | (j, y) :: r, h, d, s, hl => by
    simp only [envFree] at h
    split at h
    · rename_i hy
      rw [look_cons] at hl
      split at hl
      · simp at hl; subst hl; exact hy
      · exact envFree_spec h hl
    · cases h
theorem At.free {n ρ : Nat} {env : Env} {bs bs' : Nat → Nat} {a : Act} (hA : At n env bs a) (hf : envFree ρ env = true) (h : ∀ i, i ≠ ρ → bs' i = bs i) : At n env bs' a :=
  ⟨hA.size, hA.dfr, fun d s hs => by rw [hA.slot d s hs, conc_free h (envFree_spec hf hs)]⟩
def setR (R : Rows) (i : Nat) (x : Row) : Rows :=
  match R with
  | [] => []
  | (j, l) :: r => match Nat.beq j i with | true => (j, x) :: r | false => (j, l) :: setR r i x
theorem look_setR : ∀ (R : Rows) (i : Nat) (x : Row) (j : Nat), look (setR R i x) j = if i = j then (look R j).map (fun _ => x) else look R j
  | [], i, x, j => by simp [setR, look]
  | (m, l) :: r, i, x, j => by
    simp only [setR]
    cases hb : Nat.beq m i with
    | true =>
      have := Nat.eq_of_beq_eq_true hb
      subst this
      simp only [look_cons]
      by_cases h : m = j <;> simp [h]
    | false =>
      have hne : m ≠ i := fun e => by subst e; simp at hb
      simp only [look_cons, look_setR r i x j]
      by_cases h : m = j
      · subst h; rw [if_pos rfl, if_neg (Ne.symm hne), if_pos rfl]
      · simp [h]
def setRO (R : Rows) (i : Nat) (x : Row) : Option Rows :=
  match R with
  | [] => some []
  | (j, l) :: r => match Nat.beq j i with
    | true => some ((j, x) :: r)
    | false => (match setRO r i x with | some q => some ((j, l) :: q) | none => none)
theorem setRO_eq : ∀ {R : Rows} {i : Nat} {x : Row} {R' : Rows}, setRO R i x = some R' → R' = setR R i x
  | [], i, x, R', h => by simp [setRO] at h; subst h; rfl
  | (j, l) :: r, i, x, R', h => by
    simp only [setRO] at h
    simp only [setR]
    split at h
    · simp at h; subst h; rfl
    · split at h
      · rename_i q hq; simp at h; subst h; rw [setRO_eq hq]
      · cases h
def delRO (R : Rows) (i : Nat) : Option Rows :=
  match R with
  | [] => some []
  | (j, l) :: r => match Nat.beq j i with
    | true => delRO r i
    | false => (match delRO r i with | some q => some ((j, l) :: q) | none => none)
theorem delRO_sub : ∀ {R : Rows} {i : Nat} {R' : Rows}, delRO R i = some R' → Sub R' R ∧ ∀ x, look R' i ≠ some x
  | [], i, R', h => by simp [delRO] at h; subst h; exact ⟨Sub.refl _, by simp [look]⟩
  | (j, l) :: r, i, R', h => by
    simp only [delRO] at h
    split at h
    · rename_i hb
      have hji := Nat.eq_of_beq_eq_true hb
      obtain ⟨h1, h2⟩ := delRO_sub h
      refine ⟨fun a x hx => ?_, h2⟩
      rw [look_cons]
      split
      · rename_i e; subst e; subst hji; exact absurd hx (h2 x)
      · exact h1 a x hx
    · rename_i hb
      have hne : j ≠ i := fun e => by subst e; simp at hb
      split at h
      · rename_i q hq
        simp at h; subst h
        obtain ⟨h1, h2⟩ := delRO_sub hq
        refine ⟨fun a x hx => ?_, fun x hx => ?_⟩
        · rw [look_cons] at hx ⊢
          split at hx
          · rename_i e; rw [if_pos e]; exact hx
          · rename_i e; rw [if_neg e]; exact h1 a x hx
        · rw [look_cons, if_neg hne] at hx; exact h2 x hx
      · cases h

/-! ### the world behind a step that writes one row, or makes one -/
structure Only (w w' : World) (b : Nat) (act : Prop) : Prop where
  os : w'.os = w.os
  tape : w'.tape = w.tape
  output : w'.output = w.output
  size : w.heap.size ≤ w'.heap.size
  block : ∀ j, j < w.heap.size → (act → j ≠ b) → w'.heap[j]? = w.heap[j]?
theorem HInv.lt {C : Cx} {w : World} {G : GH} {bs : Nat → Nat} {L : Locs} {R : Rows} (hI : HInv C w G bs L R) {i : Nat} (h : Acts L R i) : bs i < w.heap.size := by
  rcases h with ⟨x, hx⟩ | ⟨r, hr, hc⟩
  · exact (Array.getElem?_eq_some_iff.1 (hI.loc i x hx).1).1
  · rcases (hI.row i r hr).2 with ⟨h0, _⟩ | ⟨_, _, _, _, _, _, cur, T, hh, _⟩
    · exact absurd h0 hc
    · exact (Array.getElem?_eq_some_iff.1 hh).1
/-- row ρ (or a new one) is now r', in block b', which is its own or a new one -/
theorem HInv.upd {C : Cx} {w w' : World} {G : GH} {bs : Nat → Nat} {L : Locs} {R R' : Rows} (hI : HInv C w G bs L R) {ρ b' : Nat} (h999 : ρ ≠ 999) {r' : Row} (act : Prop) (hact : act → Acts L R ρ ∧ C.M (bs ρ) ∧ G (bs ρ) = none)
    (ho : Only w w' (bs ρ) act) (hnew : b' = bs ρ ∧ act ∨ w.heap.size ≤ b' ∨ r'.c = 0) (hlook : ∀ j, look R' j = if ρ = j then some r' else look R j) (hL : ∀ l, look L ρ ≠ some l) (hr : RowOk C.M w' G b' r') :
    HInv C w' G (fun j => if j = ρ then b' else bs j) L R' := by
  have hB := hI.keep.size
  refine ⟨⟨ho.os.trans hI.keep.os, ho.tape.trans hI.keep.tape, ho.output.trans hI.keep.output, Nat.le_trans hB ho.size, fun j hj hn => ?_⟩, fun b o hb => ?_, fun i l hl => ?_, fun i r hri => ?_, fun i j hij hi hj => ?_, fun i l r hl hri => ?_, fun b hb => by simp only [if_neg (Ne.symm h999)]; exact hI.pin b hb, fun r hr' => by rw [hlook, if_neg h999] at hr'; exact hI.nr r hr'⟩
  · rw [ho.block j (by omega) (fun a e => by subst e; rcases (hact a).2.1 with h | h <;> first | omega | exact h hn)]; exact hI.keep.block j hj hn
  · show w'.heap[b]? = _
    rw [ho.block b (hI.le.lt hb) (fun a e => by subst e; rw [(hact a).2.2] at hb; cases hb)]; exact hI.le b o hb
  · have hne : i ≠ ρ := fun e => by subst e; exact hL l hl
    obtain ⟨h1, h2, h3⟩ := hI.loc i l hl
    simp only [if_neg hne]
    exact ⟨by rw [ho.block _ (Array.getElem?_eq_some_iff.1 h1).1 (fun a => hI.inj i ρ hne (.inl ⟨l, hl⟩) (hact a).1)]; exact h1, h2, h3⟩
  · rw [hlook] at hri
    by_cases he : ρ = i
    · subst he; rw [if_pos rfl] at hri; simp at hri; subst hri; simpa using hr
    · rw [if_neg he] at hri
      simp only [if_neg (Ne.symm he)]
      obtain ⟨h1, h2⟩ := hI.row i r hri
      refine ⟨h1, ?_⟩
      rcases h2 with h2 | ⟨o1, k1, k2, k3, k4, k5, cur, T, hh, rest⟩
      · exact .inl h2
      · by_cases hc : r.c = 0
        · exact .inl ⟨hc, by omega⟩
        · exact .inr ⟨o1, k1, k2, k3, k4, k5, cur, T, by rw [ho.block _ (Array.getElem?_eq_some_iff.1 hh).1 (fun a => hI.inj i ρ (Ne.symm he) (.inr ⟨r, hri, hc⟩) (hact a).1)]; exact hh, rest⟩
  · have hold : ∀ i, i ≠ ρ → Acts L R' i → Acts L R i := by
      intro i hne h
      rcases h with h | ⟨r, hr', hc⟩
      · exact .inl h
      · rw [hlook, if_neg (Ne.symm hne)] at hr'; exact .inr ⟨r, hr', hc⟩
    have hpos : Acts L R' ρ → r'.c ≠ 0 := by
      intro h
      rcases h with ⟨l, hl⟩ | ⟨r, hr', hc⟩
      · exact absurd hl (hL l)
      · rw [hlook, if_pos rfl] at hr'; simp at hr'; subst hr'; exact hc
    have key : ∀ i, i ≠ ρ → Acts L R' i → Acts L R' ρ → bs i ≠ b' := by
      intro i hne h hρ
      have hi' := hold i hne h
      rcases hnew with ⟨rfl, a⟩ | hn | hn
      · exact hI.inj i ρ hne hi' (hact a).1
      · have := hI.lt hi'; omega
      · exact absurd hn (hpos hρ)
    by_cases h1 : i = ρ <;> by_cases h2 : j = ρ
    · omega
    · subst h1; simp only [if_true, if_neg h2]; exact Ne.symm (key j h2 hj hi)
    · subst h2; simp only [if_true, if_neg h1]; exact key i h1 hi hj
    · simp only [if_neg h1, if_neg h2]; exact hI.inj i j hij (hold i h1 hi) (hold j h2 hj)
  · by_cases he : ρ = i
    · subst he; exact hL l hl
    · rw [hlook, if_neg he] at hri; exact hI.dis i l r hl hri
theorem only_alloc (w : World) (o : Obj) (b : Nat) (act : Prop) : Only w (w.alloc o) b act := ⟨rfl, rfl, rfl, by simp, fun j hj _ => heap_alloc_old w o j hj⟩
theorem only_refl (w : World) (b : Nat) (act : Prop) : Only w w b act := ⟨rfl, rfl, rfl, Nat.le_refl _, fun _ _ _ => rfl⟩
theorem Le.new {G : GH} {w : World} (h : Le G (hp w)) : G w.heap.size = none := by
  cases hg : G w.heap.size with
  | none => rfl
  | some o => exact absurd (h.lt hg) (by omega)

/-! ### append -/
theorem run_append_row {P : Program} {tt : TT} (ht : TabOk P tt) {T E : Nat} {ti te : TI} (hT : look tt T = some ti) (hd : ti.desc = .slice E) (hE : look tt E = some te) (hpos : 0 < te.size)
    {M : Nat → Prop} {w : World} {G : GH} {b : Nat} {r : Row} (hr : RowOk M w G b r) (hk : r.k = te.size) (hBw : M w.heap.size) (hG : Le G (hp w)) {tx ty : Nat} {x : Value} {m : Nat} {news : List Value} (hs : Src P te.size tx x m news w)
    (h63 : r.n + m ≤ maxLen) (hby : (r.n + m) * te.bytes ≤ 140737488355328) (hz : te.zero.cells.size = te.size) :
    ∃ p' c' w' b', (Builtin.append_ #[T, tx] ty #[.slice r.p r.n r.c, x]).run P w = .ok (.slice p' (r.n + m) c') w' ∧ RowOk M w' G b' ⟨r.k, p', r.n + m, c', r.xs ++ news⟩ ∧ Only w w' b (r.c ≠ 0) ∧ (b' = b ∧ r.c ≠ 0 ∨ w.heap.size ≤ b' ∨ c' = 0) := by
  obtain ⟨hu, _⟩ := ht.get hT
  obtain ⟨_, i, hi, hz0, hsz, hbz⟩ := ht.get hE
  rw [hd] at hu
  have hsi : i.size = te.size := hsz
  have hlen : (r.xs ++ news).length = (r.n + m) * r.k := by rw [List.length_append, hr.1, hs.newsLen, hk, Nat.add_mul]
  have hs' : Src P i.size tx x m news w := hsi ▸ hs
  have hsm : r.n + m ≤ 9223372036854775807 := by simp only [maxLen] at h63; omega
  have grown : ∀ (base : Option Addr) (sLen sCap : Nat) (olds : List Value), sLen = r.n → sCap < sLen + m → olds = r.xs → (Builtin.firstCells i.size sLen (.slice base sLen sCap)).run P w.drew = .ok olds.toArray w.drew →
      ∃ p' c' w' b', (Builtin.append_ #[T, tx] ty #[.slice base sLen sCap, x]).run P w = .ok (.slice p' (r.n + m) c') w' ∧ RowOk M w' G b' ⟨r.k, p', r.n + m, c', r.xs ++ news⟩ ∧ Only w w' b (r.c ≠ 0) ∧ (b' = b ∧ r.c ≠ 0 ∨ w.heap.size ≤ b' ∨ c' = 0) := by
    intro base sLen sCap olds h1 h2 h3 h4
    subst h1; subst h3
    have hrun := run_append_grow_src (P := P) w T tx ty E i te.zero hu hi hz0 base r.n sCap r.xs h4 x m news hs' h2 (by omega) (growslice_fits (by omega) (by rw [hbz]; exact hby))
    refine ⟨_, _, _, w.heap.size, hrun, ⟨hlen, .inr ⟨0, rfl, hBw, hG.new, grownCap_ge _ _ _ _, grownCap_le_maxLen w _ _ _ h63, _, E, heap_alloc_new w.drew _, ?_, ?_⟩⟩, ⟨rfl, rfl, rfl, by simp, fun j hj _ => heap_alloc_old w.drew _ j hj⟩, .inr (.inl (Nat.le_refl _))⟩
    · have hge := grownCap_ge w (r.n + m) sCap E
      simp only [Array.size_append, List.size_toArray, size_zeroCells, hz, hlen, hk, ← Nat.add_mul, Nat.zero_add]
      exact Nat.mul_le_mul_right _ (by omega)
    · simp only [Array.toList_append, ← hlen, List.drop_zero]
      exact List.take_left
  rcases hr.2 with ⟨hc, hn⟩ | ⟨o1, hp, hB, hGb, hnc, hcm, cur, T', hh, hcs, htk⟩
  · have hx : r.xs = [] := List.eq_nil_of_length_eq_zero (by rw [hr.1, hn]; simp)
    by_cases hm : m = 0
    · subst hm
      have hnews : news = [] := List.eq_nil_of_length_eq_zero (by rw [hs.newsLen]; simp)
      subst hnews
      refine ⟨r.p, 0, w, b, ?_, ⟨by simp [hx, hn], .inl ⟨rfl, by simp [hn]⟩⟩, only_refl w b _, .inr (.inr rfl)⟩
      rcases hs.kind with ⟨e', hk'⟩ | hk' <;> cases hpp : r.p <;>
        simp [Builtin.append_, run_underlying hu, run_underlying hk', sizeOf, typeInfo, hi, hs'.len, hs'.cells, hn, hc, storeCells]
    · have := grown r.p 0 0 [] hn.symm (by omega) hx.symm (by cases hpp : r.p <;> simp [Builtin.firstCells, loadCells, loadCellsFrom])
      rw [hn, hc]
      rw [hn, hc] at this
      exact this
  · by_cases hroom : r.n + m ≤ r.c
    · have hfit : o1 + r.n * te.size + news.length ≤ cur.size := by have : (r.n + m) * te.size ≤ r.c * te.size := Nat.mul_le_mul_right _ hroom; rw [hk] at hcs; rw [hs.newsLen]; rw [Nat.add_mul] at this; omega
      have hst := run_storeCells_at P b (o1 + r.n * te.size) T' news 0 cur w hh (by simpa using hfit) hs.one
      simp only [Nat.add_zero] at hst
      by_cases hc0 : r.c = 0
      · have hn0 : r.n = 0 := by omega
        have hm0 : m = 0 := by omega
        subst hm0
        have hnews : news = [] := List.eq_nil_of_length_eq_zero (by rw [hs.newsLen]; simp)
        subst hnews
        have hx : r.xs = [] := List.eq_nil_of_length_eq_zero (by rw [hr.1, hn0]; simp)
        refine ⟨r.p, 0, w, b, ?_, ⟨by simp [hx, hn0], .inl ⟨rfl, by simp [hn0]⟩⟩, only_refl w b _, .inr (.inr rfl)⟩
        rcases hs.kind with ⟨e', hk'⟩ | hk' <;>
          simp [Builtin.append_, run_underlying hu, run_underlying hk', sizeOf, typeInfo, hi, hs'.len, hs'.cells, hn0, hc0, hp, storeCells]
      · refine ⟨r.p, r.c, w.setRow b (cur.toList.take (o1 + r.n * te.size) ++ news ++ cur.toList.drop (o1 + r.n * te.size + news.length)).toArray, b, ?_, ⟨hlen, .inr ⟨o1, hp, hB, hGb, hroom, hcm, _, T', setRow_heap w b cur _ T' _ hh, ?_, ?_⟩⟩, ⟨rfl, rfl, rfl, by simp [World.setRow], fun j hj hne => setRow_other w b j _ (hne hc0)⟩, .inl ⟨rfl, hc0⟩⟩
        · rcases hs.kind with ⟨e', hk'⟩ | hk' <;>
            simp [Builtin.append_, run_underlying hu, run_underlying hk', sizeOf, typeInfo, hi, hs.len, hs.cells, hroom, hp, hsi, Addr.add_lit, hst]
        · simp only [List.size_toArray, List.length_append, List.length_take, List.length_drop, Array.length_toList]
          omega
        · rw [hk] at htk
          have h1 : (cur.toList.take (o1 + r.n * te.size) ++ news ++ cur.toList.drop (o1 + r.n * te.size + news.length)).drop o1 = r.xs ++ (news ++ cur.toList.drop (o1 + r.n * te.size + news.length)) := by
            rw [List.append_assoc, List.drop_append_of_le_length (by simp; omega), ← htk, List.drop_take]
            congr 2; omega
          simp only [h1, ← List.append_assoc]
          rw [← hlen]
          exact List.take_left
    · rw [hp]
      refine grown (some ⟨b, o1, none⟩) r.n r.c r.xs rfl (by omega) rfl ?_
      have := run_firstCells_some (P := P) w.drew i.size r.n ⟨b, o1, none⟩ r.n r.c r.xs (by rw [hr.1, hk, hsi]) (fun j u hj => by
        rw [Addr.add_lit]
        show w.cell? _ = _
        rw [cell_of_row w b _ cur T' _ hh]
        rw [← htk, List.getElem?_take, List.getElem?_drop] at hj
        split at hj
        · simpa using hj
        · cases hj)
      exact this

/-- what append needs of the table -/
def appO (tt : TT) (T : Nat) : Option (Nat × Nat × Value) :=
  match look tt T with
  | some ti => (match ti.desc with
    | .slice e => (match look tt e with
      | some ⟨_, sE, bE, zE⟩ => (match sE with
        | 0 => none
        | n + 1 => some (n + 1, bE, zE))
      | none => none)
    | _ => none)
  | none => none
theorem appO_some {tt : TT} {T kk by_ : Nat} {z : Value} (h : appO tt T = some (kk, by_, z)) : ∃ ti e te, look tt T = some ti ∧ ti.desc = .slice e ∧ look tt e = some te ∧ te.size = kk ∧ te.bytes = by_ ∧ te.zero = z ∧ 0 < te.size := by
  unfold appO at h
  split at h
  · rename_i ti hT
    split at h
    · rename_i e hd
      split at h
      · rename_i dE sE bE zE hE
        split at h
        · cases h
        · rename_i n
          simp only [Option.some.injEq, Prod.mk.injEq] at h
          exact ⟨ti, e, _, hT, hd, hE, h.1, h.2.1, h.2.2, by simp⟩
      · cases h
    · cases h
  · cases h
/-- append(s, x): s is row ρ; what x yields is shown by the caller -/
theorem WX.appX {C : Cx} {ops : Array Oper} {o : Oper} {r : List Oper} {s : List It} {env : Env} {L : Locs} {R : Rows} {Γ : Facts} {d : Nat} {x y : Operand} {T tx kk by_ : Nat} {z : Value} {sv : SV} {row : Row} (ρ m : Nat) {ι : Type} (news : ι → List Value) (Γ' : ι → Facts) (ht : TabOk C.P C.tt)
    (hg : gd ops env o = some true) (hd : o.dst = some d) (hlt : Nat.blt d C.fn.ntmps = true) (ho : o.op = .call { callee := .builtin .append, args := #[x, y], argTypes := #[T, tx] })
    (hx : ev env x = some (.v (.slice row.p row.n row.c))) (hy : ev env y = some sv) (hap : appO C.tt T = some (kk, by_, z)) (hz : z.cells.size = kk) (hρ : look R ρ = some row) (hkk : row.k = kk) (hfree : envFree ρ env = true)
    (hsrc : ∀ w G bs, HInv C w G bs L R → AllK C.M G Γ → ∃ i, Src C.P kk tx (conc bs sv) m (news i) w ∧ AllK C.M G (Γ' i))
    (hroom : (row.n + m) * by_ ≤ 140737488355328) (hmax : row.n + m ≤ maxLen)
    (k : ∀ i p' c', WX C (.ops ops r :: s) ((d, .v (.slice p' (row.n + m) c')) :: env) L (setR R ρ ⟨row.k, p', row.n + m, c', row.xs ++ news i⟩) (Γ' i)) : WX C (.ops ops (o :: r) :: s) env L R Γ := by
  rintro a w ⟨G, bs, hA, hI, hΓ⟩
  show wpList C.P ops (cont C s) (o :: r) a w
  unfold wpList
  rw [if_pos (gd_sound hA hg)]
  refine .inl ?_
  unfold Oper.wp
  obtain ⟨i, hs, hΓ'⟩ := hsrc w G bs hI hΓ
  obtain ⟨ti, e, te, hT, hde, hE, rfl, rfl, rfl, hpos⟩ := appO_some hap
  obtain ⟨p', c', w', b', hrun, hrow, honly, hnew⟩ := run_append_row (ty := o.type) ht hT hde hE hpos (hI.row ρ row hρ) hkk (.inl hI.keep.size) hI.le hs hmax hroom hz
  have hexec : (execOp a.eval o).run C.P w = .ok (.value (.slice p' (row.n + m) c')) w' := by
    unfold execOp
    simp only [ho, resolve, invoke, builtin, Sem.run_bind, Sem.run_pure, Result.andThen_ok, List.map_toArray, List.map_cons, List.map_nil, ev_conc hA hx, ev_conc hA hy, conc_v, hrun]
  rw [hexec]
  simp only [Oper.upon, hd]
  have hLρ : ∀ l, look L ρ ≠ some l := fun l hl => hI.dis ρ l row hl hρ
  have h999 : ρ ≠ 999 := fun e => by subst e; exact hI.nr row hρ
  have hI' := hI.upd (ρ := ρ) h999 (R' := setR R ρ ⟨row.k, p', row.n + m, c', row.xs ++ news i⟩) (row.c ≠ 0)
    (fun hc => ⟨.inr ⟨row, hρ, hc⟩, by
      rcases (hI.row ρ row hρ).2 with ⟨h0, _⟩ | ⟨_, _, h1, h2, _⟩
      · exact absurd h0 hc
      · exact ⟨h1, h2⟩⟩) honly hnew (fun j => by rw [look_setR]; split
                                                 · rename_i e; subst e; rw [hρ]; rfl
                                                 · rfl) hLρ hrow
  refine k i p' c' _ _ ⟨G, _, ?_, hI', hΓ'⟩
  have := (hA.free (bs' := fun j => if j = ρ then b' else bs j) hfree (fun j hj => if_neg hj)).put (d := d) (by simpa [Nat.blt_eq] using hlt) (.v (.slice p' (row.n + m) c'))
  exact this
/-- x is a row of the call's own, too -/
theorem WX.appR {C : Cx} {ops : Array Oper} {o : Oper} {r : List Oper} {s : List It} {env : Env} {L : Locs} {R : Rows} {Γ : Facts} {d : Nat} {x y : Operand} {T kk by_ : Nat} {z : Value} {row src : Row} (ρ σ : Nat) {R' : Option Addr → Nat → Rows} (ht : TabOk C.P C.tt)
    (hg : gd ops env o = some true) (hd : o.dst = some d) (hlt : Nat.blt d C.fn.ntmps = true) (ho : o.op = .call { callee := .builtin .append, args := #[x, y], argTypes := #[T, T] })
    (hx : ev env x = some (.v (.slice row.p row.n row.c))) (hy : ev env y = some (.v (.slice src.p src.n src.c))) (hap : appO C.tt T = some (kk, by_, z)) (hz : z.cells.size = kk) (hρ : look R ρ = some row) (hσ : look R σ = some src) (hkk : row.k = kk) (hks : src.k = kk) (hfree : envFree ρ env = true)
    (hone : ∀ u ∈ src.xs, u.oneCell' = true) (hroom : (row.n + src.n) * by_ ≤ 140737488355328) (hmax : row.n + src.n ≤ maxLen)
    (hR : ∀ p' c', setRO R ρ ⟨row.k, p', row.n + src.n, c', row.xs ++ src.xs⟩ = some (R' p' c'))
    (k : ∀ p' c', WX C (.ops ops r :: s) ((d, .v (.slice p' (row.n + src.n) c')) :: env) L (R' p' c') Γ) : WX C (.ops ops (o :: r) :: s) env L R Γ := by
  refine WX.appX (ι := Unit) ρ src.n (fun _ => src.xs) (fun _ => Γ) ht hg hd hlt ho hx hy hap hz hρ hkk hfree (fun w G bs hI hΓ => ⟨(), ?_, hΓ⟩) hroom hmax (fun _ p' c' => by rw [← setRO_eq (hR p' c')]; exact k p' c')
  obtain ⟨ti, e, te, hT, hde, hE, rfl, _⟩ := appO_some hap
  obtain ⟨hu, _⟩ := ht.get hT
  rw [hde] at hu
  obtain ⟨h1, h2⟩ := hI.row σ src hσ
  rcases h2 with ⟨hc, hn⟩ | ⟨o1, hp, _, _, _, _, cur, T', hh, _, htk⟩
  · have hx0 : src.xs = [] := List.eq_nil_of_length_eq_zero (by rw [h1, hn]; simp)
    rw [hx0, hn, hc]
    simp only [conc]
    cases hpp : src.p with
    | none => exact Src.ofNil w hu 0
    | some ad => exact Src.ofSlice w hu ad 0 0 [] (by simp) (fun j u h => by simp at h) (fun u h => by cases h)
  · simp only [conc, hp]
    refine Src.ofSlice w hu _ src.n src.c src.xs (by rw [h1, hks]) (fun j u hj => ?_) hone
    rw [Addr.add_lit, cell_of_row w _ _ cur T' _ hh]
    rw [← htk, List.getElem?_take, List.getElem?_drop] at hj
    split at hj
    · simpa using hj
    · cases hj
theorem RdL.one {α : Type} [GoT α] {G : GH} : ∀ {xs : List Value} {l : List α}, RdL G xs l → ∀ u ∈ xs, u.oneCell' = true
  | xs, [], h, u, hu => by simp [RdL] at h; subst h; cases hu
  | xs, a :: l, ⟨x, ys, h1, _, h3⟩, u, hu => by
    subst h1
    rcases List.mem_append.1 hu with hu | hu
    · exact GoT.one _ _ u hu
    · exact h3.one u hu
/-- x is a slice that is read (fact ℓ); fact n: its cells -/
theorem WX.appG {C : Cx} {ops : Array Oper} {o : Oper} {r : List Oper} {s : List It} {env : Env} {L : Locs} {R : Rows} {Γ : Facts} {d : Nat} {x y : Operand} {T by_ q c : Nat} {z : Value} {row : Row} {α : Type} [GoT α] {kd : Kd} {p : Option Addr} {l : List α} (ρ ℓ n : Nat) {R' : List Value → Option Addr → Nat → Rows} (ht : TabOk C.P C.tt)
    (hg : gd ops env o = some true) (hd : o.dst = some d) (hlt : Nat.blt d C.fn.ntmps = true) (ho : o.op = .call { callee := .builtin .append, args := #[x, y], argTypes := #[T, T] })
    (hx : ev env x = some (.v (.slice row.p row.n row.c))) (hy : ev env y = some (.v (.slice p q c))) (hq : q = l.length) (hap : appO C.tt T = some (GoT.k α, by_, z)) (hz : z.cells.size = GoT.k α) (hρ : look R ρ = some row) (hkk : row.k = GoT.k α) (hfree : envFree ρ env = true)
    (hℓ : look Γ ℓ = some (MF.rs kd p c l)) (hroom : (row.n + l.length) * by_ ≤ 140737488355328) (hmax : row.n + l.length ≤ maxLen)
    (hR : ∀ xs p' c', setRO R ρ ⟨row.k, p', row.n + l.length, c', row.xs ++ xs⟩ = some (R' xs p' c'))
    (k : ∀ xs p' c', WX C (.ops ops r :: s) ((d, .v (.slice p' (row.n + l.length) c')) :: env) L (R' xs p' c') ((n, MF.rl .der xs l) :: Γ)) : WX C (.ops ops (o :: r) :: s) env L R Γ := by
  subst hq
  refine WX.appX (ι := List Value) ρ l.length (fun xs => xs) (fun xs => (n, MF.rl .der xs l) :: Γ) ht hg hd hlt ho hx hy hap hz hρ hkk hfree (fun w G bs hI hΓ => ?_) hroom hmax (fun xs p' c' => by rw [← setRO_eq (hR xs p' c')]; exact k xs p' c')
  obtain ⟨ti, e, te, hT, hde, hE, hks, _⟩ := appO_some hap
  obtain ⟨hu, _⟩ := ht.get hT
  rw [hde] at hu
  obtain ⟨h1, h2, xs, h4, h5⟩ := (hΓ.get ℓ hℓ : RdSl G p c l)
  refine ⟨xs, ?_, hΓ.der n _ rfl h5⟩
  simp only [conc]
  cases hl : l with
  | nil =>
    subst hl
    have hxs : xs = [] := h5
    subst hxs
    cases hp : p with
    | none => exact Src.ofNil w hu c
    | some ad => exact Src.ofSlice w hu ad 0 c [] (by simp) (fun j u h => by simp at h) (fun u h => by cases h)
  | cons a l' =>
    have hlen := h5.len
    have hpos := GoT.pos (α := α)
    obtain ⟨u, hu0⟩ : ∃ u, xs[0]? = some u := ⟨_, List.getElem?_eq_getElem (by rw [hlen, hl]; simp only [List.length_cons, Nat.add_mul]; omega)⟩
    obtain ⟨ad, had, _⟩ := h4 0 u hu0
    subst had
    rw [← hl]
    exact Src.ofSlice w hu ad l.length c xs hlen (fun j u hj => by
      obtain ⟨ad', h', hg'⟩ := h4 j u hj
      simp at h'; subst h'
      exact hI.le.cell hg') h5.one

/-! ### facts that follow -/
/-- .. from the others, as long as none is written -/
theorem WX.der {C : Cx} {s : List It} {env : Env} {L : Locs} {R : Rows} {Γ : Facts} (n : Nat) (f : MF) (hk : f.k = .der) (h : ∀ G, AllK C.M G Γ → f.p G) (k : WX C s env L R ((n, f) :: Γ)) : WX C s env L R Γ := by
  rintro a w ⟨G, bs, hA, hI, hΓ⟩
  exact k a w ⟨G, bs, hA, hI, hΓ.der n f hk (h G hΓ)⟩
/-- .. from one of memory that nobody writes -/
theorem WX.stb {C : Cx} {s : List It} {env : Env} {L : Locs} {R : Rows} {Γ : Facts} {g : MF} (n : Nat) (f : MF) (hk : f.k = .stb) (i : Nat) (hi : look Γ i = some g) (hg : g.k = .stb) (h : ∀ G, g.p G → f.p G) (k : WX C s env L R ((n, f) :: Γ)) : WX C s env L R Γ := by
  rintro a w ⟨G, bs, hA, hI, hΓ⟩
  exact k a w ⟨G, bs, hA, hI, hΓ.stbOf n f hk i hi hg h⟩
/-- what a fact says besides memory -/
theorem WX.know {C : Cx} {s : List It} {env : Env} {L : Locs} {R : Rows} {Γ : Facts} {Q : Prop} (h : ∀ G, AllK C.M G Γ → Q) (k : Q → WX C s env L R Γ) : WX C s env L R Γ := by
  rintro a w ⟨G, bs, hA, hI, hΓ⟩
  exact k (h G hΓ) a w ⟨G, bs, hA, hI, hΓ⟩
theorem cut_join {G H : GH} (h : Le H G) : join (cut G H) H = G := by
  funext b
  unfold join cut
  cases hx : H b with
  | none => cases G b <;> rfl
  | some o => rw [h b o hx]
/-- memory of one's own, told otherwise: the facts ks become gs -/
theorem WX.shift {C : Cx} {s : List It} {env : Env} {L : Locs} {R : Rows} {Γ Γ1 : Facts} {fs : List MF} {ι : Type} {gs : ι → List MF} {Q : ι → Prop} {Γ' : ι → Facts} (ks : List Nat) (n : Nat) (hks : giveK ks Γ = some (fs, Γ1)) (h : ∀ h, Sep h fs → ∃ i, Q i ∧ Sep h (gs i)) (hΓ' : ∀ i, addF n (gs i) Γ1 = some (Γ' i))
    (k : ∀ i, Q i → WX C s env L R (Γ' i)) : WX C s env L R Γ := by
  rintro a w ⟨G, bs, hA, hI, hΓ⟩
  obtain ⟨H, q1, q2, q3, q4⟩ := giveK_spec hks hΓ
  obtain ⟨i, hq, hs⟩ := h H q3
  refine k i hq a w ⟨G, bs, hA, hI, ?_⟩
  have := AllK.newSep n q4 (cut_dj G H).symm q2 hs
  rw [cut_join q1, ← addF_eq (hΓ' i)] at this
  exact this
/-- .. with one outcome, and none of the others touched: what follows from them stays -/
theorem WX.turn {C : Cx} {s : List It} {env : Env} {L : Locs} {R : Rows} {Γ Γ1 : Facts} {fs gs : List MF} {Γ' : Facts} (ks : List Nat) (n : Nat) (hks : giveK ks Γ = some (fs, Γ1)) (h : ∀ h, Sep h fs → Sep h gs) (hΓ' : addF n gs Γ1 = some Γ')
    (k : WX C s env L R Γ') : WX C s env L R Γ :=
  WX.shift (ι := Unit) (gs := fun _ => gs) (Q := fun _ => True) (Γ' := fun _ => Γ') ks n hks (fun H hs => ⟨(), trivial, h H hs⟩) (fun _ => hΓ') (fun _ _ => k)
section
variable {α : Type} [GoT α]
theorem OwL.snoc {a : α} {x : X α} {ha : GH} (hs : Sep ha (oa a x)) : ∀ {h h' : GH} {xs : List Value} {l : List α}, OwL h xs l → Le h h' → Le ha h' → Dj h ha → OwL h' (xs ++ sh a x) (l ++ [a])
  | h, h', xs, [], e, h1, h2, h3 => by
    have : xs = [] := e
    subst this
    exact ⟨x, [], ha, emp, by simp, h2, emp_le _, (emp_dj _).symm, hs, rfl⟩
  | h, h', xs, b :: l, ⟨y, ys, q1, q2, e, r1, r2, r3, r4, r5⟩, h1, h2, h3 =>
    ⟨y, ys ++ sh a x, q1, join q2 ha, by rw [e, List.append_assoc], r1.trans h1, join_le (r2.trans h1) h2, (join_dj r3.symm ((h3.mono r1 (Le.refl _)).symm)).symm, r4,
      OwL.snoc hs r5 (le_join_l _ _) (le_join_r (h3.mono r2 (Le.refl _))) (h3.mono r2 (Le.refl _))⟩
theorem OwL.append {m : List α} {ys : List Value} {ha : GH} (hs : OwL ha ys m) : ∀ {h h' : GH} {xs : List Value} {l : List α}, OwL h xs l → Le h h' → Le ha h' → Dj h ha → OwL h' (xs ++ ys) (l ++ m)
  | h, h', xs, [], e, h1, h2, h3 => by
    have : xs = [] := e
    subst this
    simpa using hs.mono h2
  | h, h', xs, b :: l, ⟨y, zs, q1, q2, e, r1, r2, r3, r4, r5⟩, h1, h2, h3 =>
    ⟨y, zs ++ ys, q1, join q2 ha, by rw [e, List.append_assoc], r1.trans h1, join_le (r2.trans h1) h2, (join_dj r3.symm ((h3.mono r1 (Le.refl _)).symm)).symm, r4,
      OwL.append hs r5 (le_join_l _ _) (le_join_r (h3.mono r2 (Le.refl _))) (h3.mono r2 (Le.refl _))⟩
/-- in two parts -/
theorem OwL.split : ∀ {h : GH} {xs : List Value} {l m : List α}, OwL h xs (l ++ m) → ∃ h1 h2, Le h1 h ∧ Le h2 h ∧ Dj h1 h2 ∧ OwL h1 (xs.take (l.length * k α)) l ∧ OwL h2 (xs.drop (l.length * k α)) m
  | h, xs, [], m, e => ⟨emp, h, emp_le _, Le.refl _, emp_dj _, by simp [OwL], by simpa using e⟩
  | h, xs, a :: l, m, ⟨x, ys, q1, q2, e, r1, r2, r3, r4, r5⟩ => by
    obtain ⟨h1, h2, t1, t2, t3, t4, t5⟩ := OwL.split r5
    have hl : (a :: l).length * k α = (sh a x).length + l.length * k α := by rw [GoT.len, List.length_cons, Nat.add_mul]; omega
    refine ⟨join q1 h1, h2, join_le r1 (t1.trans r2), t2.trans r2, join_dj (r3.mono (Le.refl _) t2) t3, ⟨x, ys.take (l.length * k α), q1, h1, ?_, le_join_l _ _, le_join_r (r3.mono (Le.refl _) t1), r3.mono (Le.refl _) t1, r4, t4⟩, ?_⟩
    · rw [e, hl, List.take_length_add_append]
    · rw [e, hl, List.drop_length_add_append]; exact t5
theorem RdL.snoc {G : GH} {a : α} {x : X α} (ha : All G (fa .der a x)) : ∀ {xs : List Value} {l : List α}, RdL G xs l → RdL G (xs ++ sh a x) (l ++ [a])
  | xs, [], h => by
    have : xs = [] := h
    subst this
    exact ⟨x, [], by simp, ha, rfl⟩
  | xs, b :: l, ⟨y, ys, h1, h3, h4⟩ => ⟨y, ys ++ sh a x, by rw [h1, List.append_assoc], h3, h4.snoc ha⟩
theorem RdL.append {G : GH} {ys : List Value} {m : List α} (hm : RdL G ys m) : ∀ {xs : List Value} {l : List α}, RdL G xs l → RdL G (xs ++ ys) (l ++ m)
  | xs, [], h => by
    have : xs = [] := h
    subst this
    simpa using hm
  | xs, b :: l, ⟨y, zs, h1, h3, h4⟩ => ⟨y, zs ++ ys, by rw [h1, List.append_assoc], h3, RdL.append hm h4⟩
end
/-- a type without slices in it -/
class Flat (α : Type) [GoT α] : Prop where
  f : ∀ (a : α) (x : X α), fa .der a x = []
  o : ∀ (a : α) (x : X α), oa a x = []
instance : Flat Int := ⟨fun _ _ => rfl, fun _ _ => rfl⟩
instance : Flat Bool := ⟨fun _ _ => rfl, fun _ _ => rfl⟩
instance : Flat UInt8 := ⟨fun _ _ => rfl, fun _ _ => rfl⟩
instance : Flat ByteArray := ⟨fun _ _ => rfl, fun _ _ => rfl⟩
instance {α β : Type} [GoT α] [GoT β] [Flat α] [Flat β] : Flat (α × β) := ⟨fun a x => by show fa .der a.1 x.1 ++ fa .der a.2 x.2 = []; rw [Flat.f, Flat.f]; rfl, fun a x => by show oa a.1 x.1 ++ oa a.2 x.2 = []; rw [Flat.o, Flat.o]; rfl⟩
theorem RdL.flat {α : Type} [GoT α] [Flat α] {G : GH} : ∀ {xs : List Value} {l : List α}, RdL G xs l → ∀ h, OwL h xs l
  | xs, [], e, h => e
  | xs, a :: l, ⟨x, ys, e, _, r⟩, h => ⟨x, ys, emp, h, e, emp_le _, Le.refl _, emp_dj _, by rw [Flat.o]; trivial, r.flat h⟩

/-! ### from a row to memory that stays, and back -/
theorem HInv.give {C : Cx} {w : World} {G : GH} {bs : Nat → Nat} {L : Locs} {R R' : Rows} (hI : HInv C w G bs L R) {ρ : Nat} {row : Row} (hρ : look R ρ = some row) (hc0 : row.c ≠ 0) (hR : delRO R ρ = some R') : HInv C w (join G (fun b => if b = bs ρ then hp w b else none)) bs L R' := by
  obtain ⟨hsub, hgone⟩ := delRO_sub hR
  have hact : Acts L R ρ := .inr ⟨row, hρ, hc0⟩
  have hb : ∀ b, b ≠ bs ρ → G b = none → join G (fun b => if b = bs ρ then hp w b else none) b = none := fun b hne hg => by unfold join; rw [hg]; simp [hne]
  refine ⟨hI.keep, join_le hI.le (fun b o hb => ?_), fun i l hl => ?_, fun i r hr => ?_, fun i j hij hi hj => ?_, fun i l r hl hr => hI.dis i l r hl (hsub _ _ hr), hI.pin, fun r hr => hI.nr r (hsub _ _ hr)⟩
  · by_cases he : b = bs ρ
    · rw [if_pos he] at hb; exact hb
    · rw [if_neg he] at hb; cases hb
  · obtain ⟨k1, k2, k3⟩ := hI.loc i l hl
    have hne : i ≠ ρ := fun e => by subst e; exact hI.dis i l row hl hρ
    exact ⟨k1, k2, hb _ (hI.inj i ρ hne (.inl ⟨l, hl⟩) hact) k3⟩
  · have hne : i ≠ ρ := fun e => by subst e; exact hgone r hr
    obtain ⟨k1, k2⟩ := hI.row i r (hsub _ _ hr)
    refine ⟨k1, ?_⟩
    rcases k2 with k2 | ⟨o1, q1, q2, q3, q⟩
    · exact .inl k2
    · by_cases hrc : r.c = 0
      · rcases q with ⟨q4, _⟩; exact .inl ⟨hrc, by omega⟩
      · exact .inr ⟨o1, q1, q2, hb _ (hI.inj i ρ hne (.inr ⟨r, hsub _ _ hr, hrc⟩) hact) q3, q⟩
  · exact hI.inj i j hij (hi.imp id fun ⟨r, hr, hc⟩ => ⟨r, hsub _ _ hr, hc⟩) (hj.imp id fun ⟨r, hr, hc⟩ => ⟨r, hsub _ _ hr, hc⟩)
/-- row ρ, whose elements are one's own (fact ℓ), becomes a slice of one's own (fact n + 1), that is read (fact n) -/
theorem WX.seal {C : Cx} {s : List It} {env : Env} {L : Locs} {R R' : Rows} {Γ Γ1 : Facts} {α : Type} [GoT α] {row : Row} {l : List α} (ρ ℓ n : Nat) (hρ : look R ρ = some row) (hk : row.k = GoT.k α) (hn : row.n = l.length)
    (hℓ : giveK [ℓ] Γ = some ([MF.ol row.xs l], Γ1)) (hR : delRO R ρ = some R')
    (k : WX C s env L R' ((n, MF.rs .der row.p row.c l) :: (n + 1, MF.os row.p row.c l) :: Γ1)) : WX C s env L R Γ := by
  rintro a w ⟨G, bs, hA, hI, hΓ⟩
  obtain ⟨hsub, hgone⟩ := delRO_sub hR
  obtain ⟨H, q1, q2, q3, q4⟩ := giveK_spec hℓ hΓ
  have hol : OwL H row.xs l := sep_one q3
  obtain ⟨h1, h2⟩ := hI.row ρ row hρ
  have triv : row.c = 0 → row.n = 0 → WX C s env L R' ((n, MF.rs .der row.p row.c l) :: (n + 1, MF.os row.p row.c l) :: Γ1) → cont C s .normal a w := fun hc hn0 k => by
    have hl : l = [] := List.eq_nil_of_length_eq_zero (by omega)
    have ho : OwSl emp row.p row.c l := .inl ⟨hc, hl⟩
    refine k a w ⟨G, bs, hA, hI.sub (Sub.refl _) hsub, ?_⟩
    have := (q4.mono (cut_le G H)).new (n + 1) (MF.os row.p row.c l) (h := emp) (Le.refl _) (emp_le _) (fun _ => emp_dj _) (fun _ _ _ h => by cases h) ho
    exact this.der n _ rfl ((this.get (n + 1) (by rw [look_cons, if_pos rfl]) : OwSl G row.p row.c l).rd)
  rcases h2 with ⟨hc, hn0⟩ | ⟨o1, hpp, hB, hGb, hnc, hcm, cur, T, hh, hcs, htk⟩
  · exact triv hc hn0 k
  · by_cases hc0 : row.c = 0
    · exact triv hc0 (by omega) k
    · have hI' := hI.give hρ hc0 hR
      refine k a w ⟨_, bs, hA, hI', ?_⟩
      have hHb : H (bs ρ) = none := by
        cases hx : H (bs ρ) with
        | none => rfl
        | some q => rw [q1 _ _ hx] at hGb; cases hGb
      have ho : OwSl (join H (fun b => if b = bs ρ then hp w b else none)) row.p row.c l := by
        refine .inr ⟨bs ρ, o1, T, cur, H, hpp, ?_, le_join_l _ _, hHb, by omega, hcm, by rw [← hk]; exact hcs, ?_⟩
        · unfold join; rw [hHb]; simp only [if_true]; exact hh
        · rw [← hk, ← hn, htk]; exact hol
      have hdj : Dj (join H (fun b => if b = bs ρ then hp w b else none)) (cut G H) := join_dj (cut_dj G H).symm (fun b => by
        by_cases he : b = bs ρ
        · subst he; right; exact cut_none hGb
        · left; simp [he])
      have hle : Le (join H (fun b => if b = bs ρ then hp w b else none)) (join G (fun b => if b = bs ρ then hp w b else none)) := join_le (q1.trans (le_join_l _ _)) (fun b o hb => by
        by_cases he : b = bs ρ
        · subst he; unfold join; rw [hGb]; exact hb
        · simp [he] at hb)
      have := q4.new (n + 1) (MF.os row.p row.c l) (h := join H (fun b => if b = bs ρ then hp w b else none)) ((cut_le G H).trans (le_join_l _ _)) hle (fun _ => hdj) (fun _ b o hb => by
        rcases join_some hb with hb | hb
        · exact q2 b o hb
        · by_cases he : b = bs ρ
          · subst he; exact hB
          · simp [he] at hb) ho
      exact this.der n _ rfl ((this.get (n + 1) (by rw [look_cons, if_pos rfl]) : OwSl _ row.p row.c l).rd)
/-- a slice of one's own (fact ℓ) becomes row ρ; its elements are fact n -/
theorem WX.opn {C : Cx} {s : List It} {env : Env} {L : Locs} {R : Rows} {Γ Γ1 : Facts} {α : Type} [GoT α] {p : Option Addr} {c kk : Nat} {l : List α} (ρ ℓ n : Nat) (hkk : kk = GoT.k α) (hℓ : giveK [ℓ] Γ = some ([MF.os p c l], Γ1)) (hnl : labHas ρ env L R = false)
    (k : ∀ xs, xs.length = l.length * kk → WX C s env L ((ρ, ⟨kk, p, l.length, c, xs⟩) :: R) ((n, MF.ol xs l) :: Γ1)) : WX C s env L R Γ := by
  rintro a w ⟨G, bs, hA, hI, hΓ⟩
  subst hkk
  obtain ⟨H, q1, q2, q3, q4⟩ := giveK_spec hℓ hΓ
  obtain ⟨l1, l2, l3, l4⟩ := labHas_not hnl
  rcases (sep_one q3 : OwSl H p c l) with ⟨hc, hl⟩ | ⟨b, o1, T, cur, h', k1, k2, k3, k4, k5, k6, k7, k8⟩
  · subst hl
    refine k [] (by simp) a w ⟨G, fun j => if j = ρ then 0 else bs j, hA.notH l1 (fun i hi => if_neg hi), ?_, ?_⟩
    · exact hI.upd (ρ := ρ) (b' := 0) (r' := ⟨GoT.k α, p, 0, c, []⟩) l4 False (fun h => h.elim) (only_refl w _ _) (.inr (.inr hc)) (fun j => look_cons _ _ _ _) (fun l h => keyHas_not l2 h rfl) ⟨by simp, .inl ⟨hc, rfl⟩⟩
    · exact (q4.mono (cut_le G H)).new n _ (h := emp) (Le.refl _) (emp_le _) (fun _ => emp_dj _) (fun _ _ _ h => by cases h) (rfl : ([] : List Value) = [])
  · have hlen := k8.len
    have hbG : G b = some (.cells cur T (0, 0)) := q1 b _ k2
    have hbw := hI.le b _ hbG
    have hcb : cut G (fun x => if x = b then some (.cells cur T (0, 0)) else none) b = none := by unfold cut; simp
    refine k _ hlen a w ⟨cut G (fun x => if x = b then some (.cells cur T (0, 0)) else none), fun j => if j = ρ then b else bs j, hA.notH l1 (fun i hi => if_neg hi), ?_, ?_⟩
    · have hne : ∀ i, Acts L R i → bs i ≠ b := fun i hi e => by
        rcases hi with ⟨x, hx⟩ | ⟨r, hr, hc⟩
        · have := (hI.loc i x hx).2.2; rw [e, hbG] at this; cases this
        · rcases (hI.row i r hr).2 with ⟨h0, _⟩ | ⟨_, _, _, h3, _⟩
          · exact hc h0
          · rw [e, hbG] at h3; cases h3
      have hnL : ∀ {i : Nat} {x : Loc}, look L i = some x → i ≠ ρ := fun h => keyHas_not l2 h
      have hnR : ∀ {i : Nat} {x : Row}, look R i = some x → i ≠ ρ := fun h => keyHas_not l3 h
      refine ⟨hI.keep, (cut_le _ _).trans hI.le, fun i l hl => ?_, fun i r hr => ?_, fun i j hij hi hj => ?_, fun i l r hl hr => ?_, fun b' hb' => by simp only [if_neg (Ne.symm l4)]; exact hI.pin b' hb', fun r hr => by rw [look_cons, if_neg l4] at hr; exact hI.nr r hr⟩
      · obtain ⟨t1, t2, t3⟩ := hI.loc i l hl
        simp only [if_neg (hnL hl)]
        exact ⟨t1, t2, cut_none t3⟩
      · rw [look_cons] at hr
        by_cases he : ρ = i
        · subst he; rw [if_pos rfl] at hr; simp at hr; subst hr
          simp only [if_true]
          exact ⟨hlen, .inr ⟨o1, k1, q2 b _ k2, hcb, k5, k6, cur, T, hbw, k7, rfl⟩⟩
        · rw [if_neg he] at hr
          simp only [if_neg (Ne.symm he)]
          obtain ⟨t1, t2⟩ := hI.row i r hr
          exact ⟨t1, t2.imp id fun ⟨o2, u1, u2, u3, u⟩ => ⟨o2, u1, u2, cut_none u3, u⟩⟩
      · have hold : ∀ i, i ≠ ρ → Acts L ((ρ, (⟨GoT.k α, p, l.length, c, (cur.toList.drop o1).take (l.length * GoT.k α)⟩ : Row)) :: R) i → Acts L R i := fun i hne h => h.imp id fun ⟨r, hr, hc⟩ => by
          rw [look_cons, if_neg (Ne.symm hne)] at hr; exact ⟨r, hr, hc⟩
        by_cases e1 : i = ρ <;> by_cases e2 : j = ρ
        · omega
        · simp only [e1, if_true, if_neg e2]; exact Ne.symm (hne j (hold j e2 hj))
        · simp only [e2, if_true, if_neg e1]; exact hne i (hold i e1 hi)
        · simp only [if_neg e1, if_neg e2]; exact hI.inj i j hij (hold i e1 hi) (hold j e2 hj)
      · rw [look_cons] at hr
        split at hr
        · rename_i e; exact hnL hl e.symm
        · exact hI.dis i l r hl hr
    · have hle : Le (cut G H) (cut G (fun x => if x = b then some (.cells cur T (0, 0)) else none)) := le_cut (cut_le _ _) (fun x => by
        by_cases hx : x = b
        · subst hx; left; unfold cut; rw [k2]
        · right; simp [hx])
      exact q4.new n (MF.ol _ l) (h := h') hle (le_cut (k3.trans q1) (fun x => by
        by_cases hx : x = b
        · subst hx; exact .inl k4
        · right; simp [hx])) (fun _ => ((cut_dj G H).symm).mono k3 (Le.refl _)) (fun _ x o hx => q2 x o (k3 x o hx)) k8

/-! ### small words for generated texts -/
namespace B
theorem nt {b : Bool} (h : (!b) = true) : b = false := by simpa using h
theorem nf {b : Bool} (h : (!b) = false) : b = true := by simpa using h
theorem dt {p : Prop} [Decidable p] (h : decide p = true) : p := of_decide_eq_true h
theorem df {p : Prop} [Decidable p] (h : decide p = false) : ¬ p := of_decide_eq_false h
theorem et {α : Type} [BEq α] [LawfulBEq α] {a b : α} (h : (a == b) = true) : a = b := eq_of_beq h
theorem ef {α : Type} [BEq α] [LawfulBEq α] {a b : α} (h : (a == b) = false) : ¬ a = b := ne_of_beq_false h
theorem nt' {α : Type} [BEq α] [LawfulBEq α] {a b : α} (h : (a != b) = true) : ¬ a = b := by simpa using h
theorem nf' {α : Type} [BEq α] [LawfulBEq α] {a b : α} (h : (a != b) = false) : a = b := by simpa using h
end B
theorem rdSl_nil {α : Type} [GoT α] (G : GH) (p : Option Addr) (c : Nat) : RdSl G p c ([] : List α) := ⟨by simp, by simp, [], fun j u h => by simp at h, rfl⟩
theorem owSl_nil {α : Type} [GoT α] (G : GH) (p : Option Addr) : OwSl G p 0 ([] : List α) := .inl ⟨rfl, rfl⟩
end Go.Stp
