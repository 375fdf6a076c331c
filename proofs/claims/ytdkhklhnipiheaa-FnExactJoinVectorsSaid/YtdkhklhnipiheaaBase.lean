/-
  A small program logic over the model's own rules: what is known of a frame's slots is a list (Env), what is known of the call's own variables is a list (locals, rows), what is known of memory that nobody writes any more is a list of facts; the code that is left is a stack.
  This text: the definitions, the machine that runs what needs no thought (exec), and that it is sound. No condition.
-/
import Derived.OrdersHeld
import Derived.Tactics
import Derived.Below
import Derived.Laws.AppendOwn
import Derived.Deep.AppendSrc
import Derived.KernelRfl
namespace Go.Stp
open Go.RowKit (Below)

/-! ### lists that are looked up by number -/
def look {α : Type} : List (Nat × α) → Nat → Option α
  | [], _ => none
  | (j, x) :: r, i => match Nat.beq j i with | true => some x | false => look r i
theorem look_cons {α : Type} (j i : Nat) (x : α) (r : List (Nat × α)) : look ((j, x) :: r) i = if j = i then some x else look r i := by
  show (match Nat.beq j i with | true => some x | false => look r i) = _
  cases hb : Nat.beq j i with
  | true => rw [if_pos (Nat.eq_of_beq_eq_true hb)]
  | false => rw [if_neg (fun e => by subst e; simp at hb)]
def getO {α : Type} : List α → Nat → Option α
  | [], _ => none
  | x :: _, 0 => some x
  | _ :: r, n + 1 => getO r n
theorem getO_eq {α : Type} : ∀ (l : List α) (n : Nat), getO l n = l[n]?
  | [], _ => by simp [getO]
  | _ :: _, 0 => by simp [getO]
  | _ :: r, n + 1 => by simp [getO, getO_eq r n]
def takeO {α : Type} : List α → Nat → Option (List α)
  | _, 0 => some []
  | x :: r, n + 1 => match takeO r n with | some l => some (x :: l) | none => none
  | [], _ + 1 => none
theorem takeO_some {α : Type} : ∀ (l : List α) (n : Nat) (r : List α), takeO l n = some r → n ≤ l.length ∧ r = l.take n
  | l, 0, r, h => by simp [takeO] at h; subst h; simp
  | x :: l, n + 1, r, h => by
    simp only [takeO] at h
    split at h
    · rename_i q hq
      obtain ⟨h1, h2⟩ := takeO_some l n q hq
      simp at h; subst h; subst h2
      exact ⟨by simp; omega, by simp⟩
    · cases h
  | [], n + 1, r, h => by simp [takeO] at h
def dropO {α : Type} : List α → Nat → Option (List α)
  | l, 0 => some l
  | _ :: r, n + 1 => dropO r n
  | [], _ + 1 => none
theorem dropO_some {α : Type} : ∀ (l : List α) (n : Nat) (r : List α), dropO l n = some r → n ≤ l.length ∧ r = l.drop n
  | l, 0, r, h => by simp [dropO] at h; subst h; simp
  | x :: l, n + 1, r, h => by
    simp only [dropO] at h
    obtain ⟨h1, h2⟩ := dropO_some l n r h
    exact ⟨by simp; omega, by simpa using h2⟩
  | [], n + 1, r, h => by simp [dropO] at h
/-- the list with 'vs' in the place of what stands from 'o' on -/
def spliceO {α : Type} (l : List α) (o : Nat) (vs : List α) : Option (List α) :=
  match o, l, vs with
  | _, l, [] => some l
  | 0, _ :: l, v :: vs => match spliceO l 0 vs with | some q => some (v :: q) | none => none
  | o + 1, x :: l, vs => match spliceO l o vs with | some q => some (x :: q) | none => none
  | _, [], _ => none
theorem spliceO_some {α : Type} : ∀ (l : List α) (o : Nat) (vs r : List α), spliceO l o vs = some r → r.length = l.length ∧ (vs = [] ∨ o + vs.length ≤ l.length) ∧ (vs ≠ [] → r = l.take o ++ vs ++ l.drop (o + vs.length)) ∧ (vs = [] → r = l) := by
  intro l
  induction l with
  | nil =>
    intro o vs r h
    cases vs with
    | nil => unfold spliceO at h; simp at h; subst h; simp
    | cons v vs => unfold spliceO at h; cases o <;> simp at h
  | cons x l ih =>
    intro o vs r h
    cases vs with
    | nil => unfold spliceO at h; simp at h; subst h; simp
    | cons v vs =>
      cases o with
      | zero =>
        simp only [spliceO] at h
        split at h
        · rename_i q hq
          simp at h; subst h
          obtain ⟨h1, h2, h3, h4⟩ := ih 0 vs q hq
          refine ⟨by simp [h1], .inr ?_, fun _ => ?_, fun hc => by cases hc⟩
          · rcases h2 with h2 | h2
            · subst h2; simp
            · simp at h2 ⊢; omega
          · by_cases hv : vs = []
            · subst hv; simp [h4 rfl]
            · have := h3 hv; simp at this; simp [this]
        · cases h
      | succ o =>
        simp only [spliceO] at h
        split at h
        · rename_i q hq
          simp at h; subst h
          obtain ⟨h1, h2, h3, h4⟩ := ih o (v :: vs) q hq
          refine ⟨by simp [h1], .inr ?_, fun _ => ?_, fun hc => by cases hc⟩
          · rcases h2 with h2 | h2
            · cases h2
            · simp at h2 ⊢; omega
          · have := h3 (by simp)
            rw [this, show o + 1 + (v :: vs).length = (o + (v :: vs).length) + 1 by omega]
            simp
        · cases h

theorem spliceO_of {α : Type} : ∀ (l : List α) (o : Nat) (vs : List α), o + vs.length ≤ l.length → spliceO l o vs = some (l.take o ++ vs ++ l.drop (o + vs.length)) := by
  intro l
  induction l with
  | nil =>
    intro o vs h
    simp at h
    obtain ⟨rfl, rfl⟩ := h
    simp [spliceO]
  | cons x l ih =>
    intro o vs h
    cases vs with
    | nil => simp [spliceO]
    | cons v vs =>
      cases o with
      | zero =>
        simp only [spliceO]
        rw [ih 0 vs (by simp at h ⊢; omega)]
        simp
      | succ o =>
        simp only [spliceO]
        rw [ih o (v :: vs) (by simp at h ⊢; omega), show o + 1 + (v :: vs).length = (o + (v :: vs).length) + 1 by omega]
        simp
theorem splice_step {α : Type} (l : List α) (o : Nat) (v : α) (vs : List α) (h : o + (v :: vs).length ≤ l.length) :
    (l.set o v).take (o + 1) ++ vs ++ (l.set o v).drop (o + 1 + vs.length) = l.take o ++ (v :: vs) ++ l.drop (o + (v :: vs).length) := by
  simp at h
  have h1 : (l.set o v).take (o + 1) = l.take o ++ [v] := by
    rw [List.take_add_one, List.take_set_of_le (Nat.le_refl _), List.getElem?_set]
    simp; omega
  rw [h1, List.drop_set_of_lt (by omega)]
  simp [Nat.add_assoc, Nat.add_comm 1]

/-! ### symbolic values -/
inductive SV where
  | v (x : Value)
  | p (i off : Nat)
  | e (a : Option Addr) (i k off : Nat)
  | f (g : FuncId) (caps : List (Nat × Nat))
  | T
  | F
def conc (bs : Nat → Nat) : SV → Value
  | .v x => x
  | .p i off => .pointer (some ⟨bs i, off, none⟩)
  | .e a i k off => match a with | some a => .pointer (some ((a.add (i * k)).add off)) | none => undef
  | .f g caps => .func (.func g) #[] (caps.map fun c => Value.pointer (some ⟨bs c.1, c.2, none⟩)).toArray
  | .T => .bool true
  | .F => .bool false
theorem conc_v (bs : Nat → Nat) (x : Value) : conc bs (.v x) = x := rfl
/-- the value, where it names no block of the call's own -/
def valO : SV → Option Value
  | .v x => some x
  | .T => some (.bool true)
  | .F => some (.bool false)
  | _ => none
theorem valO_conc {s : SV} {v : Value} (h : valO s = some v) (bs : Nat → Nat) : conc bs s = v := by
  cases s <;> simp [valO] at h <;> subst h <;> rfl
abbrev Env := List (Nat × SV)
structure TI where
  desc : TypeDesc
  size : Nat
  bytes : Nat
  zero : Value
abbrev TT := List (Nat × TI)
structure Loc where
  T : Nat
  cs : List Value
abbrev Locs := List (Nat × Loc)
/-- A slice of the call's own, that may still be written: n elements of k cells each, the cells xs. -/
structure Row where
  k : Nat
  p : Option Addr
  n : Nat
  c : Nat
  xs : List Value
abbrev Rows := List (Nat × Row)

/-! ### memory -/
abbrev GH := Nat → Option Obj
def hp (w : World) : GH := fun b => w.heap[b]?
def Le (G G' : GH) : Prop := ∀ b o, G b = some o → G' b = some o
theorem Le.refl (G : GH) : Le G G := fun _ _ h => h
theorem Le.trans {A B C : GH} (h : Le A B) (k : Le B C) : Le A C := fun b o x => k b o (h b o x)
/-- no block in common -/
def Dj (A B : GH) : Prop := ∀ b, A b = none ∨ B b = none
theorem Dj.symm {A B : GH} (h : Dj A B) : Dj B A := fun b => (h b).symm
theorem Dj.mono {A B A' B' : GH} (h : Dj A B) (ha : Le A' A) (hb : Le B' B) : Dj A' B' := fun b => by
  rcases h b with h | h
  · left; cases hx : A' b with
    | none => rfl
    | some o => rw [ha b o hx] at h; cases h
  · right; cases hx : B' b with
    | none => rfl
    | some o => rw [hb b o hx] at h; cases h
def emp : GH := fun _ => none
theorem emp_le (G : GH) : Le emp G := fun _ _ h => by cases h
theorem emp_dj (G : GH) : Dj emp G := fun _ => .inl rfl
/-- G without the blocks of h -/
def cut (G h : GH) : GH := fun b => match h b with | none => G b | some _ => none
theorem cut_le (G h : GH) : Le (cut G h) G := fun b o x => by
  unfold cut at x; cases hb : h b with
  | none => rw [hb] at x; exact x
  | some _ => rw [hb] at x; cases x
theorem le_cut {A G h : GH} (ha : Le A G) (hd : Dj A h) : Le A (cut G h) := fun b o x => by
  unfold cut
  rcases hd b with h1 | h1
  · rw [h1] at x; cases x
  · rw [h1]; exact ha b o x
theorem cut_dj (G h : GH) : Dj (cut G h) h := fun b => by
  unfold cut; cases hb : h b with
  | none => exact .inr rfl
  | some _ => exact .inl rfl
theorem cut_none {G h : GH} {b : Nat} (hb : G b = none) : cut G h b = none := by
  unfold cut; cases h b with
  | none => exact hb
  | some _ => rfl
theorem cut_mono {G G' h : GH} (hl : Le G G') : Le (cut G h) (cut G' h) := le_cut ((cut_le G h).trans hl) (cut_dj G h)
theorem cut_emp (G : GH) : cut G emp = G := rfl
/-- both -/
def join (A B : GH) : GH := fun b => match A b with | some o => some o | none => B b
theorem le_join_l (A B : GH) : Le A (join A B) := fun b o h => by unfold join; rw [h]
theorem le_join_r {A B : GH} (hd : Dj A B) : Le B (join A B) := fun b o h => by
  unfold join
  rcases hd b with h1 | h1
  · rw [h1]; exact h
  · rw [h1] at h; cases h
theorem join_le {A B G : GH} (ha : Le A G) (hb : Le B G) : Le (join A B) G := fun b o h => by
  unfold join at h
  cases hx : A b with
  | some q => rw [hx] at h; cases h; exact ha b _ hx
  | none => rw [hx] at h; exact hb b o h
theorem join_some {A B : GH} {b : Nat} {o : Obj} (h : join A B b = some o) : A b = some o ∨ B b = some o := by
  unfold join at h
  cases hx : A b with
  | some q => rw [hx] at h; exact .inl h
  | none => rw [hx] at h; exact .inr h
theorem join_dj {A B C : GH} (ha : Dj A C) (hb : Dj B C) : Dj (join A B) C := fun b => by
  rcases ha b with h1 | h1
  · rcases hb b with h2 | h2
    · left; unfold join; rw [h1]; exact h2
    · exact .inr h2
  · exact .inr h1
def gcell (G : GH) (a : Addr) : Option Value :=
  match G a.block with
  | some (.cells c _ _) => if a.spot.isSome then none else c[a.off]?
  | _ => none
theorem gcell_hp (w : World) (a : Addr) : gcell (hp w) a = w.cell? a := rfl
theorem gcell_mono {G G' : GH} (h : Le G G') {a : Addr} {v : Value} (hc : gcell G a = some v) : gcell G' a = some v := by
  unfold gcell at *
  cases hb : G a.block with
  | none => rw [hb] at hc; cases hc
  | some o => rw [hb] at hc; rw [h _ _ hb]; exact hc
/-- lin: memory of one's own; stb: memory that nobody writes; der: what follows from the others, as long as none is written -/
inductive Kd where
  | lin
  | stb
  | der
structure MF where
  k : Kd
  p : GH → Prop
  m : ∀ {G G' : GH}, Le G G' → p G → p G'
abbrev Facts := List (Nat × MF)
def All (G : GH) (fs : List MF) : Prop := ∀ f ∈ fs, f.p G
theorem All.mono {G G' : GH} (h : Le G G') {fs : List MF} (k : All G fs) : All G' fs := fun f hf => f.m h (k f hf)
/-- the facts, each of a part of its own -/
def Sep (h : GH) : List MF → Prop
  | [] => True
  | f :: fs => ∃ h1 h2, Le h1 h ∧ Le h2 h ∧ Dj h1 h2 ∧ f.p h1 ∧ Sep h2 fs
theorem Sep.mono : ∀ {fs : List MF} {h h' : GH}, Le h h' → Sep h fs → Sep h' fs
  | [], _, _, _, _ => trivial
  | _ :: _, _, _, hl, ⟨h1, h2, a, b, c, d, e⟩ => ⟨h1, h2, a.trans hl, b.trans hl, c, d, e⟩
theorem Sep.all : ∀ {fs : List MF} {h : GH}, Sep h fs → All h fs
  | [], _, _, f, hf => by cases hf
  | g :: fs, h, ⟨h1, h2, a, b, _, d, e⟩, f, hf => by
    rcases List.mem_cons.1 hf with rfl | hf
    · exact f.m a d
    · exact f.m b (e.all f hf)
theorem Sep.append : ∀ {fs gs : List MF} {h : GH}, Sep h (fs ++ gs) → ∃ h1 h2, Le h1 h ∧ Le h2 h ∧ Dj h1 h2 ∧ Sep h1 fs ∧ Sep h2 gs
  | [], _, h, k => ⟨emp, h, emp_le _, Le.refl _, emp_dj _, trivial, k⟩
  | f :: fs, gs, h, ⟨h1, h2, a, b, c, d, e⟩ => by
    obtain ⟨q1, q2, r1, r2, r3, r4, r5⟩ := Sep.append e
    refine ⟨join h1 q1, q2, join_le a (r1.trans b), r2.trans b, join_dj (c.mono (Le.refl _) r2) r3, ⟨h1, q1, le_join_l _ _, le_join_r (c.mono (Le.refl _) r1), c.mono (Le.refl _) r1, d, r4⟩, r5⟩
theorem Sep.both : ∀ {fs gs : List MF} {h h1 h2 : GH}, Le h1 h → Le h2 h → Dj h1 h2 → Sep h1 fs → Sep h2 gs → Sep h (fs ++ gs)
  | [], _, _, _, _, _, b, _, _, k => k.mono b
  | f :: fs, gs, h, h1, h2, a, b, c, ⟨q1, q2, r1, r2, r3, r4, r5⟩, k =>
    ⟨q1, join q2 h2, r1.trans a, join_le (r2.trans a) b, (join_dj r3.symm ((c.mono r1 (Le.refl _)).symm)).symm, r4, Sep.both (le_join_l _ _) (le_join_r (c.mono r2 (Le.refl _))) (c.mono r2 (Le.refl _)) r5 k⟩
theorem Sep.perm {l l' : List MF} (hp : l.Perm l') : ∀ {h : GH}, Sep h l → Sep h l' := by
  induction hp with
  | nil => exact fun h => h
  | cons x _ ih => exact fun ⟨h1, h2, a, b, c, d, e⟩ => ⟨h1, h2, a, b, c, d, ih e⟩
  | swap x y l =>
    rintro h ⟨h1, h2, a, b, c, d, q1, q2, r1, r2, r3, r4, r5⟩
    exact ⟨q1, join h1 q2, r1.trans b, join_le a (r2.trans b), (join_dj (c.mono (Le.refl _) r1) r3.symm).symm, r4, h1, q2, le_join_l _ _, le_join_r (c.mono (Le.refl _) r2), c.mono (Le.refl _) r2, d, r5⟩
  | trans _ _ ih1 ih2 => exact fun h => ih2 (ih1 h)
theorem Sep.tail {f : MF} {fs : List MF} {h : GH} : Sep h (f :: fs) → Sep h fs := fun ⟨_, _, _, b, _, _, e⟩ => e.mono b
def lins : Facts → List MF
  | [] => []
  | (_, f) :: r => match f.k with | .lin => f :: lins r | .stb => lins r | .der => lins r
structure Holds (M : Nat → Prop) (G : GH) (Γ : Facts) (S h : GH) : Prop where
  sle : Le S G
  hle : Le h G
  dj : Dj S h
  own : ∀ b o, h b = some o → M b
  stb : ∀ n f, (n, f) ∈ Γ → f.k = .stb → f.p S
  der : ∀ n f, (n, f) ∈ Γ → f.k = .der → f.p G
  lin : Sep h (lins Γ)
/-- what the facts say of memory G: those of memory of one's own each have a part of their own; M: the blocks that may be written -/
def AllK (M : Nat → Prop) (G : GH) (Γ : Facts) : Prop := ∃ S h, Holds M G Γ S h
theorem look_mem {α : Type} : ∀ {l : List (Nat × α)} {i : Nat} {x : α}, look l i = some x → (i, x) ∈ l
  | [], i, x, h => by simp [look] at h
  | (j, y) :: r, i, x, h => by
    rw [look_cons] at h
    split at h
    · rename_i e; subst e; simp at h; subst h; exact List.mem_cons_self ..
    · exact List.mem_cons_of_mem _ (look_mem h)
theorem mem_lins {n : Nat} {f : MF} : ∀ {Γ : Facts}, (n, f) ∈ Γ → f.k = .lin → f ∈ lins Γ
  | (m, g) :: r, h, hk => by
    rcases List.mem_cons.1 h with h | h
    · cases h; simp [lins, hk]
    · have := mem_lins h hk
      unfold lins
      split
      · exact List.mem_cons_of_mem _ this
      · exact this
      · exact this
theorem AllK.mem {M : Nat → Prop} {G : GH} {Γ : Facts} (h : AllK M G Γ) {n : Nat} {f : MF} (hf : (n, f) ∈ Γ) : f.p G := by
  obtain ⟨S, q, h⟩ := h
  cases hk : f.k with
  | lin => exact f.m h.hle (h.lin.all f (mem_lins hf hk))
  | stb => exact f.m h.sle (h.stb n f hf hk)
  | der => exact h.der n f hf hk
theorem AllK.get {M : Nat → Prop} {G : GH} {Γ : Facts} (h : AllK M G Γ) (i : Nat) {f : MF} (hf : look Γ i = some f) : f.p G := h.mem (look_mem hf)
theorem AllK.mono {M : Nat → Prop} {G G' : GH} (hl : Le G G') {Γ : Facts} (k : AllK M G Γ) : AllK M G' Γ := by
  obtain ⟨S, h, k⟩ := k
  exact ⟨S, h, k.sle.trans hl, k.hle.trans hl, k.dj, k.own, k.stb, fun n f hf hk => f.m hl (k.der n f hf hk), k.lin⟩
theorem allK_nil {M : Nat → Prop} {G : GH} : AllK M G [] := ⟨emp, emp, emp_le _, emp_le _, emp_dj _, (fun _ _ h => by cases h), (fun _ _ h => by cases h), (fun _ _ h => by cases h), trivial⟩
/-- one more fact, of memory that is new to the others -/
theorem AllK.new {M : Nat → Prop} {G G' h : GH} {Γ : Facts} (hΓ : AllK M G Γ) (n : Nat) (f : MF) (hG : Le G G') (hl : Le h G') (hd : f.k ≠ .der → Dj h G) (hM : f.k = .lin → ∀ b o, h b = some o → M b) (hp : f.p h) : AllK M G' ((n, f) :: Γ) := by
  obtain ⟨S, q, k⟩ := hΓ
  have hder : ∀ m g, (m, g) ∈ (n, f) :: Γ → g.k = .der → g.p G' := fun m g hg hk => by
    rcases List.mem_cons.1 hg with hg | hg
    · cases hg; exact f.m hl hp
    · exact g.m hG (k.der m g hg hk)
  cases hk : f.k with
  | lin =>
    have hD := hd (by rw [hk]; simp)
    refine ⟨S, join h q, k.sle.trans hG, join_le hl (k.hle.trans hG), (join_dj (hD.mono (Le.refl _) k.sle) k.dj.symm).symm, fun b o hb => (join_some hb).elim (hM hk b o) (k.own b o), fun m g hg hk' => ?_, hder, ?_⟩
    · rcases List.mem_cons.1 hg with hg | hg
      · cases hg; rw [hk] at hk'; cases hk'
      · exact k.stb m g hg hk'
    · simp only [lins, hk]
      exact ⟨h, q, le_join_l _ _, le_join_r (hD.mono (Le.refl _) k.hle), hD.mono (Le.refl _) k.hle, hp, k.lin⟩
  | stb =>
    have hD := hd (by rw [hk]; simp)
    refine ⟨join h S, q, join_le hl (k.sle.trans hG), k.hle.trans hG, join_dj (hD.mono (Le.refl _) k.hle) k.dj, k.own, fun m g hg hk' => ?_, hder, ?_⟩
    · rcases List.mem_cons.1 hg with hg | hg
      · cases hg; exact f.m (le_join_l _ _) hp
      · exact g.m (le_join_r (hD.mono (Le.refl _) k.sle)) (k.stb m g hg hk')
    · simp only [lins, hk]; exact k.lin
  | der =>
    refine ⟨S, q, k.sle.trans hG, k.hle.trans hG, k.dj, k.own, fun m g hg hk' => ?_, hder, ?_⟩
    · rcases List.mem_cons.1 hg with hg | hg
      · cases hg; rw [hk] at hk'; cases hk'
      · exact k.stb m g hg hk'
    · simp only [lins, hk]; exact k.lin
/-- what follows from the others -/
theorem AllK.der {M : Nat → Prop} {G : GH} {Γ : Facts} (hΓ : AllK M G Γ) (n : Nat) (f : MF) (hk : f.k = .der) (hp : f.p G) : AllK M G ((n, f) :: Γ) :=
  hΓ.new n f (Le.refl _) (Le.refl _) (fun h => absurd hk h) (fun h => by rw [hk] at h; cases h) hp
/-- what follows from memory that nobody writes -/
theorem AllK.stbOf {M : Nat → Prop} {G : GH} {Γ : Facts} (hΓ : AllK M G Γ) (n : Nat) (f : MF) (hk : f.k = .stb) (i : Nat) {g : MF} (hi : look Γ i = some g) (hg : g.k = .stb) (hp : ∀ G, g.p G → f.p G) : AllK M G ((n, f) :: Γ) := by
  obtain ⟨S, q, k⟩ := hΓ
  refine ⟨S, q, k.sle, k.hle, k.dj, k.own, fun m e he hk' => ?_, fun m e he hk' => ?_, ?_⟩
  · rcases List.mem_cons.1 he with he | he
    · cases he; exact hp S (k.stb i g (look_mem hi) hg)
    · exact k.stb m e he hk'
  · rcases List.mem_cons.1 he with he | he
    · cases he; rw [hk] at hk'; cases hk'
    · exact k.der m e he hk'
  · simp only [lins, hk]; exact k.lin
def addL (n : Nat) : List MF → Facts → Facts
  | [], Γ => Γ
  | f :: fs, Γ => (n, f) :: addL (n + 1) fs Γ
/-- facts of parts of a memory h that is new to the others -/
theorem AllK.newSep {M : Nat → Prop} : ∀ {fs : List MF} {G h : GH} {Γ : Facts} (n : Nat), AllK M G Γ → Dj h G → (∀ b o, h b = some o → M b) → Sep h fs → AllK M (join G h) (addL n fs Γ)
  | [], G, h, Γ, n, hΓ, _, _, _ => hΓ.mono (le_join_l _ _)
  | f :: fs, G, h, Γ, n, hΓ, hd, hM, ⟨h1, h2, a, b, c, d, e⟩ => by
    have hr := AllK.newSep (n + 1) hΓ (hd.mono b (Le.refl _)) (fun x o hx => hM x o (b x o hx)) e
    exact hr.new n f (join_le (le_join_l _ _) (b.trans (le_join_r hd.symm))) (a.trans (le_join_r hd.symm)) (fun _ => (join_dj (hd.mono a (Le.refl _)).symm c.symm).symm) (fun _ x o hx => hM x o (a x o hx)) d
/-- the same list, as the machine sees it -/
def addF (n : Nat) (fs : List MF) (Γ : Facts) : Option Facts :=
  match fs with
  | [] => some Γ
  | f :: fs => (match addF (n + 1) fs Γ with | some q => some ((n, f) :: q) | none => none)
theorem addF_eq : ∀ {fs : List MF} {n : Nat} {Γ Γ' : Facts}, addF n fs Γ = some Γ' → Γ' = addL n fs Γ
  | [], n, Γ, Γ', h => by simp [addF] at h; exact h.symm
  | f :: fs, n, Γ, Γ', h => by
    simp only [addF] at h
    split at h
    · rename_i q hq; simp at h; rw [← h, addF_eq hq]; rfl
    · cases h
theorem AllK.ders {M : Nat → Prop} {G : GH} : ∀ {fs : List MF} {n : Nat} {Γ Γ' : Facts}, addF n fs Γ = some Γ' → (∀ f ∈ fs, f.k = .der) → All G fs → AllK M G Γ → AllK M G Γ'
  | [], n, Γ, Γ', h, _, _, k => by simp [addF] at h; subst h; exact k
  | f :: fs, n, Γ, Γ', h, hk, ha, k => by
    simp only [addF] at h
    split at h
    · rename_i q hq
      simp only [Option.some.injEq] at h; subst h
      exact (AllK.ders hq (fun g hg => hk g (List.mem_cons_of_mem _ hg)) (fun g hg => ha g (List.mem_cons_of_mem _ hg)) k).der n f (hk f (List.mem_cons_self ..)) (ha f (List.mem_cons_self ..))
    · cases h
/-- fact k, and the others -/
def take1 (k : Nat) : Facts → Option (MF × Facts)
  | [] => none
  | (j, f) :: r => (match Nat.beq j k with
    | true => some (f, r)
    | false => (match take1 k r with
      | some (g, q) => some (g, (j, f) :: q)
      | none => none))
theorem take1_spec : ∀ {Γ : Facts} {k : Nat} {f : MF} {Γ' : Facts}, take1 k Γ = some (f, Γ') → ((k, f) :: Γ').Perm Γ
  | (j, g) :: r, k, f, Γ', h => by
    simp only [take1] at h
    split at h
    · rename_i hb
      simp at h
      obtain ⟨rfl, rfl⟩ := h
      rw [Nat.eq_of_beq_eq_true hb]
    · split at h
      · rename_i g' q hq
        simp at h
        obtain ⟨rfl, rfl⟩ := h
        exact (List.Perm.swap ..).trans ((take1_spec hq).cons _)
      · cases h
theorem lins_perm {Γ Γ' : Facts} (h : Γ.Perm Γ') : (lins Γ).Perm (lins Γ') := by
  induction h with
  | nil => exact .nil
  | cons x _ ih => obtain ⟨n, f⟩ := x; unfold lins; cases f.k <;> first | exact ih.cons _ | exact ih
  | swap x y l =>
    obtain ⟨n, f⟩ := x; obtain ⟨m, g⟩ := y
    simp only [lins]
    cases f.k <;> cases g.k <;> first | exact List.Perm.swap .. | exact List.Perm.refl _
  | trans _ _ a b => exact a.trans b
theorem AllK.perm {M : Nat → Prop} {G : GH} {Γ Γ' : Facts} (h : Γ.Perm Γ') (k : AllK M G Γ) : AllK M G Γ' := by
  obtain ⟨S, q, k⟩ := k
  exact ⟨S, q, k.sle, k.hle, k.dj, k.own, fun n f hf => k.stb n f (h.mem_iff.2 hf), fun n f hf => k.der n f (h.mem_iff.2 hf), k.lin.perm (lins_perm h)⟩
theorem AllK.tail {M : Nat → Prop} {G : GH} {x : Nat × MF} {Γ : Facts} (k : AllK M G (x :: Γ)) : AllK M G Γ := by
  obtain ⟨S, q, k⟩ := k
  refine ⟨S, q, k.sle, k.hle, k.dj, k.own, fun n f hf => k.stb n f (List.mem_cons_of_mem _ hf), fun n f hf => k.der n f (List.mem_cons_of_mem _ hf), ?_⟩
  have := k.lin
  obtain ⟨n, f⟩ := x
  unfold lins at this
  cases hk : f.k with
  | lin => rw [hk] at this; exact this.tail
  | stb => rw [hk] at this; exact this
  | der => rw [hk] at this; exact this
/-- the facts with these numbers -/
def pickK : List Nat → Facts → Option Facts
  | [], _ => some []
  | k :: ks, Γ => (match take1 k Γ with
    | some (f, r) => (match pickK ks r with
      | some q => some ((k, f) :: q)
      | none => none)
    | none => none)
theorem pickK_spec {M : Nat → Prop} {G : GH} : ∀ {ks : List Nat} {Γ Γ' A : Facts}, pickK ks Γ = some Γ' → AllK M G (A ++ Γ) → AllK M G (A ++ Γ')
  | [], Γ, Γ', A, h, k => by
    simp [pickK] at h; subst h
    have : ∀ B : Facts, AllK M G (A ++ B) → AllK M G (A ++ []) := by
      intro B
      induction B with
      | nil => exact fun h => h
      | cons x B ih => exact fun h => ih ((h.perm List.perm_middle).tail)
    exact this Γ k
  | n :: ks, Γ, Γ', A, h, k => by
    simp only [pickK] at h
    split at h
    · rename_i f r hr
      split at h
      · rename_i q hq
        simp at h; subst h
        have h1 : AllK M G ((A ++ [(n, f)]) ++ r) := by
          rw [List.append_assoc]
          exact k.perm ((take1_spec hr).symm.append_left A)
        have := pickK_spec hq h1
        rwa [List.append_assoc] at this
      · cases h
    · cases h
theorem AllK.pick {M : Nat → Prop} {G : GH} {ks : List Nat} {Γ Γ' : Facts} (h : pickK ks Γ = some Γ') (k : AllK M G Γ) : AllK M G Γ' := pickK_spec (A := []) h k
/-- without what follows from the others -/
def noDer : Facts → Option Facts
  | [] => some []
  | (j, f) :: r => (match noDer r with
    | some q => (match f.k with | .der => some q | .lin => some ((j, f) :: q) | .stb => some ((j, f) :: q))
    | none => none)
theorem noDer_spec : ∀ {Γ Γ' : Facts}, noDer Γ = some Γ' → lins Γ' = lins Γ ∧ (∀ n f, (n, f) ∈ Γ' → (n, f) ∈ Γ ∧ f.k ≠ .der)
  | [], Γ', h => by simp [noDer] at h; subst h; exact ⟨rfl, fun _ _ h => by cases h⟩
  | (j, f) :: r, Γ', h => by
    simp only [noDer] at h
    split at h
    · rename_i q hq
      obtain ⟨h1, h2⟩ := noDer_spec hq
      have hm : ∀ n g, (n, g) ∈ q → (n, g) ∈ (j, f) :: r ∧ g.k ≠ .der := fun n g hg => ⟨List.mem_cons_of_mem _ (h2 n g hg).1, (h2 n g hg).2⟩
      cases hk : f.k with
      | der => rw [hk] at h; simp at h; subst h; exact ⟨by simp [lins, hk, h1], hm⟩
      | lin =>
        rw [hk] at h; simp at h; subst h
        refine ⟨by simp [lins, hk, h1], fun n g hg => ?_⟩
        rcases List.mem_cons.1 hg with hg | hg
        · cases hg; exact ⟨List.mem_cons_self .., by rw [hk]; simp⟩
        · exact hm n g hg
      | stb =>
        rw [hk] at h; simp at h; subst h
        refine ⟨by simp [lins, hk, h1], fun n g hg => ?_⟩
        rcases List.mem_cons.1 hg with hg | hg
        · cases hg; exact ⟨List.mem_cons_self .., by rw [hk]; simp⟩
        · exact hm n g hg
    · cases h
def isLin (f : MF) : Bool := match f.k with | .lin => true | .stb => false | .der => false
theorem isLin_spec {f : MF} (h : isLin f = true) : f.k = .lin := by unfold isLin at h; cases hk : f.k <;> rw [hk] at h <;> simp_all
/-- these facts, given away; the others -/
def giveL : List Nat → Facts → Option (List MF × Facts)
  | [], Γ => some ([], Γ)
  | k :: ks, Γ => (match take1 k Γ with
    | some (f, r) => (match isLin f with
      | true => (match giveL ks r with
        | some (fs, q) => some (f :: fs, q)
        | none => none)
      | false => none)
    | none => none)
theorem giveL_spec : ∀ {ks : List Nat} {h : GH} {Γ Γ' : Facts} {fs : List MF}, giveL ks Γ = some (fs, Γ') → Sep h (lins Γ) →
    ∃ H h', Le H h ∧ Le h' h ∧ Dj H h' ∧ Sep H fs ∧ Sep h' (lins Γ') ∧ ∀ x ∈ Γ', x ∈ Γ
  | [], h, Γ, Γ', fs, e, k => by
    simp [giveL] at e
    obtain ⟨rfl, rfl⟩ := e
    exact ⟨emp, h, emp_le _, Le.refl _, emp_dj _, trivial, k, fun _ h => h⟩
  | n :: ks, h, Γ, Γ', fs, e, k => by
    simp only [giveL] at e
    split at e
    · rename_i f r hr
      split at e
      · rename_i hl
        split at e
        · rename_i fs' q hq
          simp at e
          obtain ⟨rfl, rfl⟩ := e
          have hp := take1_spec hr
          have hlin := k.perm (lins_perm hp.symm)
          simp only [lins, isLin_spec hl] at hlin
          obtain ⟨h1, h2, a, b, c, d, e⟩ := hlin
          obtain ⟨H, h', q1, q2, q3, q4, q5, q6⟩ := giveL_spec hq e
          exact ⟨join h1 H, h', join_le a (q1.trans b), q2.trans b, join_dj (c.mono (Le.refl _) q2) q3, ⟨h1, H, le_join_l _ _, le_join_r (c.mono (Le.refl _) q1), c.mono (Le.refl _) q1, d, q4⟩, q5, fun x hx => hp.mem_iff.1 (List.mem_cons_of_mem _ (q6 x hx))⟩
        · cases e
      · cases e
    · cases e
/-- these facts, given away; the others, without what follows from them -/
def giveK (ks : List Nat) (Γ : Facts) : Option (List MF × Facts) :=
  match noDer Γ with
  | some Γ0 => giveL ks Γ0
  | none => none
theorem giveK_spec {M : Nat → Prop} {ks : List Nat} {G : GH} {Γ Γ' : Facts} {fs : List MF} (h : giveK ks Γ = some (fs, Γ')) (k : AllK M G Γ) :
    ∃ H, Le H G ∧ (∀ b o, H b = some o → M b) ∧ Sep H fs ∧ AllK M (cut G H) Γ' := by
  unfold giveK at h
  split at h
  · rename_i Γ0 h0
    obtain ⟨n1, n2⟩ := noDer_spec h0
    obtain ⟨S, g, k⟩ := k
    obtain ⟨H, h', q1, q2, q3, q4, q5, q6⟩ := giveL_spec h (by rw [n1]; exact k.lin)
    refine ⟨H, q1.trans k.hle, fun b o hb => k.own b o (q1 b o hb), q4, S, h', le_cut k.sle (k.dj.mono (Le.refl _) q1), le_cut (q2.trans k.hle) q3.symm, k.dj.mono (Le.refl _) q2, fun b o hb => k.own b o (q2 b o hb), fun n f hf hk => ?_, fun n f hf hk => ?_, q5⟩
    · exact k.stb n f (n2 n f (q6 _ hf)).1 hk
    · exact absurd hk (n2 n f (q6 _ hf)).2
  · cases h

/-! ### what is known of a state -/
structure At (n : Nat) (env : Env) (bs : Nat → Nat) (a : Act) : Prop where
  size : a.tmps.size = n
  dfr : a.defers = []
  slot : ∀ d s, look env d = some s → a.tmps.getD d undef = conc bs s
def RowOk (M : Nat → Prop) (w : World) (G : GH) (b : Nat) (r : Row) : Prop :=
  r.xs.length = r.n * r.k ∧ ((r.c = 0 ∧ r.n = 0) ∨
    ∃ o, r.p = some ⟨b, o, none⟩ ∧ M b ∧ G b = none ∧ r.n ≤ r.c ∧ r.c ≤ maxLen ∧
      ∃ cur T, w.heap[b]? = some (.cells cur T (0, 0)) ∧ o + r.c * r.k ≤ cur.size ∧ (cur.toList.drop o).take (r.n * r.k) = r.xs)
/-- label i stands for a block of the call's own -/
def Acts (L : Locs) (R : Rows) (i : Nat) : Prop := (∃ l, look L i = some l) ∨ (∃ r, look R i = some r ∧ r.c ≠ 0)
/-- w' is w, but for blocks of H and new ones -/
structure Kp (H : GH) (w w' : World) : Prop where
  os : w'.os = w.os
  tape : w'.tape = w.tape
  output : w'.output = w.output
  size : w.heap.size ≤ w'.heap.size
  block : ∀ k, k < w.heap.size → H k = none → w'.heap[k]? = w.heap[k]?
theorem Kp.refl (H : GH) (w : World) : Kp H w w := ⟨rfl, rfl, rfl, Nat.le_refl _, fun _ _ _ => rfl⟩
theorem Kp.trans {H : GH} {a b c : World} (h : Kp H a b) (k : Kp H b c) : Kp H a c :=
  ⟨k.os.trans h.os, k.tape.trans h.tape, k.output.trans h.output, Nat.le_trans h.size k.size, fun i hi hn => (k.block i (Nat.lt_of_lt_of_le hi h.size) hn).trans (h.block i hi hn)⟩
theorem Kp.wide {H H' : GH} {w w' : World} (h : Kp H w w') (k : ∀ b, H' b = none → b < w.heap.size → H b = none) : Kp H' w w' :=
  ⟨h.os, h.tape, h.output, h.size, fun i hi hn => h.block i hi (k i hn hi)⟩
theorem Kp.below {w w' : World} (h : Kp emp w w') : Below w.heap.size w w' := ⟨h.os, h.tape, h.output, h.size, fun i hi => h.block i hi rfl⟩
def Ret (w : World) (H : GH) (Φ : Value → World → Prop) : Ending → World → Prop :=
  fun e w' => ∃ v, e = .returned v ∧ Kp H w w' ∧ Φ v w'
/-- one function's call: H: memory that the caller has lent -/
structure Cx where
  P : Program
  fn : Func
  tt : TT
  w0 : World
  H : GH
  pin : Option Nat
  Φ : Value → World → Prop
/-- blocks that may be written -/
def Cx.M (C : Cx) (b : Nat) : Prop := C.w0.heap.size ≤ b ∨ C.H b ≠ none
structure HInv (C : Cx) (w : World) (G : GH) (bs : Nat → Nat) (L : Locs) (R : Rows) : Prop where
  keep : Kp C.H C.w0 w
  le : Le G (hp w)
  loc : ∀ i l, look L i = some l → w.heap[bs i]? = some (.cells l.cs.toArray l.T (0, 0)) ∧ C.M (bs i) ∧ G (bs i) = none
  row : ∀ i r, look R i = some r → RowOk C.M w G (bs i) r
  inj : ∀ i j, i ≠ j → Acts L R i → Acts L R j → bs i ≠ bs j
  dis : ∀ i l r, look L i = some l → look R i = some r → False
  pin : ∀ b, C.pin = some b → bs 999 = b
  nr : ∀ r, look R 999 ≠ some r

/-! ### the code that is left -/
inductive It where
  | ops (ops : Array Oper) (rest : List Oper)
  | code (c : Code)
  | blk (id : Nat)
  | iter (I : Act → World → Prop)
def cont (C : Cx) : List It → Exit → Act → World → Prop
  | [] => bodyPost C.P C.fn (Ret C.w0 C.H C.Φ)
  | .code c :: s => Exit.then (c.wp C.P (cont C s)) (cont C s)
  | .blk id :: s => Exit.inBlock id (cont C s)
  | .iter I :: s => Exit.then I (cont C s)
  | .ops ops rest :: s => Exit.then (wpList C.P ops (cont C s) rest) (cont C s)
def SatB (C : Cx) (env : Env) (L : Locs) (R : Rows) (Γ : Facts) (G : GH) (bs : Nat → Nat) (a : Act) (w : World) : Prop :=
  At C.fn.ntmps env bs a ∧ HInv C w G bs L R ∧ AllK C.M G Γ
def Sat (C : Cx) (env : Env) (L : Locs) (R : Rows) (Γ : Facts) (a : Act) (w : World) : Prop :=
  ∃ G bs, SatB C env L R Γ G bs a w
def WX (C : Cx) (s : List It) (env : Env) (L : Locs) (R : Rows) (Γ : Facts) : Prop :=
  ∀ a w, Sat C env L R Γ a w → cont C s .normal a w

/-! ### the table of types -/
def TabOk (P : Program) : TT → Prop
  | [] => True
  | (T, ti) :: r => (P.underlying T = some ti.desc ∧ (P.info? T).map (fun i => (i.zero, i.size, i.bytes)) = some (some ti.zero, ti.size, ti.bytes)) ∧ TabOk P r
theorem TabOk.get {P : Program} : ∀ {tt : TT}, TabOk P tt → ∀ {T : Nat} {ti : TI}, look tt T = some ti →
    P.underlying T = some ti.desc ∧ ∃ i, P.info? T = some i ∧ i.zero = some ti.zero ∧ i.size = ti.size ∧ i.bytes = ti.bytes
  | [], _, _, _, h => by simp [look] at h
  | (T', ti') :: r, h, T, ti, hl => by
    rw [look_cons] at hl
    split at hl
    · rename_i e; subst e; simp at hl; subst hl
      refine ⟨h.1.1, ?_⟩
      have h2 := h.1.2
      cases hi : P.info? T' with
      | none => rw [hi] at h2; simp at h2
      | some i => rw [hi] at h2; simp at h2; exact ⟨i, rfl, h2.1, h2.2.1, h2.2.2⟩
    · exact h.2.get hl

/-! ### operations that only look: their value, if it can be told off the lists -/
def ev (env : Env) : Operand → Option SV
  | .tmp t => look env t
  | .const v => (match v with | .bool true => some .T | .bool false => some .F | v => some (.v v))
  | .func g => some (.f g [])
  | .global _ => none
theorem ev_conc {n : Nat} {env : Env} {bs : Nat → Nat} {a : Act} (h : At n env bs a) {x : Operand} {s : SV} (hx : ev env x = some s) : a.eval x = conc bs s := by
  cases x with
  | tmp t => exact h.slot t s hx
  | const v =>
    simp only [ev] at hx
    split at hx <;> simp only [Option.some.injEq] at hx <;> subst hx <;> rfl
  | func g => simp [ev] at hx; subst hx; rfl
  | global g => simp [ev] at hx
def isStruct : TypeDesc → Bool
  | .struct _ => true
  | _ => false
/-- the value of a variable of this type whose cells these are -/
def asm (ti : TI) (cs : List Value) (off : Nat) : Option Value :=
  match ti.desc with
  | .struct _ => (match dropO cs off with
    | some r => (match takeO r ti.size with | some q => some (.agg ⟨q⟩) | none => none)
    | none => none)
  | .array _ _ => none
  | _ => getO cs off
def cmpI (b : BinOp) (m n : Int) : Option Bool :=
  match b with
  | .lss => some (decide (m < n))
  | .leq => some (decide (m ≤ n))
  | .gtr => some (decide (m > n))
  | .geq => some (decide (m ≥ n))
  | .eql => some (m == n)
  | .neq => some (m != n)
  | _ => none
def cmpS (b : BinOp) (x y : ByteArray) : Option Bool :=
  match b with
  | .eql => some (x.toList == y.toList)
  | .neq => some (!(x.toList == y.toList))
  | .lss => some (Op.bytesLess x.toList y.toList)
  | .leq => some (Op.bytesLess x.toList y.toList || x.toList == y.toList)
  | .gtr => some (!(Op.bytesLess x.toList y.toList || x.toList == y.toList))
  | .geq => some (!(Op.bytesLess x.toList y.toList))
  | _ => none
def fieldO (tt : TT) (T f : Nat) : Option Nat :=
  match look tt T with
  | some ti => (match ti.desc with
    | .struct fs => (match getO fs.toList f with
      | some fd => (match look tt fd.type with
        | some tf => (match tf.size with | 0 => none | _ + 1 => some fd.offset)
        | none => none)
      | none => none)
    | _ => none)
  | none => none
def isNilIf : SV → Bool
  | .p _ _ => false
  | .e (some _) _ _ _ => false
  | .v (.pointer (some _)) => false
  | _ => true
/-- a value's cells, by its type -/
def cellsO (ti : TI) (v : Value) : Option (List Value) :=
  match ti.desc with
  | .struct _ => (match v with | .agg cs => some cs.toList | _ => none)
  | .array _ _ => none
  | _ => (match v with | .agg _ => none | .tuple _ => none | v => some [v])
theorem cellsO_some {ti : TI} {v : Value} {cs : List Value} (h : cellsO ti v = some cs) : v.cells.toList = cs := by
  unfold cellsO at h
  split at h
  · split at h
    · simp at h; subst h; simp [Value.cells]
    · cases h
  · cases h
  · cases v <;> simp at h <;> subst h <;> simp [Value.cells]
/-- the cells 'cs' with the parts laid in -/
def fillO (tt : TT) (env : Env) (place : Nat → Option (Nat × Nat)) (cs : List Value) : List (Nat × Operand) → Option (List Value)
  | [] => some cs
  | (i, x) :: r => (match place i with
    | some (off, T) => (match look tt T with
      | some ti => (match ev env x with
        | some sv => (match valO sv with
          | some v => (match cellsO ti v with
            | some (v0 :: vs) => (match Nat.beq (v0 :: vs).length ti.size with
              | true => (match spliceO cs off (v0 :: vs) with
                | some cs' => fillO tt env place cs' r
                | none => none)
              | false => none)
            | _ => none)
          | none => none)
        | none => none)
      | none => none)
    | none => none)
def fieldPlaceO (fs : List Field) (i : Nat) : Option (Nat × Nat) :=
  match getO fs i with
  | some f => some (f.offset, f.type)
  | none => none
/-- every field's type is in the table -/
def fieldsIn (tt : TT) : List Field → Bool
  | [] => true
  | f :: r => (match look tt f.type with | some _ => fieldsIn tt r | none => false)
def pureS (tt : TT) (env : Env) (L : Locs) (op : Op) : Option SV :=
  match op with
  | .move x => ev env x
  | .assign x => ev env x
  | .pick c x y => (match ev env c with
    | some .T => ev env x
    | some .F => ev env y
    | _ => none)
  | .binOp b _ x y _ => (match ev env x with
    | some (.v (.int .i64 m)) => (match ev env y with
      | some (.v (.int .i64 n)) => (match cmpI b m n with | some r => some (.v (.bool r)) | none => none)
      | _ => none)
    | some (.v (.int .u8 m)) => (match ev env y with
      | some (.v (.int .u8 n)) => (match cmpI b m n with | some r => some (.v (.bool r)) | none => none)
      | _ => none)
    | some (.v (.string m)) => (match ev env y with
      | some (.v (.string n)) => (match cmpS b m n with | some r => some (.v (.bool r)) | none => none)
      | _ => none)
    | _ => none)
  | .unOp .not _ x => (match ev env x with
    | some (.v (.bool b)) => some (.v (.bool (!b)))
    | some .T => some .F
    | some .F => some .T
    | _ => none)
  | .call c => (match c.callee with
    | .builtin .len => (match c.args.toList with
      | [x] => (match c.argTypes.toList with
        | [T] => (match look tt T with
          | some ti => (match ti.desc with
            | .slice _ => (match ev env x with
              | some (.v (.slice _ n _)) => some (.v (.int .i64 n))
              | _ => none)
            | .string => (match ev env x with
              | some (.v (.string b)) => some (.v (.int .i64 b.size))
              | _ => none)
            | _ => none)
          | none => none)
        | _ => none)
      | _ => none)
    | _ => none)
  | .extract x i => (match ev env x with
    | some (.v (.tuple vs)) => (match getO vs.toList i with | some v => some (.v v) | none => none)
    | _ => none)
  | .fieldAddr T x f => (match fieldO tt T f with
    | some o => (match ev env x with
      | some (.p i off) => some (.p i (off + o))
      | some (.e a i k off) => (match a with | some a => some (.e (some a) i k (off + o)) | none => none)
      | _ => none)
    | none => none)
  | .load T x => (match look tt T with
    | some ti => (match ev env x with
      | some (.p i off) => (match look L i with
        | some l => (match asm ti l.cs off with | some v => some (.v v) | none => none)
        | none => none)
      | _ => none)
    | none => none)
  | .makeFunc fn first caps => (match fn with
    | .func g => (match first.toList with
      | [] => (match capsO env caps.toList with | some q => some (.f g q) | none => none)
      | _ => none)
    | _ => none)
  | .build T parts => (match look tt T with
    | some ti => (match ti.desc with
      | .struct fs => (match fieldsIn tt fs.toList with
        | true => (match ti.zero with
          | .agg z => (match fillO tt env (fieldPlaceO fs.toList) z.toList parts.toList with
            | some cs => some (.v (.agg ⟨cs⟩))
            | none => none)
          | _ => none)
        | false => none)
      | _ => none)
    | none => none)
  | .field T x f => (match look tt T with
    | some ti => (match ti.desc with
      | .struct fs => (match getO fs.toList f with
        | some fd => (match look tt fd.type with
          | some tf => (match ev env x with
            | some (.v (.agg cs)) => (match asm tf cs.toList fd.offset with | some v => some (.v v) | none => none)
            | _ => none)
          | none => none)
        | none => none)
      | _ => none)
    | none => none)
  | .nilCheck x => (match ev env x with
    | some sv => (match isNilIf sv with | false => some sv | true => none)
    | none => none)
  | _ => none
where
  capsO (env : Env) : List Operand → Option (List (Nat × Nat))
    | [] => some []
    | x :: r => (match ev env x with
      | some (.p i off) => (match capsO env r with | some q => some ((i, off) :: q) | none => none)
      | _ => none)

theorem addr_add_add (a : Addr) (m n : Nat) : (a.add m).add n = a.add (m + n) := by
  unfold Addr.add
  by_cases hm : m = 0 <;> by_cases hn : n = 0 <;> simp [hm, hn, Nat.add_assoc]
def aggD : TypeDesc → Bool
  | .struct _ => true
  | .array _ _ => true
  | _ => false
theorem run_isAgg {P : Program} {T : Nat} {d : TypeDesc} (h : P.underlying T = some d) (w : World) :
    (isAgg T).run P w = .ok (aggD d) w := by
  unfold isAgg
  simp only [Sem.run_bind, run_underlying h, Result.andThen_ok]
  cases d <;> rfl
theorem run_sizeOf {P : Program} {T : Nat} {i : TypeInfo} (h : P.info? T = some i) (w : World) : (sizeOf T).run P w = .ok i.size w := by
  simp [sizeOf, typeInfo, h]
/-- a load of a variable whose cells are known -/
theorem run_loadVar {P : Program} {tt : TT} (ht : TabOk P tt) {T : Nat} {ti : TI} (hT : look tt T = some ti) {w : World} {a : Addr} {cs : List Value} {off : Nat} {v : Value}
    (hc : ∀ j u, cs[j]? = some u → w.cell? (a.add j) = some u) (hv : asm ti cs off = some v) : (loadVar T (a.add off)).run P w = .ok v w := by
  obtain ⟨hu, i, hi, _, hs, _⟩ := ht.get hT
  have hcell : ∀ j u, (cs.drop off)[j]? = some u → w.cell? ((a.add off).add j) = some u := by
    intro j u h
    rw [List.getElem?_drop] at h
    rw [addr_add_add]
    exact hc _ _ h
  unfold loadVar
  simp only [Sem.run_bind, run_isAgg hu, Result.andThen_ok]
  unfold asm at hv
  split at hv
  · rename_i fs hd
    rw [hd]
    simp only [aggD, if_true, Sem.run_bind, run_sizeOf hi, Result.andThen_ok, hs]
    split at hv
    · rename_i r hr
      obtain ⟨_, rfl⟩ := dropO_some _ _ _ hr
      split at hv
      · rename_i q hq
        obtain ⟨hl, rfl⟩ := takeO_some _ _ _ hq
        have hrun := run_loadCells_list (P := P) w (a.add off) ((cs.drop off).take ti.size) (fun j u h => by
          rw [List.getElem?_take] at h
          split at h
          · exact hcell j u h
          · cases h)
        rw [List.length_take, Nat.min_eq_left hl] at hrun
        simp only [Option.some.injEq] at hv
        subst hv
        simp only [hrun, Result.andThen_ok, Sem.run_pure]
      · cases hv
    · cases hv
  · cases hv
  · rename_i h1 h2
    rw [getO_eq] at hv
    have : aggD ti.desc = false := by
      cases hd : ti.desc <;> simp_all [aggD]
    rw [this]
    simp only [Bool.false_eq_true, if_false, run_load]
    rw [hc off v hv]

theorem run_fieldAt {P : Program} {tt : TT} (ht : TabOk P tt) {T f o : Nat} (h : fieldO tt T f = some o) (w : World) (a : Addr) :
    (Instr.fieldAt T (.pointer (some a)) f).run P w = .ok (.pointer (some (a.add o))) w := by
  unfold fieldO at h
  split at h
  · rename_i ti hT
    split at h
    · rename_i fs hd
      split at h
      · rename_i fd hf
        split at h
        · rename_i tf hF
          split at h
          · cases h
          · rename_i k hk
            simp only [Option.some.injEq] at h
            subst h
            obtain ⟨hu, _⟩ := ht.get hT
            obtain ⟨_, i, hi, _, hs, _⟩ := ht.get hF
            rw [getO_eq] at hf
            have hf' : fs[f]? = some fd := by simpa using hf
            rw [hd] at hu
            have hz : i.size ≠ 0 := by omega
            simp [Instr.fieldAt, run_underlying hu, hf', Instr.sureAddr, fieldPlace, run_sizeOf hi, hz]
        · cases h
      · cases h
    · cases h
  · cases h

theorem capsO_sound {n : Nat} {env : Env} {bs : Nat → Nat} {a : Act} (hA : At n env bs a) : ∀ (l : List Operand) (q : List (Nat × Nat)), pureS.capsO env l = some q →
    l.map a.eval = q.map fun c => Value.pointer (some ⟨bs c.1, c.2, none⟩)
  | [], q, h => by simp [pureS.capsO] at h; subst h; rfl
  | x :: r, q, h => by
    simp only [pureS.capsO] at h
    split at h
    · rename_i i off hx
      split at h
      · rename_i q' hq
        simp only [Option.some.injEq] at h
        subst h
        simp only [List.map_cons, capsO_sound hA r q' hq, ev_conc hA hx]
        rfl
      · cases h
    · cases h

theorem foldl_splice (off : Nat) : ∀ (vs : List Value) (j : Nat) (cs cs' : List Value), off + j + vs.length ≤ cs.length → cs' = cs.take (off + j) ++ vs ++ cs.drop (off + j + vs.length) →
    (vs.zipIdx j).foldl (fun (c : Array Value) (x : Value × Nat) => c.setIfInBounds (off + x.2) x.1) cs.toArray = cs'.toArray
  | [], j, cs, cs', _, h => by subst h; simp
  | v :: vs, j, cs, cs', hl, h => by
    simp only [List.zipIdx_cons, List.foldl_cons]
    rw [show cs.toArray.setIfInBounds (off + j) v = (cs.set (off + j) v).toArray by simp]
    refine foldl_splice off vs (j + 1) _ _ (by simp at hl ⊢; omega) ?_
    rw [h, ← splice_step cs (off + j) v vs hl]
    simp [Nat.add_assoc]
theorem fill_cons {place : Nat → Option (Nat × Nat)} {i : Nat} {v : Value} {rest : List (Nat × Value)} {cs cs' vs : List Value} {off : Nat} (hp : place i = some (off, vs.length)) (hv : v.cells.toList = vs) (hvs : vs ≠ []) (hsp : spliceO cs off vs = some cs') :
    Instr.fill place cs.toArray ((i, v) :: rest) = Instr.fill place cs'.toArray rest := by
  have hsz : v.cells.size = vs.length := by rw [← hv]; simp
  obtain ⟨q1, q2, q3, q4⟩ := spliceO_some _ _ _ _ hsp
  have hle := q2.resolve_left hvs
  have hfold : v.cells.zipIdx.foldl (fun (c : Array Value) (x : Value × Nat) => c.setIfInBounds (off + x.2) x.1) cs.toArray = cs'.toArray := by
    rw [← Array.foldl_toList, Array.toList_zipIdx, hv]
    exact foldl_splice off vs 0 cs cs' (by simpa using hle) (by simpa using q3 hvs)
  rw [Instr.fill, hp]
  have : ¬ (off + vs.length > cs.length) := by omega
  simp only [hsz, List.size_toArray, this, ne_eq, not_true_eq_false, decide_false, Bool.or_self, Bool.false_eq_true, if_false]
  exact congrArg (fun z => Instr.fill place z rest) hfold
theorem fillO_sound {P : Program} {tt : TT} (ht : TabOk P tt) {n : Nat} {env : Env} {bs : Nat → Nat} {a : Act} (hA : At n env bs a) {place place' : Nat → Option (Nat × Nat)}
    (hp : ∀ i off T ti, place i = some (off, T) → look tt T = some ti → place' i = some (off, ti.size)) :
    ∀ (parts : List (Nat × Operand)) (cs r : List Value), fillO tt env place cs parts = some r → Instr.fill place' cs.toArray (parts.map fun x => (x.1, a.eval x.2)) = some r.toArray
  | [], cs, r, h => by simp [fillO] at h; subst h; simp [Instr.fill]
  | (i, x) :: rest, cs, r, h => by
    simp only [fillO] at h
    split at h
    · rename_i off T hpl
      split at h
      · rename_i ti hT
        split at h
        · rename_i sv hs
          split at h
          · rename_i v hv
            split at h
            · rename_i v0 vs hvs
              split at h
              · rename_i hlen
                split at h
                · rename_i cs' hsp
                  have hcells := cellsO_some hvs
                  have heval : a.eval x = v := by rw [ev_conc hA hs, valO_conc hv]
                  simp only [List.map_cons, heval]
                  have hsize : (v0 :: vs).length = ti.size := Nat.eq_of_beq_eq_true hlen
                  rw [fill_cons (by rw [hsize]; exact hp i off T ti hpl hT) hcells (by simp) hsp]
                  exact fillO_sound ht hA hp rest cs' r h
                · cases h
              · cases h
            · cases h
          · cases h
        · cases h
      · cases h
    · cases h
theorem fieldsIn_sound {P : Program} {tt : TT} (ht : TabOk P tt) : ∀ (fs : List Field), fieldsIn tt fs = true →
    ∃ places, fs.mapM (fun f => (P.info? f.type).map fun i => (f.offset, i.size)) = some places ∧ ∀ (i : Nat) (f : Field) (ti : TI), fs[i]? = some f → look tt f.type = some ti → places[i]? = some (f.offset, ti.size)
  | [], _ => ⟨[], by simp, by simp⟩
  | f :: r, h => by
    simp only [fieldsIn] at h
    split at h
    · rename_i ti hti
      obtain ⟨places, h1, h2⟩ := fieldsIn_sound ht r h
      obtain ⟨_, inf, hi, _, hs, _⟩ := ht.get hti
      refine ⟨(f.offset, inf.size) :: places, by simp [hi, h1], fun i g tg hg htg => ?_⟩
      cases i with
      | zero => simp at hg; subst hg; rw [hti] at htg; simp at htg; subst htg; simp [hs]
      | succ i => simpa using h2 i g tg (by simpa using hg) htg
    · cases h
theorem pureS_sound {C : Cx} (ht : TabOk C.P C.tt) {env : Env} {L : Locs} {R : Rows} {G : GH} {bs : Nat → Nat} {a : Act} {w : World} (hA : At C.fn.ntmps env bs a) (hI : HInv C w G bs L R)
    {o : Oper} {sv : SV} (h : pureS C.tt env L o.op = some sv) : (execOp a.eval o).run C.P w = .ok (.value (conc bs sv)) w := by
  unfold pureS at h
  unfold execOp
  split at h
  case h_1 x ho => simp only [ho, ev_conc hA h]; rfl
  case h_2 x ho => simp only [ho, ev_conc hA h]; rfl
  case h_3 c x y ho =>
    simp only [ho]
    split at h
    · rename_i hc; simp only [ev_conc hA hc, ev_conc hA h]; rfl
    · rename_i hc; simp only [ev_conc hA hc, ev_conc hA h]; rfl
    · cases h
  case h_4 b xt x y yt ho =>
    simp only [ho]
    split at h
    · rename_i m hx
      split at h
      · rename_i n hy
        split at h
        · rename_i r hr
          simp only [Option.some.injEq] at h; subst h
          simp only [ev_conc hA hx, ev_conc hA hy]
          cases b <;> simp [cmpI] at hr <;> subst hr <;> simp [conc, eqGuard, binOp, Op.intCmp]
        · cases h
      · cases h
    · rename_i m hx
      split at h
      · rename_i n hy
        split at h
        · rename_i r hr
          simp only [Option.some.injEq] at h; subst h
          simp only [ev_conc hA hx, ev_conc hA hy]
          cases b <;> simp [cmpI] at hr <;> subst hr <;> simp [conc, eqGuard, binOp, Op.intCmp]
        · cases h
      · cases h
    · rename_i m hx
      split at h
      · rename_i n hy
        split at h
        · rename_i r hr
          simp only [Option.some.injEq] at h; subst h
          simp only [ev_conc hA hx, ev_conc hA hy]
          cases b <;> simp only [cmpS, Option.some.injEq, reduceCtorEq] at hr <;> subst hr <;> simp [conc, eqGuard, binOp, Op.stringOp]
        · cases h
      · cases h
    · cases h
  case h_5 xt x ho =>
    simp only [ho]
    split at h
    · rename_i b hx
      simp only [Option.some.injEq] at h; subst h
      simp only [ev_conc hA hx]
      simp [conc, Op.unary]
    · rename_i hx
      simp only [Option.some.injEq] at h; subst h
      simp only [ev_conc hA hx]
      simp [conc, Op.unary]
    · rename_i hx
      simp only [Option.some.injEq] at h; subst h
      simp only [ev_conc hA hx]
      simp [conc, Op.unary]
    · cases h
  case h_6 c ho =>
    simp only [ho]
    split at h
    · rename_i hb
      split at h
      · rename_i x hx
        split at h
        · rename_i T hT
          split at h
          · rename_i ti htt
            obtain ⟨hu, _⟩ := ht.get htt
            have hargs : c.args = #[x] := by cases hc : c.args; simp_all
            have hty : c.argTypes = #[T] := by cases hc : c.argTypes; simp_all
            split at h
            · rename_i e hd
              rw [hd] at hu
              split at h
              · rename_i p n cc hv
                simp only [Option.some.injEq] at h; subst h
                simp [resolve, hb, hargs, hty, ev_conc hA hv, conc, invoke, builtin, Builtin.len_, run_underlying hu, goInt]
              · cases h
            · rename_i hd
              rw [hd] at hu
              split at h
              · rename_i b hv
                simp only [Option.some.injEq] at h; subst h
                simp [resolve, hb, hargs, hty, ev_conc hA hv, conc, invoke, builtin, Builtin.len_, run_underlying hu, goInt]
              · cases h
            · cases h
          · cases h
        · cases h
      · cases h
    · cases h
  case h_7 x i ho =>
    simp only [ho]
    split at h
    · rename_i vs hx
      split at h
      · rename_i v hv
        simp only [Option.some.injEq] at h; subst h
        rw [getO_eq] at hv
        have hv' : vs[i]? = some v := by simpa using hv
        simp [ev_conc hA hx, conc, Instr.extract, hv']
      · cases h
    · cases h
  case h_8 T x f ho =>
    simp only [ho]
    split at h
    · rename_i o' hf
      split at h
      · rename_i i off hx
        simp only [Option.some.injEq] at h; subst h
        simp only [ev_conc hA hx, conc]
        simp only [Sem.run_bind, run_fieldAt ht hf, Result.andThen_ok, Sem.run_pure, Addr.add_lit]
      · rename_i ad i k off hx
        split at h
        · rename_i a'
          simp only [Option.some.injEq] at h; subst h
          simp only [ev_conc hA hx, conc]
          simp only [Sem.run_bind, run_fieldAt ht hf, Result.andThen_ok, Sem.run_pure, addr_add_add, Nat.add_assoc]
        · cases h
      · cases h
    · cases h
  case h_9 T x ho =>
    simp only [ho]
    split at h
    · rename_i ti hT
      split at h
      · rename_i i off hx
        split at h
        · rename_i l hl
          split at h
          · rename_i v hv
            simp only [Option.some.injEq] at h; subst h
            obtain ⟨hb, _⟩ := hI.loc i l hl
            have hrun := run_loadVar (P := C.P) ht hT (w := w) (a := ⟨bs i, 0, none⟩) (cs := l.cs) (off := off) (v := v) (fun j u hj => by
              rw [Addr.add_lit, cell_of_row w _ _ _ _ _ hb]; simpa using hj) hv
            rw [Addr.add_lit, Nat.zero_add] at hrun
            simp only [ev_conc hA hx, conc, Instr.loadAt, Instr.sureAddr, Sem.run_bind, Sem.run_pure, Result.andThen_ok, hrun]
          · cases h
        · cases h
      · cases h
    · cases h
  case h_10 fn first caps ho =>
    simp only [ho]
    split at h
    · rename_i g
      split at h
      · rename_i hf
        split at h
        · rename_i q hq
          simp only [Option.some.injEq] at h; subst h
          have hfirst : first = #[] := by cases first; simp_all
          have hcaps : caps.map a.eval = (q.map fun c => Value.pointer (some ⟨bs c.1, c.2, none⟩)).toArray := by
            apply Array.ext'
            simpa using capsO_sound hA _ _ hq
          simp [hfirst, hcaps, conc, Instr.makeFunc]
        · cases h
      · cases h
    · cases h
  case h_11 T parts ho =>
    simp only [ho]
    split at h
    · rename_i ti hT
      split at h
      · rename_i fs hd
        split at h
        · rename_i hin
          split at h
          · rename_i z hz
            split at h
            · rename_i cs hcs
              simp only [Option.some.injEq] at h; subst h
              obtain ⟨hu, inf, hi, hz', _, _⟩ := ht.get hT
              rw [hd] at hu
              rw [hz] at hz'
              obtain ⟨places, hpl, hpl2⟩ := fieldsIn_sound ht _ hin
              have hfill := fillO_sound ht hA (place' := fun i => places.toArray[i]?) (fun i off T ti h1 h2 => by
                unfold fieldPlaceO at h1
                split at h1
                · rename_i f hf
                  simp only [Option.some.injEq, Prod.mk.injEq] at h1
                  obtain ⟨rfl, rfl⟩ := h1
                  rw [getO_eq] at hf
                  simpa using hpl2 i f ti hf h2
                · cases h1) _ _ _ hcs
              have hb : C.P.built T (parts.map fun x => (x.1, a.eval x.2)).toList = some cs.toArray := by
                unfold Program.built
                simp only [hi, hu, hz', hpl, Value.cells]
                simpa using hfill
              simp only [Sem.run_bind, run_build w T _ _ hb, Result.andThen_ok, Sem.run_pure, conc]
            · cases h
          · cases h
        · cases h
      · cases h
    · cases h
  case h_12 T x f ho =>
    simp only [ho]
    split at h
    · rename_i ti hT
      split at h
      · rename_i fs hd
        split at h
        · rename_i fd hfd
          split at h
          · rename_i tf hF
            split at h
            · rename_i cs hx
              split at h
              · rename_i v hv
                simp only [Option.some.injEq] at h; subst h
                obtain ⟨hu, _⟩ := ht.get hT
                obtain ⟨hu2, inf, hi, _, hs, _⟩ := ht.get hF
                rw [hd] at hu
                rw [getO_eq] at hfd
                have hfd' : fs[f]? = some fd := by simpa using hfd
                have hpart : (part fd.type cs fd.offset).run C.P w = .ok v w := by
                  unfold part
                  simp only [Sem.run_bind, run_isAgg hu2, Result.andThen_ok]
                  unfold asm at hv
                  split at hv
                  · rename_i hd2
                    rw [hd2]
                    split at hv
                    · rename_i r hr
                      split at hv
                      · rename_i q hq
                        obtain ⟨h1, rfl⟩ := dropO_some _ _ _ hr
                        obtain ⟨h2, rfl⟩ := takeO_some _ _ _ hq
                        simp only [Option.some.injEq] at hv
                        subst hv
                        simp only [aggD, if_true, Sem.run_bind, run_sizeOf hi, Result.andThen_ok, Sem.run_pure, hs]
                        congr 2
                        apply Array.ext'
                        simp [List.extract_eq_take_drop]
                      · cases hv
                    · cases hv
                  · cases hv
                  · rename_i h1 h2
                    have : aggD tf.desc = false := by cases hd3 : tf.desc <;> simp_all [aggD]
                    rw [this]
                    rw [getO_eq] at hv
                    have hv' : cs[fd.offset]? = some v := by simpa using hv
                    simp [hv']
                simp [Instr.field, ev_conc hA hx, conc, run_underlying hu, hfd', asAgg, hpart]
              · cases h
            · cases h
          · cases h
        · cases h
      · cases h
    · cases h
  case h_13 x ho =>
    simp only [ho]
    split at h
    · rename_i sv' hx
      split at h
      · rename_i hn
        simp only [Option.some.injEq] at h; subst h
        rw [ev_conc hA hx]
        cases sv' with
        | p i off => rfl
        | e ad i k off => cases ad <;> simp [isNilIf] at hn; rfl
        | v y => cases y <;> simp [isNilIf] at hn; rename_i ad; cases ad <;> simp at hn; rfl
        | f g caps => simp [isNilIf] at hn
        | T => simp [isNilIf] at hn
        | F => simp [isNilIf] at hn
      · cases h
    · cases h
  · cases h

/-! ### operations that make or write a variable of the call's own -/
def svHas (d : Nat) : SV → Bool
  | .p i _ => Nat.beq i d
  | .f _ caps => capHas caps
  | .v _ => false
  | .e _ _ _ _ => false
  | .T => false
  | .F => false
where
  capHas : List (Nat × Nat) → Bool
    | [] => false
    | (i, _) :: r => (match Nat.beq i d with
      | true => true
      | false => capHas r)
def envHas (d : Nat) : Env → Bool
  | [] => false
  | (_, s) :: r => (match svHas d s with
    | true => true
    | false => envHas d r)
def keyHas {α : Type} (d : Nat) : List (Nat × α) → Bool
  | [] => false
  | (i, _) :: r => (match Nat.beq i d with
    | true => true
    | false => keyHas d r)
/-- the label d is taken -/
def labHas (d : Nat) (env : Env) (L : Locs) (R : Rows) : Bool :=
  match Nat.beq d 999 with
  | true => true
  | false => (match envHas d env with
    | true => true
    | false => (match keyHas d L with
      | true => true
      | false => keyHas d R))
theorem capHas_ne {d : Nat} : ∀ {l : List (Nat × Nat)} {c : Nat × Nat}, svHas.capHas d l = false → c ∈ l → c.1 ≠ d
  | (i, o) :: r, c, h, hc => by
    simp only [svHas.capHas] at h
    split at h
    · cases h
    · rename_i hn
      rcases List.mem_cons.1 hc with rfl | hc
      · exact Nat.ne_of_beq_eq_false hn
      · exact capHas_ne h hc
theorem conc_notH {bs bs' : Nat → Nat} {s : SV} {d : Nat} (hn : svHas d s = false) (h : ∀ i, i ≠ d → bs' i = bs i) : conc bs' s = conc bs s := by
  cases s with
  | v x => rfl
  | p i off => simp only [conc]; rw [h i (Nat.ne_of_beq_eq_false hn)]
  | e a i k off => rfl
  | T => rfl
  | F => rfl
  | f g caps =>
    simp only [conc]
    congr 2
    apply List.map_congr_left
    intro c hc
    rw [h c.1 (capHas_ne hn hc)]
theorem envHas_not {d : Nat} : ∀ {env : Env} {j : Nat} {s : SV}, envHas d env = false → look env j = some s → svHas d s = false
  | [], j, s, _, h => by simp [look] at h
  | (i, y) :: r, j, s, hn, h => by
    rw [look_cons] at h
    simp only [envHas] at hn
    split at hn
    · cases hn
    · rename_i hy
      split at h
      · simp at h; subst h; exact hy
      · exact envHas_not hn h
theorem keyHas_not {α : Type} {d : Nat} : ∀ {l : List (Nat × α)} {i : Nat} {x : α}, keyHas d l = false → look l i = some x → i ≠ d
  | [], i, x, _, h => by simp [look] at h
  | (j, y) :: r, i, x, hn, h => by
    rw [look_cons] at h
    simp only [keyHas] at hn
    split at hn
    · cases hn
    · rename_i hy
      split at h
      · rename_i e; subst e; exact Nat.ne_of_beq_eq_false hy
      · exact keyHas_not hn h
theorem labHas_not {d : Nat} {env : Env} {L : Locs} {R : Rows} (h : labHas d env L R = false) : envHas d env = false ∧ keyHas d L = false ∧ keyHas d R = false ∧ d ≠ 999 := by
  unfold labHas at h
  split at h
  · cases h
  · rename_i h0
    split at h
    · cases h
    · rename_i h1
      split at h
      · cases h
      · rename_i h2
        exact ⟨h1, h2, h, fun e => by subst e; simp at h0⟩
theorem At.notH {n d : Nat} {env : Env} {bs bs' : Nat → Nat} {a : Act} (hA : At n env bs a) (hm : envHas d env = false) (h : ∀ i, i ≠ d → bs' i = bs i) : At n env bs' a :=
  ⟨hA.size, hA.dfr, fun j s hs => by rw [hA.slot j s hs, conc_notH (envHas_not hm hs) h]⟩
def oneB : List Value → Bool
  | [] => true
  | .agg _ :: _ => false
  | .tuple _ :: _ => false
  | _ :: r => oneB r
theorem oneB_spec : ∀ {l : List Value}, oneB l = true → ∀ v ∈ l, v.oneCell' = true
  | [], _, v, h => by cases h
  | x :: r, h, v, hv => by
    rcases List.mem_cons.1 hv with rfl | hv
    · cases v <;> simp_all [oneB, Value.oneCell']
    · exact oneB_spec (by cases x <;> simp_all [oneB]) v hv
/-- the locals with the cells of i changed -/
def setL (L : Locs) (i : Nat) (cs : List Value) : Locs :=
  match L with
  | [] => []
  | (j, l) :: r => match Nat.beq j i with | true => (j, ⟨l.T, cs⟩) :: r | false => (j, l) :: setL r i cs
theorem look_setL : ∀ (L : Locs) (i : Nat) (cs : List Value) (j : Nat), look (setL L i cs) j = if i = j then (look L j).map (fun l => ⟨l.T, cs⟩) else look L j
  | [], i, cs, j => by simp [setL, look]
  | (m, l) :: r, i, cs, j => by
    simp only [setL]
    cases hb : Nat.beq m i with
    | true =>
      have := Nat.eq_of_beq_eq_true hb
      subst this
      simp only [look_cons]
      by_cases h : m = j <;> simp [h]
    | false =>
      have hne : m ≠ i := fun e => by subst e; simp at hb
      simp only [look_cons, look_setL r i cs j]
      by_cases h : m = j
      · subst h; rw [if_pos rfl, if_neg (Ne.symm hne), if_pos rfl]
      · simp [h]
def ladd (tt : TT) (env : Env) (op : Op) : Option Loc :=
  match op with
  | .alloc T => (match look tt T with
    | some ti => (match cellsO ti ti.zero with | some cs => some ⟨T, cs⟩ | none => none)
    | none => none)
  | .box T x => (match look tt T with
    | some ti => (match ev env x with
      | some s => (match valO s with
        | some v => (match cellsO ti v with | some cs => some ⟨T, cs⟩ | none => none)
        | none => none)
      | none => none)
    | none => none)
  | _ => none
def lset (tt : TT) (env : Env) (L : Locs) (op : Op) : Option (Nat × List Value) :=
  match op with
  | .store T x y => (match look tt T with
    | some ti => (match ev env x with
      | some (.p i off) => (match ev env y with
        | some sv => (match valO sv with
          | some v => (match cellsO ti v with
            | some vs => (match Nat.beq vs.length ti.size with
              | true => (match oneB vs with
                | true => (match look L i with
                  | some l => (match spliceO l.cs off vs with | some cs => some (i, cs) | none => none)
                  | none => none)
                | false => none)
              | false => none)
            | none => none)
          | none => none)
        | none => none)
      | _ => none)
    | none => none)
  | _ => none
theorem hp_alloc (w : World) (o : Obj) {b : Nat} (h : b < w.heap.size) : hp (w.alloc o) b = hp w b := heap_alloc_old w o b h
theorem Le.lt {G : GH} {w : World} (h : Le G (hp w)) {b : Nat} {o : Obj} (hb : G b = some o) : b < w.heap.size :=
  (Array.getElem?_eq_some_iff.1 (h b o hb)).1
theorem Le.alloc {G : GH} {w : World} (h : Le G (hp w)) (o : Obj) : Le G (hp (w.alloc o)) := fun b x hb => by
  rw [hp_alloc w o (h.lt hb)]; exact h b x hb
theorem RowOk.alloc {M : Nat → Prop} {w : World} {G : GH} {b : Nat} {r : Row} (h : RowOk M w G b r) (o : Obj) : RowOk M (w.alloc o) G b r := by
  refine ⟨h.1, h.2.imp id fun ⟨o1, h1, h2, h3, h4, h5, cur, T, hh, rest⟩ => ⟨o1, h1, h2, h3, h4, h5, cur, T, ?_, rest⟩⟩
  rw [heap_alloc_old w o b (Array.getElem?_eq_some_iff.1 hh).1]; exact hh
theorem Kp.alloc {H : GH} {w w' : World} (h : Kp H w w') (o : Obj) : Kp H w (w'.alloc o) :=
  h.trans ⟨rfl, rfl, rfl, by simp, fun k hk _ => heap_alloc_old w' o k hk⟩
/-- a new variable -/
theorem HInv.alloc {C : Cx} {w : World} {G : GH} {bs : Nat → Nat} {L : Locs} {R : Rows} (hI : HInv C w G bs L R) (lab : Nat) (h999 : lab ≠ 999) (hL : keyHas lab L = false) (hR : keyHas lab R = false) (l : Loc) :
    HInv C (w.alloc (.cells l.cs.toArray l.T)) G (fun j => if j = lab then w.heap.size else bs j) ((lab, l) :: L) R := by
  have hB : C.w0.heap.size ≤ w.heap.size := hI.keep.size
  have hnL : ∀ {i : Nat} {x : Loc}, look L i = some x → i ≠ lab := fun h => keyHas_not hL h
  have hnR : ∀ {i : Nat} {x : Row}, look R i = some x → i ≠ lab := fun h => keyHas_not hR h
  have hlt : ∀ i, Acts L R i → bs i < w.heap.size := by
    intro i h
    rcases h with ⟨x, hx⟩ | ⟨r, hr, hc⟩
    · exact (Array.getElem?_eq_some_iff.1 (hI.loc i x hx).1).1
    · rcases (hI.row i r hr).2 with ⟨h0, _⟩ | ⟨_, _, _, _, _, _, cur, T, hh, _⟩
      · exact absurd h0 hc
      · exact (Array.getElem?_eq_some_iff.1 hh).1
  have hold : ∀ i, Acts ((lab, l) :: L) R i → i ≠ lab → Acts L R i := by
    intro i h hne
    rcases h with ⟨x, hx⟩ | h
    · rw [look_cons, if_neg (Ne.symm hne)] at hx; exact .inl ⟨x, hx⟩
    · exact .inr h
  refine ⟨hI.keep.alloc _, hI.le.alloc _, ?_, ?_, ?_, fun i x r hx hr => by
    rw [look_cons, if_neg (Ne.symm (hnR hr))] at hx; exact hI.dis i x r hx hr, fun b hb => by simp only [if_neg (Ne.symm h999)]; exact hI.pin b hb, hI.nr⟩
  · intro i x hx
    rw [look_cons] at hx
    by_cases he : lab = i
    · rw [if_pos he] at hx; simp at hx; subst hx; subst he
      simp only [if_true]
      refine ⟨heap_alloc_new w _, .inl hB, ?_⟩
      cases hg : G w.heap.size with
      | none => rfl
      | some o => exact absurd (hI.le.lt hg) (by omega)
    · rw [if_neg he] at hx
      simp only [if_neg (Ne.symm he)]
      obtain ⟨h1, h2, h3⟩ := hI.loc i x hx
      exact ⟨by rw [heap_alloc_old w _ _ (Array.getElem?_eq_some_iff.1 h1).1]; exact h1, h2, h3⟩
  · intro i r hr
    simp only [if_neg (hnR hr)]
    exact (hI.row i r hr).alloc _
  · intro i j hij hi hj
    by_cases h1 : i = lab <;> by_cases h2 : j = lab
    · omega
    · simp only [h1, if_true, if_neg h2]
      have := hlt j (hold j hj h2); omega
    · simp only [h2, if_true, if_neg h1]
      have := hlt i (hold i hi h1); omega
    · simp only [if_neg h1, if_neg h2]
      exact hI.inj i j hij (hold i hi h1) (hold j hj h2)
theorem ladd_sound {C : Cx} (ht : TabOk C.P C.tt) {env : Env} {bs : Nat → Nat} {a : Act} {w : World} (hA : At C.fn.ntmps env bs a)
    {o : Oper} {l : Loc} (h : ladd C.tt env o.op = some l) :
    (execOp a.eval o).run C.P w = .ok (.value (.pointer (some ⟨w.heap.size, 0, none⟩))) (w.alloc (.cells l.cs.toArray l.T)) := by
  unfold ladd at h
  unfold execOp
  split at h
  case h_1 T ho =>
    simp only [ho]
    split at h
    · rename_i ti hT
      obtain ⟨_, i, hi, hz, _⟩ := ht.get hT
      split at h
      · rename_i cs hcs
        simp only [Option.some.injEq] at h; subst h
        have hc : ti.zero.cells = cs.toArray := Array.ext' (by simpa using cellsO_some hcs)
        simp [Instr.alloc, zeroValue, typeInfo, hi, hz, newVar, newRow, hc]
      · cases h
    · cases h
  case h_2 T x ho =>
    simp only [ho]
    split at h
    · rename_i ti hT
      split at h
      · rename_i sv hs
        split at h
        · rename_i v hv
          split at h
          · rename_i cs hcs
            simp only [Option.some.injEq] at h; subst h
            have hc : v.cells = cs.toArray := Array.ext' (by simpa using cellsO_some hcs)
            simp [Instr.box, newVar, newRow, ev_conc hA hs, valO_conc hv, hc]
          · cases h
        · cases h
      · cases h
    · cases h
  · cases h

theorem Kp.setRow {C : Cx} {w : World} (h : Kp C.H C.w0 w) {g : Nat} (hg : C.M g) (cs : Array Value) : Kp C.H C.w0 (w.setRow g cs) :=
  ⟨h.os, h.tape, h.output, Nat.le_trans h.size (by simp [World.setRow]), fun k hk hn => by
    rw [setRow_other w g k cs (fun e => by subst e; rcases hg with hg | hg <;> first | omega | exact hg hn)]; exact h.block k hk hn⟩
theorem Le.setRow {G : GH} {w : World} (h : Le G (hp w)) {g : Nat} (hg : G g = none) (cs : Array Value) : Le G (hp (w.setRow g cs)) := fun b x hb => by
  have : b ≠ g := fun e => by subst e; rw [hg] at hb; cases hb
  show (w.setRow g cs).heap[b]? = _
  rw [setRow_other w g b cs this]; exact h b x hb
theorem RowOk.setRow {M : Nat → Prop} {w : World} {G : GH} {b g : Nat} {r : Row} (h : RowOk M w G b r) (hb : r.c ≠ 0 → b ≠ g) (cs : Array Value) : RowOk M (w.setRow g cs) G b r := by
  refine ⟨h.1, ?_⟩
  rcases h.2 with h0 | ⟨o1, h1, h2, h3, h4, h5, cur, T, hh, rest⟩
  · exact .inl h0
  · by_cases hc : r.c = 0
    · exact .inl ⟨hc, by omega⟩
    · exact .inr ⟨o1, h1, h2, h3, h4, h5, cur, T, by rw [setRow_other w g b cs (hb hc)]; exact hh, rest⟩
theorem HInv.setLoc {C : Cx} {w : World} {G : GH} {bs : Nat → Nat} {L : Locs} {R : Rows} (hI : HInv C w G bs L R) {i : Nat} {l : Loc} (hl : look L i = some l) (cs : List Value) :
    HInv C (w.setRow (bs i) cs.toArray) G bs (setL L i cs) R := by
  obtain ⟨h1, h2, h3⟩ := hI.loc i l hl
  have hact : Acts L R i := .inl ⟨l, hl⟩
  have hsame : ∀ j, Acts (setL L i cs) R j → Acts L R j := by
    intro j h
    rcases h with ⟨x, hx⟩ | h
    · rw [look_setL] at hx
      split at hx
      · rename_i e; subst e; exact hact
      · exact .inl ⟨x, hx⟩
    · exact .inr h
  refine ⟨Kp.setRow hI.keep h2 _, Le.setRow hI.le h3 _, ?_, ?_, fun j k hjk hj hk => hI.inj j k hjk (hsame j hj) (hsame k hk), fun j x r hx hr => by
    rw [look_setL] at hx
    split at hx
    · rename_i e; subst e; exact hI.dis i l r hl hr
    · exact hI.dis j x r hx hr, hI.pin, hI.nr⟩
  · intro j x hx
    rw [look_setL] at hx
    by_cases he : i = j
    · subst he
      rw [if_pos rfl, hl] at hx
      simp at hx; subst hx
      exact ⟨setRow_heap w _ _ _ _ _ h1, h2, h3⟩
    · rw [if_neg he] at hx
      obtain ⟨k1, k2, k3⟩ := hI.loc j x hx
      exact ⟨by rw [setRow_other w _ _ _ (hI.inj j i (Ne.symm he) (.inl ⟨x, hx⟩) hact)]; exact k1, k2, k3⟩
  · intro j r hr
    have he : j ≠ i := fun e => by subst e; exact hI.dis j l r hl hr
    exact (hI.row j r hr).setRow (fun hc => hI.inj j i he (.inr ⟨r, hr, hc⟩) hact) _

theorem lset_sound {C : Cx} (ht : TabOk C.P C.tt) {env : Env} {L : Locs} {R : Rows} {G : GH} {bs : Nat → Nat} {a : Act} {w : World} (hA : At C.fn.ntmps env bs a) (hI : HInv C w G bs L R)
    {o : Oper} {i : Nat} {cs : List Value} (h : lset C.tt env L o.op = some (i, cs)) :
    ∃ w', (execOp a.eval o).run C.P w = .ok .skip w' ∧ HInv C w' G bs (setL L i cs) R := by
  unfold lset at h
  unfold execOp
  split at h
  case h_1 T x y ho =>
    simp only [ho]
    split at h
    · rename_i ti hT
      split at h
      · rename_i i' off hx
        split at h
        · rename_i sv hy
          split at h
          · rename_i v hval
            split at h
            · rename_i vs hvs
              split at h
              · rename_i hlen
                split at h
                · rename_i hone
                  split at h
                  · rename_i l hl
                    split at h
                    · rename_i cs' hsp
                      simp only [Option.some.injEq, Prod.mk.injEq] at h
                      obtain ⟨rfl, rfl⟩ := h
                      obtain ⟨_, inf, hi, _, hs, _⟩ := ht.get hT
                      obtain ⟨hb, hb2, hb3⟩ := hI.loc i' l hl
                      have hc : v.cells.toList = vs := cellsO_some hvs
                      have hsz : v.cells.size = inf.size := by
                        have : v.cells.size = vs.length := by rw [← hc]; simp
                        rw [this, hs]; exact Nat.eq_of_beq_eq_true hlen
                      obtain ⟨q1, q2, q3, q4⟩ := spliceO_some _ _ _ _ hsp
                      have hst : (storeCells ⟨bs i', off, none⟩ vs).run C.P w = .ok () (w.setRow (bs i') cs'.toArray) := by
                        by_cases hv : vs = []
                        · subst hv
                          rw [q4 rfl]
                          have := run_storeCells_at C.P (bs i') 0 l.T [] 0 l.cs.toArray w hb (by simp) (by simp)
                          simp at this
                          simpa [storeCells] using this
                        · have hle : off + vs.length ≤ l.cs.length := q2.resolve_left hv
                          have := run_storeCells_at C.P (bs i') off l.T vs 0 l.cs.toArray w hb (by simpa using hle) (oneB_spec hone)
                          rw [q3 hv]
                          simpa using this
                      refine ⟨w.setRow (bs i') cs'.toArray, ?_, hI.setLoc hl cs'⟩
                      have hcp : conc bs (.p i' off) = .pointer (some ⟨bs i', off, none⟩) := rfl
                      simp [Instr.storeAt, Instr.sureAddr, storeVar, run_sizeOf hi, hsz, ev_conc hA hx, hcp, ev_conc hA hy, valO_conc hval, hc, hst]
                    · cases h
                  · cases h
                · cases h
              · cases h
            · cases h
          · cases h
        · cases h
      · cases h
    · cases h
  · cases h

/-! ### the machine that runs what needs no thought -/
def gd (ops : Array Oper) (env : Env) (o : Oper) : Option Bool :=
  match o.guard with
  | none => some true
  | some (j, want) => (match getO ops.toList j with
    | some oj => (match oj.dst with
      | some d => (match look env d with
        | some .T => some want
        | some .F => some (!want)
        | some (.v (.tuple _)) => some false
        | _ => none)
      | none => none)
    | none => none)
theorem gd_sound {n : Nat} {env : Env} {bs : Nat → Nat} {a : Act} (hA : At n env bs a) {ops : Array Oper} {o : Oper} {b : Bool} (h : gd ops env o = some b) :
    Region.wanted o (yielded ops a.tmps) = b := by
  unfold gd at h
  unfold Region.wanted
  split at h
  · rename_i hg; simp only [Option.some.injEq] at h; subst h; simp [hg]
  · rename_i j want hg
    rw [hg]
    simp only
    split at h
    · rename_i oj hoj
      rw [getO_eq] at hoj
      have hoj' : ops[j]? = some oj := by simpa using hoj
      split at h
      · rename_i d hd
        have key : ∀ sv v, look env d = some sv → conc bs sv = v → v ≠ undef → a.tmps[d]? = some v := by
          intro sv v hv hc hne
          have := hA.slot d _ hv
          rw [hc, Array.getD_eq_getD_getElem?] at this
          cases hq : a.tmps[d]? with
          | none => rw [hq] at this; simp at this; exact absurd this.symm hne
          | some q => rw [hq] at this; simp at this; rw [this]
        split at h
        · rename_i hv
          have := key _ (.bool true) hv rfl (by simp [undef])
          simp only [Option.some.injEq] at h; subst h
          simp [yielded, hoj', hd, this]
        · rename_i hv
          have := key _ (.bool false) hv rfl (by simp [undef])
          simp only [Option.some.injEq] at h; subst h
          simp [yielded, hoj', hd, this]
        · rename_i x hv
          simp only [Option.some.injEq] at h; subst h
          have := hA.slot d _ hv
          simp only [conc] at this
          rw [Array.getD_eq_getD_getElem?] at this
          cases hq : a.tmps[d]? with
          | none => simp [yielded, hoj', hd, hq]
          | some q => rw [hq] at this; simp at this; subst this; simp [yielded, hoj', hd, hq]
        · cases h
      · cases h
    · cases h
def popTo (id : Nat) : List It → Option (List It)
  | [] => none
  | .blk j :: s => (match Nat.beq j id with | true => some s | false => popTo id s)
  | .code _ :: s => popTo id s
  | .iter _ :: s => popTo id s
  | .ops _ _ :: s => popTo id s
theorem cont_exit (C : Cx) (id : Nat) : ∀ (s s' : List It), popTo id s = some s' → cont C s (.exit id) = cont C s' .normal
  | [], s', h => by simp [popTo] at h
  | .blk j :: s, s', h => by
    simp only [popTo] at h
    split at h
    · rename_i hb
      simp only [Option.some.injEq] at h; subst h
      have := Nat.eq_of_beq_eq_true hb
      subst this
      funext a w
      simp [cont, Exit.inBlock]
    · rename_i hb
      have hne : id ≠ j := fun e => by subst e; simp at hb
      funext a w
      simp only [cont, Exit.inBlock, if_neg hne]
      rw [cont_exit C id s s' h]
  | .code _ :: s, s', h => by simp only [popTo] at h; rw [← cont_exit C id s s' h]; rfl
  | .iter _ :: s, s', h => by simp only [popTo] at h; rw [← cont_exit C id s s' h]; rfl
  | .ops _ _ :: s, s', h => by simp only [popTo] at h; rw [← cont_exit C id s s' h]; rfl
def opStep (tt : TT) (n : Nat) (ops : Array Oper) (o : Oper) (env : Env) (L : Locs) (R : Rows) : Option (Env × Locs) :=
  match gd ops env o with
  | some true => (match o.dst with
    | some d => (match Nat.blt d n with
      | true => (match pureS tt env L o.op with
        | some sv => some ((d, sv) :: env, L)
        | none => (match ladd tt env o.op with
          | some l => (match labHas d env L R with
            | false => some ((d, .p d 0) :: env, (d, l) :: L)
            | true => none)
          | none => none))
      | false => none)
    | none => (match lset tt env L o.op with
      | some (i, cs) => some (env, setL L i cs)
      | none => none))
  | some false => (match o.dst with
    | some d => (match Nat.blt d n with
      | true => some ((d, .v undef) :: env, L)
      | false => none)
    | none => some (env, L))
  | none => none
def step1 (tt : TT) (n : Nat) (s : List It) (env : Env) (L : Locs) (R : Rows) : Option (List It × Env × Locs) :=
  match s with
  | .code c :: s => (match c with
    | .seq x y => some (.code x :: .code y :: s, env, L)
    | .skip => some (s, env, L)
    | .block id c => some (.code c :: .blk id :: s, env, L)
    | .exit id => (match popTo id s with | some s' => some (s', env, L) | none => none)
    | .region _ ops false => some (.ops ops ops.toList :: s, env, L)
    | .cond c x y => (match ev env c with
      | some .T => some (.code x :: s, env, L)
      | some .F => some (.code y :: s, env, L)
      | _ => none)
    | _ => none)
  | .blk _ :: s => some (s, env, L)
  | .ops ops rest :: s => (match rest with
    | [] => some (s, env, L)
    | o :: r => (match opStep tt n ops o env L R with
      | some (env', L') => some (.ops ops r :: s, env', L')
      | none => none))
  | _ => none
def exec (tt : TT) (n : Nat) (R : Rows) : Nat → List It → Env → Locs → List It × Env × Locs
  | 0, s, env, L => (s, env, L)
  | fuel + 1, s, env, L => match step1 tt n s env L R with
    | some (s', env', L') => exec tt n R fuel s' env' L'
    | none => (s, env, L)
theorem At.put {n : Nat} {env : Env} {bs : Nat → Nat} {a : Act} (hA : At n env bs a) {d : Nat} (hd : d < n) (s : SV) : At n ((d, s) :: env) bs (a.put (some d) (conc bs s)) := by
  refine ⟨by simp [Act.put, hA.size], by simp [Act.put, hA.dfr], fun e x hx => ?_⟩
  rw [look_cons] at hx
  by_cases he : d = e
  · subst he
    rw [if_pos rfl] at hx
    simp at hx; subst hx
    simp [Act.put, hA.size, hd]
  · rw [if_neg he] at hx
    rw [← hA.slot e x hx]
    simp [Act.put, Array.getElem?_setIfInBounds_ne he]
theorem opStep_sound {C : Cx} (ht : TabOk C.P C.tt) {ops : Array Oper} {o : Oper} {r : List Oper} {env env' : Env} {L L' : Locs} {R : Rows} {Γ : Facts} {Q : Exit → Act → World → Prop}
    (h : opStep C.tt C.fn.ntmps ops o env L R = some (env', L')) (k : ∀ a w, Sat C env' L' R Γ a w → wpList C.P ops Q r a w) :
    ∀ a w, Sat C env L R Γ a w → wpList C.P ops Q (o :: r) a w := by
  rintro a w ⟨G, bs, hA, hI, hΓ⟩
  unfold opStep at h
  unfold wpList
  split at h
  · rename_i hg
    rw [if_pos (gd_sound hA hg)]
    refine .inl ?_
    unfold Oper.wp
    split at h
    · rename_i d hd
      split at h
      · rename_i hlt
        have hlt' : d < C.fn.ntmps := by simpa [Nat.blt_eq] using hlt
        split at h
        · rename_i sv hsv
          simp only [Option.some.injEq, Prod.mk.injEq] at h
          obtain ⟨rfl, rfl⟩ := h
          rw [pureS_sound ht hA hI hsv]
          simp only [Oper.upon, hd]
          exact k _ _ ⟨G, bs, hA.put hlt' sv, hI, hΓ⟩
        · split at h
          · rename_i l hl
            split at h
            · rename_i hnl
              simp only [Option.some.injEq, Prod.mk.injEq] at h
              obtain ⟨rfl, rfl⟩ := h
              rw [ladd_sound ht hA hl]
              simp only [Oper.upon, hd]
              have hI' := hI.alloc d (labHas_not hnl).2.2.2 (labHas_not hnl).2.1 (labHas_not hnl).2.2.1 l
              have hA' := (hA.notH (d := d) (bs' := fun j => if j = d then w.heap.size else bs j) (labHas_not hnl).1 (fun i hi => if_neg hi)).put hlt' (.p d 0)
              simp only [conc, if_true] at hA'
              exact k _ _ ⟨G, _, hA', hI', hΓ⟩
            · cases h
          · cases h
      · cases h
    · rename_i hd
      split at h
      · rename_i i cs hl
        simp only [Option.some.injEq, Prod.mk.injEq] at h
        obtain ⟨rfl, rfl⟩ := h
        obtain ⟨w', hr, hI'⟩ := lset_sound ht hA hI hl
        rw [hr]
        simp only [Oper.upon, hd, Act.put]
        exact k _ _ ⟨G, bs, hA, hI', hΓ⟩
      · cases h
  · rename_i hg
    rw [if_neg (by rw [gd_sound hA hg]; simp)]
    split at h
    · rename_i d hd
      split at h
      · rename_i hlt
        have hlt' : d < C.fn.ntmps := by simpa [Nat.blt_eq] using hlt
        simp only [Option.some.injEq, Prod.mk.injEq] at h
        obtain ⟨rfl, rfl⟩ := h
        rw [hd]
        exact k _ _ ⟨G, bs, hA.put hlt' (.v undef), hI, hΓ⟩
      · cases h
    · rename_i hd
      simp only [Option.some.injEq, Prod.mk.injEq] at h
      obtain ⟨rfl, rfl⟩ := h
      rw [hd]
      exact k _ _ ⟨G, bs, hA, hI, hΓ⟩
  · cases h
theorem step1_sound {C : Cx} (ht : TabOk C.P C.tt) {s s' : List It} {env env' : Env} {L L' : Locs} {R : Rows} {Γ : Facts}
    (h : step1 C.tt C.fn.ntmps s env L R = some (s', env', L')) (k : WX C s' env' L' R Γ) : WX C s env L R Γ := by
  unfold step1 at h
  intro a w hS
  split at h
  · rename_i c s
    show c.wp C.P (cont C s) a w
    split at h
    · simp only [Option.some.injEq, Prod.mk.injEq] at h
      obtain ⟨rfl, rfl, rfl⟩ := h
      exact wp_seq (k a w hS)
    · simp only [Option.some.injEq, Prod.mk.injEq] at h
      obtain ⟨rfl, rfl, rfl⟩ := h
      exact wp_skip (k a w hS)
    · simp only [Option.some.injEq, Prod.mk.injEq] at h
      obtain ⟨rfl, rfl, rfl⟩ := h
      exact wp_block (k a w hS)
    · rename_i id
      split at h
      · rename_i s'' hp
        simp only [Option.some.injEq, Prod.mk.injEq] at h
        obtain ⟨rfl, rfl, rfl⟩ := h
        exact wp_exit (by rw [cont_exit C id s _ hp]; exact k a w hS)
      · cases h
    · simp only [Option.some.injEq, Prod.mk.injEq] at h
      obtain ⟨rfl, rfl, rfl⟩ := h
      exact wp_region_list (k a w hS)
    · obtain ⟨G, bs, hA, hI, hΓ⟩ := hS
      split at h
      · rename_i hc
        simp only [Option.some.injEq, Prod.mk.injEq] at h
        obtain ⟨rfl, rfl, rfl⟩ := h
        exact wp_cond_true (by rw [ev_conc hA hc]; rfl) (k a w ⟨G, bs, hA, hI, hΓ⟩)
      · rename_i hc
        simp only [Option.some.injEq, Prod.mk.injEq] at h
        obtain ⟨rfl, rfl, rfl⟩ := h
        exact wp_cond_false (by rw [ev_conc hA hc]; rfl) (k a w ⟨G, bs, hA, hI, hΓ⟩)
      · cases h
    · cases h
  · simp only [Option.some.injEq, Prod.mk.injEq] at h
    obtain ⟨rfl, rfl, rfl⟩ := h
    exact k a w hS
  · rename_i ops rest s
    split at h
    · simp only [Option.some.injEq, Prod.mk.injEq] at h
      obtain ⟨rfl, rfl, rfl⟩ := h
      exact k a w hS
    · rename_i o r
      split at h
      · rename_i env'' L'' ho
        simp only [Option.some.injEq, Prod.mk.injEq] at h
        obtain ⟨rfl, rfl, rfl⟩ := h
        exact opStep_sound ht ho k a w hS
      · cases h
  · cases h
theorem exec_sound {C : Cx} (ht : TabOk C.P C.tt) {R : Rows} {Γ : Facts} : ∀ (fuel : Nat) (s : List It) (env : Env) (L : Locs) (s' : List It) (env' : Env) (L' : Locs),
    exec C.tt C.fn.ntmps R fuel s env L = (s', env', L') → WX C s' env' L' R Γ → WX C s env L R Γ
  | 0, s, env, L, s', env', L', h, k => by
    simp only [exec, Prod.mk.injEq] at h
    obtain ⟨rfl, rfl, rfl⟩ := h
    exact k
  | fuel + 1, s, env, L, s', env', L', h, k => by
    simp only [exec] at h
    split at h
    · rename_i s1 env1 L1 h1
      exact step1_sound ht h1 (exec_sound ht fuel _ _ _ _ _ _ h k)
    · simp only [Prod.mk.injEq] at h
      obtain ⟨rfl, rfl, rfl⟩ := h
      exact k
end Go.Stp
