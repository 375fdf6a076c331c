/-
  What the proof of one law needs: rules of the program logic, functions as Lean functions, contracts. No condition but what each says. Written by a program (pack.py) out of my own texts.
-/
import Derived.OrdersHeld
import Derived.Tactics
import Derived.Below
import Derived.Laws.AppendOwn
import Derived.Deep.AppendSrc
import Derived.KernelRfl
import Derived.IntWalk
import Derived.Test.YtpmejlbgjkiobaaGreatRows
open Go.IntKind (i64)
set_option linter.unusedVariables false
set_option linter.unusedSimpArgs false
namespace Go.Stp
open Go.RowKit (Below)
variable {v : Value} {g b T d i off n : Nat} {ks : List Nat} {a : Act} {w w' : World} {cs : List Value} {P : Program} {o : Oper} {bs : Nat → Nat}
def look {α : Type} : List (Nat × α) → Nat → Option α
 | [], _ => none
 | (j, x) :: r, i => match Nat.beq j i with | true => some x | false => look r i
theorem adg {α : Type} (j i : Nat) (x : α) (r : List (Nat × α)) : look ((j, x) :: r) i = if j = i then some x else look r i := by
 show (match Nat.beq j i with | true => some x | false => look r i) = _
 cases hb : Nat.beq j i with
 | true => rw [if_pos (Nat.eq_of_beq_eq_true hb)]
 | false => rw [if_neg (fun e => by subst e; simp at hb)]
def getO {α : Type} : List α → Nat → Option α
 | [], _ => none
 | x :: _, 0 => some x
 | _ :: r, n + 1 => getO r n
theorem aey {α : Type} : ∀ (l : List α) (n : Nat), getO l n = l[n]?
 | [], _ => by simp [getO]
 | _ :: _, 0 => by simp [getO]
 | _ :: r, n + 1 => by simp [getO, aey r n]
def atq {α : Type} : List α → Nat → Option (List α)
 | _, 0 => some []
 | x :: r, n + 1 => match atq r n with | some l => some (x :: l) | none => none
 | [], _ + 1 => none
theorem am2 {α : Type} : ∀ (l : List α) (n : Nat) (r : List α), atq l n = some r → n ≤ l.length ∧ r = l.take n
 | l, 0, r, h => by simp [atq] at h; subst h; simp
 | x :: l, n + 1, r, h => by
  simp only [atq] at h
  split at h
  ·rename_i q hq
   obtain ⟨h1, h2⟩ := am2 l n q hq
   simp at h; subst h; subst h2
   exact ⟨by simp; omega, by simp⟩
  ·cases h
 | [], n + 1, r, h => by simp [atq] at h
def atp {α : Type} : List α → Nat → Option (List α)
 | l, 0 => some l
 | _ :: r, n + 1 => atp r n
 | [], _ + 1 => none
theorem als {α : Type} : ∀ (l : List α) (n : Nat) (r : List α), atp l n = some r → n ≤ l.length ∧ r = l.drop n
 | l, 0, r, h => by simp [atp] at h; subst h; simp
 | x :: l, n + 1, r, h => by
  simp only [atp] at h
  obtain ⟨h1, h2⟩ := als l n r h
  exact ⟨by simp; omega, by simpa using h2⟩
 | [], n + 1, r, h => by simp [atp] at h
def agr {α : Type} (l : List α) (o : Nat) (vs : List α) : Option (List α) :=
 match o, l, vs with
 | _, l, [] => some l
 | 0, _ :: l, v :: vs => match agr l 0 vs with | some q => some (v :: q) | none => none
 | o + 1, x :: l, vs => match agr l o vs with | some q => some (x :: q) | none => none
 | _, [], _ => none
theorem ahk {α : Type} : ∀ (l : List α) (o : Nat) (vs r : List α), agr l o vs = some r → r.length = l.length ∧ (vs = [] ∨ o + vs.length ≤ l.length) ∧ (vs ≠ [] → r = l.take o ++ vs ++ l.drop (o + vs.length)) ∧ (vs = [] → r = l) := by
 intro l
 induction l with
 | nil =>
  intro o vs r h
  cases vs with
  | nil => unfold agr at h; simp at h; subst h; simp
  | cons v vs => unfold agr at h; cases o <;> simp at h
 | cons x l ih =>
  intro o vs r h
  cases vs with
  | nil => unfold agr at h; simp at h; subst h; simp
  | cons v vs =>
   cases o with
   | zero =>
    simp only [agr] at h
    split at h
    ·rename_i q hq
     simp at h; subst h
     obtain ⟨h1, h2, h3, h4⟩ := ih 0 vs q hq
     refine ⟨by simp [h1], .inr ?_, fun _ => ?_, fun hc => by cases hc⟩
     ·rcases h2 with h2 | h2
      ·subst h2; simp
      ·simp at h2 ⊢; omega
     ·by_cases hv : vs = []
      ·subst hv; simp [h4 rfl]
      ·have := h3 hv; simp at this; simp [this]
    ·cases h
   | succ o =>
    simp only [agr] at h
    split at h
    ·rename_i q hq
     simp at h; subst h
     obtain ⟨h1, h2, h3, h4⟩ := ih o (v :: vs) q hq
     refine ⟨by simp [h1], .inr ?_, fun _ => ?_, fun hc => by cases hc⟩
     ·rcases h2 with h2 | h2
      ·cases h2
      ·simp at h2 ⊢; omega
     ·have := h3 (by simp)
      rw [this, show o + 1 + (v :: vs).length = (o + (v :: vs).length) + 1 by omega]
      simp
    ·cases h
theorem as7 {α : Type} (l : List α) (o : Nat) (v : α) (vs : List α) (h : o + (v :: vs).length ≤ l.length) :
  (l.set o v).take (o + 1) ++ vs ++ (l.set o v).drop (o + 1 + vs.length) = l.take o ++ (v :: vs) ++ l.drop (o + (v :: vs).length) := by
 simp at h
 have h1 : (l.set o v).take (o + 1) = l.take o ++ [v] := by
  rw [List.take_add_one, List.take_set_of_le (Nat.le_refl _), List.getElem?_set]
  simp; omega
 rw [h1, List.drop_set_of_lt (by omega)]
 simp [Nat.add_assoc, Nat.add_comm 1]
inductive SV where
 | v (x : Value)
 | p (i off : Nat)
 | e (a : Option Addr) (i k off : Nat)
 | f (g : FuncId) (caps : List (Nat × Nat))
 | T
 | F
def conc (bs : Nat → Nat) : SV → Value
 | .v x => x
 | .p i off => .pointer (some ⟨bs i, off, none⟩)
 | .e a i k off => match a with | some a => .pointer (some ((a.add (i * k)).add off)) | none => undef
 | .f g caps => .func (.func g) #[] (caps.map fun c => Value.pointer (some ⟨bs c.1, c.2, none⟩)).toArray
 | .T => .bool true
 | .F => .bool false
theorem apo (bs : Nat → Nat) (x : Value) : conc bs (.v x) = x := rfl
def valO : SV → Option Value
 | .v x => some x
 | .T => some (.bool true)
 | .F => some (.bool false)
 | _ => none
theorem aj3 {s : SV} (h : valO s = some v) (bs : Nat → Nat) : conc bs s = v := by
 cases s <;> simp [valO] at h <;> subst h <;> rfl
abbrev Env := List (Nat × SV)
variable {env env' : Env}
structure TI where
 desc : TypeDesc
 size : Nat
 bytes : Nat
 zero : Value
variable {ti : TI}
abbrev TT := List (Nat × TI)
structure Loc where
 T : Nat
 cs : List Value
variable {l : Loc}
abbrev Locs := List (Nat × Loc)
variable {L L' : Locs}
structure Row where
 k : Nat
 p : Option Addr
 n : Nat
 c : Nat
 xs : List Value
variable {r : Row}
abbrev Rows := List (Nat × Row)
variable {R : Rows}
abbrev GH := Nat → Option Obj
variable {A B G h G' H : GH}
def hp (w : World) : GH := fun b => w.heap[b]?
def Le (G G' : GH) : Prop := ∀ b o, G b = some o → G' b = some o
theorem Le.refl (G : GH) : Le G G := fun _ _ h => h
theorem Le.trans {C : GH} (h : Le A B) (k : Le B C) : Le A C := fun b o x => k b o (h b o x)
def Dj (A B : GH) : Prop := ∀ b, A b = none ∨ B b = none
theorem Dj.symm (h : Dj A B) : Dj B A := fun b => (h b).symm
theorem Dj.mono {A B A' B' : GH} (h : Dj A B) (ha : Le A' A) (hb : Le B' B) : Dj A' B' := fun b => by
 rcases h b with h | h
 ·left; cases hx : A' b with
  | none => rfl
  | some o => rw [ha b o hx] at h; cases h
 ·right; cases hx : B' b with
  | none => rfl
  | some o => rw [hb b o hx] at h; cases h
def emp : GH := fun _ => none
theorem aes (G : GH) : Le emp G := fun _ _ h => by cases h
theorem ag5 (G : GH) : Dj emp G := fun _ => .inl rfl
def cut (G h : GH) : GH := fun b => match h b with | none => G b | some _ => none
theorem ai0 (G h : GH) : Le (cut G h) G := fun b o x => by
 unfold cut at x; cases hb : h b with
 | none => rw [hb] at x; exact x
 | some _ => rw [hb] at x; cases x
theorem ail (ha : Le A G) (hd : Dj A h) : Le A (cut G h) := fun b o x => by
 unfold cut
 rcases hd b with h1 | h1
 ·rw [h1] at x; cases x
 ·rw [h1]; exact ha b o x
theorem ajs (G h : GH) : Dj (cut G h) h := fun b => by
 unfold cut; cases hb : h b with
 | none => exact .inr rfl
 | some _ => exact .inl rfl
theorem akt {G h : GH} {b : Nat} (hb : G b = none) : cut G h b = none := by
 unfold cut; cases h b with
 | none => exact hb
 | some _ => rfl
theorem avw (hl : Le G G') : Le (cut G h) (cut G' h) := ail ((ai0 G h).trans hl) (ajs G h)
def join (A B : GH) : GH := fun b => match A b with | some o => some o | none => B b
theorem adz (A B : GH) : Le A (join A B) := fun b o h => by unfold join; rw [h]
theorem aer (hd : Dj A B) : Le B (join A B) := fun b o h => by
 unfold join
 rcases hd b with h1 | h1
 ·rw [h1]; exact h
 ·rw [h1] at h; cases h
theorem afg {A B G : GH} (ha : Le A G) (hb : Le B G) : Le (join A B) G := fun b o h => by
 unfold join at h
 cases hx : A b with
 | some q => rw [hx] at h; cases h; exact ha b _ hx
 | none => rw [hx] at h; exact hb b o h
theorem ara {A B : GH} {b : Nat} {o : Obj} (h : join A B b = some o) : A b = some o ∨ B b = some o := by
 unfold join at h
 cases hx : A b with
 | some q => rw [hx] at h; exact .inl h
 | none => rw [hx] at h; exact .inr h
theorem agf {C : GH} (ha : Dj A C) (hb : Dj B C) : Dj (join A B) C := fun b => by
 rcases ha b with h1 | h1
 ·rcases hb b with h2 | h2
  ·left; unfold join; rw [h1]; exact h2
  ·exact .inr h2
 ·exact .inr h1
def gcell (G : GH) (a : Addr) : Option Value :=
 match G a.block with
 | some (.cells c _ _) => if a.spot.isSome then none else c[a.off]?
 | _ => none
theorem ahv {G G' : GH} (h : Le G G') {a : Addr} {v : Value} (hc : gcell G a = some v) : gcell G' a = some v := by
 unfold gcell at *
 cases hb : G a.block with
 | none => rw [hb] at hc; cases hc
 | some o => rw [hb] at hc; rw [h _ _ hb]; exact hc
inductive Kd where
 | lin
 | stb
 | der
structure MF where
 k : Kd
 p : GH → Prop
 m : ∀ {G G' : GH}, Le G G' → p G → p G'
variable {fs : List MF} {f : MF}
abbrev Facts := List (Nat × MF)
variable {Γ Γ' : Facts}
def All (G : GH) (fs : List MF) : Prop := ∀ f ∈ fs, f.p G
theorem All.mono (h : Le G G') (k : All G fs) : All G' fs := fun f hf => f.m h (k f hf)
def Sep (h : GH) : List MF → Prop
 | [] => True
 | f :: fs => ∃ h1 h2, Le h1 h ∧ Le h2 h ∧ Dj h1 h2 ∧ f.p h1 ∧ Sep h2 fs
theorem Sep.mono : ∀ {fs : List MF} {h h' : GH}, Le h h' → Sep h fs → Sep h' fs
 | [], _, _, _, _ => trivial
 | _ :: _, _, _, hl, ⟨h1, h2, a, b, c, d, e⟩ => ⟨h1, h2, a.trans hl, b.trans hl, c, d, e⟩
theorem Sep.all : ∀ {fs : List MF} {h : GH}, Sep h fs → All h fs
 | [], _, _, f, hf => by cases hf
 | g :: fs, h, ⟨h1, h2, a, b, _, d, e⟩, f, hf => by
  rcases List.mem_cons.1 hf with rfl | hf
  ·exact f.m a d
  ·exact f.m b (e.all f hf)
theorem Sep.append : ∀ {fs gs : List MF} {h : GH}, Sep h (fs ++ gs) → ∃ h1 h2, Le h1 h ∧ Le h2 h ∧ Dj h1 h2 ∧ Sep h1 fs ∧ Sep h2 gs
 | [], _, h, k => ⟨emp, h, aes _, Le.refl _, ag5 _, trivial, k⟩
 | f :: fs, gs, h, ⟨h1, h2, a, b, c, d, e⟩ => by
  obtain ⟨q1, q2, r1, r2, r3, r4, r5⟩ := Sep.append e
  refine ⟨join h1 q1, q2, afg a (r1.trans b), r2.trans b, agf (c.mono (Le.refl _) r2) r3, ⟨h1, q1, adz _ _, aer (c.mono (Le.refl _) r1), c.mono (Le.refl _) r1, d, r4⟩, r5⟩
theorem Sep.both : ∀ {fs gs : List MF} {h h1 h2 : GH}, Le h1 h → Le h2 h → Dj h1 h2 → Sep h1 fs → Sep h2 gs → Sep h (fs ++ gs)
 | [], _, _, _, _, _, b, _, _, k => k.mono b
 | f :: fs, gs, h, h1, h2, a, b, c, ⟨q1, q2, r1, r2, r3, r4, r5⟩, k =>
  ⟨q1, join q2 h2, r1.trans a, afg (r2.trans a) b, (agf r3.symm ((c.mono r1 (Le.refl _)).symm)).symm, r4, Sep.both (adz _ _) (aer (c.mono r2 (Le.refl _))) (c.mono r2 (Le.refl _)) r5 k⟩
theorem Sep.perm {l l' : List MF} (hp : l.Perm l') : ∀ {h : GH}, Sep h l → Sep h l' := by
 induction hp with
 | nil => exact fun h => h
 | cons x _ ih => exact fun ⟨h1, h2, a, b, c, d, e⟩ => ⟨h1, h2, a, b, c, d, ih e⟩
 | swap x y l =>
  rintro h ⟨h1, h2, a, b, c, d, q1, q2, r1, r2, r3, r4, r5⟩
  exact ⟨q1, join h1 q2, r1.trans b, afg a (r2.trans b), (agf (c.mono (Le.refl _) r1) r3.symm).symm, r4, h1, q2, adz _ _, aer (c.mono (Le.refl _) r2), c.mono (Le.refl _) r2, d, r5⟩
 | trans _ _ ih1 ih2 => exact fun h => ih2 (ih1 h)
theorem Sep.tail : Sep h (f :: fs) → Sep h fs := fun ⟨_, _, _, b, _, _, e⟩ => e.mono b
def lins : Facts → List MF
 | [] => []
 | (_, f) :: r => match f.k with | .lin => f :: lins r | .stb => lins r | .der => lins r
structure Holds (M : Nat → Prop) (G : GH) (Γ : Facts) (S h : GH) : Prop where
 sle : Le S G
 hle : Le h G
 dj : Dj S h
 own : ∀ b o, h b = some o → M b
 stb : ∀ n f, (n, f) ∈ Γ → f.k = .stb → f.p S
 der : ∀ n f, (n, f) ∈ Γ → f.k = .der → f.p G
 lin : Sep h (lins Γ)
def AllK (M : Nat → Prop) (G : GH) (Γ : Facts) : Prop := ∃ S h, Holds M G Γ S h
theorem al1 {α : Type} : ∀ {l : List (Nat × α)} {i : Nat} {x : α}, look l i = some x → (i, x) ∈ l
 | [], i, x, h => by simp [look] at h
 | (j, y) :: r, i, x, h => by
  rw [adg] at h
  split at h
  ·rename_i e; subst e; simp at h; subst h; exact List.mem_cons_self ..
  ·exact List.mem_cons_of_mem _ (al1 h)
theorem asw {n : Nat} {f : MF} : ∀ {Γ : Facts}, (n, f) ∈ Γ → f.k = .lin → f ∈ lins Γ
 | (m, g) :: r, h, hk => by
  rcases List.mem_cons.1 h with h | h
  ·cases h; simp [lins, hk]
  ·have := asw h hk
   unfold lins
   split
   ·exact List.mem_cons_of_mem _ this
   ·exact this
   ·exact this
theorem AllK.mem {M : Nat → Prop} {G : GH} {Γ : Facts} (h : AllK M G Γ) {n : Nat} {f : MF} (hf : (n, f) ∈ Γ) : f.p G := by
 obtain ⟨S, q, h⟩ := h
 cases hk : f.k with
 | lin => exact f.m h.hle (h.lin.all f (asw hf hk))
 | stb => exact f.m h.sle (h.stb n f hf hk)
 | der => exact h.der n f hf hk
theorem AllK.get {M : Nat → Prop} (h : AllK M G Γ) (i : Nat) (hf : look Γ i = some f) : f.p G := h.mem (al1 hf)
theorem AllK.mono {M : Nat → Prop} (hl : Le G G') (k : AllK M G Γ) : AllK M G' Γ := by
 obtain ⟨S, h, k⟩ := k
 exact ⟨S, h, k.sle.trans hl, k.hle.trans hl, k.dj, k.own, k.stb, fun n f hf hk => f.m hl (k.der n f hf hk), k.lin⟩
theorem AllK.new {M : Nat → Prop} {G G' h : GH} {Γ : Facts} (hΓ : AllK M G Γ) (n : Nat) (f : MF) (hG : Le G G') (hl : Le h G') (hd : f.k ≠ .der → Dj h G) (hM : f.k = .lin → ∀ b o, h b = some o → M b) (hp : f.p h) : AllK M G' ((n, f) :: Γ) := by
 obtain ⟨S, q, k⟩ := hΓ
 have hder : ∀ m g, (m, g) ∈ (n, f) :: Γ → g.k = .der → g.p G' := fun m g hg hk => by
  rcases List.mem_cons.1 hg with hg | hg
  ·cases hg; exact f.m hl hp
  ·exact g.m hG (k.der m g hg hk)
 cases hk : f.k with
 | lin =>
  have hD := hd (by rw [hk]; simp)
  refine ⟨S, join h q, k.sle.trans hG, afg hl (k.hle.trans hG), (agf (hD.mono (Le.refl _) k.sle) k.dj.symm).symm, fun b o hb => (ara hb).elim (hM hk b o) (k.own b o), fun m g hg hk' => ?_, hder, ?_⟩
  ·rcases List.mem_cons.1 hg with hg | hg
   ·cases hg; rw [hk] at hk'; cases hk'
   ·exact k.stb m g hg hk'
  ·simp only [lins, hk]
   exact ⟨h, q, adz _ _, aer (hD.mono (Le.refl _) k.hle), hD.mono (Le.refl _) k.hle, hp, k.lin⟩
 | stb =>
  have hD := hd (by rw [hk]; simp)
  refine ⟨join h S, q, afg hl (k.sle.trans hG), k.hle.trans hG, agf (hD.mono (Le.refl _) k.hle) k.dj, k.own, fun m g hg hk' => ?_, hder, ?_⟩
  ·rcases List.mem_cons.1 hg with hg | hg
   ·cases hg; exact f.m (adz _ _) hp
   ·exact g.m (aer (hD.mono (Le.refl _) k.sle)) (k.stb m g hg hk')
  ·simp only [lins, hk]; exact k.lin
 | der =>
  refine ⟨S, q, k.sle.trans hG, k.hle.trans hG, k.dj, k.own, fun m g hg hk' => ?_, hder, ?_⟩
  ·rcases List.mem_cons.1 hg with hg | hg
   ·cases hg; rw [hk] at hk'; cases hk'
   ·exact k.stb m g hg hk'
  ·simp only [lins, hk]; exact k.lin
theorem AllK.der {M : Nat → Prop} (hΓ : AllK M G Γ) (n : Nat) (f : MF) (hk : f.k = .der) (hp : f.p G) : AllK M G ((n, f) :: Γ) :=
 hΓ.new n f (Le.refl _) (Le.refl _) (fun h => absurd hk h) (fun h => by rw [hk] at h; cases h) hp
theorem AllK.stbOf {M : Nat → Prop} (hΓ : AllK M G Γ) (n : Nat) (f : MF) (hk : f.k = .stb) (i : Nat) {g : MF} (hi : look Γ i = some g) (hg : g.k = .stb) (hp : ∀ G, g.p G → f.p G) : AllK M G ((n, f) :: Γ) := by
 obtain ⟨S, q, k⟩ := hΓ
 refine ⟨S, q, k.sle, k.hle, k.dj, k.own, fun m e he hk' => ?_, fun m e he hk' => ?_, ?_⟩
 ·rcases List.mem_cons.1 he with he | he
  ·cases he; exact hp S (k.stb i g (al1 hi) hg)
  ·exact k.stb m e he hk'
 ·rcases List.mem_cons.1 he with he | he
  ·cases he; rw [hk] at hk'; cases hk'
  ·exact k.der m e he hk'
 ·simp only [lins, hk]; exact k.lin
def addL (n : Nat) : List MF → Facts → Facts
 | [], Γ => Γ
 | f :: fs, Γ => (n, f) :: addL (n + 1) fs Γ
theorem AllK.newSep {M : Nat → Prop} : ∀ {fs : List MF} {G h : GH} {Γ : Facts} (n : Nat), AllK M G Γ → Dj h G → (∀ b o, h b = some o → M b) → Sep h fs → AllK M (join G h) (addL n fs Γ)
 | [], G, h, Γ, n, hΓ, _, _, _ => hΓ.mono (adz _ _)
 | f :: fs, G, h, Γ, n, hΓ, hd, hM, ⟨h1, h2, a, b, c, d, e⟩ => by
  have hr := AllK.newSep (n + 1) hΓ (hd.mono b (Le.refl _)) (fun x o hx => hM x o (b x o hx)) e
  exact hr.new n f (afg (adz _ _) (b.trans (aer hd.symm))) (a.trans (aer hd.symm)) (fun _ => (agf (hd.mono a (Le.refl _)).symm c.symm).symm) (fun _ x o hx => hM x o (a x o hx)) d
def addF (n : Nat) (fs : List MF) (Γ : Facts) : Option Facts :=
 match fs with
 | [] => some Γ
 | f :: fs => (match addF (n + 1) fs Γ with | some q => some ((n, f) :: q) | none => none)
theorem amu : ∀ {fs : List MF} {n : Nat} {Γ Γ' : Facts}, addF n fs Γ = some Γ' → Γ' = addL n fs Γ
 | [], n, Γ, Γ', h => by simp [addF] at h; exact h.symm
 | f :: fs, n, Γ, Γ', h => by
  simp only [addF] at h
  split at h
  ·rename_i q hq; simp at h; rw [← h, amu hq]; rfl
  ·cases h
theorem AllK.ders {M : Nat → Prop} {G : GH} : ∀ {fs : List MF} {n : Nat} {Γ Γ' : Facts}, addF n fs Γ = some Γ' → (∀ f ∈ fs, f.k = .der) → All G fs → AllK M G Γ → AllK M G Γ'
 | [], n, Γ, Γ', h, _, _, k => by simp [addF] at h; subst h; exact k
 | f :: fs, n, Γ, Γ', h, hk, ha, k => by
  simp only [addF] at h
  split at h
  ·rename_i q hq
   simp only [Option.some.injEq] at h; subst h
   exact (AllK.ders hq (fun g hg => hk g (List.mem_cons_of_mem _ hg)) (fun g hg => ha g (List.mem_cons_of_mem _ hg)) k).der n f (hk f (List.mem_cons_self ..)) (ha f (List.mem_cons_self ..))
  ·cases h
def auy (k : Nat) : Facts → Option (MF × Facts)
 | [] => none
 | (j, f) :: r => (match Nat.beq j k with
  | true => some (f, r)
  | false => (match auy k r with
   | some (g, q) => some (g, (j, f) :: q)
   | none => none))
theorem alt : ∀ {Γ : Facts} {k : Nat} {f : MF} {Γ' : Facts}, auy k Γ = some (f, Γ') → ((k, f) :: Γ').Perm Γ
 | (j, g) :: r, k, f, Γ', h => by
  simp only [auy] at h
  split at h
  ·rename_i hb
   simp at h
   obtain ⟨rfl, rfl⟩ := h
   rw [Nat.eq_of_beq_eq_true hb]
  ·split at h
   ·rename_i g' q hq
    simp at h
    obtain ⟨rfl, rfl⟩ := h
    exact (List.Perm.swap ..).trans ((alt hq).cons _)
   ·cases h
theorem ar6 {Γ Γ' : Facts} (h : Γ.Perm Γ') : (lins Γ).Perm (lins Γ') := by
 induction h with
 | nil => exact .nil
 | cons x _ ih => obtain ⟨n, f⟩ := x; unfold lins; cases f.k <;> first | exact ih.cons _ | exact ih
 | swap x y l =>
  obtain ⟨n, f⟩ := x; obtain ⟨m, g⟩ := y
  simp only [lins]
  cases f.k <;> cases g.k <;> first | exact List.Perm.swap .. | exact List.Perm.refl _
 | trans _ _ a b => exact a.trans b
theorem AllK.perm {M : Nat → Prop} (h : Γ.Perm Γ') (k : AllK M G Γ) : AllK M G Γ' := by
 obtain ⟨S, q, k⟩ := k
 exact ⟨S, q, k.sle, k.hle, k.dj, k.own, fun n f hf => k.stb n f (h.mem_iff.2 hf), fun n f hf => k.der n f (h.mem_iff.2 hf), k.lin.perm (ar6 h)⟩
theorem AllK.tail {M : Nat → Prop} {G : GH} {x : Nat × MF} {Γ : Facts} (k : AllK M G (x :: Γ)) : AllK M G Γ := by
 obtain ⟨S, q, k⟩ := k
 refine ⟨S, q, k.sle, k.hle, k.dj, k.own, fun n f hf => k.stb n f (List.mem_cons_of_mem _ hf), fun n f hf => k.der n f (List.mem_cons_of_mem _ hf), ?_⟩
 have := k.lin
 obtain ⟨n, f⟩ := x
 unfold lins at this
 cases hk : f.k with
 | lin => rw [hk] at this; exact this.tail
 | stb => rw [hk] at this; exact this
 | der => rw [hk] at this; exact this
def akh : List Nat → Facts → Option Facts
 | [], _ => some []
 | k :: ks, Γ => (match auy k Γ with
  | some (f, r) => (match akh ks r with
   | some q => some ((k, f) :: q)
   | none => none)
  | none => none)
theorem api {M : Nat → Prop} {G : GH} : ∀ {ks : List Nat} {Γ Γ' A : Facts}, akh ks Γ = some Γ' → AllK M G (A ++ Γ) → AllK M G (A ++ Γ')
 | [], Γ, Γ', A, h, k => by
  simp [akh] at h; subst h
  have : ∀ B : Facts, AllK M G (A ++ B) → AllK M G (A ++ []) := by
   intro B
   induction B with
   | nil => exact fun h => h
   | cons x B ih => exact fun h => ih ((h.perm List.perm_middle).tail)
  exact this Γ k
 | n :: ks, Γ, Γ', A, h, k => by
  simp only [akh] at h
  split at h
  ·rename_i f r hr
   split at h
   ·rename_i q hq
    simp at h; subst h
    have h1 : AllK M G ((A ++ [(n, f)]) ++ r) := by
     rw [List.append_assoc]
     exact k.perm ((alt hr).symm.append_left A)
    have := api hq h1
    rwa [List.append_assoc] at this
   ·cases h
  ·cases h
theorem AllK.pick {M : Nat → Prop} (h : akh ks Γ = some Γ') (k : AllK M G Γ) : AllK M G Γ' := api (A := []) h k
def auz : Facts → Option Facts
 | [] => some []
 | (j, f) :: r => (match auz r with
  | some q => (match f.k with | .der => some q | .lin => some ((j, f) :: q) | .stb => some ((j, f) :: q))
  | none => none)
theorem ap7 : ∀ {Γ Γ' : Facts}, auz Γ = some Γ' → lins Γ' = lins Γ ∧ (∀ n f, (n, f) ∈ Γ' → (n, f) ∈ Γ ∧ f.k ≠ .der)
 | [], Γ', h => by simp [auz] at h; subst h; exact ⟨rfl, fun _ _ h => by cases h⟩
 | (j, f) :: r, Γ', h => by
  simp only [auz] at h
  split at h
  ·rename_i q hq
   obtain ⟨h1, h2⟩ := ap7 hq
   have hm : ∀ n g, (n, g) ∈ q → (n, g) ∈ (j, f) :: r ∧ g.k ≠ .der := fun n g hg => ⟨List.mem_cons_of_mem _ (h2 n g hg).1, (h2 n g hg).2⟩
   cases hk : f.k with
   | der => rw [hk] at h; simp at h; subst h; exact ⟨by simp [lins, hk, h1], hm⟩
   | lin =>
    rw [hk] at h; simp at h; subst h
    refine ⟨by simp [lins, hk, h1], fun n g hg => ?_⟩
    rcases List.mem_cons.1 hg with hg | hg
    ·cases hg; exact ⟨List.mem_cons_self .., by rw [hk]; simp⟩
    ·exact hm n g hg
   | stb =>
    rw [hk] at h; simp at h; subst h
    refine ⟨by simp [lins, hk, h1], fun n g hg => ?_⟩
    rcases List.mem_cons.1 hg with hg | hg
    ·cases hg; exact ⟨List.mem_cons_self .., by rw [hk]; simp⟩
    ·exact hm n g hg
  ·cases h
def axe (f : MF) : Bool := match f.k with | .lin => true | .stb => false | .der => false
theorem atz (h : axe f = true) : f.k = .lin := by unfold axe at h; cases hk : f.k <;> rw [hk] at h <;> simp_all
def aup : List Nat → Facts → Option (List MF × Facts)
 | [], Γ => some ([], Γ)
 | k :: ks, Γ => (match auy k Γ with
  | some (f, r) => (match axe f with
   | true => (match aup ks r with
    | some (fs, q) => some (f :: fs, q)
    | none => none)
   | false => none)
  | none => none)
theorem ap9 : ∀ {ks : List Nat} {h : GH} {Γ Γ' : Facts} {fs : List MF}, aup ks Γ = some (fs, Γ') → Sep h (lins Γ) →
  ∃ H h', Le H h ∧ Le h' h ∧ Dj H h' ∧ Sep H fs ∧ Sep h' (lins Γ') ∧ ∀ x ∈ Γ', x ∈ Γ
 | [], h, Γ, Γ', fs, e, k => by
  simp [aup] at e
  obtain ⟨rfl, rfl⟩ := e
  exact ⟨emp, h, aes _, Le.refl _, ag5 _, trivial, k, fun _ h => h⟩
 | n :: ks, h, Γ, Γ', fs, e, k => by
  simp only [aup] at e
  split at e
  ·rename_i f r hr
   split at e
   ·rename_i hl
    split at e
    ·rename_i fs' q hq
     simp at e
     obtain ⟨rfl, rfl⟩ := e
     have hp := alt hr
     have hlin := k.perm (ar6 hp.symm)
     simp only [lins, atz hl] at hlin
     obtain ⟨h1, h2, a, b, c, d, e⟩ := hlin
     obtain ⟨H, h', q1, q2, q3, q4, q5, q6⟩ := ap9 hq e
     exact ⟨join h1 H, h', afg a (q1.trans b), q2.trans b, agf (c.mono (Le.refl _) q2) q3, ⟨h1, H, adz _ _, aer (c.mono (Le.refl _) q1), c.mono (Le.refl _) q1, d, q4⟩, q5, fun x hx => hp.mem_iff.1 (List.mem_cons_of_mem _ (q6 x hx))⟩
    ·cases e
   ·cases e
  ·cases e
def agt (ks : List Nat) (Γ : Facts) : Option (List MF × Facts) :=
 match auz Γ with
 | some Γ0 => aup ks Γ0
 | none => none
theorem agi {M : Nat → Prop} (h : agt ks Γ = some (fs, Γ')) (k : AllK M G Γ) :
  ∃ H, Le H G ∧ (∀ b o, H b = some o → M b) ∧ Sep H fs ∧ AllK M (cut G H) Γ' := by
 unfold agt at h
 split at h
 ·rename_i Γ0 h0
  obtain ⟨n1, n2⟩ := ap7 h0
  obtain ⟨S, g, k⟩ := k
  obtain ⟨H, h', q1, q2, q3, q4, q5, q6⟩ := ap9 h (by rw [n1]; exact k.lin)
  refine ⟨H, q1.trans k.hle, fun b o hb => k.own b o (q1 b o hb), q4, S, h', ail k.sle (k.dj.mono (Le.refl _) q1), ail (q2.trans k.hle) q3.symm, k.dj.mono (Le.refl _) q2, fun b o hb => k.own b o (q2 b o hb), fun n f hf hk => ?_, fun n f hf hk => ?_, q5⟩
  ·exact k.stb n f (n2 n f (q6 _ hf)).1 hk
  ·exact absurd hk (n2 n f (q6 _ hf)).2
 ·cases h
structure At (n : Nat) (env : Env) (bs : Nat → Nat) (a : Act) : Prop where
 size : a.tmps.size = n
 dfr : a.defers = []
 slot : ∀ d s, look env d = some s → a.tmps.getD d undef = conc bs s
def aid (M : Nat → Prop) (w : World) (G : GH) (b : Nat) (r : Row) : Prop :=
 r.xs.length = r.n * r.k ∧ ((r.c = 0 ∧ r.n = 0) ∨
  ∃ o, r.p = some ⟨b, o, none⟩ ∧ M b ∧ G b = none ∧ r.n ≤ r.c ∧ r.c ≤ maxLen ∧
   ∃ cur T, w.heap[b]? = some (.cells cur T (0, 0)) ∧ o + r.c * r.k ≤ cur.size ∧ (cur.toList.drop o).take (r.n * r.k) = r.xs)
def Acts (L : Locs) (R : Rows) (i : Nat) : Prop := (∃ l, look L i = some l) ∨ (∃ r, look R i = some r ∧ r.c ≠ 0)
structure Kp (H : GH) (w w' : World) : Prop where
 os : w'.os = w.os
 tape : w'.tape = w.tape
 output : w'.output = w.output
 size : w.heap.size ≤ w'.heap.size
 block : ∀ k, k < w.heap.size → H k = none → w'.heap[k]? = w.heap[k]?
theorem Kp.refl (H : GH) (w : World) : Kp H w w := ⟨rfl, rfl, rfl, Nat.le_refl _, fun _ _ _ => rfl⟩
theorem Kp.trans {a b c : World} (h : Kp H a b) (k : Kp H b c) : Kp H a c :=
 ⟨k.os.trans h.os, k.tape.trans h.tape, k.output.trans h.output, Nat.le_trans h.size k.size, fun i hi hn => (k.block i (Nat.lt_of_lt_of_le hi h.size) hn).trans (h.block i hi hn)⟩
theorem Kp.wide {H' : GH} (h : Kp H w w') (k : ∀ b, H' b = none → b < w.heap.size → H b = none) : Kp H' w w' :=
 ⟨h.os, h.tape, h.output, h.size, fun i hi hn => h.block i hi (k i hn hi)⟩
theorem Kp.below (h : Kp emp w w') : Below w.heap.size w w' := ⟨h.os, h.tape, h.output, h.size, fun i hi => h.block i hi rfl⟩
def Ret (w : World) (H : GH) (Φ : Value → World → Prop) : Ending → World → Prop :=
 fun e w' => ∃ v, e = .returned v ∧ Kp H w w' ∧ Φ v w'
structure Cx where
 P : Program
 fn : Func
 tt : TT
 w0 : World
 H : GH
 pin : Option Nat
 Φ : Value → World → Prop
variable {C : Cx}
def Cx.M (C : Cx) (b : Nat) : Prop := C.w0.heap.size ≤ b ∨ C.H b ≠ none
structure HInv (C : Cx) (w : World) (G : GH) (bs : Nat → Nat) (L : Locs) (R : Rows) : Prop where
 keep : Kp C.H C.w0 w
 le : Le G (hp w)
 loc : ∀ i l, look L i = some l → w.heap[bs i]? = some (.cells l.cs.toArray l.T (0, 0)) ∧ C.M (bs i) ∧ G (bs i) = none
 row : ∀ i r, look R i = some r → aid C.M w G (bs i) r
 inj : ∀ i j, i ≠ j → Acts L R i → Acts L R j → bs i ≠ bs j
 dis : ∀ i l r, look L i = some l → look R i = some r → False
 pin : ∀ b, C.pin = some b → bs 999 = b
 nr : ∀ r, look R 999 ≠ some r
inductive It where
 | ops (ops : Array Oper) (rest : List Oper)
 | code (c : Code)
 | blk (id : Nat)
 | iter (I : Act → World → Prop)
def cont (C : Cx) : List It → Exit → Act → World → Prop
 | [] => bodyPost C.P C.fn (Ret C.w0 C.H C.Φ)
 | .code c :: s => Exit.then (c.wp C.P (cont C s)) (cont C s)
 | .blk id :: s => Exit.inBlock id (cont C s)
 | .iter I :: s => Exit.then I (cont C s)
 | .ops ops rest :: s => Exit.then (wpList C.P ops (cont C s) rest) (cont C s)
def SatB (C : Cx) (env : Env) (L : Locs) (R : Rows) (Γ : Facts) (G : GH) (bs : Nat → Nat) (a : Act) (w : World) : Prop :=
 At C.fn.ntmps env bs a ∧ HInv C w G bs L R ∧ AllK C.M G Γ
def Sat (C : Cx) (env : Env) (L : Locs) (R : Rows) (Γ : Facts) (a : Act) (w : World) : Prop :=
 ∃ G bs, SatB C env L R Γ G bs a w
def WX (C : Cx) (s : List It) (env : Env) (L : Locs) (R : Rows) (Γ : Facts) : Prop :=
 ∀ a w, Sat C env L R Γ a w → cont C s .normal a w
def aek (P : Program) : TT → Prop
 | [] => True
 | (T, ti) :: r => (P.underlying T = some ti.desc ∧ (P.info? T).map (fun i => (i.zero, i.size, i.bytes)) = some (some ti.zero, ti.size, ti.bytes)) ∧ aek P r
theorem aek.get {P : Program} : ∀ {tt : TT}, aek P tt → ∀ {T : Nat} {ti : TI}, look tt T = some ti →
  P.underlying T = some ti.desc ∧ ∃ i, P.info? T = some i ∧ i.zero = some ti.zero ∧ i.size = ti.size ∧ i.bytes = ti.bytes
 | [], _, _, _, h => by simp [look] at h
 | (T', ti') :: r, h, T, ti, hl => by
  rw [adg] at hl
  split at hl
  ·rename_i e; subst e; simp at hl; subst hl
   refine ⟨h.1.1, ?_⟩
   have h2 := h.1.2
   cases hi : P.info? T' with
   | none => rw [hi] at h2; simp at h2
   | some i => rw [hi] at h2; simp at h2; exact ⟨i, rfl, h2.1, h2.2.1, h2.2.2⟩
  ·exact h.2.get hl
def ev (env : Env) : Operand → Option SV
 | .tmp t => look env t
 | .const v => (match v with | .bool true => some .T | .bool false => some .F | v => some (.v v))
 | .func g => some (.f g [])
 | .global _ => none
theorem ad7 {n : Nat} {env : Env} {bs : Nat → Nat} {a : Act} (h : At n env bs a) {x : Operand} {s : SV} (hx : ev env x = some s) : a.eval x = conc bs s := by
 cases x with
 | tmp t => exact h.slot t s hx
 | const v =>
  simp only [ev] at hx
  split at hx <;> simp only [Option.some.injEq] at hx <;> subst hx <;> rfl
 | func g => simp [ev] at hx; subst hx; rfl
 | global g => simp [ev] at hx
def asm (ti : TI) (cs : List Value) (off : Nat) : Option Value :=
 match ti.desc with
 | .struct _ => (match atp cs off with
  | some r => (match atq r ti.size with | some q => some (.agg ⟨q⟩) | none => none)
  | none => none)
 | .array _ _ => none
 | _ => getO cs off
def cmpI (b : BinOp) (m n : Int) : Option Bool :=
 match b with
 | .lss => some (decide (m < n))
 | .leq => some (decide (m ≤ n))
 | .gtr => some (decide (m > n))
 | .geq => some (decide (m ≥ n))
 | .eql => some (m == n)
 | .neq => some (m != n)
 | _ => none
def cmpS (b : BinOp) (x y : ByteArray) : Option Bool :=
 match b with
 | .eql => some (x.toList == y.toList)
 | .neq => some (!(x.toList == y.toList))
 | .lss => some (Op.bytesLess x.toList y.toList)
 | .leq => some (Op.bytesLess x.toList y.toList || x.toList == y.toList)
 | .gtr => some (!(Op.bytesLess x.toList y.toList || x.toList == y.toList))
 | .geq => some (!(Op.bytesLess x.toList y.toList))
 | _ => none
def av1 (tt : TT) (T f : Nat) : Option Nat :=
 match look tt T with
 | some ti => (match ti.desc with
  | .struct fs => (match getO fs.toList f with
   | some fd => (match look tt fd.type with
    | some tf => (match tf.size with | 0 => none | _ + 1 => some fd.offset)
    | none => none)
   | none => none)
  | _ => none)
 | none => none
def alu : SV → Bool
 | .p _ _ => false
 | .e (some _) _ _ _ => false
 | .v (.pointer (some _)) => false
 | _ => true
def ajq (ti : TI) (v : Value) : Option (List Value) :=
 match ti.desc with
 | .struct _ => (match v with | .agg cs => some cs.toList | _ => none)
 | .array _ _ => none
 | _ => (match v with | .agg _ => none | .tuple _ => none | v => some [v])
theorem ags (h : ajq ti v = some cs) : v.cells.toList = cs := by
 unfold ajq at h
 split at h
 ·split at h
  ·simp at h; subst h; simp [Value.cells]
  ·cases h
 ·cases h
 ·cases v <;> simp at h <;> subst h <;> simp [Value.cells]
def aqg (tt : TT) (env : Env) (place : Nat → Option (Nat × Nat)) (cs : List Value) : List (Nat × Operand) → Option (List Value)
 | [] => some cs
 | (i, x) :: r => (match place i with
  | some (off, T) => (match look tt T with
   | some ti => (match ev env x with
    | some sv => (match valO sv with
     | some v => (match ajq ti v with
      | some (v0 :: vs) => (match Nat.beq (v0 :: vs).length ti.size with
       | true => (match agr cs off (v0 :: vs) with
        | some cs' => aqg tt env place cs' r
        | none => none)
       | false => none)
      | _ => none)
     | none => none)
    | none => none)
   | none => none)
  | none => none)
def ant (fs : List Field) (i : Nat) : Option (Nat × Nat) :=
 match getO fs i with
 | some f => some (f.offset, f.type)
 | none => none
def aml (tt : TT) : List Field → Bool
 | [] => true
 | f :: r => (match look tt f.type with | some _ => aml tt r | none => false)
def aor (tt : TT) (env : Env) (L : Locs) (op : Op) : Option SV :=
 match op with
 | .move x => ev env x
 | .assign x => ev env x
 | .pick c x y => (match ev env c with
  | some .T => ev env x
  | some .F => ev env y
  | _ => none)
 | .binOp b _ x y _ => (match ev env x with
  | some (.v (.int .i64 m)) => (match ev env y with
   | some (.v (.int .i64 n)) => (match cmpI b m n with | some r => some (.v (.bool r)) | none => none)
   | _ => none)
  | some (.v (.int .u8 m)) => (match ev env y with
   | some (.v (.int .u8 n)) => (match cmpI b m n with | some r => some (.v (.bool r)) | none => none)
   | _ => none)
  | some (.v (.string m)) => (match ev env y with
   | some (.v (.string n)) => (match cmpS b m n with | some r => some (.v (.bool r)) | none => none)
   | _ => none)
  | _ => none)
 | .unOp .not _ x => (match ev env x with
  | some (.v (.bool b)) => some (.v (.bool (!b)))
  | some .T => some .F
  | some .F => some .T
  | _ => none)
 | .call c => (match c.callee with
  | .builtin .len => (match c.args.toList with
   | [x] => (match c.argTypes.toList with
    | [T] => (match look tt T with
     | some ti => (match ti.desc with
      | .slice _ => (match ev env x with
       | some (.v (.slice _ n _)) => some (.v (.int .i64 n))
       | _ => none)
      | .string => (match ev env x with
       | some (.v (.string b)) => some (.v (.int .i64 b.size))
       | _ => none)
      | _ => none)
     | none => none)
    | _ => none)
   | _ => none)
  | _ => none)
 | .extract x i => (match ev env x with
  | some (.v (.tuple vs)) => (match getO vs.toList i with | some v => some (.v v) | none => none)
  | _ => none)
 | .fieldAddr T x f => (match av1 tt T f with
  | some o => (match ev env x with
   | some (.p i off) => some (.p i (off + o))
   | some (.e a i k off) => (match a with | some a => some (.e (some a) i k (off + o)) | none => none)
   | _ => none)
  | none => none)
 | .load T x => (match look tt T with
  | some ti => (match ev env x with
   | some (.p i off) => (match look L i with
    | some l => (match asm ti l.cs off with | some v => some (.v v) | none => none)
    | none => none)
   | _ => none)
  | none => none)
 | .makeFunc fn first caps => (match fn with
  | .func g => (match first.toList with
   | [] => (match capsO env caps.toList with | some q => some (.f g q) | none => none)
   | _ => none)
  | _ => none)
 | .build T parts => (match look tt T with
  | some ti => (match ti.desc with
   | .struct fs => (match aml tt fs.toList with
    | true => (match ti.zero with
     | .agg z => (match aqg tt env (ant fs.toList) z.toList parts.toList with
      | some cs => some (.v (.agg ⟨cs⟩))
      | none => none)
     | _ => none)
    | false => none)
   | _ => none)
  | none => none)
 | .field T x f => (match look tt T with
  | some ti => (match ti.desc with
   | .struct fs => (match getO fs.toList f with
    | some fd => (match look tt fd.type with
     | some tf => (match ev env x with
      | some (.v (.agg cs)) => (match asm tf cs.toList fd.offset with | some v => some (.v v) | none => none)
      | _ => none)
     | none => none)
    | none => none)
   | _ => none)
  | none => none)
 | .nilCheck x => (match ev env x with
  | some sv => (match alu sv with | false => some sv | true => none)
  | none => none)
 | _ => none
where
 capsO (env : Env) : List Operand → Option (List (Nat × Nat))
  | [] => some []
  | x :: r => (match ev env x with
   | some (.p i off) => (match capsO env r with | some q => some ((i, off) :: q) | none => none)
   | _ => none)
theorem ag2 (a : Addr) (m n : Nat) : (a.add m).add n = a.add (m + n) := by
 unfold Addr.add
 by_cases hm : m = 0 <;> by_cases hn : n = 0 <;> simp [hm, hn, Nat.add_assoc]
def aggD : TypeDesc → Bool
 | .struct _ => true
 | .array _ _ => true
 | _ => false
theorem arl {d : TypeDesc} (h : P.underlying T = some d) (w : World) :
  (isAgg T).run P w = .ok (aggD d) w := by
 unfold isAgg
 simp only [Sem.run_bind, run_underlying h, Result.andThen_ok]
 cases d <;> rfl
theorem afu {i : TypeInfo} (h : P.info? T = some i) (w : World) : (sizeOf T).run P w = .ok i.size w := by
 simp [sizeOf, typeInfo, h]
theorem ahg {tt : TT} (ht : aek P tt) (hT : look tt T = some ti) {a : Addr}
  (hc : ∀ j u, cs[j]? = some u → w.cell? (a.add j) = some u) (hv : asm ti cs off = some v) : (loadVar T (a.add off)).run P w = .ok v w := by
 obtain ⟨hu, i, hi, _, hs, _⟩ := ht.get hT
 have hcell : ∀ j u, (cs.drop off)[j]? = some u → w.cell? ((a.add off).add j) = some u := by
  intro j u h
  rw [List.getElem?_drop] at h
  rw [ag2]
  exact hc _ _ h
 unfold loadVar
 simp only [Sem.run_bind, arl hu, Result.andThen_ok]
 unfold asm at hv
 split at hv
 ·rename_i fs hd
  rw [hd]
  simp only [aggD, if_true, Sem.run_bind, afu hi, Result.andThen_ok, hs]
  split at hv
  ·rename_i r hr
   obtain ⟨_, rfl⟩ := als _ _ _ hr
   split at hv
   ·rename_i q hq
    obtain ⟨hl, rfl⟩ := am2 _ _ _ hq
    have hrun := run_loadCells_list (P := P) w (a.add off) ((cs.drop off).take ti.size) (fun j u h => by
     rw [List.getElem?_take] at h
     split at h
     ·exact hcell j u h
     ·cases h)
    rw [List.length_take, Nat.min_eq_left hl] at hrun
    simp only [Option.some.injEq] at hv
    subst hv
    simp only [hrun, Result.andThen_ok, Sem.run_pure]
   ·cases hv
  ·cases hv
 ·cases hv
 ·rename_i h1 h2
  rw [aey] at hv
  have : aggD ti.desc = false := by
   cases hd : ti.desc <;> simp_all [aggD]
  rw [this]
  simp only [Bool.false_eq_true, if_false, run_load]
  rw [hc off v hv]
theorem anp {tt : TT} (ht : aek P tt) {f o : Nat} (h : av1 tt T f = some o) (w : World) (a : Addr) :
  (Instr.fieldAt T (.pointer (some a)) f).run P w = .ok (.pointer (some (a.add o))) w := by
 unfold av1 at h
 split at h
 ·rename_i ti hT
  split at h
  ·rename_i fs hd
   split at h
   ·rename_i fd hf
    split at h
    ·rename_i tf hF
     split at h
     ·cases h
     ·rename_i k hk
      simp only [Option.some.injEq] at h
      subst h
      obtain ⟨hu, _⟩ := ht.get hT
      obtain ⟨_, i, hi, _, hs, _⟩ := ht.get hF
      rw [aey] at hf
      have hf' : fs[f]? = some fd := by simpa using hf
      rw [hd] at hu
      have hz : i.size ≠ 0 := by omega
      simp [Instr.fieldAt, run_underlying hu, hf', Instr.sureAddr, fieldPlace, afu hi, hz]
    ·cases h
   ·cases h
  ·cases h
 ·cases h
theorem ao8 {n : Nat} {env : Env} {bs : Nat → Nat} {a : Act} (hA : At n env bs a) : ∀ (l : List Operand) (q : List (Nat × Nat)), aor.capsO env l = some q →
  l.map a.eval = q.map fun c => Value.pointer (some ⟨bs c.1, c.2, none⟩)
 | [], q, h => by simp [aor.capsO] at h; subst h; rfl
 | x :: r, q, h => by
  simp only [aor.capsO] at h
  split at h
  ·rename_i i off hx
   split at h
   ·rename_i q' hq
    simp only [Option.some.injEq] at h
    subst h
    simp only [List.map_cons, ao8 hA r q' hq, ad7 hA hx]
    rfl
   ·cases h
  ·cases h
theorem amc (off : Nat) : ∀ (vs : List Value) (j : Nat) (cs cs' : List Value), off + j + vs.length ≤ cs.length → cs' = cs.take (off + j) ++ vs ++ cs.drop (off + j + vs.length) →
  (vs.zipIdx j).foldl (fun (c : Array Value) (x : Value × Nat) => c.setIfInBounds (off + x.2) x.1) cs.toArray = cs'.toArray
 | [], j, cs, cs', _, h => by subst h; simp
 | v :: vs, j, cs, cs', hl, h => by
  simp only [List.zipIdx_cons, List.foldl_cons]
  rw [show cs.toArray.setIfInBounds (off + j) v = (cs.set (off + j) v).toArray by simp]
  refine amc off vs (j + 1) _ _ (by simp at hl ⊢; omega) ?_
  rw [h, ← as7 cs (off + j) v vs hl]
  simp [Nat.add_assoc]
theorem auu {place : Nat → Option (Nat × Nat)} {rest : List (Nat × Value)} {cs' vs : List Value} (hp : place i = some (off, vs.length)) (hv : v.cells.toList = vs) (hvs : vs ≠ []) (hsp : agr cs off vs = some cs') :
  Instr.fill place cs.toArray ((i, v) :: rest) = Instr.fill place cs'.toArray rest := by
 have hsz : v.cells.size = vs.length := by rw [← hv]; simp
 obtain ⟨q1, q2, q3, q4⟩ := ahk _ _ _ _ hsp
 have hle := q2.resolve_left hvs
 have hfold : v.cells.zipIdx.foldl (fun (c : Array Value) (x : Value × Nat) => c.setIfInBounds (off + x.2) x.1) cs.toArray = cs'.toArray := by
  rw [← Array.foldl_toList, Array.toList_zipIdx, hv]
  exact amc off vs 0 cs cs' (by simpa using hle) (by simpa using q3 hvs)
 rw [Instr.fill, hp]
 have : ¬ (off + vs.length > cs.length) := by omega
 simp only [hsz, List.size_toArray, this, ne_eq, not_true_eq_false, decide_false, Bool.or_self, Bool.false_eq_true, if_false]
 exact congrArg (fun z => Instr.fill place z rest) hfold
theorem aig {P : Program} {tt : TT} (ht : aek P tt) {n : Nat} {env : Env} {bs : Nat → Nat} {a : Act} (hA : At n env bs a) {place place' : Nat → Option (Nat × Nat)}
  (hp : ∀ i off T ti, place i = some (off, T) → look tt T = some ti → place' i = some (off, ti.size)) :
  ∀ (parts : List (Nat × Operand)) (cs r : List Value), aqg tt env place cs parts = some r → Instr.fill place' cs.toArray (parts.map fun x => (x.1, a.eval x.2)) = some r.toArray
 | [], cs, r, h => by simp [aqg] at h; subst h; simp [Instr.fill]
 | (i, x) :: rest, cs, r, h => by
  simp only [aqg] at h
  split at h
  ·rename_i off T hpl
   split at h
   ·rename_i ti hT
    split at h
    ·rename_i sv hs
     split at h
     ·rename_i v hv
      split at h
      ·rename_i v0 vs hvs
       split at h
       ·rename_i hlen
        split at h
        ·rename_i cs' hsp
         have hcells := ags hvs
         have heval : a.eval x = v := by rw [ad7 hA hs, aj3 hv]
         simp only [List.map_cons, heval]
         have hsize : (v0 :: vs).length = ti.size := Nat.eq_of_beq_eq_true hlen
         rw [auu (by rw [hsize]; exact hp i off T ti hpl hT) hcells (by simp) hsp]
         exact aig ht hA hp rest cs' r h
        ·cases h
       ·cases h
      ·cases h
     ·cases h
    ·cases h
   ·cases h
  ·cases h
theorem ajv {P : Program} {tt : TT} (ht : aek P tt) : ∀ (fs : List Field), aml tt fs = true →
  ∃ places, fs.mapM (fun f => (P.info? f.type).map fun i => (f.offset, i.size)) = some places ∧ ∀ (i : Nat) (f : Field) (ti : TI), fs[i]? = some f → look tt f.type = some ti → places[i]? = some (f.offset, ti.size)
 | [], _ => ⟨[], by simp, by simp⟩
 | f :: r, h => by
  simp only [aml] at h
  split at h
  ·rename_i ti hti
   obtain ⟨places, h1, h2⟩ := ajv ht r h
   obtain ⟨_, inf, hi, _, hs, _⟩ := ht.get hti
   refine ⟨(f.offset, inf.size) :: places, by simp [hi, h1], fun i g tg hg htg => ?_⟩
   cases i with
   | zero => simp at hg; subst hg; rw [hti] at htg; simp at htg; subst htg; simp [hs]
   | succ i => simpa using h2 i g tg (by simpa using hg) htg
  ·cases h
theorem ahc {C : Cx} (ht : aek C.P C.tt) {env : Env} {L : Locs} {R : Rows} {G : GH} {bs : Nat → Nat} {a : Act} {w : World} (hA : At C.fn.ntmps env bs a) (hI : HInv C w G bs L R)
  {o : Oper} {sv : SV} (h : aor C.tt env L o.op = some sv) : (execOp a.eval o).run C.P w = .ok (.value (conc bs sv)) w := by
 unfold aor at h
 unfold execOp
 split at h
 case h_1 x ho => simp only [ho, ad7 hA h]; rfl
 case h_2 x ho => simp only [ho, ad7 hA h]; rfl
 case h_3 c x y ho =>
  simp only [ho]
  split at h
  ·rename_i hc; simp only [ad7 hA hc, ad7 hA h]; rfl
  ·rename_i hc; simp only [ad7 hA hc, ad7 hA h]; rfl
  ·cases h
 case h_4 b xt x y yt ho =>
  simp only [ho]
  split at h
  ·rename_i m hx
   split at h
   ·rename_i n hy
    split at h
    ·rename_i r hr
     simp only [Option.some.injEq] at h; subst h
     simp only [ad7 hA hx, ad7 hA hy]
     cases b <;> simp [cmpI] at hr <;> subst hr <;> simp [conc, eqGuard, binOp, Op.intCmp]
    ·cases h
   ·cases h
  ·rename_i m hx
   split at h
   ·rename_i n hy
    split at h
    ·rename_i r hr
     simp only [Option.some.injEq] at h; subst h
     simp only [ad7 hA hx, ad7 hA hy]
     cases b <;> simp [cmpI] at hr <;> subst hr <;> simp [conc, eqGuard, binOp, Op.intCmp]
    ·cases h
   ·cases h
  ·rename_i m hx
   split at h
   ·rename_i n hy
    split at h
    ·rename_i r hr
     simp only [Option.some.injEq] at h; subst h
     simp only [ad7 hA hx, ad7 hA hy]
     cases b <;> simp only [cmpS, Option.some.injEq, reduceCtorEq] at hr <;> subst hr <;> simp [conc, eqGuard, binOp, Op.stringOp]
    ·cases h
   ·cases h
  ·cases h
 case h_5 xt x ho =>
  simp only [ho]
  split at h
  ·rename_i b hx
   simp only [Option.some.injEq] at h; subst h
   simp only [ad7 hA hx]
   simp [conc, Op.unary]
  ·rename_i hx
   simp only [Option.some.injEq] at h; subst h
   simp only [ad7 hA hx]
   simp [conc, Op.unary]
  ·rename_i hx
   simp only [Option.some.injEq] at h; subst h
   simp only [ad7 hA hx]
   simp [conc, Op.unary]
  ·cases h
 case h_6 c ho =>
  simp only [ho]
  split at h
  ·rename_i hb
   split at h
   ·rename_i x hx
    split at h
    ·rename_i T hT
     split at h
     ·rename_i ti htt
      obtain ⟨hu, _⟩ := ht.get htt
      have hargs : c.args = #[x] := by cases hc : c.args; simp_all
      have hty : c.argTypes = #[T] := by cases hc : c.argTypes; simp_all
      split at h
      ·rename_i e hd
       rw [hd] at hu
       split at h
       ·rename_i p n cc hv
        simp only [Option.some.injEq] at h; subst h
        simp [resolve, hb, hargs, hty, ad7 hA hv, conc, invoke, builtin, Builtin.len_, run_underlying hu, goInt]
       ·cases h
      ·rename_i hd
       rw [hd] at hu
       split at h
       ·rename_i b hv
        simp only [Option.some.injEq] at h; subst h
        simp [resolve, hb, hargs, hty, ad7 hA hv, conc, invoke, builtin, Builtin.len_, run_underlying hu, goInt]
       ·cases h
      ·cases h
     ·cases h
    ·cases h
   ·cases h
  ·cases h
 case h_7 x i ho =>
  simp only [ho]
  split at h
  ·rename_i vs hx
   split at h
   ·rename_i v hv
    simp only [Option.some.injEq] at h; subst h
    rw [aey] at hv
    have hv' : vs[i]? = some v := by simpa using hv
    simp [ad7 hA hx, conc, Instr.extract, hv']
   ·cases h
  ·cases h
 case h_8 T x f ho =>
  simp only [ho]
  split at h
  ·rename_i o' hf
   split at h
   ·rename_i i off hx
    simp only [Option.some.injEq] at h; subst h
    simp only [ad7 hA hx, conc]
    simp only [Sem.run_bind, anp ht hf, Result.andThen_ok, Sem.run_pure, Addr.add_lit]
   ·rename_i ad i k off hx
    split at h
    ·rename_i a'
     simp only [Option.some.injEq] at h; subst h
     simp only [ad7 hA hx, conc]
     simp only [Sem.run_bind, anp ht hf, Result.andThen_ok, Sem.run_pure, ag2, Nat.add_assoc]
    ·cases h
   ·cases h
  ·cases h
 case h_9 T x ho =>
  simp only [ho]
  split at h
  ·rename_i ti hT
   split at h
   ·rename_i i off hx
    split at h
    ·rename_i l hl
     split at h
     ·rename_i v hv
      simp only [Option.some.injEq] at h; subst h
      obtain ⟨hb, _⟩ := hI.loc i l hl
      have hrun := ahg (P := C.P) ht hT (w := w) (a := ⟨bs i, 0, none⟩) (cs := l.cs) (off := off) (v := v) (fun j u hj => by
       rw [Addr.add_lit, cell_of_row w _ _ _ _ _ hb]; simpa using hj) hv
      rw [Addr.add_lit, Nat.zero_add] at hrun
      simp only [ad7 hA hx, conc, Instr.loadAt, Instr.sureAddr, Sem.run_bind, Sem.run_pure, Result.andThen_ok, hrun]
     ·cases h
    ·cases h
   ·cases h
  ·cases h
 case h_10 fn first caps ho =>
  simp only [ho]
  split at h
  ·rename_i g
   split at h
   ·rename_i hf
    split at h
    ·rename_i q hq
     simp only [Option.some.injEq] at h; subst h
     have hfirst : first = #[] := by cases first; simp_all
     have hcaps : caps.map a.eval = (q.map fun c => Value.pointer (some ⟨bs c.1, c.2, none⟩)).toArray := by
      apply Array.ext'
      simpa using ao8 hA _ _ hq
     simp [hfirst, hcaps, conc, Instr.makeFunc]
    ·cases h
   ·cases h
  ·cases h
 case h_11 T parts ho =>
  simp only [ho]
  split at h
  ·rename_i ti hT
   split at h
   ·rename_i fs hd
    split at h
    ·rename_i hin
     split at h
     ·rename_i z hz
      split at h
      ·rename_i cs hcs
       simp only [Option.some.injEq] at h; subst h
       obtain ⟨hu, inf, hi, hz', _, _⟩ := ht.get hT
       rw [hd] at hu
       rw [hz] at hz'
       obtain ⟨places, hpl, hpl2⟩ := ajv ht _ hin
       have hfill := aig ht hA (place' := fun i => places.toArray[i]?) (fun i off T ti h1 h2 => by
        unfold ant at h1
        split at h1
        ·rename_i f hf
         simp only [Option.some.injEq, Prod.mk.injEq] at h1
         obtain ⟨rfl, rfl⟩ := h1
         rw [aey] at hf
         simpa using hpl2 i f ti hf h2
        ·cases h1) _ _ _ hcs
       have hb : C.P.built T (parts.map fun x => (x.1, a.eval x.2)).toList = some cs.toArray := by
        unfold Program.built
        simp only [hi, hu, hz', hpl, Value.cells]
        simpa using hfill
       simp only [Sem.run_bind, run_build w T _ _ hb, Result.andThen_ok, Sem.run_pure, conc]
      ·cases h
     ·cases h
    ·cases h
   ·cases h
  ·cases h
 case h_12 T x f ho =>
  simp only [ho]
  split at h
  ·rename_i ti hT
   split at h
   ·rename_i fs hd
    split at h
    ·rename_i fd hfd
     split at h
     ·rename_i tf hF
      split at h
      ·rename_i cs hx
       split at h
       ·rename_i v hv
        simp only [Option.some.injEq] at h; subst h
        obtain ⟨hu, _⟩ := ht.get hT
        obtain ⟨hu2, inf, hi, _, hs, _⟩ := ht.get hF
        rw [hd] at hu
        rw [aey] at hfd
        have hfd' : fs[f]? = some fd := by simpa using hfd
        have hpart : (part fd.type cs fd.offset).run C.P w = .ok v w := by
         unfold part
         simp only [Sem.run_bind, arl hu2, Result.andThen_ok]
         unfold asm at hv
         split at hv
         ·rename_i hd2
          rw [hd2]
          split at hv
          ·rename_i r hr
           split at hv
           ·rename_i q hq
            obtain ⟨h1, rfl⟩ := als _ _ _ hr
            obtain ⟨h2, rfl⟩ := am2 _ _ _ hq
            simp only [Option.some.injEq] at hv
            subst hv
            simp only [aggD, if_true, Sem.run_bind, afu hi, Result.andThen_ok, Sem.run_pure, hs]
            congr 2
            apply Array.ext'
            simp [List.extract_eq_take_drop]
           ·cases hv
          ·cases hv
         ·cases hv
         ·rename_i h1 h2
          have : aggD tf.desc = false := by cases hd3 : tf.desc <;> simp_all [aggD]
          rw [this]
          rw [aey] at hv
          have hv' : cs[fd.offset]? = some v := by simpa using hv
          simp [hv']
        simp [Instr.field, ad7 hA hx, conc, run_underlying hu, hfd', asAgg, hpart]
       ·cases h
      ·cases h
     ·cases h
    ·cases h
   ·cases h
  ·cases h
 case h_13 x ho =>
  simp only [ho]
  split at h
  ·rename_i sv' hx
   split at h
   ·rename_i hn
    simp only [Option.some.injEq] at h; subst h
    rw [ad7 hA hx]
    cases sv' with
    | p i off => rfl
    | e ad i k off => cases ad <;> simp [alu] at hn; rfl
    | v y => cases y <;> simp [alu] at hn; rename_i ad; cases ad <;> simp at hn; rfl
    | f g caps => simp [alu] at hn
    | T => simp [alu] at hn
    | F => simp [alu] at hn
   ·cases h
  ·cases h
 ·cases h
def avb (d : Nat) : SV → Bool
 | .p i _ => Nat.beq i d
 | .f _ caps => capHas caps
 | .v _ => false
 | .e _ _ _ _ => false
 | .T => false
 | .F => false
where
 capHas : List (Nat × Nat) → Bool
  | [] => false
  | (i, _) :: r => (match Nat.beq i d with
   | true => true
   | false => capHas r)
def aox (d : Nat) : Env → Bool
 | [] => false
 | (_, s) :: r => (match avb d s with
  | true => true
  | false => aox d r)
def ajd {α : Type} (d : Nat) : List (Nat × α) → Bool
 | [] => false
 | (i, _) :: r => (match Nat.beq i d with
  | true => true
  | false => ajd d r)
def agp (d : Nat) (env : Env) (L : Locs) (R : Rows) : Bool :=
 match Nat.beq d 999 with
 | true => true
 | false => (match aox d env with
  | true => true
  | false => (match ajd d L with
   | true => true
   | false => ajd d R))
theorem aqy {d : Nat} : ∀ {l : List (Nat × Nat)} {c : Nat × Nat}, avb.capHas d l = false → c ∈ l → c.1 ≠ d
 | (i, o) :: r, c, h, hc => by
  simp only [avb.capHas] at h
  split at h
  ·cases h
  ·rename_i hn
   rcases List.mem_cons.1 hc with rfl | hc
   ·exact Nat.ne_of_beq_eq_false hn
   ·exact aqy h hc
theorem aud {bs bs' : Nat → Nat} {s : SV} {d : Nat} (hn : avb d s = false) (h : ∀ i, i ≠ d → bs' i = bs i) : conc bs' s = conc bs s := by
 cases s with
 | v x => rfl
 | p i off => simp only [conc]; rw [h i (Nat.ne_of_beq_eq_false hn)]
 | e a i k off => rfl
 | T => rfl
 | F => rfl
 | f g caps =>
  simp only [conc]
  congr 2
  apply List.map_congr_left
  intro c hc
  rw [h c.1 (aqy hn hc)]
theorem apn {d : Nat} : ∀ {env : Env} {j : Nat} {s : SV}, aox d env = false → look env j = some s → avb d s = false
 | [], j, s, _, h => by simp [look] at h
 | (i, y) :: r, j, s, hn, h => by
  rw [adg] at h
  simp only [aox] at hn
  split at hn
  ·cases hn
  ·rename_i hy
   split at h
   ·simp at h; subst h; exact hy
   ·exact apn hn h
theorem aff {α : Type} {d : Nat} : ∀ {l : List (Nat × α)} {i : Nat} {x : α}, ajd d l = false → look l i = some x → i ≠ d
 | [], i, x, _, h => by simp [look] at h
 | (j, y) :: r, i, x, hn, h => by
  rw [adg] at h
  simp only [ajd] at hn
  split at hn
  ·cases hn
  ·rename_i hy
   split at h
   ·rename_i e; subst e; exact Nat.ne_of_beq_eq_false hy
   ·exact aff hn h
theorem aex (h : agp d env L R = false) : aox d env = false ∧ ajd d L = false ∧ ajd d R = false ∧ d ≠ 999 := by
 unfold agp at h
 split at h
 ·cases h
 ·rename_i h0
  split at h
  ·cases h
  ·rename_i h1
   split at h
   ·cases h
   ·rename_i h2
    exact ⟨h1, h2, h, fun e => by subst e; simp at h0⟩
theorem At.notH {bs' : Nat → Nat} (hA : At n env bs a) (hm : aox d env = false) (h : ∀ i, i ≠ d → bs' i = bs i) : At n env bs' a :=
 ⟨hA.size, hA.dfr, fun j s hs => by rw [hA.slot j s hs, aud (apn hm hs) h]⟩
def oneB : List Value → Bool
 | [] => true
 | .agg _ :: _ => false
 | .tuple _ :: _ => false
 | _ :: r => oneB r
theorem anj : ∀ {l : List Value}, oneB l = true → ∀ v ∈ l, v.oneCell' = true
 | [], _, v, h => by cases h
 | x :: r, h, v, hv => by
  rcases List.mem_cons.1 hv with rfl | hv
  ·cases v <;> simp_all [oneB, Value.oneCell']
  ·exact anj (by cases x <;> simp_all [oneB]) v hv
def setL (L : Locs) (i : Nat) (cs : List Value) : Locs :=
 match L with
 | [] => []
 | (j, l) :: r => match Nat.beq j i with | true => (j, ⟨l.T, cs⟩) :: r | false => (j, l) :: setL r i cs
theorem aiu : ∀ (L : Locs) (i : Nat) (cs : List Value) (j : Nat), look (setL L i cs) j = if i = j then (look L j).map (fun l => ⟨l.T, cs⟩) else look L j
 | [], i, cs, j => by simp [setL, look]
 | (m, l) :: r, i, cs, j => by
  simp only [setL]
  cases hb : Nat.beq m i with
  | true =>
   have := Nat.eq_of_beq_eq_true hb
   subst this
   simp only [adg]
   by_cases h : m = j <;> simp [h]
  | false =>
   have hne : m ≠ i := fun e => by subst e; simp at hb
   simp only [adg, aiu r i cs j]
   by_cases h : m = j
   ·subst h; rw [if_pos rfl, if_neg (Ne.symm hne), if_pos rfl]
   ·simp [h]
def ladd (tt : TT) (env : Env) (op : Op) : Option Loc :=
 match op with
 | .alloc T => (match look tt T with
  | some ti => (match ajq ti ti.zero with | some cs => some ⟨T, cs⟩ | none => none)
  | none => none)
 | .box T x => (match look tt T with
  | some ti => (match ev env x with
   | some s => (match valO s with
    | some v => (match ajq ti v with | some cs => some ⟨T, cs⟩ | none => none)
    | none => none)
   | none => none)
  | none => none)
 | _ => none
def lset (tt : TT) (env : Env) (L : Locs) (op : Op) : Option (Nat × List Value) :=
 match op with
 | .store T x y => (match look tt T with
  | some ti => (match ev env x with
   | some (.p i off) => (match ev env y with
    | some sv => (match valO sv with
     | some v => (match ajq ti v with
      | some vs => (match Nat.beq vs.length ti.size with
       | true => (match oneB vs with
        | true => (match look L i with
         | some l => (match agr l.cs off vs with | some cs => some (i, cs) | none => none)
         | none => none)
        | false => none)
       | false => none)
      | none => none)
     | none => none)
    | none => none)
   | _ => none)
  | none => none)
 | _ => none
theorem avu (w : World) (o : Obj) (h : b < w.heap.size) : hp (w.alloc o) b = hp w b := heap_alloc_old w o b h
theorem Le.lt (h : Le G (hp w)) {o : Obj} (hb : G b = some o) : b < w.heap.size :=
 (Array.getElem?_eq_some_iff.1 (h b o hb)).1
theorem Le.alloc (h : Le G (hp w)) (o : Obj) : Le G (hp (w.alloc o)) := fun b x hb => by
 rw [avu w o (h.lt hb)]; exact h b x hb
theorem aid.alloc {M : Nat → Prop} (h : aid M w G b r) (o : Obj) : aid M (w.alloc o) G b r := by
 refine ⟨h.1, h.2.imp id fun ⟨o1, h1, h2, h3, h4, h5, cur, T, hh, rest⟩ => ⟨o1, h1, h2, h3, h4, h5, cur, T, ?_, rest⟩⟩
 rw [heap_alloc_old w o b (Array.getElem?_eq_some_iff.1 hh).1]; exact hh
theorem Kp.alloc (h : Kp H w w') (o : Obj) : Kp H w (w'.alloc o) :=
 h.trans ⟨rfl, rfl, rfl, by simp, fun k hk _ => heap_alloc_old w' o k hk⟩
theorem HInv.alloc {C : Cx} {w : World} {G : GH} {bs : Nat → Nat} {L : Locs} {R : Rows} (hI : HInv C w G bs L R) (lab : Nat) (h999 : lab ≠ 999) (hL : ajd lab L = false) (hR : ajd lab R = false) (l : Loc) :
  HInv C (w.alloc (.cells l.cs.toArray l.T)) G (fun j => if j = lab then w.heap.size else bs j) ((lab, l) :: L) R := by
 have hB : C.w0.heap.size ≤ w.heap.size := hI.keep.size
 have hnL : ∀ {i : Nat} {x : Loc}, look L i = some x → i ≠ lab := fun h => aff hL h
 have hnR : ∀ {i : Nat} {x : Row}, look R i = some x → i ≠ lab := fun h => aff hR h
 have hlt : ∀ i, Acts L R i → bs i < w.heap.size := by
  intro i h
  rcases h with ⟨x, hx⟩ | ⟨r, hr, hc⟩
  ·exact (Array.getElem?_eq_some_iff.1 (hI.loc i x hx).1).1
  ·rcases (hI.row i r hr).2 with ⟨h0, _⟩ | ⟨_, _, _, _, _, _, cur, T, hh, _⟩
   ·exact absurd h0 hc
   ·exact (Array.getElem?_eq_some_iff.1 hh).1
 have hold : ∀ i, Acts ((lab, l) :: L) R i → i ≠ lab → Acts L R i := by
  intro i h hne
  rcases h with ⟨x, hx⟩ | h
  ·rw [adg, if_neg (Ne.symm hne)] at hx; exact .inl ⟨x, hx⟩
  ·exact .inr h
 refine ⟨hI.keep.alloc _, hI.le.alloc _, ?_, ?_, ?_, fun i x r hx hr => by
  rw [adg, if_neg (Ne.symm (hnR hr))] at hx; exact hI.dis i x r hx hr, fun b hb => by simp only [if_neg (Ne.symm h999)]; exact hI.pin b hb, hI.nr⟩
 ·intro i x hx
  rw [adg] at hx
  by_cases he : lab = i
  ·rw [if_pos he] at hx; simp at hx; subst hx; subst he
   simp only [if_true]
   refine ⟨heap_alloc_new w _, .inl hB, ?_⟩
   cases hg : G w.heap.size with
   | none => rfl
   | some o => exact absurd (hI.le.lt hg) (by omega)
  ·rw [if_neg he] at hx
   simp only [if_neg (Ne.symm he)]
   obtain ⟨h1, h2, h3⟩ := hI.loc i x hx
   exact ⟨by rw [heap_alloc_old w _ _ (Array.getElem?_eq_some_iff.1 h1).1]; exact h1, h2, h3⟩
 ·intro i r hr
  simp only [if_neg (hnR hr)]
  exact (hI.row i r hr).alloc _
 ·intro i j hij hi hj
  by_cases h1 : i = lab <;> by_cases h2 : j = lab
  ·omega
  ·simp only [h1, if_true, if_neg h2]
   have := hlt j (hold j hj h2); omega
  ·simp only [h2, if_true, if_neg h1]
   have := hlt i (hold i hi h1); omega
  ·simp only [if_neg h1, if_neg h2]
   exact hI.inj i j hij (hold i hi h1) (hold j hj h2)
theorem alq (ht : aek C.P C.tt) (hA : At C.fn.ntmps env bs a) (h : ladd C.tt env o.op = some l) :
  (execOp a.eval o).run C.P w = .ok (.value (.pointer (some ⟨w.heap.size, 0, none⟩))) (w.alloc (.cells l.cs.toArray l.T)) := by
 unfold ladd at h
 unfold execOp
 split at h
 case h_1 T ho =>
  simp only [ho]
  split at h
  ·rename_i ti hT
   obtain ⟨_, i, hi, hz, _⟩ := ht.get hT
   split at h
   ·rename_i cs hcs
    simp only [Option.some.injEq] at h; subst h
    have hc : ti.zero.cells = cs.toArray := Array.ext' (by simpa using ags hcs)
    simp [Instr.alloc, zeroValue, typeInfo, hi, hz, newVar, newRow, hc]
   ·cases h
  ·cases h
 case h_2 T x ho =>
  simp only [ho]
  split at h
  ·rename_i ti hT
   split at h
   ·rename_i sv hs
    split at h
    ·rename_i v hv
     split at h
     ·rename_i cs hcs
      simp only [Option.some.injEq] at h; subst h
      have hc : v.cells = cs.toArray := Array.ext' (by simpa using ags hcs)
      simp [Instr.box, newVar, newRow, ad7 hA hs, aj3 hv, hc]
     ·cases h
    ·cases h
   ·cases h
  ·cases h
 ·cases h
theorem Kp.setRow (h : Kp C.H C.w0 w) (hg : C.M g) (cs : Array Value) : Kp C.H C.w0 (w.setRow g cs) :=
 ⟨h.os, h.tape, h.output, Nat.le_trans h.size (by simp [World.setRow]), fun k hk hn => by
  rw [setRow_other w g k cs (fun e => by subst e; rcases hg with hg | hg <;> first | omega | exact hg hn)]; exact h.block k hk hn⟩
theorem Le.setRow (h : Le G (hp w)) (hg : G g = none) (cs : Array Value) : Le G (hp (w.setRow g cs)) := fun b x hb => by
 have : b ≠ g := fun e => by subst e; rw [hg] at hb; cases hb
 show (w.setRow g cs).heap[b]? = _
 rw [setRow_other w g b cs this]; exact h b x hb
theorem aid.setRow {M : Nat → Prop} (h : aid M w G b r) (hb : r.c ≠ 0 → b ≠ g) (cs : Array Value) : aid M (w.setRow g cs) G b r := by
 refine ⟨h.1, ?_⟩
 rcases h.2 with h0 | ⟨o1, h1, h2, h3, h4, h5, cur, T, hh, rest⟩
 ·exact .inl h0
 ·by_cases hc : r.c = 0
  ·exact .inl ⟨hc, by omega⟩
  ·exact .inr ⟨o1, h1, h2, h3, h4, h5, cur, T, by rw [setRow_other w g b cs (hb hc)]; exact hh, rest⟩
theorem HInv.setLoc (hI : HInv C w G bs L R) (hl : look L i = some l) (cs : List Value) :
  HInv C (w.setRow (bs i) cs.toArray) G bs (setL L i cs) R := by
 obtain ⟨h1, h2, h3⟩ := hI.loc i l hl
 have hact : Acts L R i := .inl ⟨l, hl⟩
 have hsame : ∀ j, Acts (setL L i cs) R j → Acts L R j := by
  intro j h
  rcases h with ⟨x, hx⟩ | h
  ·rw [aiu] at hx
   split at hx
   ·rename_i e; subst e; exact hact
   ·exact .inl ⟨x, hx⟩
  ·exact .inr h
 refine ⟨Kp.setRow hI.keep h2 _, Le.setRow hI.le h3 _, ?_, ?_, fun j k hjk hj hk => hI.inj j k hjk (hsame j hj) (hsame k hk), fun j x r hx hr => by
  rw [aiu] at hx
  split at hx
  ·rename_i e; subst e; exact hI.dis i l r hl hr
  ·exact hI.dis j x r hx hr, hI.pin, hI.nr⟩
 ·intro j x hx
  rw [aiu] at hx
  by_cases he : i = j
  ·subst he
   rw [if_pos rfl, hl] at hx
   simp at hx; subst hx
   exact ⟨setRow_heap w _ _ _ _ _ h1, h2, h3⟩
  ·rw [if_neg he] at hx
   obtain ⟨k1, k2, k3⟩ := hI.loc j x hx
   exact ⟨by rw [setRow_other w _ _ _ (hI.inj j i (Ne.symm he) (.inl ⟨x, hx⟩) hact)]; exact k1, k2, k3⟩
 ·intro j r hr
  have he : j ≠ i := fun e => by subst e; exact hI.dis j l r hl hr
  exact (hI.row j r hr).setRow (fun hc => hI.inj j i he (.inr ⟨r, hr, hc⟩) hact) _
theorem au5 (ht : aek C.P C.tt) (hA : At C.fn.ntmps env bs a) (hI : HInv C w G bs L R) (h : lset C.tt env L o.op = some (i, cs)) :
  ∃ w', (execOp a.eval o).run C.P w = .ok .skip w' ∧ HInv C w' G bs (setL L i cs) R := by
 unfold lset at h
 unfold execOp
 split at h
 case h_1 T x y ho =>
  simp only [ho]
  split at h
  ·rename_i ti hT
   split at h
   ·rename_i i' off hx
    split at h
    ·rename_i sv hy
     split at h
     ·rename_i v hval
      split at h
      ·rename_i vs hvs
       split at h
       ·rename_i hlen
        split at h
        ·rename_i hone
         split at h
         ·rename_i l hl
          split at h
          ·rename_i cs' hsp
           simp only [Option.some.injEq, Prod.mk.injEq] at h
           obtain ⟨rfl, rfl⟩ := h
           obtain ⟨_, inf, hi, _, hs, _⟩ := ht.get hT
           obtain ⟨hb, hb2, hb3⟩ := hI.loc i' l hl
           have hc : v.cells.toList = vs := ags hvs
           have hsz : v.cells.size = inf.size := by
            have : v.cells.size = vs.length := by rw [← hc]; simp
            rw [this, hs]; exact Nat.eq_of_beq_eq_true hlen
           obtain ⟨q1, q2, q3, q4⟩ := ahk _ _ _ _ hsp
           have hst : (storeCells ⟨bs i', off, none⟩ vs).run C.P w = .ok () (w.setRow (bs i') cs'.toArray) := by
            by_cases hv : vs = []
            ·subst hv
             rw [q4 rfl]
             have := run_storeCells_at C.P (bs i') 0 l.T [] 0 l.cs.toArray w hb (by simp) (by simp)
             simp at this
             simpa [storeCells] using this
            ·have hle : off + vs.length ≤ l.cs.length := q2.resolve_left hv
             have := run_storeCells_at C.P (bs i') off l.T vs 0 l.cs.toArray w hb (by simpa using hle) (anj hone)
             rw [q3 hv]
             simpa using this
           refine ⟨w.setRow (bs i') cs'.toArray, ?_, hI.setLoc hl cs'⟩
           have hcp : conc bs (.p i' off) = .pointer (some ⟨bs i', off, none⟩) := rfl
           simp [Instr.storeAt, Instr.sureAddr, storeVar, afu hi, hsz, ad7 hA hx, hcp, ad7 hA hy, aj3 hval, hc, hst]
          ·cases h
         ·cases h
        ·cases h
       ·cases h
      ·cases h
     ·cases h
    ·cases h
   ·cases h
  ·cases h
 ·cases h
def gd (ops : Array Oper) (env : Env) (o : Oper) : Option Bool :=
 match o.guard with
 | none => some true
 | some (j, want) => (match getO ops.toList j with
  | some oj => (match oj.dst with
   | some d => (match look env d with
    | some .T => some want
    | some .F => some (!want)
    | some (.v (.tuple _)) => some false
    | _ => none)
   | none => none)
  | none => none)
theorem aee {n : Nat} {env : Env} {bs : Nat → Nat} {a : Act} (hA : At n env bs a) {ops : Array Oper} {o : Oper} {b : Bool} (h : gd ops env o = some b) :
  Region.wanted o (yielded ops a.tmps) = b := by
 unfold gd at h
 unfold Region.wanted
 split at h
 ·rename_i hg; simp only [Option.some.injEq] at h; subst h; simp [hg]
 ·rename_i j want hg
  rw [hg]
  simp only
  split at h
  ·rename_i oj hoj
   rw [aey] at hoj
   have hoj' : ops[j]? = some oj := by simpa using hoj
   split at h
   ·rename_i d hd
    have key : ∀ sv v, look env d = some sv → conc bs sv = v → v ≠ undef → a.tmps[d]? = some v := by
     intro sv v hv hc hne
     have := hA.slot d _ hv
     rw [hc, Array.getD_eq_getD_getElem?] at this
     cases hq : a.tmps[d]? with
     | none => rw [hq] at this; simp at this; exact absurd this.symm hne
     | some q => rw [hq] at this; simp at this; rw [this]
    split at h
    ·rename_i hv
     have := key _ (.bool true) hv rfl (by simp [undef])
     simp only [Option.some.injEq] at h; subst h
     simp [yielded, hoj', hd, this]
    ·rename_i hv
     have := key _ (.bool false) hv rfl (by simp [undef])
     simp only [Option.some.injEq] at h; subst h
     simp [yielded, hoj', hd, this]
    ·rename_i x hv
     simp only [Option.some.injEq] at h; subst h
     have := hA.slot d _ hv
     simp only [conc] at this
     rw [Array.getD_eq_getD_getElem?] at this
     cases hq : a.tmps[d]? with
     | none => simp [yielded, hoj', hd, hq]
     | some q => rw [hq] at this; simp at this; subst this; simp [yielded, hoj', hd, hq]
    ·cases h
   ·cases h
  ·cases h
def ao1 (id : Nat) : List It → Option (List It)
 | [] => none
 | .blk j :: s => (match Nat.beq j id with | true => some s | false => ao1 id s)
 | .code _ :: s => ao1 id s
 | .iter _ :: s => ao1 id s
 | .ops _ _ :: s => ao1 id s
theorem aj9 (C : Cx) (id : Nat) : ∀ (s s' : List It), ao1 id s = some s' → cont C s (.exit id) = cont C s' .normal
 | [], s', h => by simp [ao1] at h
 | .blk j :: s, s', h => by
  simp only [ao1] at h
  split at h
  ·rename_i hb
   simp only [Option.some.injEq] at h; subst h
   have := Nat.eq_of_beq_eq_true hb
   subst this
   funext a w
   simp [cont, Exit.inBlock]
  ·rename_i hb
   have hne : id ≠ j := fun e => by subst e; simp at hb
   funext a w
   simp only [cont, Exit.inBlock, if_neg hne]
   rw [aj9 C id s s' h]
 | .code _ :: s, s', h => by simp only [ao1] at h; rw [← aj9 C id s s' h]; rfl
 | .iter _ :: s, s', h => by simp only [ao1] at h; rw [← aj9 C id s s' h]; rfl
 | .ops _ _ :: s, s', h => by simp only [ao1] at h; rw [← aj9 C id s s' h]; rfl
def auh (tt : TT) (n : Nat) (ops : Array Oper) (o : Oper) (env : Env) (L : Locs) (R : Rows) : Option (Env × Locs) :=
 match gd ops env o with
 | some true => (match o.dst with
  | some d => (match Nat.blt d n with
   | true => (match aor tt env L o.op with
    | some sv => some ((d, sv) :: env, L)
    | none => (match ladd tt env o.op with
     | some l => (match agp d env L R with
      | false => some ((d, .p d 0) :: env, (d, l) :: L)
      | true => none)
     | none => none))
   | false => none)
  | none => (match lset tt env L o.op with
   | some (i, cs) => some (env, setL L i cs)
   | none => none))
 | some false => (match o.dst with
  | some d => (match Nat.blt d n with
   | true => some ((d, .v undef) :: env, L)
   | false => none)
  | none => some (env, L))
 | none => none
def axc (tt : TT) (n : Nat) (s : List It) (env : Env) (L : Locs) (R : Rows) : Option (List It × Env × Locs) :=
 match s with
 | .code c :: s => (match c with
  | .seq x y => some (.code x :: .code y :: s, env, L)
  | .skip => some (s, env, L)
  | .block id c => some (.code c :: .blk id :: s, env, L)
  | .exit id => (match ao1 id s with | some s' => some (s', env, L) | none => none)
  | .region _ ops false => some (.ops ops ops.toList :: s, env, L)
  | .cond c x y => (match ev env c with
   | some .T => some (.code x :: s, env, L)
   | some .F => some (.code y :: s, env, L)
   | _ => none)
  | _ => none)
 | .blk _ :: s => some (s, env, L)
 | .ops ops rest :: s => (match rest with
  | [] => some (s, env, L)
  | o :: r => (match auh tt n ops o env L R with
   | some (env', L') => some (.ops ops r :: s, env', L')
   | none => none))
 | _ => none
def exec (tt : TT) (n : Nat) (R : Rows) : Nat → List It → Env → Locs → List It × Env × Locs
 | 0, s, env, L => (s, env, L)
 | fuel + 1, s, env, L => match axc tt n s env L R with
  | some (s', env', L') => exec tt n R fuel s' env' L'
  | none => (s, env, L)
theorem At.put (hA : At n env bs a) (hd : d < n) (s : SV) : At n ((d, s) :: env) bs (a.put (some d) (conc bs s)) := by
 refine ⟨by simp [Act.put, hA.size], by simp [Act.put, hA.dfr], fun e x hx => ?_⟩
 rw [adg] at hx
 by_cases he : d = e
 ·subst he
  rw [if_pos rfl] at hx
  simp at hx; subst hx
  simp [Act.put, hA.size, hd]
 ·rw [if_neg he] at hx
  rw [← hA.slot e x hx]
  simp [Act.put, Array.getElem?_setIfInBounds_ne he]
theorem aqs (ht : aek C.P C.tt) {ops : Array Oper} {r : List Oper} {Q : Exit → Act → World → Prop}
  (h : auh C.tt C.fn.ntmps ops o env L R = some (env', L')) (k : ∀ a w, Sat C env' L' R Γ a w → wpList C.P ops Q r a w) :
  ∀ a w, Sat C env L R Γ a w → wpList C.P ops Q (o :: r) a w := by
 rintro a w ⟨G, bs, hA, hI, hΓ⟩
 unfold auh at h
 unfold wpList
 split at h
 ·rename_i hg
  rw [if_pos (aee hA hg)]
  refine .inl ?_
  unfold Oper.wp
  split at h
  ·rename_i d hd
   split at h
   ·rename_i hlt
    have hlt' : d < C.fn.ntmps := by simpa [Nat.blt_eq] using hlt
    split at h
    ·rename_i sv hsv
     simp only [Option.some.injEq, Prod.mk.injEq] at h
     obtain ⟨rfl, rfl⟩ := h
     rw [ahc ht hA hI hsv]
     simp only [Oper.upon, hd]
     exact k _ _ ⟨G, bs, hA.put hlt' sv, hI, hΓ⟩
    ·split at h
     ·rename_i l hl
      split at h
      ·rename_i hnl
       simp only [Option.some.injEq, Prod.mk.injEq] at h
       obtain ⟨rfl, rfl⟩ := h
       rw [alq ht hA hl]
       simp only [Oper.upon, hd]
       have hI' := hI.alloc d (aex hnl).2.2.2 (aex hnl).2.1 (aex hnl).2.2.1 l
       have hA' := (hA.notH (d := d) (bs' := fun j => if j = d then w.heap.size else bs j) (aex hnl).1 (fun i hi => if_neg hi)).put hlt' (.p d 0)
       simp only [conc, if_true] at hA'
       exact k _ _ ⟨G, _, hA', hI', hΓ⟩
      ·cases h
     ·cases h
   ·cases h
  ·rename_i hd
   split at h
   ·rename_i i cs hl
    simp only [Option.some.injEq, Prod.mk.injEq] at h
    obtain ⟨rfl, rfl⟩ := h
    obtain ⟨w', hr, hI'⟩ := au5 ht hA hI hl
    rw [hr]
    simp only [Oper.upon, hd, Act.put]
    exact k _ _ ⟨G, bs, hA, hI', hΓ⟩
   ·cases h
 ·rename_i hg
  rw [if_neg (by rw [aee hA hg]; simp)]
  split at h
  ·rename_i d hd
   split at h
   ·rename_i hlt
    have hlt' : d < C.fn.ntmps := by simpa [Nat.blt_eq] using hlt
    simp only [Option.some.injEq, Prod.mk.injEq] at h
    obtain ⟨rfl, rfl⟩ := h
    rw [hd]
    exact k _ _ ⟨G, bs, hA.put hlt' (.v undef), hI, hΓ⟩
   ·cases h
  ·rename_i hd
   simp only [Option.some.injEq, Prod.mk.injEq] at h
   obtain ⟨rfl, rfl⟩ := h
   rw [hd]
   exact k _ _ ⟨G, bs, hA, hI, hΓ⟩
 ·cases h
theorem asd (ht : aek C.P C.tt) {s s' : List It}
  (h : axc C.tt C.fn.ntmps s env L R = some (s', env', L')) (k : WX C s' env' L' R Γ) : WX C s env L R Γ := by
 unfold axc at h
 intro a w hS
 split at h
 ·rename_i c s
  show c.wp C.P (cont C s) a w
  split at h
  ·simp only [Option.some.injEq, Prod.mk.injEq] at h
   obtain ⟨rfl, rfl, rfl⟩ := h
   exact wp_seq (k a w hS)
  ·simp only [Option.some.injEq, Prod.mk.injEq] at h
   obtain ⟨rfl, rfl, rfl⟩ := h
   exact wp_skip (k a w hS)
  ·simp only [Option.some.injEq, Prod.mk.injEq] at h
   obtain ⟨rfl, rfl, rfl⟩ := h
   exact wp_block (k a w hS)
  ·rename_i id
   split at h
   ·rename_i s'' hp
    simp only [Option.some.injEq, Prod.mk.injEq] at h
    obtain ⟨rfl, rfl, rfl⟩ := h
    exact wp_exit (by rw [aj9 C id s _ hp]; exact k a w hS)
   ·cases h
  ·simp only [Option.some.injEq, Prod.mk.injEq] at h
   obtain ⟨rfl, rfl, rfl⟩ := h
   exact wp_region_list (k a w hS)
  ·obtain ⟨G, bs, hA, hI, hΓ⟩ := hS
   split at h
   ·rename_i hc
    simp only [Option.some.injEq, Prod.mk.injEq] at h
    obtain ⟨rfl, rfl, rfl⟩ := h
    exact wp_cond_true (by rw [ad7 hA hc]; rfl) (k a w ⟨G, bs, hA, hI, hΓ⟩)
   ·rename_i hc
    simp only [Option.some.injEq, Prod.mk.injEq] at h
    obtain ⟨rfl, rfl, rfl⟩ := h
    exact wp_cond_false (by rw [ad7 hA hc]; rfl) (k a w ⟨G, bs, hA, hI, hΓ⟩)
   ·cases h
  ·cases h
 ·simp only [Option.some.injEq, Prod.mk.injEq] at h
  obtain ⟨rfl, rfl, rfl⟩ := h
  exact k a w hS
 ·rename_i ops rest s
  split at h
  ·simp only [Option.some.injEq, Prod.mk.injEq] at h
   obtain ⟨rfl, rfl, rfl⟩ := h
   exact k a w hS
  ·rename_i o r
   split at h
   ·rename_i env'' L'' ho
    simp only [Option.some.injEq, Prod.mk.injEq] at h
    obtain ⟨rfl, rfl, rfl⟩ := h
    exact aqs ht ho k a w hS
   ·cases h
 ·cases h
theorem ap2 {C : Cx} (ht : aek C.P C.tt) {R : Rows} {Γ : Facts} : ∀ (fuel : Nat) (s : List It) (env : Env) (L : Locs) (s' : List It) (env' : Env) (L' : Locs),
  exec C.tt C.fn.ntmps R fuel s env L = (s', env', L') → WX C s' env' L' R Γ → WX C s env L R Γ
 | 0, s, env, L, s', env', L', h, k => by
  simp only [exec, Prod.mk.injEq] at h
  obtain ⟨rfl, rfl, rfl⟩ := h
  exact k
 | fuel + 1, s, env, L, s', env', L', h, k => by
  simp only [exec] at h
  split at h
  ·rename_i s1 env1 L1 h1
   exact asd ht h1 (ap2 ht fuel _ _ _ _ _ _ h k)
  ·simp only [Prod.mk.injEq] at h
   obtain ⟨rfl, rfl, rfl⟩ := h
   exact k
end Go.Stp
namespace Go.Stp
open Go.RowKit (Below)
variable {C : Cx} {s : List It} {env env' : Env} {L L' : Locs} {R R' : Rows} {Γ Γ' : Facts} {P : Program} {g : FuncId} {args : List Operand} {w : World} {H G : GH} {ι α : Type} {Q : Prop} {n m q : Int} {f x y : Operand} {M : Nat → Prop} {fs : List MF} {a : Act} {fn : Func} {c : Code} {Φ : Value → World → Prop} {d T T' : Nat} {bs : Nat → Nat} {ops : Array Oper} {o : Oper} {r : List Oper} {b : BinOp} {ats : Array TypeId} {caps : (Nat → Nat) → List Value} {sf : SV} {svs : List SV}
theorem WX.run {s' : List It} (ht : aek C.P C.tt)
  (h : exec C.tt C.fn.ntmps R 1000 s env L = (s', env', L')) (k : WX C s' env' L' R Γ) : WX C s env L R Γ := ap2 ht 1000 s env L s' env' L' h k
def aub (P : Program) (g : FuncId) : Prop := ∃ fn, P.funcs[g]? = some fn ∧ (fn.name == "runtime.NumGoroutine") = false ∧ fn.body.isSome = true
def Does (P : Program) (g : FuncId) (args : Array Value) (w : World) (H : GH) (Ψ : Value → World → Prop) : Prop := aub P g ∧ Calls P g args w (Ret w H Ψ)
theorem Does.mono {args : Array Value} {Ψ Ψ' : Value → World → Prop} (h : Does P g args w H Ψ) (k : ∀ v w', Kp H w w' → Ψ v w' → Ψ' v w') : Does P g args w H Ψ' :=
 ⟨h.1, h.2.mono fun _ _ ⟨v, e, b, q⟩ => ⟨v, e, b, k v _ b q⟩⟩
def Post (w : World) (H : GH) {ι : Type} (val : ι → Value) (fs : ι → List MF) (Q : Prop) : Value → World → Prop := fun v w' =>
 ∃ i h, v = val i ∧ Q ∧ Le h (hp w') ∧ (∀ b o, h b = some o → w.heap.size ≤ b ∨ H b ≠ none) ∧ Sep h (fs i)
theorem Post.imp {val : ι → Value} {fs : ι → List MF} {Q' : Prop} {v : Value} {w' : World} (h : Post w H val fs Q v w') (k : Q → Q') : Post w H val fs Q' v w' := by
 obtain ⟨i, h, a, b, c⟩ := h
 exact ⟨i, h, a, k b, c⟩
theorem av9 {x : Option α} {o : α} (h : x = some o) : x ≠ none := by rw [h]; simp
def AllS (G : GH) (Γ : Facts) : Prop := ∀ n f, (n, f) ∈ Γ → f.k = .stb ∧ f.p G
theorem adc : AllS G [] := fun _ _ h => by cases h
theorem afb {n : Nat} {f : MF} (hk : f.k = .stb) (h : f.p G) (k : AllS G Γ) : AllS G ((n, f) :: Γ) := fun m g hg => by
 rcases List.mem_cons.1 hg with hg | hg
 ·cases hg; exact ⟨hk, h⟩
 ·exact k m g hg
theorem AllS.lins {G : GH} : ∀ {Γ : Facts}, AllS G Γ → lins Γ = []
 | [], _ => rfl
 | (n, f) :: Γ, h => by
  have h1 := h n f (List.mem_cons_self ..)
  simp only [Stp.lins, h1.1]
  exact AllS.lins (Γ := Γ) fun m g hg => h m g (List.mem_cons_of_mem _ hg)
theorem AllS.mono {G' : GH} (h : AllS G Γ) (k : Le G G') : AllS G' Γ := fun n f hf => ⟨(h n f hf).1, f.m k (h n f hf).2⟩
theorem AllS.allK (h : AllS G Γ) : AllK M G Γ :=
 ⟨G, emp, Le.refl _, aes _, (ag5 _).symm, (fun _ _ h => by cases h), fun n f hf _ => (h n f hf).2, fun n f hf _ => (h n f hf).2, by rw [h.lins]; trivial⟩
theorem apy {n : Nat} {g : MF} : ∀ {fs : List MF} {m : Nat} {Γ : Facts}, (n, g) ∈ addL m fs Γ → g ∈ fs ∨ (n, g) ∈ Γ
 | [], _, _, h => .inr h
 | f :: fs, m, Γ, h => by
  rcases List.mem_cons.1 h with h | h
  ·cases h; exact .inl (List.mem_cons_self ..)
  ·exact (apy h).imp (List.mem_cons_of_mem _) id
theorem as6 : ∀ {fs : List MF} {m : Nat} {Γ : Facts}, (∀ f ∈ fs, f.k = .lin) → lins (addL m fs Γ) = fs ++ lins Γ
 | [], _, _, _ => rfl
 | f :: fs, m, Γ, h => by
  simp only [addL, lins, h f (List.mem_cons_self ..), List.cons_append]
  rw [as6 fun g hg => h g (List.mem_cons_of_mem _ hg)]
theorem AllS.lent (n : Nat) (h : AllS (cut G H) Γ) (hl : Le H G) (hM : ∀ b o, H b = some o → M b) (hk : ∀ f ∈ fs, f.k = .lin) (hs : Sep H fs) : AllK M G (addL n fs Γ) := by
 refine ⟨cut G H, H, ai0 _ _, hl, ajs _ _, hM, fun m g hg hk' => ?_, fun m g hg hk' => ?_, ?_⟩
 ·rcases apy hg with hg | hg
  ·rw [hk g hg] at hk'; cases hk'
  ·exact (h m g hg).2
 ·rcases apy hg with hg | hg
  ·rw [hk g hg] at hk'; cases hk'
  ·rw [(h m g hg).1] at hk'; cases hk'
 ·rw [as6 hk, h.lins, List.append_nil]; exact hs
def MF.bx (b T : Nat) (cs : List Value) : MF := ⟨.lin, fun h => h b = some (.cells cs.toArray T (0, 0)), fun h k => h _ _ k⟩
def aop : Nat → List Value → Env
 | _, [] => []
 | i, v :: r => (i, .v v) :: aop (i + 1) r
theorem aoz : ∀ (l : List Value) (i d : Nat) (s : SV), look (aop i l) d = some s → ∃ v, s = .v v ∧ i ≤ d ∧ l[d - i]? = some v
 | [], i, d, s, h => by simp [aop, look] at h
 | x :: r, i, d, s, h => by
  simp only [aop] at h
  rw [adg] at h
  split at h
  ·rename_i e; subst e; simp at h; subst h; exact ⟨x, rfl, Nat.le_refl _, by simp⟩
  ·obtain ⟨v, h1, h2, h3⟩ := aoz r (i + 1) d s h
   refine ⟨v, h1, by omega, ?_⟩
   rw [show d - i = (d - (i + 1)) + 1 by omega]; simpa using h3
theorem At.enter {n : Nat} {args : List Value} (hs : Nat.ble args.length n = true) (bs : Nat → Nat) (ha : a.tmps = args.toArray ++ Array.replicate (n - args.length) undef) (hd : a.defers = []) : At n (aop 0 args) bs a := by
 have hs' : args.length ≤ n := Nat.le_of_ble_eq_true hs
 refine ⟨by rw [ha]; simp; omega, hd, fun d s h => ?_⟩
 obtain ⟨v, rfl, _, hv⟩ := aoz args 0 d s h
 simp only [Nat.sub_zero] at hv
 have hd : d < args.length := (List.getElem?_eq_some_iff.1 hv).1
 rw [ha]
 simp only [conc, Array.getD_eq_getD_getElem?]
 rw [Array.getElem?_append_left (by simpa using hd)]
 simp [hv]
theorem WX.enter {tt : TT} {args : List Value}
  (hf : P.funcs[g]? = some fn) (hb : fn.body = some c) (hn : (fn.name == "runtime.NumGoroutine") = false) (hs : Nat.ble args.length fn.ntmps = true) (h0 : AllS (hp w) Γ)
  (k : WX ⟨P, fn, tt, w, emp, none, Φ⟩ [.code c] (aop 0 args) [] [] Γ) : Does P g args.toArray w emp Φ := by
 refine ⟨⟨fn, hf, hn, by simp [hb]⟩, calls_of_wp hf hb ?_⟩
 refine k _ w ⟨hp w, fun _ => 0, At.enter hs _ (by simp) rfl, ⟨Kp.refl _ _, Le.refl _, by simp [look], by simp [look], fun i j _ hi => ?_, by simp [look], (fun b h => by cases h), by simp [look]⟩, h0.allK⟩
 rcases hi with ⟨l, h⟩ | ⟨r, h, _⟩ <;> simp [look] at h
theorem WX.enterM {tt : TT} {args : List Value} (n : Nat)
  (hf : P.funcs[g]? = some fn) (hb : fn.body = some c) (hn : (fn.name == "runtime.NumGoroutine") = false) (hs : Nat.ble args.length fn.ntmps = true) (h0 : AllS (cut (hp w) H) Γ) (hH : Le H (hp w)) (hl : Sep H fs) (hk : ∀ f ∈ fs, f.k = .lin) (hΓ' : addF n fs Γ = some Γ')
  (k : WX ⟨P, fn, tt, w, H, none, Φ⟩ [.code c] (aop 0 args) [] [] Γ') : Does P g args.toArray w H Φ := by
 refine ⟨⟨fn, hf, hn, by simp [hb]⟩, calls_of_wp hf hb ?_⟩
 rw [amu hΓ'] at k
 refine k _ w ⟨hp w, fun _ => 0, At.enter hs _ (by simp) rfl, ⟨Kp.refl _ _, Le.refl _, by simp [look], by simp [look], fun i j _ hi => ?_, by simp [look], (fun b h => by cases h), by simp [look]⟩, h0.lent n hH (fun b o hb => .inr (av9 hb)) hk hl⟩
 rcases hi with ⟨l, h⟩ | ⟨r, h, _⟩ <;> simp [look] at h
theorem WX.enterP {P : Program} {g : FuncId} {fn : Func} {c : Code} {tt : TT} {args : List Value} {w : World} {H : GH} {b T : Nat} {cs : List Value} {Φ : Value → World → Prop} {Γ : Facts} {fs : List MF} {Γ' : Facts} (n : Nat)
  (hf : P.funcs[g]? = some fn) (hb : fn.body = some c) (hn : (fn.name == "runtime.NumGoroutine") = false) (hs : Nat.ble (args.length + 1) fn.ntmps = true) (h0 : AllS (cut (hp w) H) Γ) (hH : Le H (hp w)) (hl : Sep H (MF.bx b T cs :: fs)) (hk : ∀ f ∈ fs, f.k = .lin) (hΓ' : addF n fs Γ = some Γ')
  (k : WX ⟨P, fn, tt, w, H, some b, Φ⟩ [.code c] ((0, .p 999 0) :: aop 1 args) [(999, ⟨T, cs⟩)] [] Γ') : Does P g (Value.pointer (some ⟨b, 0, none⟩) :: args).toArray w H Φ := by
 refine ⟨⟨fn, hf, hn, by simp [hb]⟩, calls_of_wp hf hb ?_⟩
 rw [amu hΓ'] at k
 obtain ⟨h1, h2, a1, a2, a3, a4, a5⟩ := hl
 have hb1 : h1 b = some (.cells cs.toArray T (0, 0)) := a4
 have hMb : H b ≠ none := by rw [a1 b _ hb1]; simp
 have hA := At.enter (n := fn.ntmps) (args := Value.pointer (some ⟨b, 0, none⟩) :: args) hs (fun _ => b) (a := ⟨(Value.pointer (some ⟨b, 0, none⟩) :: args).toArray ++ Array.replicate (fn.ntmps - (args.length + 1)) undef, []⟩) rfl rfl
 have hkeep : AllS (cut (cut (hp w) (fun x => if x = b then h1 b else none)) h2) Γ := h0.mono (fun x o hx => by
  have hx1 := ai0 _ _ x o hx
  have hx2 := ajs _ _ x |>.resolve_left (by rw [hx]; simp)
  refine ail (h := h2) (G := cut (hp w) (fun x => if x = b then h1 b else none)) (A := fun y => if y = x then some o else none) (fun y q hy => ?_) (fun y => ?_) x o (by simp)
  ·by_cases hyx : y = x
   ·subst hyx; simp at hy; subst hy
    unfold cut
    by_cases hyb : y = b
    ·subst hyb; exact absurd hx2 hMb
    ·simp [hyb, hx1]
   ·simp [hyx] at hy
  ·by_cases hyx : y = x
   ·subst hyx; right
    cases hq : h2 y with
    | none => rfl
    | some q => rw [a2 y q hq] at hx2; cases hx2
   ·left; simp [hyx])
 have hle2 : Le h2 (cut (hp w) (fun x => if x = b then h1 b else none)) := ail (a2.trans hH) (fun x => by
  by_cases hx : x = b
  ·subst hx; exact .inl ((a3 x).resolve_left (by rw [hb1]; simp))
  ·right; simp [hx])
 refine k _ w ⟨cut (hp w) (fun x => if x = b then h1 b else none), fun _ => b, ?_, ⟨Kp.refl _ _, ai0 _ _, fun i l hl => ?_, by simp [look], fun i j hij hi hj => ?_, fun i l r _ hr => by simp [look] at hr, (fun b' h => by cases h; rfl), by simp [look]⟩, hkeep.lent n hle2 (fun x o hx => .inr (av9 (a2 x o hx))) hk a5⟩
 ·refine ⟨hA.size, rfl, fun d s hs => ?_⟩
  rw [adg] at hs
  split at hs
  ·rename_i e; subst e; simp at hs; subst hs; exact hA.slot 0 (.v (.pointer (some ⟨b, 0, none⟩))) rfl
  ·rename_i hne
   refine hA.slot d s ?_
   show look ((0, _) :: aop 1 args) d = _
   rw [adg, if_neg hne]; exact hs
 ·rw [adg] at hl
  split at hl
  ·simp at hl; subst hl
   refine ⟨hH b _ (a1 b _ hb1), .inr hMb, ?_⟩
   unfold cut; simp [hb1]
  ·simp [look] at hl
 ·have e : ∀ i, Acts [(999, (⟨T, cs⟩ : Loc))] [] i → i = 999 := by
   rintro i (⟨l, h⟩ | ⟨r, h, _⟩)
   ·rw [adg] at h
    split at h
    ·rename_i e; exact e.symm
    ·simp [look] at h
   ·simp [look] at h
  exact absurd ((e i hi).trans (e j hj).symm) hij
def resV (tt : TT) (env : Env) (L : Locs) : List ResultVar → Option (List Value)
 | [] => some []
 | .tmp t :: r => (match look env t with
  | some sv => (match valO sv with
   | some v => (match resV tt env L r with | some q => some (v :: q) | none => none)
   | none => none)
  | none => none)
 | .cell t T :: r => (match look env t with
  | some (.p i off) => (match look tt T with
   | some ti => (match look L i with
    | some l => (match asm ti l.cs off with
     | some v => (match resV tt env L r with | some q => some (v :: q) | none => none)
     | none => none)
    | none => none)
   | none => none)
  | _ => none)
def tup : List Value → Value
 | [v] => v
 | l => .tuple l.toArray
theorem au3 (w : World) (x : Addr) : (asAddr (.pointer (some x))).run P w = .ok x w := rfl
theorem ajk {C : Cx} (ht : aek C.P C.tt) {env : Env} {L : Locs} {R : Rows} {G : GH} {bs : Nat → Nat} {a : Act} {w : World} (hA : At C.fn.ntmps env bs a) (hI : HInv C w G bs L R) :
  ∀ (rs : List ResultVar) (vs : List Value), resV C.tt env L rs = some vs →
   (rs.mapM (m := Sem) fun | .tmp t => pure (a.tmps.getD t undef) | .cell x t => do loadVar t (← asAddr (a.tmps.getD x undef))).run C.P w = .ok vs w
 | [], vs, h => by simp [resV] at h; subst h; simp
 | .tmp t :: r, vs, h => by
  simp only [resV] at h
  split at h
  ·rename_i sv hsv
   split at h
   ·rename_i v hv
    split at h
    ·rename_i q hq
     simp only [Option.some.injEq] at h; subst h
     have ih := ajk ht hA hI r q hq
     have hs := hA.slot t _ hsv
     rw [aj3 hv] at hs
     simp only [List.mapM_cons, Sem.run_bind, Sem.run_pure, Result.andThen_ok, ih, hs]
    ·cases h
   ·cases h
  ·cases h
 | .cell t T :: r, vs, h => by
  simp only [resV] at h
  split at h
  ·rename_i i off hv
   split at h
   ·rename_i ti hT
    split at h
    ·rename_i l hl
     split at h
     ·rename_i v hasm
      split at h
      ·rename_i q hq
       simp only [Option.some.injEq] at h; subst h
       have ih := ajk ht hA hI r q hq
       have hs := hA.slot t _ hv
       simp only [conc] at hs
       obtain ⟨hb, _⟩ := hI.loc i l hl
       have hrun := ahg (P := C.P) ht hT (w := w) (a := ⟨bs i, 0, none⟩) (cs := l.cs) (off := off) (v := v) (fun j u hj => by
        rw [Addr.add_lit, cell_of_row w _ _ _ _ _ hb]; simpa using hj) hasm
       rw [Addr.add_lit, Nat.zero_add] at hrun
       simp only [List.mapM_cons, Sem.run_bind, Sem.run_pure, Result.andThen_ok, ih, hs, au3, hrun]
      ·cases h
     ·cases h
    ·cases h
   ·cases h
  ·cases h
theorem ane {fn : Func} {tmps : Array Value} {P : Program} {w : World} {vs : List Value}
  (h : (fn.results.toList.mapM (m := Sem) fun | .tmp t => pure (tmps.getD t undef) | .cell x t => do loadVar t (← asAddr (tmps.getD x undef))).run P w = .ok vs w) :
  (results fn tmps).run P w = .ok (tup vs) w := by
 unfold results
 rw [Array.mapM_eq_mapM_toList]
 simp only [Sem.run_bind, Sem.run_map]
 erw [h]
 simp only [Result.andThen_ok, Sem.run_pure]
 match vs with
 | [] => rfl
 | [v] => rfl
 | u :: v :: r => rfl
theorem WX.ret {C : Cx} {s : List It} {env : Env} {L : Locs} {R : Rows} {Γ : Facts} (ht : aek C.P C.tt) {vs : List Value} (hv : resV C.tt env L C.fn.results.toList = some vs)
  (k : ∀ w G bs, HInv C w G bs L R → AllK C.M G Γ → C.Φ (tup vs) w) : WX C (.code .ret :: s) env L R Γ := by
 rintro a w ⟨G, bs, hA, hI, hΓ⟩
 show Code.ret.wp C.P (cont C s) a w
 refine wp_ret ?_
 have key : ∀ s : List It, bodyPost C.P C.fn (Ret C.w0 C.H C.Φ) .ret a w → cont C s .ret a w := by
  intro s h
  induction s with
  | nil => exact h
  | cons x s ih => cases x <;> exact ih
 exact key s ⟨hA.dfr, tup vs, ane (ajk ht hA hI _ _ hv), tup vs, rfl, hI.keep, k w G bs hI hΓ⟩
theorem WX.slot (d : Nat) {x y : SV} (h : look env d = some x) (e : ∀ bs, conc bs x = conc bs y) (k : WX C s ((d, y) :: env) L R Γ) : WX C s env L R Γ := by
 rintro a w ⟨G, bs, hA, hI, hΓ⟩
 refine k a w ⟨G, bs, ⟨hA.size, hA.dfr, fun i x' hx => ?_⟩, hI, hΓ⟩
 rw [adg] at hx
 split at hx
 ·rename_i he; subst he; simp at hx; subst hx; rw [hA.slot d x h, e]
 ·exact hA.slot i x' hx
theorem WX.cases {C : Cx} {s : List It} {env : Env} {L : Locs} {R : Rows} {Γ : Facts} (d : Nat) {b : Bool} (h : look env d = some (.v (.bool b)))
  (kt : b = true → WX C s ((d, .T) :: env) L R Γ) (kf : b = false → WX C s ((d, .F) :: env) L R Γ) : WX C s env L R Γ := by
 cases b with
 | true => exact WX.slot (y := .T) d h (fun _ => rfl) (kt rfl)
 | false => exact WX.slot (y := .F) d h (fun _ => rfl) (kf rfl)
def Sub {α : Type} (A B : List (Nat × α)) : Prop := ∀ i x, look A i = some x → look B i = some x
theorem Sub.nil {B : List (Nat × α)} : Sub [] B := fun i x h => by simp [look] at h
theorem Sub.cons {A B : List (Nat × α)} {i : Nat} {x : α} (h : look B i = some x) (k : Sub A B) : Sub ((i, x) :: A) B := fun j y hy => by
 rw [adg] at hy
 split at hy
 ·rename_i e; subst e; simp at hy; subst hy; exact h
 ·exact k j y hy
theorem Sub.refl (A : List (Nat × α)) : Sub A A := fun _ _ h => h
theorem At.sub {n : Nat} (hA : At n env bs a) (h : Sub env' env) : At n env' bs a :=
 ⟨hA.size, hA.dfr, fun d s hs => hA.slot d s (h d s hs)⟩
theorem HInv.sub (hI : HInv C w G bs L R) (hL : Sub L' L) (hR : Sub R' R) : HInv C w G bs L' R' := by
 have hact : ∀ i, Acts L' R' i → Acts L R i := fun i h => h.imp (fun ⟨l, h⟩ => ⟨l, hL _ _ h⟩) (fun ⟨r, h, c⟩ => ⟨r, hR _ _ h, c⟩)
 exact ⟨hI.keep, hI.le, fun i l h => hI.loc i l (hL _ _ h), fun i r h => hI.row i r (hR _ _ h), fun i j hij hi hj => hI.inj i j hij (hact i hi) (hact j hj),
  fun i l r h k => hI.dis i l r (hL _ _ h) (hR _ _ k), hI.pin, fun r h => hI.nr r (hR _ _ h)⟩
theorem Sat.sub (h : Sat C env L R Γ a w) (he : Sub env' env) (hL : Sub L' L) (hR : Sub R' R) {ks : List Nat} (hΓ : akh ks Γ = some Γ') : Sat C env' L' R' Γ' a w := by
 obtain ⟨G, bs, hA, hI, hg⟩ := h
 exact ⟨G, bs, hA.sub he, hI.sub hL hR, hg.pick hΓ⟩
theorem WX.sub (he : Sub env' env) (hL : Sub L' L) (hR : Sub R' R) (ks : List Nat) (hΓ : akh ks Γ = some Γ') (k : WX C s env' L' R' Γ') : WX C s env L R Γ :=
 fun a w h => k a w (h.sub he hL hR hΓ)
def Looks (C : Cx) (env : Env) (L : Locs) (R : Rows) (G : GH) (o : Oper) (sv : SV) : Prop :=
 ∀ a w G' bs, Le G G' → At C.fn.ntmps env bs a → HInv C w G' bs L R → (execOp a.eval o).run C.P w = .ok (.value (conc bs sv)) w
theorem WX.peek
  (hg : gd ops env o = some true) (hd : o.dst = some d) (hlt : Nat.blt d C.fn.ntmps = true)
  (k : ∀ G, AllK C.M G Γ → ∃ sv, Looks C env L R G o sv ∧ WX C (.ops ops r :: s) ((d, sv) :: env) L R Γ) : WX C (.ops ops (o :: r) :: s) env L R Γ := by
 rintro a w ⟨G, bs, hA, hI, hΓ⟩
 obtain ⟨sv, hl, hk⟩ := k G hΓ
 show wpList C.P ops (cont C s) (o :: r) a w
 unfold wpList
 rw [if_pos (aee hA hg)]
 refine .inl ?_
 unfold Oper.wp
 rw [hl a w G bs (Le.refl _) hA hI]
 simp only [Oper.upon, hd]
 exact hk _ _ ⟨G, bs, hA.put (by simpa [Nat.blt_eq] using hlt) sv, hI, hΓ⟩
def I64 (n : Int) : Prop := -9223372036854775808 ≤ n ∧ n ≤ 9223372036854775807
theorem ajh (h : I64 n) : i64.wrap n = n := IntWalk.i64_in _ (by unfold I64 at h; omega)
def ahz (b : BinOp) (m n : Int) : Option Int :=
 match b with
 | .add => some (m + n)
 | .sub => some (m - n)
 | .mul => some (m * n)
 | _ => none
theorem aih (ho : o.op = .binOp b T x y T')
  (hx : ev env x = some (.v (.int .i64 m))) (hy : ev env y = some (.v (.int .i64 n))) (hq : ahz b m n = some q) (hr : I64 q) : Looks C env L R G o (.v (.int .i64 q)) := by
 intro a w G' bs _ hA hI
 unfold execOp
 simp only [ho, ad7 hA hx, ad7 hA hy, conc]
 have := ajh hr
 cases b <;> simp [ahz] at hq <;> subst hq <;> simp [eqGuard, binOp, Op.intArith, this]
theorem ap4 (ho : o.op = .binOp b T x y T')
  (hx : ev env x = some (.v (.int .i64 m))) (hy : ev env y = some (.v (.int .i64 n))) (hq : ahz b m n = some q) : Looks C env L R G o (.v (.int .i64 (i64.wrap q))) := by
 intro a w G' bs _ hA hI
 unfold execOp
 simp only [ho, ad7 hA hx, ad7 hA hy, conc]
 cases b <;> simp [ahz] at hq <;> subst hq <;> simp [eqGuard, binOp, Op.intArith]
theorem WX.wrap
  (hg : gd ops env o = some true) (hd : o.dst = some d) (hlt : Nat.blt d C.fn.ntmps = true) (ho : o.op = .binOp b T x y T')
  (hx : ev env x = some (.v (.int .i64 m))) (hy : ev env y = some (.v (.int .i64 n))) (hq : ahz b m n = some q)
  (k : WX C (.ops ops r :: s) ((d, .v (.int .i64 (i64.wrap q))) :: env) L R Γ) : WX C (.ops ops (o :: r) :: s) env L R Γ :=
 WX.peek hg hd hlt fun _ _ => ⟨_, ap4 ho hx hy hq, k⟩
def evs (env : Env) : List Operand → Option (List SV)
 | [] => some []
 | x :: r => (match ev env x with
  | some s => (match evs env r with | some q => some (s :: q) | none => none)
  | none => none)
theorem ah0 {n : Nat} {env : Env} {bs : Nat → Nat} {a : Act} (hA : At n env bs a) : ∀ (l : List Operand) (q : List SV), evs env l = some q → l.map a.eval = q.map (conc bs)
 | [], q, h => by simp [evs] at h; subst h; rfl
 | x :: r, q, h => by
  simp only [evs] at h
  split at h
  ·rename_i s hs
   split at h
   ·rename_i q' hq
    simp only [Option.some.injEq] at h; subst h
    simp only [List.map_cons, ad7 hA hs, ah0 hA r q' hq]
   ·cases h
  ·cases h
theorem ah9 {caps : List Value} {vs : List Value} (he : aub P g)
  (ho : o.op = .call { callee := .value f, args := args.toArray, argTypes := ats }) (hf : a.eval f = .func (.func g) #[] caps.toArray) (hv : args.map a.eval = vs) :
  (execOp a.eval o).run P w = .ok (.enter g (vs ++ caps).toArray) w := by
 obtain ⟨fn, hfn, hn, hb⟩ := he
 unfold execOp
 have hn' : ¬ fn.name = "runtime.NumGoroutine" := by simpa using hn
 have hb' : ¬ fn.body = none := fun h => by simp [h] at hb
 subst hv
 simp [ho, resolve, hf, Deferred.ofValue, invoke, callFunc, hfn, hn', hb']
theorem HInv.called {C : Cx} {w w' : World} {G Hc h : GH} {bs : Nat → Nat} {L : Locs} {R : Rows} (hI : HInv C w G bs L R) (hc : Le Hc G) (hM : ∀ b o, Hc b = some o → C.M b) (hb : Kp Hc w w') (hle : Le h (hp w')) (hd : ∀ b o, h b = some o → w.heap.size ≤ b ∨ Hc b ≠ none) :
    HInv C w' (join (cut G Hc) h) bs L R ∧ Dj h (cut G Hc) := by
  have hlt : ∀ i, i < w.heap.size → Hc i = none → w'.heap[i]? = w.heap[i]? := hb.block
  have hnone : ∀ b, b < w.heap.size → G b = none → Hc b = none ∧ join (cut G Hc) h b = none := fun b hb hg => by
    have h1 : Hc b = none := by cases hx : Hc b with
      | none => rfl
      | some o => rw [hc b o hx] at hg; cases hg
    refine ⟨h1, ?_⟩
    unfold join
    rw [akt hg]
    cases hx : h b with
    | none => rfl
    | some o => rcases hd b o hx with h2 | h2
                · omega
                · exact absurd h1 h2
  have hkeep : Kp C.H C.w0 w' := ⟨hb.os.trans hI.keep.os, hb.tape.trans hI.keep.tape, hb.output.trans hI.keep.output, Nat.le_trans hI.keep.size hb.size, fun k hk hn => by
    have h1 : Hc k = none := by cases hx : Hc k with
      | none => rfl
      | some o => rcases hM k o hx with h1 | h1
                  · omega
                  · exact absurd hn h1
    rw [hlt k (Nat.lt_of_lt_of_le hk hI.keep.size) h1]; exact hI.keep.block k hk hn⟩
  refine ⟨⟨hkeep, afg (fun b o hx => ?_) hle, fun i l hl => ?_, fun i r hr => ?_, hI.inj, hI.dis, hI.pin, hI.nr⟩, fun b => ?_⟩
  · have h1 := ai0 _ _ b o hx
    have h2 : Hc b = none := (ajs G Hc b).resolve_left (by rw [hx]; simp)
    show w'.heap[b]? = _
    rw [hlt b (hI.le.lt h1) h2]; exact hI.le b o h1
  · obtain ⟨h1, h2, h3⟩ := hI.loc i l hl
    have hl := (Array.getElem?_eq_some_iff.1 h1).1
    obtain ⟨q1, q2⟩ := hnone _ hl h3
    exact ⟨by rw [hlt _ hl q1]; exact h1, h2, q2⟩
  · obtain ⟨h1, h2⟩ := hI.row i r hr
    refine ⟨h1, h2.imp id fun ⟨o1, k1, k2, k3, k4, k5, cur, T, hh, rest⟩ => ?_⟩
    have hl := (Array.getElem?_eq_some_iff.1 hh).1
    obtain ⟨q1, q2⟩ := hnone _ hl k3
    exact ⟨o1, k1, k2, q2, k4, k5, cur, T, by rw [hlt _ hl q1]; exact hh, rest⟩
  · cases hx : h b with
    | none => exact .inl rfl
    | some o =>
      right
      rcases hd b o hx with h2 | h2
      · refine akt ?_
        cases hg : G b with
        | none => rfl
        | some q => have := hI.le.lt hg; omega
      · unfold cut
        cases hq : Hc b with
        | none => exact absurd hq h2
        | some q => rfl
theorem WX.callG
  {Ψ : World → Value → World → Prop} (hg : gd ops env o = some true) (ho : o.op = .call { callee := .value f, args := args.toArray, argTypes := ats })
  (hf : ev env f = some sf) (hsf : ∀ bs, conc bs sf = .func (.func g) #[] (caps bs).toArray) (hargs : evs env args = some svs)
  (hc : ∀ w G bs, HInv C w G bs L R → AllK C.M (hp w) Γ → Does C.P g (svs.map (conc bs) ++ caps bs).toArray w emp (Ψ w))
  (k : ∀ a w w' G bs v, At C.fn.ntmps env bs a → HInv C w G bs L R → AllK C.M G Γ → Kp emp w w' → Ψ w v w' → wpList C.P ops (cont C s) r (a.put o.dst v) w') :
  WX C (.ops ops (o :: r) :: s) env L R Γ := by
 rintro a w ⟨G, bs, hA, hI, hΓ⟩
 show wpList C.P ops (cont C s) (o :: r) a w
 unfold wpList
 rw [if_pos (aee hA hg)]
 refine .inl ?_
 unfold Oper.wp
 obtain ⟨he, hcalls⟩ := hc w G bs hI (hΓ.mono hI.le)
 rw [ah9 he ho (by rw [ad7 hA hf, hsf]) (ah0 hA args svs hargs)]
 simp only [Oper.upon]
 refine hcalls.mono fun e w' ⟨v, hv, hb, hψ⟩ => ?_
 subst hv
 exact k a w w' G bs v hA hI hΓ hb hψ
theorem WX.callH {Γ1 : Facts}
  {Ψ : World → GH → Value → World → Prop} (ks : List Nat) (hks : agt ks Γ = some (fs, Γ1)) (hg : gd ops env o = some true) (ho : o.op = .call { callee := .value f, args := args.toArray, argTypes := ats })
  (hf : ev env f = some sf) (hsf : ∀ bs, conc bs sf = .func (.func g) #[] (caps bs).toArray) (hargs : evs env args = some svs)
  (hc : ∀ w G bs H, HInv C w G bs L R → Le H (hp w) → Sep H fs → AllK C.M (cut (hp w) H) Γ1 → Does C.P g (svs.map (conc bs) ++ caps bs).toArray w H (Ψ w H))
  (k : ∀ a w w' G bs H v, At C.fn.ntmps env bs a → HInv C w G bs L R → Le H G → (∀ b o, H b = some o → C.M b) → AllK C.M (cut G H) Γ1 → Kp H w w' → Ψ w H v w' → wpList C.P ops (cont C s) r (a.put o.dst v) w') :
  WX C (.ops ops (o :: r) :: s) env L R Γ := by
 rintro a w ⟨G, bs, hA, hI, hΓ⟩
 show wpList C.P ops (cont C s) (o :: r) a w
 unfold wpList
 rw [if_pos (aee hA hg)]
 refine .inl ?_
 unfold Oper.wp
 obtain ⟨H, q1, q2, q3, q4⟩ := agi hks hΓ
 obtain ⟨he, hcalls⟩ := hc w G bs H hI (q1.trans hI.le) q3 (q4.mono (avw hI.le))
 rw [ah9 he ho (by rw [ad7 hA hf, hsf]) (ah0 hA args svs hargs)]
 simp only [Oper.upon]
 refine hcalls.mono fun e w' ⟨v, hv, hb, hψ⟩ => ?_
 subst hv
 exact k a w w' G bs H v hA hI q1 q2 q4 hb hψ
theorem WX.callV
  {c : Value} (hg : gd ops env o = some true) (hd : o.dst = some d) (hlt : Nat.blt d C.fn.ntmps = true) (ho : o.op = .call { callee := .value f, args := args.toArray, argTypes := ats })
  (hf : ev env f = some sf) (hsf : ∀ bs, conc bs sf = .func (.func g) #[] (caps bs).toArray) (hargs : evs env args = some svs)
  (hc : ∀ w G bs, HInv C w G bs L R → AllK C.M (hp w) Γ → Does C.P g (svs.map (conc bs) ++ caps bs).toArray w emp fun v _ => v = c ∧ Q)
  (k : Q → WX C (.ops ops r :: s) ((d, .v c) :: env) L R Γ) : WX C (.ops ops (o :: r) :: s) env L R Γ :=
 WX.callG (Ψ := fun _ v _ => v = c ∧ Q) hg ho hf hsf hargs hc fun a w w' G bs v hA hI hΓ hb ⟨hv, hq⟩ => by
  subst hv
  rw [hd]
  exact k hq _ _ ⟨join (cut G emp) emp, bs, hA.put (by simpa [Nat.blt_eq] using hlt) (.v v), (hI.called (aes _) (fun _ _ h => by cases h) hb (aes _) (fun _ _ h => by cases h)).1, hΓ.mono (adz (cut G emp) emp)⟩
structure Head (ι : Type) where
 pre : ι → Prop
 m : ι → Nat
 env : ι → Env
 L : ι → Locs
 R : ι → Rows
 Γ : ι → Facts
def Head.I {ι : Type} (H : Head ι) (C : Cx) (n : Nat) : Act → World → Prop := fun a w => ∃ i, H.pre i ∧ H.m i < n ∧ Sat C (H.env i) (H.L i) (H.R i) (H.Γ i) a w
theorem WX.loop {C : Cx} {c : Code} {s : List It} {env : Env} {L : Locs} {R : Rows} {Γ : Facts} {ι : Type} (H : Head ι) (i : ι) (hi : H.pre i)
  (he : Sub (H.env i) env) (hL : Sub (H.L i) L) (hR : Sub (H.R i) R) (ks : List Nat) (hΓ : akh ks Γ = some (H.Γ i))
  (k : ∀ i, H.pre i → WX C (.code c :: .iter (H.I C (H.m i)) :: s) (H.env i) (H.L i) (H.R i) (H.Γ i)) : WX C (.code (.loop c) :: s) env L R Γ := by
 intro a w hS
 show (Code.loop c).wp C.P (cont C s) a w
 intro b kk cs
 have key : ∀ n a w, (∃ i, H.pre i ∧ H.m i = n ∧ Sat C (H.env i) (H.L i) (H.R i) (H.Γ i) a w) →
   ∃ e a' w', cont C s e a' w' ∧ Arrives C.P (lone (b.at a (.code c :: .inLoop c :: kk)) cs w) b kk cs e a' w' := by
  intro n
  induction n using Nat.strongRecOn with
  | _ n ih =>
   rintro a w ⟨i, hp, hm, hs⟩
   obtain ⟨e, a₁, w₁, hq, harr⟩ := k i hp a w hs b (.inLoop c :: kk) cs
   cases e with
   | normal =>
    obtain ⟨i', hp', hlt, hs'⟩ := hq
    obtain ⟨e₂, a₂, w₂, hq₂, harr₂⟩ := ih (H.m i') (hm ▸ hlt) a₁ w₁ ⟨i', hp', rfl, hs'⟩
    exact ⟨e₂, a₂, w₂, hq₂, .of_steps (Steps.trans harr (.one step_inLoop)) harr₂⟩
   | exit id => exact ⟨_, a₁, w₁, hq, .pass (x := .inLoop c) rfl (fun _ _ => .inl (by simp)) harr⟩
   | goto l => exact ⟨_, a₁, w₁, hq, .pass (x := .inLoop c) rfl (fun _ _ => .inl (by simp)) harr⟩
   | ret => exact ⟨_, a₁, w₁, hq, .pass (x := .inLoop c) rfl (fun _ _ => .inl (by simp)) harr⟩
   | panic ch => exact ⟨_, a₁, w₁, hq, .pass (x := .inLoop c) rfl (fun _ _ => .inl (by simp)) harr⟩
   | outgrown => exact ⟨_, a₁, w₁, hq, .pass (x := .inLoop c) rfl (fun _ _ => .inl (by simp)) harr⟩
 obtain ⟨e, a', w', hq, harr⟩ := key _ a w ⟨i, hi, rfl, hS.sub he hL hR hΓ⟩
 exact ⟨e, a', w', hq, .of_steps (.one step_loop) harr⟩
theorem WX.iter {H : Head ι} {n : Nat} (i : ι) (hi : H.pre i) (hm : H.m i < n)
  (he : Sub (H.env i) env) (hL : Sub (H.L i) L) (hR : Sub (H.R i) R) (ks : List Nat) (hΓ : akh ks Γ = some (H.Γ i)) : WX C (.iter (H.I C n) :: s) env L R Γ :=
 fun _ _ h => ⟨i, hi, hm, h.sub he hL hR hΓ⟩
end Go.Stp
namespace Go.Proofs.YtpmejlbgjkiobaaGreat
open Go.Stp
def tt : TT := [
 (3, ⟨.int .i64, 1, 8, (.int .i64 (0))⟩),
 (4, ⟨.bool, 1, 1, (.bool false)⟩),
 (9, ⟨.string, 1, 16, (.string ⟨#[]⟩)⟩),
 (49, ⟨.struct #[⟨ "Parts", 47, 0, false, "", "", 0⟩], 1, 24, (.agg #[(.slice none 0 0)])⟩),
 (47, ⟨.slice 9, 1, 24, (.slice none 0 0)⟩),
 (5, ⟨.int .u8, 1, 1, (.int .u8 (0))⟩),
 (22, ⟨.slice 5, 1, 24, (.slice none 0 0)⟩),
 (24, ⟨.slice 133, 1, 24, (.slice none 0 0)⟩),
 (26, ⟨.struct #[⟨ "Size", 3, 0, false, "", "", 0⟩, ⟨ "Links", 24, 1, false, "", "", 8⟩], 2, 32, (.agg #[(.int .i64 (0)), (.slice none 0 0)])⟩),
 (27, ⟨.slice 241, 1, 24, (.slice none 0 0)⟩),
 (28, ⟨.slice 192, 1, 24, (.slice none 0 0)⟩),
 (29, ⟨.slice 49, 1, 24, (.slice none 0 0)⟩),
 (30, ⟨.slice 109, 1, 24, (.slice none 0 0)⟩),
 (32, ⟨.struct #[⟨ "Keys", 27, 0, false, "", "", 0⟩, ⟨ "Rules", 28, 1, false, "", "", 24⟩, ⟨ "Anchors", 29, 2, false, "", "", 48⟩, ⟨ "Certificates", 30, 3, false, "", "", 72⟩], 4, 96, (.agg #[(.slice none 0 0), (.slice none 0 0), (.slice none 0 0), (.slice none 0 0)])⟩),
 (33, ⟨.slice 51, 1, 24, (.slice none 0 0)⟩),
 (34, ⟨.slice 105, 1, 24, (.slice none 0 0)⟩),
 (35, ⟨.slice 3, 1, 24, (.slice none 0 0)⟩),
 (36, ⟨.slice 111, 1, 24, (.slice none 0 0)⟩),
 (37, ⟨.slice 116, 1, 24, (.slice none 0 0)⟩),
 (39, ⟨.struct #[⟨ "Topology", 26, 0, false, "", "", 0⟩, ⟨ "Trust", 32, 2, false, "", "", 32⟩, ⟨ "Producers", 33, 6, false, "", "", 128⟩, ⟨ "Nodes", 34, 7, false, "", "", 152⟩, ⟨ "DownNodes", 3, 8, false, "", "", 176⟩, ⟨ "FailedLinks", 35, 9, false, "", "", 184⟩, ⟨ "InFlight", 36, 10, false, "", "", 208⟩, ⟨ "Consumers", 37, 11, false, "", "", 232⟩, ⟨ "Now", 3, 12, false, "", "", 256⟩, ⟨ "Dropped", 3, 13, false, "", "", 264⟩], 14, 272, (.agg #[(.int .i64 (0)), (.slice none 0 0), (.slice none 0 0), (.slice none 0 0), (.slice none 0 0), (.slice none 0 0), (.slice none 0 0), (.slice none 0 0), (.int .i64 (0)), (.slice none 0 0), (.slice none 0 0), (.slice none 0 0), (.int .i64 (0)), (.int .i64 (0))])⟩),
 (43, ⟨.slice 123, 1, 24, (.slice none 0 0)⟩),
 (51, ⟨.struct #[⟨ "Name", 49, 0, false, "", "", 0⟩, ⟨ "Value", 3, 1, false, "", "", 24⟩], 2, 32, (.agg #[(.slice none 0 0), (.int .i64 (0))])⟩),
 (57, ⟨.slice 239, 1, 24, (.slice none 0 0)⟩),
 (59, ⟨.struct #[⟨ "Size", 3, 0, false, "", "", 0⟩, ⟨ "Links", 57, 1, false, "", "", 8⟩], 2, 32, (.agg #[(.int .i64 (0)), (.slice none 0 0)])⟩),
 (60, ⟨.slice 222, 1, 24, (.slice none 0 0)⟩),
 (61, ⟨.slice 226, 1, 24, (.slice none 0 0)⟩),
 (62, ⟨.slice 141, 1, 24, (.slice none 0 0)⟩),
 (63, ⟨.slice 230, 1, 24, (.slice none 0 0)⟩),
 (65, ⟨.struct #[⟨ "Keys", 60, 0, false, "", "", 0⟩, ⟨ "Rules", 61, 1, false, "", "", 24⟩, ⟨ "Anchors", 62, 2, false, "", "", 48⟩, ⟨ "Certificates", 63, 3, false, "", "", 72⟩], 4, 96, (.agg #[(.slice none 0 0), (.slice none 0 0), (.slice none 0 0), (.slice none 0 0)])⟩),
 (66, ⟨.slice 143, 1, 24, (.slice none 0 0)⟩),
 (82, ⟨.slice 274, 1, 24, (.slice none 0 0)⟩),
 (83, ⟨.slice 279, 1, 24, (.slice none 0 0)⟩),
 (84, ⟨.slice 282, 1, 24, (.slice none 0 0)⟩),
 (86, ⟨.struct #[⟨ "Topology", 59, 0, false, "", "", 0⟩, ⟨ "Trust", 65, 2, false, "", "", 32⟩, ⟨ "Producers", 66, 6, false, "", "", 128⟩, ⟨ "Nodes", 82, 7, false, "", "", 152⟩, ⟨ "DownNodes", 3, 8, false, "", "", 176⟩, ⟨ "FailedLinks", 35, 9, false, "", "", 184⟩, ⟨ "InFlight", 83, 10, false, "", "", 208⟩, ⟨ "Consumers", 84, 11, false, "", "", 232⟩, ⟨ "Now", 3, 12, false, "", "", 256⟩, ⟨ "Dropped", 3, 13, false, "", "", 264⟩], 14, 272, (.agg #[(.int .i64 (0)), (.slice none 0 0), (.slice none 0 0), (.slice none 0 0), (.slice none 0 0), (.slice none 0 0), (.slice none 0 0), (.slice none 0 0), (.int .i64 (0)), (.slice none 0 0), (.slice none 0 0), (.slice none 0 0), (.int .i64 (0)), (.int .i64 (0))])⟩),
 (97, ⟨.slice 299, 1, 24, (.slice none 0 0)⟩),
 (99, ⟨.struct #[⟨ "Capacity", 3, 0, false, "", "", 0⟩, ⟨ "Entries", 97, 1, false, "", "", 8⟩], 2, 32, (.agg #[(.int .i64 (0)), (.slice none 0 0)])⟩),
 (100, ⟨.slice 302, 1, 24, (.slice none 0 0)⟩),
 (101, ⟨.slice 306, 1, 24, (.slice none 0 0)⟩),
 (102, ⟨.slice 206, 1, 24, (.slice none 0 0)⟩),
 (103, ⟨.slice 308, 1, 24, (.slice none 0 0)⟩),
 (105, ⟨.struct #[⟨ "Local", 30, 0, false, "", "", 0⟩, ⟨ "Cache", 99, 1, false, "", "", 24⟩, ⟨ "Pending", 100, 3, false, "", "", 56⟩, ⟨ "Seen", 101, 4, false, "", "", 80⟩, ⟨ "Routes", 102, 5, false, "", "", 104⟩, ⟨ "Measurements", 103, 6, false, "", "", 128⟩, ⟨ "Dropped", 3, 7, false, "", "", 152⟩], 8, 160, (.agg #[(.slice none 0 0), (.int .i64 (0)), (.slice none 0 0), (.slice none 0 0), (.slice none 0 0), (.slice none 0 0), (.slice none 0 0), (.int .i64 (0))])⟩),
 (107, ⟨.struct #[⟨ "Name", 49, 0, false, "", "", 0⟩, ⟨ "Nonce", 3, 1, false, "", "", 24⟩, ⟨ "HopLimit", 3, 2, false, "", "", 32⟩, ⟨ "Lifetime", 3, 3, false, "", "", 40⟩], 4, 48, (.agg #[(.slice none 0 0), (.int .i64 (0)), (.int .i64 (0)), (.int .i64 (0))])⟩),
 (109, ⟨.struct #[⟨ "Name", 49, 0, false, "", "", 0⟩, ⟨ "Content", 22, 1, false, "", "", 24⟩, ⟨ "KeyName", 49, 2, false, "", "", 48⟩, ⟨ "FreshUntil", 3, 3, false, "", "", 72⟩, ⟨ "Signature", 3, 4, false, "", "", 80⟩], 5, 88, (.agg #[(.slice none 0 0), (.slice none 0 0), (.slice none 0 0), (.int .i64 (0)), (.int .i64 (0))])⟩),
 (111, ⟨.struct #[⟨ "To", 3, 0, false, "", "", 0⟩, ⟨ "Face", 3, 1, false, "", "", 8⟩, ⟨ "IsInterest", 4, 2, false, "", "", 16⟩, ⟨ "Interest", 107, 3, false, "", "", 24⟩, ⟨ "Data", 109, 7, false, "", "", 72⟩], 12, 160, (.agg #[(.int .i64 (0)), (.int .i64 (0)), (.bool false), (.slice none 0 0), (.int .i64 (0)), (.int .i64 (0)), (.int .i64 (0)), (.slice none 0 0), (.slice none 0 0), (.slice none 0 0), (.int .i64 (0)), (.int .i64 (0))])⟩),
 (116, ⟨.struct #[⟨ "Node", 3, 0, false, "", "", 0⟩, ⟨ "Index", 3, 1, false, "", "", 8⟩, ⟨ "Name", 49, 2, false, "", "", 16⟩, ⟨ "Attempts", 3, 3, false, "", "", 40⟩, ⟨ "Wait", 3, 4, false, "", "", 48⟩, ⟨ "Satisfied", 4, 5, false, "", "", 56⟩, ⟨ "Data", 109, 6, false, "", "", 64⟩], 11, 152, (.agg #[(.int .i64 (0)), (.int .i64 (0)), (.slice none 0 0), (.int .i64 (0)), (.int .i64 (0)), (.bool false), (.slice none 0 0), (.slice none 0 0), (.slice none 0 0), (.int .i64 (0)), (.int .i64 (0))])⟩),
 (123, ⟨.struct #[⟨ "Origin", 3, 0, false, "", "", 0⟩, ⟨ "Version", 3, 1, false, "", "", 8⟩, ⟨ "Neighbors", 35, 2, false, "", "", 16⟩, ⟨ "Prefixes", 29, 3, false, "", "", 40⟩], 4, 64, (.agg #[(.int .i64 (0)), (.int .i64 (0)), (.slice none 0 0), (.slice none 0 0)])⟩),
 (133, ⟨.struct #[⟨ "A", 3, 0, false, "", "", 0⟩, ⟨ "B", 3, 1, false, "", "", 8⟩], 2, 16, (.agg #[(.int .i64 (0)), (.int .i64 (0))])⟩),
 (141, ⟨.struct #[⟨ "Parts", 47, 0, false, "", "", 0⟩], 1, 24, (.agg #[(.slice none 0 0)])⟩),
 (143, ⟨.struct #[⟨ "Name", 141, 0, false, "", "", 0⟩, ⟨ "Value", 3, 1, false, "", "", 24⟩], 2, 32, (.agg #[(.slice none 0 0), (.int .i64 (0))])⟩),
 (185, ⟨.struct #[⟨ "b", 22, 0, false, "", "loop.example/g00507/spec", 0⟩, ⟨ "i", 3, 1, false, "", "loop.example/g00507/spec", 24⟩, ⟨ "h", 3, 2, false, "", "loop.example/g00507/spec", 32⟩], 3, 40, (.agg #[(.slice none 0 0), (.int .i64 (0)), (.int .i64 (0))])⟩),
 (186, ⟨.slice 295, 1, 24, (.slice none 0 0)⟩),
 (190, ⟨.struct #[⟨ "Parts", 47, 0, false, "", "", 0⟩], 1, 24, (.agg #[(.slice none 0 0)])⟩),
 (192, ⟨.struct #[⟨ "DataPattern", 190, 0, false, "", "", 0⟩, ⟨ "KeyPattern", 190, 1, false, "", "", 24⟩], 2, 48, (.agg #[(.slice none 0 0), (.slice none 0 0)])⟩),
 (206, ⟨.struct #[⟨ "Prefix", 49, 0, false, "", "", 0⟩, ⟨ "Face", 3, 1, false, "", "", 24⟩, ⟨ "Cost", 3, 2, false, "", "", 32⟩], 3, 40, (.agg #[(.slice none 0 0), (.int .i64 (0)), (.int .i64 (0))])⟩),
 (222, ⟨.struct #[⟨ "Name", 141, 0, false, "", "", 0⟩, ⟨ "Secret", 3, 1, false, "", "", 24⟩], 2, 32, (.agg #[(.slice none 0 0), (.int .i64 (0))])⟩),
 (224, ⟨.struct #[⟨ "Parts", 47, 0, false, "", "", 0⟩], 1, 24, (.agg #[(.slice none 0 0)])⟩),
 (226, ⟨.struct #[⟨ "DataPattern", 224, 0, false, "", "", 0⟩, ⟨ "KeyPattern", 224, 1, false, "", "", 24⟩], 2, 48, (.agg #[(.slice none 0 0), (.slice none 0 0)])⟩),
 (230, ⟨.struct #[⟨ "Name", 141, 0, false, "", "", 0⟩, ⟨ "Content", 22, 1, false, "", "", 24⟩, ⟨ "KeyName", 141, 2, false, "", "", 48⟩, ⟨ "FreshUntil", 3, 3, false, "", "", 72⟩, ⟨ "Signature", 3, 4, false, "", "", 80⟩], 5, 88, (.agg #[(.slice none 0 0), (.slice none 0 0), (.slice none 0 0), (.int .i64 (0)), (.int .i64 (0))])⟩),
 (239, ⟨.struct #[⟨ "A", 3, 0, false, "", "", 0⟩, ⟨ "B", 3, 1, false, "", "", 8⟩], 2, 16, (.agg #[(.int .i64 (0)), (.int .i64 (0))])⟩),
 (241, ⟨.struct #[⟨ "Name", 49, 0, false, "", "", 0⟩, ⟨ "Secret", 3, 1, false, "", "", 24⟩], 2, 32, (.agg #[(.slice none 0 0), (.int .i64 (0))])⟩),
 (266, ⟨.slice 430, 1, 24, (.slice none 0 0)⟩),
 (268, ⟨.struct #[⟨ "Capacity", 3, 0, false, "", "", 0⟩, ⟨ "Entries", 266, 1, false, "", "", 8⟩], 2, 32, (.agg #[(.int .i64 (0)), (.slice none 0 0)])⟩),
 (269, ⟨.slice 391, 1, 24, (.slice none 0 0)⟩),
 (270, ⟨.slice 394, 1, 24, (.slice none 0 0)⟩),
 (271, ⟨.slice 397, 1, 24, (.slice none 0 0)⟩),
 (272, ⟨.slice 400, 1, 24, (.slice none 0 0)⟩),
 (274, ⟨.struct #[⟨ "Local", 63, 0, false, "", "", 0⟩, ⟨ "Cache", 268, 1, false, "", "", 24⟩, ⟨ "Pending", 269, 3, false, "", "", 56⟩, ⟨ "Seen", 270, 4, false, "", "", 80⟩, ⟨ "Routes", 271, 5, false, "", "", 104⟩, ⟨ "Measurements", 272, 6, false, "", "", 128⟩, ⟨ "Dropped", 3, 7, false, "", "", 152⟩], 8, 160, (.agg #[(.slice none 0 0), (.int .i64 (0)), (.slice none 0 0), (.slice none 0 0), (.slice none 0 0), (.slice none 0 0), (.slice none 0 0), (.int .i64 (0))])⟩),
 (277, ⟨.struct #[⟨ "Name", 141, 0, false, "", "", 0⟩, ⟨ "Nonce", 3, 1, false, "", "", 24⟩, ⟨ "HopLimit", 3, 2, false, "", "", 32⟩, ⟨ "Lifetime", 3, 3, false, "", "", 40⟩], 4, 48, (.agg #[(.slice none 0 0), (.int .i64 (0)), (.int .i64 (0)), (.int .i64 (0))])⟩),
 (279, ⟨.struct #[⟨ "To", 3, 0, false, "", "", 0⟩, ⟨ "Face", 3, 1, false, "", "", 8⟩, ⟨ "IsInterest", 4, 2, false, "", "", 16⟩, ⟨ "Interest", 277, 3, false, "", "", 24⟩, ⟨ "Data", 230, 7, false, "", "", 72⟩], 12, 160, (.agg #[(.int .i64 (0)), (.int .i64 (0)), (.bool false), (.slice none 0 0), (.int .i64 (0)), (.int .i64 (0)), (.int .i64 (0)), (.slice none 0 0), (.slice none 0 0), (.slice none 0 0), (.int .i64 (0)), (.int .i64 (0))])⟩),
 (282, ⟨.struct #[⟨ "Node", 3, 0, false, "", "", 0⟩, ⟨ "Index", 3, 1, false, "", "", 8⟩, ⟨ "Name", 141, 2, false, "", "", 16⟩, ⟨ "Attempts", 3, 3, false, "", "", 40⟩, ⟨ "Wait", 3, 4, false, "", "", 48⟩, ⟨ "Satisfied", 4, 5, false, "", "", 56⟩, ⟨ "Data", 230, 6, false, "", "", 64⟩], 11, 152, (.agg #[(.int .i64 (0)), (.int .i64 (0)), (.slice none 0 0), (.int .i64 (0)), (.int .i64 (0)), (.bool false), (.slice none 0 0), (.slice none 0 0), (.slice none 0 0), (.int .i64 (0)), (.int .i64 (0))])⟩),
 (295, ⟨.struct #[⟨ "Kind", 3, 0, false, "", "", 0⟩, ⟨ "N", 3, 1, false, "", "", 8⟩, ⟨ "Name", 49, 2, false, "", "", 16⟩, ⟨ "Forged", 111, 3, false, "", "", 40⟩], 15, 200, (.agg #[(.int .i64 (0)), (.int .i64 (0)), (.slice none 0 0), (.int .i64 (0)), (.int .i64 (0)), (.bool false), (.slice none 0 0), (.int .i64 (0)), (.int .i64 (0)), (.int .i64 (0)), (.slice none 0 0), (.slice none 0 0), (.slice none 0 0), (.int .i64 (0)), (.int .i64 (0))])⟩),
 (299, ⟨.struct #[⟨ "Data", 109, 0, false, "", "", 0⟩, ⟨ "LastUsed", 3, 5, false, "", "", 88⟩], 6, 96, (.agg #[(.slice none 0 0), (.slice none 0 0), (.slice none 0 0), (.int .i64 (0)), (.int .i64 (0)), (.int .i64 (0))])⟩),
 (300, ⟨.slice 304, 1, 24, (.slice none 0 0)⟩),
 (302, ⟨.struct #[⟨ "Name", 49, 0, false, "", "", 0⟩, ⟨ "Requesters", 300, 1, false, "", "", 24⟩, ⟨ "LastSent", 3, 2, false, "", "", 48⟩], 3, 56, (.agg #[(.slice none 0 0), (.slice none 0 0), (.int .i64 (0))])⟩),
 (304, ⟨.struct #[⟨ "Face", 3, 0, false, "", "", 0⟩, ⟨ "Nonce", 3, 1, false, "", "", 8⟩, ⟨ "Expiry", 3, 2, false, "", "", 16⟩], 3, 24, (.agg #[(.int .i64 (0)), (.int .i64 (0)), (.int .i64 (0))])⟩),
 (306, ⟨.struct #[⟨ "Name", 49, 0, false, "", "", 0⟩, ⟨ "Nonce", 3, 1, false, "", "", 24⟩], 2, 32, (.agg #[(.slice none 0 0), (.int .i64 (0))])⟩),
 (308, ⟨.struct #[⟨ "Prefix", 49, 0, false, "", "", 0⟩, ⟨ "Face", 3, 1, false, "", "", 24⟩, ⟨ "Failures", 3, 2, false, "", "", 32⟩], 3, 40, (.agg #[(.slice none 0 0), (.int .i64 (0)), (.int .i64 (0))])⟩),
 (316, ⟨.int .u64, 1, 8, (.int .u64 (0))⟩),
 (368, ⟨.int .u32, 1, 4, (.int .u32 (0))⟩),
 (371, ⟨.int .u64, 1, 8, (.int .u64 (0))⟩),
 (389, ⟨.slice 472, 1, 24, (.slice none 0 0)⟩),
 (391, ⟨.struct #[⟨ "Name", 141, 0, false, "", "", 0⟩, ⟨ "Requesters", 389, 1, false, "", "", 24⟩, ⟨ "LastSent", 3, 2, false, "", "", 48⟩], 3, 56, (.agg #[(.slice none 0 0), (.slice none 0 0), (.int .i64 (0))])⟩),
 (394, ⟨.struct #[⟨ "Name", 141, 0, false, "", "", 0⟩, ⟨ "Nonce", 3, 1, false, "", "", 24⟩], 2, 32, (.agg #[(.slice none 0 0), (.int .i64 (0))])⟩),
 (397, ⟨.struct #[⟨ "Prefix", 141, 0, false, "", "", 0⟩, ⟨ "Face", 3, 1, false, "", "", 24⟩, ⟨ "Cost", 3, 2, false, "", "", 32⟩], 3, 40, (.agg #[(.slice none 0 0), (.int .i64 (0)), (.int .i64 (0))])⟩),
 (400, ⟨.struct #[⟨ "Prefix", 141, 0, false, "", "", 0⟩, ⟨ "Face", 3, 1, false, "", "", 24⟩, ⟨ "Failures", 3, 2, false, "", "", 32⟩], 3, 40, (.agg #[(.slice none 0 0), (.int .i64 (0)), (.int .i64 (0))])⟩),
 (418, ⟨.slice 457, 1, 24, (.slice none 0 0)⟩),
 (420, ⟨.struct #[⟨ "Node", 105, 0, false, "", "", 0⟩, ⟨ "Outgoing", 418, 8, false, "", "", 160⟩], 9, 184, (.agg #[(.slice none 0 0), (.int .i64 (0)), (.slice none 0 0), (.slice none 0 0), (.slice none 0 0), (.slice none 0 0), (.slice none 0 0), (.int .i64 (0)), (.slice none 0 0)])⟩),
 (430, ⟨.struct #[⟨ "Data", 230, 0, false, "", "", 0⟩, ⟨ "LastUsed", 3, 5, false, "", "", 88⟩], 6, 96, (.agg #[(.slice none 0 0), (.slice none 0 0), (.slice none 0 0), (.int .i64 (0)), (.int .i64 (0)), (.int .i64 (0))])⟩),
 (457, ⟨.struct #[⟨ "Face", 3, 0, false, "", "", 0⟩, ⟨ "IsInterest", 4, 1, false, "", "", 8⟩, ⟨ "Interest", 107, 2, false, "", "", 16⟩, ⟨ "Data", 109, 6, false, "", "", 64⟩], 11, 152, (.agg #[(.int .i64 (0)), (.bool false), (.slice none 0 0), (.int .i64 (0)), (.int .i64 (0)), (.int .i64 (0)), (.slice none 0 0), (.slice none 0 0), (.slice none 0 0), (.int .i64 (0)), (.int .i64 (0))])⟩),
 (472, ⟨.struct #[⟨ "Face", 3, 0, false, "", "", 0⟩, ⟨ "Nonce", 3, 1, false, "", "", 8⟩, ⟨ "Expiry", 3, 2, false, "", "", 16⟩], 3, 24, (.agg #[(.int .i64 (0)), (.int .i64 (0)), (.int .i64 (0))])⟩),
 (500, ⟨.slice 505, 1, 24, (.slice none 0 0)⟩),
 (505, ⟨.struct #[⟨ "Letter", 9, 0, false, "", "", 0⟩, ⟨ "Value", 9, 1, false, "", "", 16⟩], 2, 32, (.agg #[(.string ⟨#[]⟩), (.string ⟨#[]⟩)])⟩)]
theorem ttOk : aek Tryz.prog tt :=
 ⟨⟨by kernel_rfl, by kernel_rfl⟩, ⟨⟨by kernel_rfl, by kernel_rfl⟩, ⟨⟨by kernel_rfl, by kernel_rfl⟩, ⟨⟨by kernel_rfl, by kernel_rfl⟩, ⟨⟨by kernel_rfl, by kernel_rfl⟩, ⟨⟨by kernel_rfl, by kernel_rfl⟩, ⟨⟨by kernel_rfl, by kernel_rfl⟩, ⟨⟨by kernel_rfl, by kernel_rfl⟩, ⟨⟨by kernel_rfl, by kernel_rfl⟩, ⟨⟨by kernel_rfl, by kernel_rfl⟩, ⟨⟨by kernel_rfl, by kernel_rfl⟩, ⟨⟨by kernel_rfl, by kernel_rfl⟩, ⟨⟨by kernel_rfl, by kernel_rfl⟩, ⟨⟨by kernel_rfl, by kernel_rfl⟩, ⟨⟨by kernel_rfl, by kernel_rfl⟩, ⟨⟨by kernel_rfl, by kernel_rfl⟩, ⟨⟨by kernel_rfl, by kernel_rfl⟩, ⟨⟨by kernel_rfl, by kernel_rfl⟩, ⟨⟨by kernel_rfl, by kernel_rfl⟩, ⟨⟨by kernel_rfl, by kernel_rfl⟩, ⟨⟨by kernel_rfl, by kernel_rfl⟩, ⟨⟨by kernel_rfl, by kernel_rfl⟩, ⟨⟨by kernel_rfl, by kernel_rfl⟩, ⟨⟨by kernel_rfl, by kernel_rfl⟩, ⟨⟨by kernel_rfl, by kernel_rfl⟩, ⟨⟨by kernel_rfl, by kernel_rfl⟩, ⟨⟨by kernel_rfl, by kernel_rfl⟩, ⟨⟨by kernel_rfl, by kernel_rfl⟩, ⟨⟨by kernel_rfl, by kernel_rfl⟩, ⟨⟨by kernel_rfl, by kernel_rfl⟩, ⟨⟨by kernel_rfl, by kernel_rfl⟩, ⟨⟨by kernel_rfl, by kernel_rfl⟩, ⟨⟨by kernel_rfl, by kernel_rfl⟩, ⟨⟨by kernel_rfl, by kernel_rfl⟩, ⟨⟨by kernel_rfl, by kernel_rfl⟩, ⟨⟨by kernel_rfl, by kernel_rfl⟩, ⟨⟨by kernel_rfl, by kernel_rfl⟩, ⟨⟨by kernel_rfl, by kernel_rfl⟩, ⟨⟨by kernel_rfl, by kernel_rfl⟩, ⟨⟨by kernel_rfl, by kernel_rfl⟩, ⟨⟨by kernel_rfl, by kernel_rfl⟩, ⟨⟨by kernel_rfl, by kernel_rfl⟩, ⟨⟨by kernel_rfl, by kernel_rfl⟩, ⟨⟨by kernel_rfl, by kernel_rfl⟩, ⟨⟨by kernel_rfl, by kernel_rfl⟩, ⟨⟨by kernel_rfl, by kernel_rfl⟩, ⟨⟨by kernel_rfl, by kernel_rfl⟩, ⟨⟨by kernel_rfl, by kernel_rfl⟩, ⟨⟨by kernel_rfl, by kernel_rfl⟩, ⟨⟨by kernel_rfl, by kernel_rfl⟩, ⟨⟨by kernel_rfl, by kernel_rfl⟩, ⟨⟨by kernel_rfl, by kernel_rfl⟩, ⟨⟨by kernel_rfl, by kernel_rfl⟩, ⟨⟨by kernel_rfl, by kernel_rfl⟩, ⟨⟨by kernel_rfl, by kernel_rfl⟩, ⟨⟨by kernel_rfl, by kernel_rfl⟩, ⟨⟨by kernel_rfl, by kernel_rfl⟩, ⟨⟨by kernel_rfl, by kernel_rfl⟩, ⟨⟨by kernel_rfl, by kernel_rfl⟩, ⟨⟨by kernel_rfl, by kernel_rfl⟩, ⟨⟨by kernel_rfl, by kernel_rfl⟩, ⟨⟨by kernel_rfl, by kernel_rfl⟩, ⟨⟨by kernel_rfl, by kernel_rfl⟩, ⟨⟨by kernel_rfl, by kernel_rfl⟩, ⟨⟨by kernel_rfl, by kernel_rfl⟩, ⟨⟨by kernel_rfl, by kernel_rfl⟩, ⟨⟨by kernel_rfl, by kernel_rfl⟩, ⟨⟨by kernel_rfl, by kernel_rfl⟩, ⟨⟨by kernel_rfl, by kernel_rfl⟩, ⟨⟨by kernel_rfl, by kernel_rfl⟩, ⟨⟨by kernel_rfl, by kernel_rfl⟩, ⟨⟨by kernel_rfl, by kernel_rfl⟩, ⟨⟨by kernel_rfl, by kernel_rfl⟩, ⟨⟨by kernel_rfl, by kernel_rfl⟩, ⟨⟨by kernel_rfl, by kernel_rfl⟩, ⟨⟨by kernel_rfl, by kernel_rfl⟩, ⟨⟨by kernel_rfl, by kernel_rfl⟩, ⟨⟨by kernel_rfl, by kernel_rfl⟩, ⟨⟨by kernel_rfl, by kernel_rfl⟩, ⟨⟨by kernel_rfl, by kernel_rfl⟩, ⟨⟨by kernel_rfl, by kernel_rfl⟩, ⟨⟨by kernel_rfl, by kernel_rfl⟩, ⟨⟨by kernel_rfl, by kernel_rfl⟩, ⟨⟨by kernel_rfl, by kernel_rfl⟩, ⟨⟨by kernel_rfl, by kernel_rfl⟩, ⟨⟨by kernel_rfl, by kernel_rfl⟩, ⟨⟨by kernel_rfl, by kernel_rfl⟩, ⟨⟨by kernel_rfl, by kernel_rfl⟩, ⟨⟨by kernel_rfl, by kernel_rfl⟩, ⟨⟨by kernel_rfl, by kernel_rfl⟩, ⟨⟨by kernel_rfl, by kernel_rfl⟩, ⟨⟨by kernel_rfl, by kernel_rfl⟩, trivial⟩⟩⟩⟩⟩⟩⟩⟩⟩⟩⟩⟩⟩⟩⟩⟩⟩⟩⟩⟩⟩⟩⟩⟩⟩⟩⟩⟩⟩⟩⟩⟩⟩⟩⟩⟩⟩⟩⟩⟩⟩⟩⟩⟩⟩⟩⟩⟩⟩⟩⟩⟩⟩⟩⟩⟩⟩⟩⟩⟩⟩⟩⟩⟩⟩⟩⟩⟩⟩⟩⟩⟩⟩⟩⟩⟩⟩⟩⟩⟩⟩⟩⟩⟩⟩⟩⟩⟩⟩⟩⟩⟩
theorem mixed : Tryz.prog.follows .mixedOrders = true := by kernel_rfl
end Go.Proofs.YtpmejlbgjkiobaaGreat
namespace Go.Stp
variable {n c T i kk d off : Nat} {m : Int} {G G' h : GH} {f : MF} {fs A B : List MF} {xs : List Value} {p : Option Addr} {o : Oper} {kd : Kd} {w : World} {v : Value} {C : Cx} {env : Env} {L : Locs} {R : Rows} {x y : Operand} {ad : Addr} {ops : Array Oper} {r : List Oper} {s : List It} {Γ : Facts} {ti : TI} {ι : Type} {Q : Prop}
abbrev Str := ByteArray
def bd (n : Nat) : Nat := match Nat.ble n 9 with | true => 1048576 * 4 ^ n | false => 9223372036854775807
theorem ani (h : n ≤ 9) : bd n = 1048576 * 4 ^ n := by unfold bd; rw [Nat.ble_eq_true_of_le h]
theorem aui {n : Nat} (h : ¬ n ≤ 9) : bd n = 9223372036854775807 := by
 unfold bd
 cases hb : Nat.ble n 9 with
 | true => exact absurd (Nat.le_of_ble_eq_true hb) h
 | false => rfl
theorem ave (h : n ≤ 9) : 4 ^ n ≤ 262144 := Nat.le_trans (Nat.pow_le_pow_right (by omega) h) (by decide)
theorem axg (n : Nat) : bd n ≤ 9223372036854775807 := by
 by_cases h : n ≤ 9
 ·rw [ani h]; have := ave h; omega
 ·rw [aui h]; omega
theorem awj (h : n ≤ 9) : bd n ≤ 274877906944 := by rw [ani h]; have := ave h; omega
theorem ao5 (n : Nat) : 1048576 ≤ bd n := by
 by_cases h : n ≤ 9
 ·rw [ani h]; have : 0 < 4 ^ n := Nat.pow_pos (by omega); omega
 ·rw [aui h]; omega
theorem awz (h : n + 1 ≤ 9) : bd (n + 1) = 4 * bd n := by
 rw [ani h, ani (by omega), Nat.pow_succ]; omega
theorem an5 {m : Nat} (h : n ≤ m) : bd n ≤ bd m := by
 by_cases hm : m ≤ 9
 ·rw [ani hm, ani (by omega)]; exact Nat.mul_le_mul_left _ (Nat.pow_le_pow_right (by omega) h)
 ·rw [aui hm]; exact axg n
theorem bd_0 : bd 0 = 1048576 := rfl
class GoT (α : Type) where
 X : Type
 k : Nat
 ok : Nat → α → Prop
 sh : α → X → List Value
 fa : Kd → α → X → List MF
 oa : α → X → List MF
 pos : 0 < k
 len : ∀ a x, (sh a x).length = k
 one : ∀ a x, ∀ v ∈ sh a x, v.oneCell' = true
 fak : ∀ {kd a x}, ∀ f ∈ fa kd a x, f.k = kd
 oak : ∀ {a x}, ∀ f ∈ oa a x, f.k = .lin
 ow_rd : ∀ {h : GH} {kd : Kd} {a : α} {x : X}, Sep h (oa a x) → All h (fa kd a x)
 kdp : ∀ {h : GH} {kd kd' : Kd} {a : α} {x : X}, All h (fa kd a x) → All h (fa kd' a x)
 okm : ∀ {n m : Nat} {a : α}, n ≤ m → ok n a → ok m a
theorem All.nil : All G [] := fun f h => by cases h
theorem All.cons (h : f.p G) (k : All G fs) : All G (f :: fs) := fun g hg => by
 rcases List.mem_cons.1 hg with rfl | hg
 ·exact h
 ·exact k g hg
theorem All.append (h : All G A) (k : All G B) : All G (A ++ B) := fun f hf => (List.mem_append.1 hf).elim (h f) (k f)
theorem All.left (h : All G (A ++ B)) : All G A := fun f hf => h f (List.mem_append_left _ hf)
theorem All.right (h : All G (A ++ B)) : All G B := fun f hf => h f (List.mem_append_right _ hf)
open GoT (X k ok sh fa oa)
section
variable {α : Type} [GoT α]
def RdL (G : GH) : List Value → List α → Prop
 | xs, [] => xs = []
 | xs, a :: l => ∃ (x : X α) (ys : List Value), xs = sh a x ++ ys ∧ All G (fa .der a x) ∧ RdL G ys l
def OwL (h : GH) : List Value → List α → Prop
 | xs, [] => xs = []
 | xs, a :: l => ∃ (x : X α) (ys : List Value) (h1 h2 : GH), xs = sh a x ++ ys ∧ Le h1 h ∧ Le h2 h ∧ Dj h1 h2 ∧ Sep h1 (oa a x) ∧ OwL h2 ys l
def akf (G : GH) (p : Option Addr) (xs : List Value) : Prop := ∀ j u, xs[j]? = some u → ∃ a, p = some a ∧ gcell G (a.add j) = some u
def RdSl (G : GH) (p : Option Addr) (c : Nat) (l : List α) : Prop :=
 l.length ≤ c ∧ l.length ≤ 9223372036854775807 ∧ ∃ xs, akf G p xs ∧ RdL G xs l
def OwSl (h : GH) (p : Option Addr) (c : Nat) (l : List α) : Prop :=
 (c = 0 ∧ l = []) ∨ ∃ (b o T : Nat) (cur : Array Value) (h' : GH), p = some ⟨b, o, none⟩ ∧ h b = some (.cells cur T (0, 0)) ∧ Le h' h ∧ h' b = none ∧ l.length ≤ c ∧ c ≤ maxLen ∧ o + c * k α ≤ cur.size ∧ OwL h' ((cur.toList.drop o).take (l.length * k α)) l
theorem RdL.len {G : GH} : ∀ {xs : List Value} {l : List α}, RdL G xs l → xs.length = l.length * k α
 | xs, [], h => by simp [RdL] at h; subst h; simp
 | xs, a :: l, ⟨x, ys, h1, _, h3⟩ => by subst h1; rw [List.length_append, GoT.len, h3.len, List.length_cons, Nat.add_mul]; omega
theorem RdL.mono {G G' : GH} (h : Le G G') : ∀ {xs : List Value} {l : List α}, RdL G xs l → RdL G' xs l
 | _, [], k => k
 | _, _ :: _, ⟨x, ys, h1, h2, h3⟩ => ⟨x, ys, h1, h2.mono h, h3.mono h⟩
theorem OwL.mono {G G' : GH} (h : Le G G') : ∀ {xs : List Value} {l : List α}, OwL G xs l → OwL G' xs l
 | _, [], k => k
 | _, _ :: _, ⟨x, ys, h1, h2, e, a, b, c, d, k⟩ => ⟨x, ys, h1, h2, e, a.trans h, b.trans h, c, d, k⟩
theorem OwL.rd : ∀ {G : GH} {xs : List Value} {l : List α}, OwL G xs l → RdL G xs l
 | _, _, [], k => k
 | _, _, _ :: _, ⟨x, ys, h1, h2, e, a, b, _, d, k⟩ => ⟨x, ys, e, (GoT.ow_rd d).mono a, k.rd.mono b⟩
theorem OwL.len {l : List α} (h : OwL G xs l) : xs.length = l.length * k α := h.rd.len
theorem akf.mono (h : Le G G') (hc : akf G p xs) : akf G' p xs := fun j u hu => by
 obtain ⟨a, ha, hg⟩ := hc j u hu
 exact ⟨a, ha, ahv h hg⟩
theorem RdSl.mono (h : Le G G') {l : List α} (hr : RdSl G p c l) : RdSl G' p c l := by
 obtain ⟨h1, h2, xs, h4, h5⟩ := hr
 exact ⟨h1, h2, xs, h4.mono h, h5.mono h⟩
theorem OwSl.mono (h : Le G G') {l : List α} (hr : OwSl G p c l) : OwSl G' p c l := by
 refine hr.imp id ?_
 rintro ⟨b, o, T, cur, h', k1, k2, k3, k⟩
 exact ⟨b, o, T, cur, h', k1, h _ _ k2, k3.trans h, k⟩
theorem ao6 {g o : Nat} {cur : Array Value} {fr : Nat × Nat} (h : G g = some (.cells cur T fr)) (n : Nat) : akf G (some ⟨g, o, none⟩) ((cur.toList.drop o).take n) := fun j u hu => by
 refine ⟨_, rfl, ?_⟩
 rw [List.getElem?_take] at hu
 split at hu
 ·rw [Addr.add_lit]; simp [gcell, h]; simpa using hu
 ·cases hu
theorem OwSl.rd {l : List α} (hr : OwSl G p c l) : RdSl G p c l := by
 obtain ⟨h3, h4⟩ | ⟨b, o, T, cur, h', k1, k2, k3, k4, k5, k6, k7, k8⟩ := hr
 ·subst h4; exact ⟨by simp, by simp, [], fun j u h => by simp at h, rfl⟩
 ·subst k1; exact ⟨k5, by simp only [maxLen] at k6; omega, _, ao6 k2 _, k8.rd.mono k3⟩
end
def MF.rs {α : Type} [GoT α] (kd : Kd) (p : Option Addr) (c : Nat) (l : List α) : MF := ⟨kd, fun G => RdSl G p c l, fun h k => k.mono h⟩
def MF.os {α : Type} [GoT α] (p : Option Addr) (c : Nat) (l : List α) : MF := ⟨.lin, fun G => OwSl G p c l, fun h k => k.mono h⟩
def MF.ol {α : Type} [GoT α] (xs : List Value) (l : List α) : MF := ⟨.lin, fun G => OwL G xs l, fun h k => k.mono h⟩
def MF.rl {α : Type} [GoT α] (kd : Kd) (xs : List Value) (l : List α) : MF := ⟨kd, fun G => RdL G xs l, fun h k => k.mono h⟩
instance : GoT Int where
 X := Unit
 k := 1
 ok _ n := I64 n
 sh n _ := [.int .i64 n]
 fa _ _ _ := []
 oa _ _ := []
 pos := by omega
 len _ _ := rfl
 one _ _ v h := by simp at h; subst h; rfl
 fak f h := by cases h
 oak f h := by cases h
 ow_rd _ := All.nil
 kdp _ := All.nil
 okm {n m a} h k := by first | exact k | exact Nat.le_trans k (an5 h)
instance : GoT Bool where
 X := Unit
 k := 1
 ok _ _ := True
 sh n _ := [.bool n]
 fa _ _ _ := []
 oa _ _ := []
 pos := by omega
 len _ _ := rfl
 one _ _ v h := by simp at h; subst h; rfl
 fak f h := by cases h
 oak f h := by cases h
 ow_rd _ := All.nil
 kdp _ := All.nil
 okm {n m a} h k := by first | exact k | exact Nat.le_trans k (an5 h)
instance : GoT UInt8 where
 X := Unit
 k := 1
 ok _ _ := True
 sh n _ := [.int .u8 n.toNat]
 fa _ _ _ := []
 oa _ _ := []
 pos := by omega
 len _ _ := rfl
 one _ _ v h := by simp at h; subst h; rfl
 fak f h := by cases h
 oak f h := by cases h
 ow_rd _ := All.nil
 kdp _ := All.nil
 okm {n m a} h k := by first | exact k | exact Nat.le_trans k (an5 h)
instance : GoT ByteArray where
 X := Unit
 k := 1
 ok n s := s.size ≤ bd n
 sh n _ := [.string n]
 fa _ _ _ := []
 oa _ _ := []
 pos := by omega
 len _ _ := rfl
 one _ _ v h := by simp at h; subst h; rfl
 fak f h := by cases h
 oak f h := by cases h
 ow_rd _ := All.nil
 kdp _ := All.nil
 okm {n m a} h k := by first | exact k | exact Nat.le_trans k (an5 h)
theorem ais (k : Sep h [f]) : f.p h := by
 obtain ⟨h1, h2, a, _, _, d, _⟩ := k
 exact f.m a d
theorem aiz (k : f.p h) : Sep h [f] := ⟨h, emp, Le.refl _, aes _, (ag5 _).symm, k, trivial⟩
instance {α : Type} [GoT α] : GoT (List α) where
 X := Option Addr × Nat
 k := 1
 ok n l := l.length ≤ bd n ∧ ∀ a ∈ l, ok n a
 sh l x := [.slice x.1 l.length x.2]
 fa kd l x := [MF.rs kd x.1 x.2 l]
 oa l x := [MF.os x.1 x.2 l]
 pos := by omega
 len _ _ := rfl
 one _ _ v h := by simp at h; subst h; rfl
 fak f h := by cases List.mem_singleton.1 h; rfl
 oak f h := by cases List.mem_singleton.1 h; rfl
 ow_rd h := All.cons (OwSl.rd (ais h)) All.nil
 kdp h := All.cons (h _ (List.mem_singleton.2 rfl) : RdSl _ _ _ _) All.nil
 okm h k := ⟨Nat.le_trans k.1 (an5 h), fun a ha => GoT.okm h (k.2 a ha)⟩
instance {α β : Type} [GoT α] [GoT β] : GoT (α × β) where
 X := X α × X β
 k := k α + k β
 ok n a := ok n a.1 ∧ ok n a.2
 sh a x := sh a.1 x.1 ++ sh a.2 x.2
 fa kd a x := fa kd a.1 x.1 ++ fa kd a.2 x.2
 oa a x := oa a.1 x.1 ++ oa a.2 x.2
 pos := by have := GoT.pos (α := α); omega
 len a x := by simp [GoT.len]
 one a x v h := (List.mem_append.1 h).elim (GoT.one _ _ v) (GoT.one _ _ v)
 fak f h := (List.mem_append.1 h).elim (GoT.fak f) (GoT.fak f)
 oak f h := (List.mem_append.1 h).elim (GoT.oak f) (GoT.oak f)
 ow_rd h := by
  obtain ⟨h1, h2, a, b, _, d, e⟩ := h.append
  exact All.append ((GoT.ow_rd d).mono a) ((GoT.ow_rd e).mono b)
 kdp h := All.append (GoT.kdp h.left) (GoT.kdp h.right)
 okm h k := ⟨GoT.okm h k.1, GoT.okm h k.2⟩
@[reducible] def GoT.via {α β : Type} [GoT β] (e : α → β) : GoT α where
 X := X β
 k := k β
 ok n a := ok n (e a)
 sh a := sh (e a)
 fa kd a := fa kd (e a)
 oa a := oa (e a)
 pos := GoT.pos
 len a := GoT.len (e a)
 one a := GoT.one (e a)
 fak := GoT.fak
 oak := GoT.oak
 ow_rd h := GoT.ow_rd h
 kdp h := GoT.kdp h
 okm h k := GoT.okm h k
def kdL : Kd → Bool
 | .lin => true
 | .stb => false
 | .der => false
theorem avz (h : kdL kd = false) : kd ≠ .lin := fun e => by subst e; cases h
section
variable {α : Type} [GoT α]
theorem RdL.get {G : GH} : ∀ {xs : List Value} {l : List α} {i : Nat} {a : α}, RdL G xs l → l[i]? = some a → ∃ x : X α, All G (fa .der a x) ∧ ∀ j u, (sh a x)[j]? = some u → xs[i * k α + j]? = some u
 | xs, b :: l, 0, a, ⟨x, ys, h1, h2, _⟩, h => by
  simp at h; subst h; subst h1
  refine ⟨x, h2, fun j u hj => ?_⟩
  simp only [Nat.zero_mul, Nat.zero_add]
  rw [List.getElem?_append_left (List.getElem?_eq_some_iff.1 hj).1]; exact hj
 | xs, b :: l, i + 1, a, ⟨x, ys, h1, _, h3⟩, h => by
  obtain ⟨x', h4, h5⟩ := h3.get (i := i) (a := a) (by simpa using h)
  refine ⟨x', h4, fun j u hj => ?_⟩
  subst h1
  rw [List.getElem?_append_right (by rw [GoT.len, Nat.add_mul]; omega), GoT.len]
  have := h5 j u hj
  rwa [show (i + 1) * k α + j - k α = i * k α + j by rw [Nat.add_mul]; omega]
 | xs, [], i, a, _, h => by simp at h
theorem RdSl.get {l : List α} {a : α} (h : RdSl G p c l) (hi : l[i]? = some a) :
  ∃ (x : X α) (ad : Addr), p = some ad ∧ All G (fa .der a x) ∧ ∀ j u, (sh a x)[j]? = some u → gcell G ((ad.add (i * k α)).add j) = some u := by
 obtain ⟨_, _, xs, h4, h5⟩ := h
 obtain ⟨x, h6, h7⟩ := h5.get hi
 have h0 : ∃ u, (sh a x)[0]? = some u := by
  have := GoT.len a x; have := GoT.pos (α := α)
  exact ⟨_, List.getElem?_eq_getElem (by omega)⟩
 obtain ⟨u, hu⟩ := h0
 obtain ⟨ad, had, _⟩ := h4 _ _ (h7 0 u hu)
 refine ⟨x, ad, had, h6, fun j u hj => ?_⟩
 obtain ⟨ad', had', hg⟩ := h4 _ _ (h7 j u hj)
 rw [had] at had'; simp at had'; subst had'
 rw [ag2]; exact hg
theorem AllK.stbs {M : Nat → Prop} {G : GH} {Γ : Facts} {S h : GH} (k : Holds M G Γ S h) : ∀ {fs : List MF} {n : Nat} {Γ' : Facts}, addF n fs Γ = some Γ' → (∀ f ∈ fs, f.k = .stb) → All S fs → Holds M G Γ' S h
 | [], n, Γ', e, _, _ => by simp [addF] at e; subst e; exact k
 | f :: fs, n, Γ', e, hk, ha => by
  simp only [addF] at e
  split at e
  ·rename_i q hq
   simp only [Option.some.injEq] at e; subst e
   have r := AllK.stbs k hq (fun g hg => hk g (List.mem_cons_of_mem _ hg)) (fun g hg => ha g (List.mem_cons_of_mem _ hg))
   have hf := hk f (List.mem_cons_self ..)
   refine ⟨r.sle, r.hle, r.dj, r.own, fun m g hg hk' => ?_, fun m g hg hk' => ?_, ?_⟩
   ·rcases List.mem_cons.1 hg with hg | hg
    ·cases hg; exact ha f (List.mem_cons_self ..)
    ·exact r.stb m g hg hk'
   ·rcases List.mem_cons.1 hg with hg | hg
    ·cases hg; rw [hf] at hk'; cases hk'
    ·exact r.der m g hg hk'
   ·simp only [lins, hf]; exact r.lin
  ·cases e
theorem AllK.elem {M : Nat → Prop} {G : GH} {Γ : Facts} (hΓ : AllK M G Γ) {ℓ : Nat} {kd : Kd} {p : Option Addr} {c : Nat} {l : List α} (hℓ : look Γ ℓ = some (MF.rs kd p c l)) (hkd : kd ≠ .lin) {i : Nat} {a : α} (hi : l[i]? = some a) :
  ∃ (x : X α) (ad : Addr), p = some ad ∧ (∀ j u, (sh a x)[j]? = some u → gcell G ((ad.add (i * k α)).add j) = some u) ∧ ∀ n Γ', addF n (fa kd a x) Γ = some Γ' → AllK M G Γ' := by
 cases kd with
 | lin => exact absurd rfl hkd
 | stb =>
  obtain ⟨S, h, k⟩ := hΓ
  obtain ⟨x, ad, h1, h2, h3⟩ := RdSl.get (k.stb ℓ _ (al1 hℓ) rfl : RdSl S p c l) hi
  exact ⟨x, ad, h1, fun j u hj => ahv k.sle (h3 j u hj), fun n Γ' e => ⟨S, h, AllK.stbs k e (fun f hf => GoT.fak f hf) (GoT.kdp h2)⟩⟩
 | der =>
  obtain ⟨x, ad, h1, h2, h3⟩ := RdSl.get (hΓ.get ℓ hℓ : RdSl G p c l) hi
  exact ⟨x, ad, h1, h3, fun n Γ' e => AllK.ders e (fun f hf => GoT.fak f hf) h2 hΓ⟩
end
def ajp (tt : TT) (T : Nat) : Option Nat :=
 match look tt T with
 | some ti => (match ti.desc with
  | .slice e => (match look tt e with | some te => some te.size | none => none)
  | _ => none)
 | none => none
theorem ase {P : Program} {tt : TT} (ht : aek P tt) {k : Nat} (h : ajp tt T = some k) (w : World) (a : Addr) (n c i : Nat) (hi : i < n) :
  (Instr.indexAt T (.slice (some a) n c) (.int .i64 i)).run P w = .ok (.pointer (some (a.add (i * k)))) w := by
 unfold ajp at h
 split at h
 ·rename_i ti hT
  split at h
  ·rename_i e hd
   split at h
   ·rename_i te hE
    simp only [Option.some.injEq] at h; subst h
    obtain ⟨hu, _⟩ := ht.get hT
    obtain ⟨_, inf, hinf, _, hs, _⟩ := ht.get hE
    rw [hd] at hu
    simp [Instr.indexAt, asIntOf, run_underlying hu, hi, afu hinf, hs]
   ·cases h
  ·cases h
 ·cases h
theorem Le.cell (h : Le G (hp w)) {a : Addr} (hc : gcell G a = some v) : w.cell? a = some v := ahv h hc
theorem al9 (ht : aek C.P C.tt) (ho : o.op = .indexAddr T x y)
  (hx : ev env x = some (.v (.slice (some ad) n c))) (hy : ev env y = some (.v (.int .i64 m))) (hk : ajp C.tt T = some kk) (hm : m = (i : Int)) (hi : i < n) : Looks C env L R G o (.e (some ad) i kk 0) := by
 intro a w G' bs _ hA hI
 unfold execOp
 subst hm
 simp only [ho, ad7 hA hx, ad7 hA hy, conc, Sem.run_bind, ase ht hk w ad n c i hi, Result.andThen_ok, Sem.run_pure, Addr.add_zero']
theorem WX.idx {α : Type} [GoT α] {l : List α} (ℓ i : Nat) (ht : aek C.P C.tt)
  (hg : gd ops env o = some true) (hd : o.dst = some d) (hlt : Nat.blt d C.fn.ntmps = true) (ho : o.op = .indexAddr T x y)
  (hx : ev env x = some (.v (.slice p n c))) (hy : ev env y = some (.v (.int .i64 m))) (hk : ajp C.tt T = some kk) (hℓ : look Γ ℓ = some (MF.rs kd p c l)) (hn : n = l.length) (hm : m = (i : Int)) (hi : i < l.length)
  (k : ∀ ad, p = some ad → WX C (.ops ops r :: s) ((d, .e (some ad) i kk 0) :: env) L R Γ) : WX C (.ops ops (o :: r) :: s) env L R Γ :=
 WX.peek hg hd hlt fun G hΓ => by
  obtain ⟨x', ad, rfl, _⟩ := RdSl.get (i := i) (hΓ.get ℓ hℓ : RdSl G p c l) (List.getElem?_eq_getElem hi)
  exact ⟨_, al9 ht ho hx hy hk hm (by omega), k ad rfl⟩
theorem anc {cs : List Value} (ht : aek C.P C.tt) (ho : o.op = .load T x)
  (hx : ev env x = some (.e (some ad) i kk off)) (hT : look C.tt T = some ti) (hc : ∀ j u, cs[j]? = some u → gcell G ((ad.add (i * kk)).add j) = some u) (hv : asm ti cs off = some v) : Looks C env L R G o (.v v) := by
 intro a w G' bs hle hA hI
 unfold execOp
 have hrun := ahg (P := C.P) ht hT (w := w) (a := ad.add (i * kk)) (cs := cs) (off := off) (v := v) (fun j u hj => hI.le.cell (ahv hle (hc j u hj))) hv
 simp only [ho, ad7 hA hx, conc, Instr.loadAt, Instr.sureAddr, Sem.run_bind, Sem.run_pure, Result.andThen_ok, hrun]
theorem WX.ldE {α : Type} [GoT α] {l : List α} (ℓ n : Nat) (a : α) {val : X α → Value} {Γ' : X α → Facts} (ht : aek C.P C.tt)
  (hg : gd ops env o = some true) (hd : o.dst = some d) (hlt : Nat.blt d C.fn.ntmps = true) (ho : o.op = .load T x)
  (hx : ev env x = some (.e (some ad) i (k α) off)) (hT : look C.tt T = some ti) (hℓ : look Γ ℓ = some (MF.rs kd (some ad) c l)) (hkd : kdL kd = false) (ha : l[i]? = some a)
  (hv : ∀ x, asm ti (sh a x) off = some (val x)) (hf : ∀ x, addF n (fa kd a x) Γ = some (Γ' x))
  (k : ∀ x, WX C (.ops ops r :: s) ((d, .v (val x)) :: env) L R (Γ' x)) : WX C (.ops ops (o :: r) :: s) env L R Γ := by
 rintro a' w ⟨G, bs, hA, hI, hΓ⟩
 obtain ⟨x', ad', had, hc, hΓ'⟩ := hΓ.elem hℓ (avz hkd) ha
 simp at had; subst had
 have hl := anc (L := L) (R := R) ht ho hx hT hc (hv x')
 show wpList C.P ops (cont C s) (o :: r) a' w
 unfold wpList
 rw [if_pos (aee hA hg)]
 refine .inl ?_
 unfold Oper.wp
 rw [hl a' w G bs (Le.refl _) hA hI]
 simp only [Oper.upon, hd]
 exact k x' _ _ ⟨G, bs, hA.put (by simpa [Nat.blt_eq] using hlt) _, hI, hΓ' n _ (hf x')⟩
def aq0 : List Value → Option (List Value)
 | [] => some []
 | x :: r => (match aq0 r with | some q => some (x :: q) | none => none)
theorem ajg : ∀ {l q : List Value}, aq0 l = some q → q = l
 | [], q, h => by simp [aq0] at h; exact h
 | x :: r, q, h => by
  simp only [aq0] at h
  split at h
  ·rename_i q' hq; simp at h; rw [← h, ajg hq]
  ·cases h
def aio : Value → Option Value
 | .agg cs => (match aq0 cs.toList with | some q => some (.agg ⟨q⟩) | none => none)
 | .tuple cs => (match normT cs.toList with | some q => some (.tuple ⟨q⟩) | none => none)
 | v => some v
where
 normT : List Value → Option (List Value)
  | [] => some []
  | .agg cs :: r => (match aq0 cs.toList with
   | some q => (match normT r with | some t => some (.agg ⟨q⟩ :: t) | none => none)
   | none => none)
  | v :: r => (match normT r with | some t => some (v :: t) | none => none)
theorem amo : ∀ {l q : List Value}, aio.normT l = some q → q = l
 | [], q, h => by simp [aio.normT] at h; exact h
 | v :: r, q, h => by
  cases v <;> simp only [aio.normT] at h <;> (repeat' split at h) <;> first | (cases h; done) | (simp at h; subst h; rename_i h1 _ _ h2; rw [ajg h1, amo h2]; done) | (simp at h; subst h; rename_i h1 h2; rw [ajg h1, amo h2]; done) | (simp at h; subst h; rename_i h1; rw [amo h1]; done)
theorem aic {q : Value} (h : aio v = some q) : q = v := by
 cases v <;> simp only [aio] at h <;> (repeat' split at h) <;> first | (cases h; done) | (simp at h; exact h.symm) | (simp at h; subst h; rename_i h1; rw [ajg h1]; done) | (simp at h; subst h; rename_i h1; rw [amo h1]; done)
theorem asu (n : Nat) (Γ : Facts) : ∀ (A B : List MF) (m : Nat), addL m (A ++ B) Γ = addL m A (addL (m + A.length) B Γ)
 | [], B, m => by simp [addL]
 | f :: A, B, m => by simp only [List.cons_append, addL, asu n Γ A B (m + 1), List.length_cons]; rw [show m + 1 + A.length = m + (A.length + 1) by omega]
theorem aqp : ∀ (fs : List MF) (n : Nat) (Γ : Facts), addF n fs Γ = some (addL n fs Γ)
 | [], n, Γ => rfl
 | f :: fs, n, Γ => by simp [addF, aqp fs (n + 1) Γ, addL]
theorem AllK.after {M : Nat → Prop} {Γ' : Facts} {gs ds : List MF} (hΓ : AllK M G Γ) (hd : Dj h G) (hM : ∀ b o, h b = some o → M b) (hs : Sep h gs) (hk : ∀ f ∈ ds, f.k = .der) (hds : All h ds) (e : addF n (ds ++ gs) Γ = some Γ') : AllK M (join G h) Γ' := by
 rw [amu e, asu n]
 exact AllK.ders (aqp _ _ _) hk (hds.mono (aer hd.symm)) (AllK.newSep (n + ds.length) hΓ hd hM hs)
theorem WX.callF {f : Operand} {args : List Operand} {ats : Array TypeId} {g : FuncId} {sf : SV} {svs : List SV} {caps : (Nat → Nat) → List Value} {val val' : ι → Value} {gs ds : ι → List MF} {Γ' : ι → Facts} (n : Nat) (hds : ∀ i h, Sep h (gs i) → All h (ds i)) (hdk : ∀ i, ∀ f ∈ ds i, f.k = .der) (hg : gd ops env o = some true) (hd : o.dst = some d) (hlt : Nat.blt d C.fn.ntmps = true) (ho : o.op = .call { callee := .value f, args := args.toArray, argTypes := ats })
  (hf : ev env f = some sf) (hsf : ∀ bs, conc bs sf = .func (.func g) #[] (caps bs).toArray) (hargs : evs env args = some svs)
  (hc : ∀ w G bs, HInv C w G bs L R → AllK C.M (hp w) Γ → Does C.P g (svs.map (conc bs) ++ caps bs).toArray w emp (Post w emp val gs Q))
  (hv : ∀ i, aio (val i) = some (val' i)) (hΓ' : ∀ i, addF n (ds i ++ gs i) Γ = some (Γ' i))
  (k : ∀ i, Q → WX C (.ops ops r :: s) ((d, .v (val' i)) :: env) L R (Γ' i)) : WX C (.ops ops (o :: r) :: s) env L R Γ :=
 WX.callG (Ψ := fun w v w' => Post w emp val gs Q v w') hg ho hf hsf hargs hc fun a' w w' G bs v hA hI hΓ hb hv' => by
  obtain ⟨i, h, rfl, hq, hle, hdom, hs⟩ := hv'
  rw [hd, ← aic (hv i)]
  obtain ⟨hI', hdj⟩ := hI.called (aes _) (fun _ _ h => by cases h) hb hle hdom
  exact k i hq _ _ ⟨join G h, bs, hA.put (by simpa [Nat.blt_eq] using hlt) (.v _), hI', hΓ.after hdj (fun b o hb' => .inl ((hdom b o hb').elim (Nat.le_trans hI.keep.size) (fun h => absurd rfl h))) hs (hdk i) (hds i h hs) (hΓ' i)⟩
theorem WX.callM {C : Cx} {ops : Array Oper} {o : Oper} {r : List Oper} {s : List It} {env : Env} {L : Locs} {R : Rows} {Γ Γ1 : Facts} {f : Operand} {args : List Operand} {ats : Array TypeId} {g : FuncId} {sf : SV} {svs : List SV} {caps : (Nat → Nat) → List Value} {fs : List MF}
  {ι : Type} {val val' : ι → Value} {gs ds : ι → List MF} {Q : Prop} {d : Nat} {Γ' : ι → Facts} (ks : List Nat) (n : Nat) (hks : agt ks Γ = some (fs, Γ1)) (hds : ∀ i h, Sep h (gs i) → All h (ds i)) (hdk : ∀ i, ∀ f ∈ ds i, f.k = .der) (hg : gd ops env o = some true) (hd : o.dst = some d) (hlt : Nat.blt d C.fn.ntmps = true) (ho : o.op = .call { callee := .value f, args := args.toArray, argTypes := ats })
  (hf : ev env f = some sf) (hsf : ∀ bs, conc bs sf = .func (.func g) #[] (caps bs).toArray) (hargs : evs env args = some svs)
  (hc : ∀ w G bs H, HInv C w G bs L R → Le H (hp w) → Sep H fs → AllK C.M (cut (hp w) H) Γ1 → Does C.P g (svs.map (conc bs) ++ caps bs).toArray w H (Post w H val gs Q))
  (hv : ∀ i, aio (val i) = some (val' i)) (hΓ' : ∀ i, addF n (ds i ++ gs i) Γ1 = some (Γ' i))
  (k : ∀ i, Q → WX C (.ops ops r :: s) ((d, .v (val' i)) :: env) L R (Γ' i)) : WX C (.ops ops (o :: r) :: s) env L R Γ :=
 WX.callH (Ψ := fun w H v w' => Post w H val gs Q v w') ks hks hg ho hf hsf hargs hc fun a' w w' G bs H v hA hI hHG hHM hΓ hb hv' => by
  obtain ⟨i, h, rfl, hq, hle, hdom, hs⟩ := hv'
  rw [hd, ← aic (hv i)]
  obtain ⟨hI', hdj⟩ := hI.called hHG hHM hb hle hdom
  refine k i hq _ _ ⟨join (cut G H) h, bs, hA.put (by simpa [Nat.blt_eq] using hlt) (.v _), hI', hΓ.after hdj (fun b o hb' => ?_) hs (hdk i) (hds i h hs) (hΓ' i)⟩
  rcases hdom b o hb' with h1 | h1
  ·exact .inl (Nat.le_trans hI.keep.size h1)
  ·cases hx : H b with
   | none => exact absurd hx h1
   | some q => exact hHM b q hx
theorem Post.of {bs : Nat → Nat} {Γ1 : Facts} {val : ι → Value} {gs : ι → List MF} (ks : List Nat) (i : ι) (hI : HInv C w G bs L R) (hΓ : AllK C.M G Γ) (hk : agt ks Γ = some (fs, Γ1)) (hv : v = val i) (hf : gs i = fs) (hq : Q) : Post C.w0 C.H val gs Q v w := by
 obtain ⟨H, q1, q2, q3, q4⟩ := agi hk hΓ
 exact ⟨i, H, hv, hq, q1.trans hI.le, q2, by rw [hf]; exact q3⟩
end Go.Stp
namespace Go.Stp
open GoT (X k ok sh fa oa)
variable {ρ T tx kk by_ : Nat} {env : Env} {bs : Nat → Nat} {C : Cx} {w : World} {G : GH} {L : Locs} {R R' : Rows} {b : Bool} {z : Value} {s : List It} {Γ Γ1 : Facts} {row : Row} {ι : Type} {fs : List MF} {p : Prop}
def amr (ρ : Nat) : List (Nat × Nat) → Bool
 | [] => true
 | (i, _) :: r => (match Nat.beq i ρ with | true => false | false => amr ρ r)
def as4 (ρ : Nat) : SV → Bool
 | .p i _ => (match Nat.beq i ρ with | true => false | false => true)
 | .f _ caps => amr ρ caps
 | _ => true
def agm (ρ : Nat) : Env → Bool
 | [] => true
 | (_, s) :: r => (match as4 ρ s with | true => agm ρ r | false => false)
theorem akx {ρ : Nat} : ∀ {l : List (Nat × Nat)}, amr ρ l = true → ∀ c ∈ l, c.1 ≠ ρ
 | (i, o) :: r, h, c, hc => by
  simp only [amr] at h
  split at h
  ·cases h
  ·rename_i hb
   rcases List.mem_cons.1 hc with rfl | hc
   ·intro e; simp at e; subst e; simp at hb
   ·exact akx h c hc
theorem avi {bs bs' : Nat → Nat} {ρ : Nat} (h : ∀ i, i ≠ ρ → bs' i = bs i) {s : SV} (hs : as4 ρ s = true) : conc bs' s = conc bs s := by
 cases s with
 | p i off =>
  simp only [as4] at hs
  split at hs
  ·cases hs
  ·rename_i hb; simp only [conc]; rw [h i (fun e => by subst e; simp at hb)]
 | f g caps =>
  simp only [as4] at hs
  simp only [conc]
  congr 2
  exact List.map_congr_left fun c hc => by rw [h c.1 (akx hs c hc)]
 | _ => rfl
theorem am9 {ρ : Nat} : ∀ {env : Env}, agm ρ env = true → ∀ {d : Nat} {s : SV}, look env d = some s → as4 ρ s = true
 | [], _, d, s, h => by simp [look] at h
 | (j, y) :: r, h, d, s, hl => by
  simp only [agm] at h
  split at h
  ·rename_i hy
   rw [adg] at hl
   split at hl
   ·simp at hl; subst hl; exact hy
   ·exact am9 h hl
  ·cases h
theorem At.free {n : Nat} {bs' : Nat → Nat} {a : Act} (hA : At n env bs a) (hf : agm ρ env = true) (h : ∀ i, i ≠ ρ → bs' i = bs i) : At n env bs' a :=
 ⟨hA.size, hA.dfr, fun d s hs => by rw [hA.slot d s hs, avi h (am9 hf hs)]⟩
def setR (R : Rows) (i : Nat) (x : Row) : Rows :=
 match R with
 | [] => []
 | (j, l) :: r => match Nat.beq j i with | true => (j, x) :: r | false => (j, l) :: setR r i x
theorem aja : ∀ (R : Rows) (i : Nat) (x : Row) (j : Nat), look (setR R i x) j = if i = j then (look R j).map (fun _ => x) else look R j
 | [], i, x, j => by simp [setR, look]
 | (m, l) :: r, i, x, j => by
  simp only [setR]
  cases hb : Nat.beq m i with
  | true =>
   have := Nat.eq_of_beq_eq_true hb
   subst this
   simp only [adg]
   by_cases h : m = j <;> simp [h]
  | false =>
   have hne : m ≠ i := fun e => by subst e; simp at hb
   simp only [adg, aja r i x j]
   by_cases h : m = j
   ·subst h; rw [if_pos rfl, if_neg (Ne.symm hne), if_pos rfl]
   ·simp [h]
def ajm (R : Rows) (i : Nat) (x : Row) : Option Rows :=
 match R with
 | [] => some []
 | (j, l) :: r => match Nat.beq j i with
  | true => some ((j, x) :: r)
  | false => (match ajm r i x with | some q => some ((j, l) :: q) | none => none)
theorem aji : ∀ {R : Rows} {i : Nat} {x : Row} {R' : Rows}, ajm R i x = some R' → R' = setR R i x
 | [], i, x, R', h => by simp [ajm] at h; subst h; rfl
 | (j, l) :: r, i, x, R', h => by
  simp only [ajm] at h
  simp only [setR]
  split at h
  ·simp at h; subst h; rfl
  ·split at h
   ·rename_i q hq; simp at h; subst h; rw [aji hq]
   ·cases h
def apr (R : Rows) (i : Nat) : Option Rows :=
 match R with
 | [] => some []
 | (j, l) :: r => match Nat.beq j i with
  | true => apr r i
  | false => (match apr r i with | some q => some ((j, l) :: q) | none => none)
theorem aku : ∀ {R : Rows} {i : Nat} {R' : Rows}, apr R i = some R' → Sub R' R ∧ ∀ x, look R' i ≠ some x
 | [], i, R', h => by simp [apr] at h; subst h; exact ⟨Sub.refl _, by simp [look]⟩
 | (j, l) :: r, i, R', h => by
  simp only [apr] at h
  split at h
  ·rename_i hb
   have hji := Nat.eq_of_beq_eq_true hb
   obtain ⟨h1, h2⟩ := aku h
   refine ⟨fun a x hx => ?_, h2⟩
   rw [adg]
   split
   ·rename_i e; subst e; subst hji; exact absurd hx (h2 x)
   ·exact h1 a x hx
  ·rename_i hb
   have hne : j ≠ i := fun e => by subst e; simp at hb
   split at h
   ·rename_i q hq
    simp at h; subst h
    obtain ⟨h1, h2⟩ := aku hq
    refine ⟨fun a x hx => ?_, fun x hx => ?_⟩
    ·rw [adg] at hx ⊢
     split at hx
     ·rename_i e; rw [if_pos e]; exact hx
     ·rename_i e; rw [if_neg e]; exact h1 a x hx
    ·rw [adg, if_neg hne] at hx; exact h2 x hx
   ·cases h
structure Only (w w' : World) (b : Nat) (act : Prop) : Prop where
 os : w'.os = w.os
 tape : w'.tape = w.tape
 output : w'.output = w.output
 size : w.heap.size ≤ w'.heap.size
 block : ∀ j, j < w.heap.size → (act → j ≠ b) → w'.heap[j]? = w.heap[j]?
theorem HInv.lt (hI : HInv C w G bs L R) {i : Nat} (h : Acts L R i) : bs i < w.heap.size := by
 rcases h with ⟨x, hx⟩ | ⟨r, hr, hc⟩
 ·exact (Array.getElem?_eq_some_iff.1 (hI.loc i x hx).1).1
 ·rcases (hI.row i r hr).2 with ⟨h0, _⟩ | ⟨_, _, _, _, _, _, cur, T, hh, _⟩
  ·exact absurd h0 hc
  ·exact (Array.getElem?_eq_some_iff.1 hh).1
theorem HInv.upd {w' : World} (hI : HInv C w G bs L R) {b' : Nat} (h999 : ρ ≠ 999) {r' : Row} (act : Prop) (hact : act → Acts L R ρ ∧ C.M (bs ρ) ∧ G (bs ρ) = none)
  (ho : Only w w' (bs ρ) act) (hnew : b' = bs ρ ∧ act ∨ w.heap.size ≤ b' ∨ r'.c = 0) (hlook : ∀ j, look R' j = if ρ = j then some r' else look R j) (hL : ∀ l, look L ρ ≠ some l) (hr : aid C.M w' G b' r') :
  HInv C w' G (fun j => if j = ρ then b' else bs j) L R' := by
 have hB := hI.keep.size
 refine ⟨⟨ho.os.trans hI.keep.os, ho.tape.trans hI.keep.tape, ho.output.trans hI.keep.output, Nat.le_trans hB ho.size, fun j hj hn => ?_⟩, fun b o hb => ?_, fun i l hl => ?_, fun i r hri => ?_, fun i j hij hi hj => ?_, fun i l r hl hri => ?_, fun b hb => by simp only [if_neg (Ne.symm h999)]; exact hI.pin b hb, fun r hr' => by rw [hlook, if_neg h999] at hr'; exact hI.nr r hr'⟩
 ·rw [ho.block j (by omega) (fun a e => by subst e; rcases (hact a).2.1 with h | h <;> first | omega | exact h hn)]; exact hI.keep.block j hj hn
 ·show w'.heap[b]? = _
  rw [ho.block b (hI.le.lt hb) (fun a e => by subst e; rw [(hact a).2.2] at hb; cases hb)]; exact hI.le b o hb
 ·have hne : i ≠ ρ := fun e => by subst e; exact hL l hl
  obtain ⟨h1, h2, h3⟩ := hI.loc i l hl
  simp only [if_neg hne]
  exact ⟨by rw [ho.block _ (Array.getElem?_eq_some_iff.1 h1).1 (fun a => hI.inj i ρ hne (.inl ⟨l, hl⟩) (hact a).1)]; exact h1, h2, h3⟩
 ·rw [hlook] at hri
  by_cases he : ρ = i
  ·subst he; rw [if_pos rfl] at hri; simp at hri; subst hri; simpa using hr
  ·rw [if_neg he] at hri
   simp only [if_neg (Ne.symm he)]
   obtain ⟨h1, h2⟩ := hI.row i r hri
   refine ⟨h1, ?_⟩
   rcases h2 with h2 | ⟨o1, k1, k2, k3, k4, k5, cur, T, hh, rest⟩
   ·exact .inl h2
   ·by_cases hc : r.c = 0
    ·exact .inl ⟨hc, by omega⟩
    ·exact .inr ⟨o1, k1, k2, k3, k4, k5, cur, T, by rw [ho.block _ (Array.getElem?_eq_some_iff.1 hh).1 (fun a => hI.inj i ρ (Ne.symm he) (.inr ⟨r, hri, hc⟩) (hact a).1)]; exact hh, rest⟩
 ·have hold : ∀ i, i ≠ ρ → Acts L R' i → Acts L R i := by
   intro i hne h
   rcases h with h | ⟨r, hr', hc⟩
   ·exact .inl h
   ·rw [hlook, if_neg (Ne.symm hne)] at hr'; exact .inr ⟨r, hr', hc⟩
  have hpos : Acts L R' ρ → r'.c ≠ 0 := by
   intro h
   rcases h with ⟨l, hl⟩ | ⟨r, hr', hc⟩
   ·exact absurd hl (hL l)
   ·rw [hlook, if_pos rfl] at hr'; simp at hr'; subst hr'; exact hc
  have key : ∀ i, i ≠ ρ → Acts L R' i → Acts L R' ρ → bs i ≠ b' := by
   intro i hne h hρ
   have hi' := hold i hne h
   rcases hnew with ⟨rfl, a⟩ | hn | hn
   ·exact hI.inj i ρ hne hi' (hact a).1
   ·have := hI.lt hi'; omega
   ·exact absurd hn (hpos hρ)
  by_cases h1 : i = ρ <;> by_cases h2 : j = ρ
  ·omega
  ·subst h1; simp only [if_true, if_neg h2]; exact Ne.symm (key j h2 hj hi)
  ·subst h2; simp only [if_true, if_neg h1]; exact key i h1 hi hj
  ·simp only [if_neg h1, if_neg h2]; exact hI.inj i j hij (hold i h1 hi) (hold j h2 hj)
 ·by_cases he : ρ = i
  ·subst he; exact hL l hl
  ·rw [hlook, if_neg he] at hri; exact hI.dis i l r hl hri
theorem au4 (w : World) (o : Obj) (b : Nat) (act : Prop) : Only w (w.alloc o) b act := ⟨rfl, rfl, rfl, by simp, fun j hj _ => heap_alloc_old w o j hj⟩
theorem alf (w : World) (b : Nat) (act : Prop) : Only w w b act := ⟨rfl, rfl, rfl, Nat.le_refl _, fun _ _ _ => rfl⟩
theorem Le.new {G : GH} {w : World} (h : Le G (hp w)) : G w.heap.size = none := by
 cases hg : G w.heap.size with
 | none => rfl
 | some o => exact absurd (h.lt hg) (by omega)
theorem ahs {P : Program} {tt : TT} (ht : aek P tt) {E : Nat} {ti te : TI} (hT : look tt T = some ti) (hd : ti.desc = .slice E) (hE : look tt E = some te) (hpos : 0 < te.size)
  {M : Nat → Prop} {b : Nat} {r : Row} (hr : aid M w G b r) (hk : r.k = te.size) (hBw : M w.heap.size) (hG : Le G (hp w)) {ty : Nat} {x : Value} {m : Nat} {news : List Value} (hs : Src P te.size tx x m news w)
  (h63 : r.n + m ≤ maxLen) (hby : (r.n + m) * te.bytes ≤ 140737488355328) (hz : te.zero.cells.size = te.size) :
  ∃ p' c' w' b', (Builtin.append_ #[T, tx] ty #[.slice r.p r.n r.c, x]).run P w = .ok (.slice p' (r.n + m) c') w' ∧ aid M w' G b' ⟨r.k, p', r.n + m, c', r.xs ++ news⟩ ∧ Only w w' b (r.c ≠ 0) ∧ (b' = b ∧ r.c ≠ 0 ∨ w.heap.size ≤ b' ∨ c' = 0) := by
 obtain ⟨hu, _⟩ := ht.get hT
 obtain ⟨_, i, hi, hz0, hsz, hbz⟩ := ht.get hE
 rw [hd] at hu
 have hsi : i.size = te.size := hsz
 have hlen : (r.xs ++ news).length = (r.n + m) * r.k := by rw [List.length_append, hr.1, hs.newsLen, hk, Nat.add_mul]
 have hs' : Src P i.size tx x m news w := hsi ▸ hs
 have hsm : r.n + m ≤ 9223372036854775807 := by simp only [maxLen] at h63; omega
 have grown : ∀ (base : Option Addr) (sLen sCap : Nat) (olds : List Value), sLen = r.n → sCap < sLen + m → olds = r.xs → (Builtin.firstCells i.size sLen (.slice base sLen sCap)).run P w.drew = .ok olds.toArray w.drew →
   ∃ p' c' w' b', (Builtin.append_ #[T, tx] ty #[.slice base sLen sCap, x]).run P w = .ok (.slice p' (r.n + m) c') w' ∧ aid M w' G b' ⟨r.k, p', r.n + m, c', r.xs ++ news⟩ ∧ Only w w' b (r.c ≠ 0) ∧ (b' = b ∧ r.c ≠ 0 ∨ w.heap.size ≤ b' ∨ c' = 0) := by
  intro base sLen sCap olds h1 h2 h3 h4
  subst h1; subst h3
  have hrun := run_append_grow_src (P := P) w T tx ty E i te.zero hu hi hz0 base r.n sCap r.xs h4 x m news hs' h2 (by omega) (growslice_fits (by omega) (by rw [hbz]; exact hby))
  refine ⟨_, _, _, w.heap.size, hrun, ⟨hlen, .inr ⟨0, rfl, hBw, hG.new, grownCap_ge _ _ _ _, grownCap_le_maxLen w _ _ _ h63, _, E, heap_alloc_new w.drew _, ?_, ?_⟩⟩, ⟨rfl, rfl, rfl, by simp, fun j hj _ => heap_alloc_old w.drew _ j hj⟩, .inr (.inl (Nat.le_refl _))⟩
  ·have hge := grownCap_ge w (r.n + m) sCap E
   simp only [Array.size_append, List.size_toArray, size_zeroCells, hz, hlen, hk, ← Nat.add_mul, Nat.zero_add]
   exact Nat.mul_le_mul_right _ (by omega)
  ·simp only [Array.toList_append, ← hlen, List.drop_zero]
   exact List.take_left
 rcases hr.2 with ⟨hc, hn⟩ | ⟨o1, hp, hB, hGb, hnc, hcm, cur, T', hh, hcs, htk⟩
 ·have hx : r.xs = [] := List.eq_nil_of_length_eq_zero (by rw [hr.1, hn]; simp)
  by_cases hm : m = 0
  ·subst hm
   have hnews : news = [] := List.eq_nil_of_length_eq_zero (by rw [hs.newsLen]; simp)
   subst hnews
   refine ⟨r.p, 0, w, b, ?_, ⟨by simp [hx, hn], .inl ⟨rfl, by simp [hn]⟩⟩, alf w b _, .inr (.inr rfl)⟩
   rcases hs.kind with ⟨e', hk'⟩ | hk' <;> cases hpp : r.p <;>
    simp [Builtin.append_, run_underlying hu, run_underlying hk', sizeOf, typeInfo, hi, hs'.len, hs'.cells, hn, hc, storeCells]
  ·have := grown r.p 0 0 [] hn.symm (by omega) hx.symm (by cases hpp : r.p <;> simp [Builtin.firstCells, loadCells, loadCellsFrom])
   rw [hn, hc]
   rw [hn, hc] at this
   exact this
 ·by_cases hroom : r.n + m ≤ r.c
  ·have hfit : o1 + r.n * te.size + news.length ≤ cur.size := by have : (r.n + m) * te.size ≤ r.c * te.size := Nat.mul_le_mul_right _ hroom; rw [hk] at hcs; rw [hs.newsLen]; rw [Nat.add_mul] at this; omega
   have hst := run_storeCells_at P b (o1 + r.n * te.size) T' news 0 cur w hh (by simpa using hfit) hs.one
   simp only [Nat.add_zero] at hst
   by_cases hc0 : r.c = 0
   ·have hn0 : r.n = 0 := by omega
    have hm0 : m = 0 := by omega
    subst hm0
    have hnews : news = [] := List.eq_nil_of_length_eq_zero (by rw [hs.newsLen]; simp)
    subst hnews
    have hx : r.xs = [] := List.eq_nil_of_length_eq_zero (by rw [hr.1, hn0]; simp)
    refine ⟨r.p, 0, w, b, ?_, ⟨by simp [hx, hn0], .inl ⟨rfl, by simp [hn0]⟩⟩, alf w b _, .inr (.inr rfl)⟩
    rcases hs.kind with ⟨e', hk'⟩ | hk' <;>
     simp [Builtin.append_, run_underlying hu, run_underlying hk', sizeOf, typeInfo, hi, hs'.len, hs'.cells, hn0, hc0, hp, storeCells]
   ·refine ⟨r.p, r.c, w.setRow b (cur.toList.take (o1 + r.n * te.size) ++ news ++ cur.toList.drop (o1 + r.n * te.size + news.length)).toArray, b, ?_, ⟨hlen, .inr ⟨o1, hp, hB, hGb, hroom, hcm, _, T', setRow_heap w b cur _ T' _ hh, ?_, ?_⟩⟩, ⟨rfl, rfl, rfl, by simp [World.setRow], fun j hj hne => setRow_other w b j _ (hne hc0)⟩, .inl ⟨rfl, hc0⟩⟩
    ·rcases hs.kind with ⟨e', hk'⟩ | hk' <;>
      simp [Builtin.append_, run_underlying hu, run_underlying hk', sizeOf, typeInfo, hi, hs.len, hs.cells, hroom, hp, hsi, Addr.add_lit, hst]
    ·simp only [List.size_toArray, List.length_append, List.length_take, List.length_drop, Array.length_toList]
     omega
    ·rw [hk] at htk
     have h1 : (cur.toList.take (o1 + r.n * te.size) ++ news ++ cur.toList.drop (o1 + r.n * te.size + news.length)).drop o1 = r.xs ++ (news ++ cur.toList.drop (o1 + r.n * te.size + news.length)) := by
      rw [List.append_assoc, List.drop_append_of_le_length (by simp; omega), ← htk, List.drop_take]
      congr 2; omega
     simp only [h1, ← List.append_assoc]
     rw [← hlen]
     exact List.take_left
  ·rw [hp]
   refine grown (some ⟨b, o1, none⟩) r.n r.c r.xs rfl (by omega) rfl ?_
   have := run_firstCells_some (P := P) w.drew i.size r.n ⟨b, o1, none⟩ r.n r.c r.xs (by rw [hr.1, hk, hsi]) (fun j u hj => by
    rw [Addr.add_lit]
    show w.cell? _ = _
    rw [cell_of_row w b _ cur T' _ hh]
    rw [← htk, List.getElem?_take, List.getElem?_drop] at hj
    split at hj
    ·simpa using hj
    ·cases hj)
   exact this
def appO (tt : TT) (T : Nat) : Option (Nat × Nat × Value) :=
 match look tt T with
 | some ti => (match ti.desc with
  | .slice e => (match look tt e with
   | some ⟨_, sE, bE, zE⟩ => (match sE with
    | 0 => none
    | n + 1 => some (n + 1, bE, zE))
   | none => none)
  | _ => none)
 | none => none
theorem ai2 {tt : TT} (h : appO tt T = some (kk, by_, z)) : ∃ ti e te, look tt T = some ti ∧ ti.desc = .slice e ∧ look tt e = some te ∧ te.size = kk ∧ te.bytes = by_ ∧ te.zero = z ∧ 0 < te.size := by
 unfold appO at h
 split at h
 ·rename_i ti hT
  split at h
  ·rename_i e hd
   split at h
   ·rename_i dE sE bE zE hE
    split at h
    ·cases h
    ·rename_i n
     simp only [Option.some.injEq, Prod.mk.injEq] at h
     exact ⟨ti, e, _, hT, hd, hE, h.1, h.2.1, h.2.2, by simp⟩
   ·cases h
  ·cases h
 ·cases h
theorem WX.appX {ops : Array Oper} {o : Oper} {r : List Oper} {d : Nat} {x y : Operand} {sv : SV} (ρ m : Nat) (news : ι → List Value) (Γ' : ι → Facts) (ht : aek C.P C.tt)
    (hg : gd ops env o = some true) (hd : o.dst = some d) (hlt : Nat.blt d C.fn.ntmps = true) (ho : o.op = .call { callee := .builtin .append, args := #[x, y], argTypes := #[T, tx] })
    (hx : ev env x = some (.v (.slice row.p row.n row.c))) (hy : ev env y = some sv) (hap : appO C.tt T = some (kk, by_, z)) (hz : z.cells.size = kk) (hρ : look R ρ = some row) (hkk : row.k = kk) (hfree : agm ρ env = true)
    (hsrc : ∀ w G bs, HInv C w G bs L R → AllK C.M G Γ → ∃ i, Src C.P kk tx (conc bs sv) m (news i) w ∧ AllK C.M G (Γ' i))
    (hroom : (row.n + m) * by_ ≤ 140737488355328) (hmax : row.n + m ≤ maxLen)
    (k : ∀ i p' c', WX C (.ops ops r :: s) ((d, .v (.slice p' (row.n + m) c')) :: env) L (setR R ρ ⟨row.k, p', row.n + m, c', row.xs ++ news i⟩) (Γ' i)) : WX C (.ops ops (o :: r) :: s) env L R Γ := by
  rintro a w ⟨G, bs, hA, hI, hΓ⟩
  show wpList C.P ops (cont C s) (o :: r) a w
  unfold wpList
  rw [if_pos (aee hA hg)]
  refine .inl ?_
  unfold Oper.wp
  obtain ⟨i, hs, hΓ'⟩ := hsrc w G bs hI hΓ
  obtain ⟨ti, e, te, hT, hde, hE, rfl, rfl, rfl, hpos⟩ := ai2 hap
  obtain ⟨p', c', w', b', hrun, hrow, honly, hnew⟩ := ahs (ty := o.type) ht hT hde hE hpos (hI.row ρ row hρ) hkk (.inl hI.keep.size) hI.le hs hmax hroom hz
  have hexec : (execOp a.eval o).run C.P w = .ok (.value (.slice p' (row.n + m) c')) w' := by
    unfold execOp
    simp only [ho, resolve, invoke, builtin, Sem.run_bind, Sem.run_pure, Result.andThen_ok, List.map_toArray, List.map_cons, List.map_nil, ad7 hA hx, ad7 hA hy, apo, hrun]
  rw [hexec]
  simp only [Oper.upon, hd]
  have hLρ : ∀ l, look L ρ ≠ some l := fun l hl => hI.dis ρ l row hl hρ
  have h999 : ρ ≠ 999 := fun e => by subst e; exact hI.nr row hρ
  have hI' := hI.upd (ρ := ρ) h999 (R' := setR R ρ ⟨row.k, p', row.n + m, c', row.xs ++ news i⟩) (row.c ≠ 0)
    (fun hc => ⟨.inr ⟨row, hρ, hc⟩, by
      rcases (hI.row ρ row hρ).2 with ⟨h0, _⟩ | ⟨_, _, h1, h2, _⟩
      · exact absurd h0 hc
      · exact ⟨h1, h2⟩⟩) honly hnew (fun j => by rw [aja]; split
                                                 · rename_i e; subst e; rw [hρ]; rfl
                                                 · rfl) hLρ hrow
  refine k i p' c' _ _ ⟨G, _, ?_, hI', hΓ'⟩
  have := (hA.free (bs' := fun j => if j = ρ then b' else bs j) hfree (fun j hj => if_neg hj)).put (d := d) (by simpa [Nat.blt_eq] using hlt) (.v (.slice p' (row.n + m) c'))
  exact this
theorem WX.appR {C : Cx} {ops : Array Oper} {o : Oper} {r : List Oper} {s : List It} {env : Env} {L : Locs} {R : Rows} {Γ : Facts} {d : Nat} {x y : Operand} {T kk by_ : Nat} {z : Value} {row src : Row} (ρ σ : Nat) {R' : Option Addr → Nat → Rows} (ht : aek C.P C.tt)
  (hg : gd ops env o = some true) (hd : o.dst = some d) (hlt : Nat.blt d C.fn.ntmps = true) (ho : o.op = .call { callee := .builtin .append, args := #[x, y], argTypes := #[T, T] })
  (hx : ev env x = some (.v (.slice row.p row.n row.c))) (hy : ev env y = some (.v (.slice src.p src.n src.c))) (hap : appO C.tt T = some (kk, by_, z)) (hz : z.cells.size = kk) (hρ : look R ρ = some row) (hσ : look R σ = some src) (hkk : row.k = kk) (hks : src.k = kk) (hfree : agm ρ env = true)
  (hone : ∀ u ∈ src.xs, u.oneCell' = true) (hroom : (row.n + src.n) * by_ ≤ 140737488355328) (hmax : row.n + src.n ≤ maxLen)
  (hR : ∀ p' c', ajm R ρ ⟨row.k, p', row.n + src.n, c', row.xs ++ src.xs⟩ = some (R' p' c'))
  (k : ∀ p' c', WX C (.ops ops r :: s) ((d, .v (.slice p' (row.n + src.n) c')) :: env) L (R' p' c') Γ) : WX C (.ops ops (o :: r) :: s) env L R Γ := by
 refine WX.appX (ι := Unit) ρ src.n (fun _ => src.xs) (fun _ => Γ) ht hg hd hlt ho hx hy hap hz hρ hkk hfree (fun w G bs hI hΓ => ⟨(), ?_, hΓ⟩) hroom hmax (fun _ p' c' => by rw [← aji (hR p' c')]; exact k p' c')
 obtain ⟨ti, e, te, hT, hde, hE, rfl, _⟩ := ai2 hap
 obtain ⟨hu, _⟩ := ht.get hT
 rw [hde] at hu
 obtain ⟨h1, h2⟩ := hI.row σ src hσ
 rcases h2 with ⟨hc, hn⟩ | ⟨o1, hp, _, _, _, _, cur, T', hh, _, htk⟩
 ·have hx0 : src.xs = [] := List.eq_nil_of_length_eq_zero (by rw [h1, hn]; simp)
  rw [hx0, hn, hc]
  simp only [conc]
  cases hpp : src.p with
  | none => exact Src.ofNil w hu 0
  | some ad => exact Src.ofSlice w hu ad 0 0 [] (by simp) (fun j u h => by simp at h) (fun u h => by cases h)
 ·simp only [conc, hp]
  refine Src.ofSlice w hu _ src.n src.c src.xs (by rw [h1, hks]) (fun j u hj => ?_) hone
  rw [Addr.add_lit, cell_of_row w _ _ cur T' _ hh]
  rw [← htk, List.getElem?_take, List.getElem?_drop] at hj
  split at hj
  ·simpa using hj
  ·cases hj
theorem RdL.one {α : Type} [GoT α] {G : GH} : ∀ {xs : List Value} {l : List α}, RdL G xs l → ∀ u ∈ xs, u.oneCell' = true
 | xs, [], h, u, hu => by simp [RdL] at h; subst h; cases hu
 | xs, a :: l, ⟨x, ys, h1, _, h3⟩, u, hu => by
  subst h1
  rcases List.mem_append.1 hu with hu | hu
  ·exact GoT.one _ _ u hu
  ·exact h3.one u hu
theorem WX.appG {C : Cx} {ops : Array Oper} {o : Oper} {r : List Oper} {s : List It} {env : Env} {L : Locs} {R : Rows} {Γ : Facts} {d : Nat} {x y : Operand} {T by_ q c : Nat} {z : Value} {row : Row} {α : Type} [GoT α] {kd : Kd} {p : Option Addr} {l : List α} (ρ ℓ n : Nat) {R' : List Value → Option Addr → Nat → Rows} (ht : aek C.P C.tt)
  (hg : gd ops env o = some true) (hd : o.dst = some d) (hlt : Nat.blt d C.fn.ntmps = true) (ho : o.op = .call { callee := .builtin .append, args := #[x, y], argTypes := #[T, T] })
  (hx : ev env x = some (.v (.slice row.p row.n row.c))) (hy : ev env y = some (.v (.slice p q c))) (hq : q = l.length) (hap : appO C.tt T = some (GoT.k α, by_, z)) (hz : z.cells.size = GoT.k α) (hρ : look R ρ = some row) (hkk : row.k = GoT.k α) (hfree : agm ρ env = true)
  (hℓ : look Γ ℓ = some (MF.rs kd p c l)) (hroom : (row.n + l.length) * by_ ≤ 140737488355328) (hmax : row.n + l.length ≤ maxLen)
  (hR : ∀ xs p' c', ajm R ρ ⟨row.k, p', row.n + l.length, c', row.xs ++ xs⟩ = some (R' xs p' c'))
  (k : ∀ xs p' c', WX C (.ops ops r :: s) ((d, .v (.slice p' (row.n + l.length) c')) :: env) L (R' xs p' c') ((n, MF.rl .der xs l) :: Γ)) : WX C (.ops ops (o :: r) :: s) env L R Γ := by
 subst hq
 refine WX.appX (ι := List Value) ρ l.length (fun xs => xs) (fun xs => (n, MF.rl .der xs l) :: Γ) ht hg hd hlt ho hx hy hap hz hρ hkk hfree (fun w G bs hI hΓ => ?_) hroom hmax (fun xs p' c' => by rw [← aji (hR xs p' c')]; exact k xs p' c')
 obtain ⟨ti, e, te, hT, hde, hE, hks, _⟩ := ai2 hap
 obtain ⟨hu, _⟩ := ht.get hT
 rw [hde] at hu
 obtain ⟨h1, h2, xs, h4, h5⟩ := (hΓ.get ℓ hℓ : RdSl G p c l)
 refine ⟨xs, ?_, hΓ.der n _ rfl h5⟩
 simp only [conc]
 cases hl : l with
 | nil =>
  subst hl
  have hxs : xs = [] := h5
  subst hxs
  cases hp : p with
  | none => exact Src.ofNil w hu c
  | some ad => exact Src.ofSlice w hu ad 0 c [] (by simp) (fun j u h => by simp at h) (fun u h => by cases h)
 | cons a l' =>
  have hlen := h5.len
  have hpos := GoT.pos (α := α)
  obtain ⟨u, hu0⟩ : ∃ u, xs[0]? = some u := ⟨_, List.getElem?_eq_getElem (by rw [hlen, hl]; simp only [List.length_cons, Nat.add_mul]; omega)⟩
  obtain ⟨ad, had, _⟩ := h4 0 u hu0
  subst had
  rw [← hl]
  exact Src.ofSlice w hu ad l.length c xs hlen (fun j u hj => by
   obtain ⟨ad', h', hg'⟩ := h4 j u hj
   simp at h'; subst h'
   exact hI.le.cell hg') h5.one
theorem WX.der (n : Nat) (f : MF) (hk : f.k = .der) (h : ∀ G, AllK C.M G Γ → f.p G) (k : WX C s env L R ((n, f) :: Γ)) : WX C s env L R Γ := by
 rintro a w ⟨G, bs, hA, hI, hΓ⟩
 exact k a w ⟨G, bs, hA, hI, hΓ.der n f hk (h G hΓ)⟩
theorem WX.stb {g : MF} (n : Nat) (f : MF) (hk : f.k = .stb) (i : Nat) (hi : look Γ i = some g) (hg : g.k = .stb) (h : ∀ G, g.p G → f.p G) (k : WX C s env L R ((n, f) :: Γ)) : WX C s env L R Γ := by
 rintro a w ⟨G, bs, hA, hI, hΓ⟩
 exact k a w ⟨G, bs, hA, hI, hΓ.stbOf n f hk i hi hg h⟩
theorem WX.know {Q : Prop} (h : ∀ G, AllK C.M G Γ → Q) (k : Q → WX C s env L R Γ) : WX C s env L R Γ := by
 rintro a w ⟨G, bs, hA, hI, hΓ⟩
 exact k (h G hΓ) a w ⟨G, bs, hA, hI, hΓ⟩
theorem at1 {G H : GH} (h : Le H G) : join (cut G H) H = G := by
 funext b
 unfold join cut
 cases hx : H b with
 | none => cases G b <;> rfl
 | some o => rw [h b o hx]
theorem WX.shift {gs : ι → List MF} {Q : ι → Prop} {Γ' : ι → Facts} (ks : List Nat) (n : Nat) (hks : agt ks Γ = some (fs, Γ1)) (h : ∀ h, Sep h fs → ∃ i, Q i ∧ Sep h (gs i)) (hΓ' : ∀ i, addF n (gs i) Γ1 = some (Γ' i))
  (k : ∀ i, Q i → WX C s env L R (Γ' i)) : WX C s env L R Γ := by
 rintro a w ⟨G, bs, hA, hI, hΓ⟩
 obtain ⟨H, q1, q2, q3, q4⟩ := agi hks hΓ
 obtain ⟨i, hq, hs⟩ := h H q3
 refine k i hq a w ⟨G, bs, hA, hI, ?_⟩
 have := AllK.newSep n q4 (ajs G H).symm q2 hs
 rw [at1 q1, ← amu (hΓ' i)] at this
 exact this
theorem WX.turn {gs : List MF} {Γ' : Facts} (ks : List Nat) (n : Nat) (hks : agt ks Γ = some (fs, Γ1)) (h : ∀ h, Sep h fs → Sep h gs) (hΓ' : addF n gs Γ1 = some Γ')
  (k : WX C s env L R Γ') : WX C s env L R Γ :=
 WX.shift (ι := Unit) (gs := fun _ => gs) (Q := fun _ => True) (Γ' := fun _ => Γ') ks n hks (fun H hs => ⟨(), trivial, h H hs⟩) (fun _ => hΓ') (fun _ _ => k)
section
variable {α : Type} [GoT α]
theorem OwL.snoc {a : α} {x : X α} {ha : GH} (hs : Sep ha (oa a x)) : ∀ {h h' : GH} {xs : List Value} {l : List α}, OwL h xs l → Le h h' → Le ha h' → Dj h ha → OwL h' (xs ++ sh a x) (l ++ [a])
 | h, h', xs, [], e, h1, h2, h3 => by
  have : xs = [] := e
  subst this
  exact ⟨x, [], ha, emp, by simp, h2, aes _, (ag5 _).symm, hs, rfl⟩
 | h, h', xs, b :: l, ⟨y, ys, q1, q2, e, r1, r2, r3, r4, r5⟩, h1, h2, h3 =>
  ⟨y, ys ++ sh a x, q1, join q2 ha, by rw [e, List.append_assoc], r1.trans h1, afg (r2.trans h1) h2, (agf r3.symm ((h3.mono r1 (Le.refl _)).symm)).symm, r4,
   OwL.snoc hs r5 (adz _ _) (aer (h3.mono r2 (Le.refl _))) (h3.mono r2 (Le.refl _))⟩
theorem OwL.append {m : List α} {ys : List Value} {ha : GH} (hs : OwL ha ys m) : ∀ {h h' : GH} {xs : List Value} {l : List α}, OwL h xs l → Le h h' → Le ha h' → Dj h ha → OwL h' (xs ++ ys) (l ++ m)
 | h, h', xs, [], e, h1, h2, h3 => by
  have : xs = [] := e
  subst this
  simpa using hs.mono h2
 | h, h', xs, b :: l, ⟨y, zs, q1, q2, e, r1, r2, r3, r4, r5⟩, h1, h2, h3 =>
  ⟨y, zs ++ ys, q1, join q2 ha, by rw [e, List.append_assoc], r1.trans h1, afg (r2.trans h1) h2, (agf r3.symm ((h3.mono r1 (Le.refl _)).symm)).symm, r4,
   OwL.append hs r5 (adz _ _) (aer (h3.mono r2 (Le.refl _))) (h3.mono r2 (Le.refl _))⟩
theorem OwL.split : ∀ {h : GH} {xs : List Value} {l m : List α}, OwL h xs (l ++ m) → ∃ h1 h2, Le h1 h ∧ Le h2 h ∧ Dj h1 h2 ∧ OwL h1 (xs.take (l.length * k α)) l ∧ OwL h2 (xs.drop (l.length * k α)) m
 | h, xs, [], m, e => ⟨emp, h, aes _, Le.refl _, ag5 _, by simp [OwL], by simpa using e⟩
 | h, xs, a :: l, m, ⟨x, ys, q1, q2, e, r1, r2, r3, r4, r5⟩ => by
  obtain ⟨h1, h2, t1, t2, t3, t4, t5⟩ := OwL.split r5
  have hl : (a :: l).length * k α = (sh a x).length + l.length * k α := by rw [GoT.len, List.length_cons, Nat.add_mul]; omega
  refine ⟨join q1 h1, h2, afg r1 (t1.trans r2), t2.trans r2, agf (r3.mono (Le.refl _) t2) t3, ⟨x, ys.take (l.length * k α), q1, h1, ?_, adz _ _, aer (r3.mono (Le.refl _) t1), r3.mono (Le.refl _) t1, r4, t4⟩, ?_⟩
  ·rw [e, hl, List.take_length_add_append]
  ·rw [e, hl, List.drop_length_add_append]; exact t5
theorem RdL.snoc {G : GH} {a : α} {x : X α} (ha : All G (fa .der a x)) : ∀ {xs : List Value} {l : List α}, RdL G xs l → RdL G (xs ++ sh a x) (l ++ [a])
 | xs, [], h => by
  have : xs = [] := h
  subst this
  exact ⟨x, [], by simp, ha, rfl⟩
 | xs, b :: l, ⟨y, ys, h1, h3, h4⟩ => ⟨y, ys ++ sh a x, by rw [h1, List.append_assoc], h3, h4.snoc ha⟩
theorem RdL.append {G : GH} {ys : List Value} {m : List α} (hm : RdL G ys m) : ∀ {xs : List Value} {l : List α}, RdL G xs l → RdL G (xs ++ ys) (l ++ m)
 | xs, [], h => by
  have : xs = [] := h
  subst this
  simpa using hm
 | xs, b :: l, ⟨y, zs, h1, h3, h4⟩ => ⟨y, zs ++ ys, by rw [h1, List.append_assoc], h3, RdL.append hm h4⟩
end
class Flat (α : Type) [GoT α] : Prop where
 f : ∀ (a : α) (x : X α), fa .der a x = []
 o : ∀ (a : α) (x : X α), oa a x = []
instance : Flat Int := ⟨fun _ _ => rfl, fun _ _ => rfl⟩
instance : Flat Bool := ⟨fun _ _ => rfl, fun _ _ => rfl⟩
instance : Flat UInt8 := ⟨fun _ _ => rfl, fun _ _ => rfl⟩
instance : Flat ByteArray := ⟨fun _ _ => rfl, fun _ _ => rfl⟩
instance {α β : Type} [GoT α] [GoT β] [Flat α] [Flat β] : Flat (α × β) := ⟨fun a x => by show fa .der a.1 x.1 ++ fa .der a.2 x.2 = []; rw [Flat.f, Flat.f]; rfl, fun a x => by show oa a.1 x.1 ++ oa a.2 x.2 = []; rw [Flat.o, Flat.o]; rfl⟩
theorem RdL.flat {α : Type} [GoT α] [Flat α] {G : GH} : ∀ {xs : List Value} {l : List α}, RdL G xs l → ∀ h, OwL h xs l
 | xs, [], e, h => e
 | xs, a :: l, ⟨x, ys, e, _, r⟩, h => ⟨x, ys, emp, h, e, aes _, Le.refl _, ag5 _, by rw [Flat.o]; trivial, r.flat h⟩
theorem HInv.give (hI : HInv C w G bs L R) (hρ : look R ρ = some row) (hc0 : row.c ≠ 0) (hR : apr R ρ = some R') : HInv C w (join G (fun b => if b = bs ρ then hp w b else none)) bs L R' := by
 obtain ⟨hsub, hgone⟩ := aku hR
 have hact : Acts L R ρ := .inr ⟨row, hρ, hc0⟩
 have hb : ∀ b, b ≠ bs ρ → G b = none → join G (fun b => if b = bs ρ then hp w b else none) b = none := fun b hne hg => by unfold join; rw [hg]; simp [hne]
 refine ⟨hI.keep, afg hI.le (fun b o hb => ?_), fun i l hl => ?_, fun i r hr => ?_, fun i j hij hi hj => ?_, fun i l r hl hr => hI.dis i l r hl (hsub _ _ hr), hI.pin, fun r hr => hI.nr r (hsub _ _ hr)⟩
 ·by_cases he : b = bs ρ
  ·rw [if_pos he] at hb; exact hb
  ·rw [if_neg he] at hb; cases hb
 ·obtain ⟨k1, k2, k3⟩ := hI.loc i l hl
  have hne : i ≠ ρ := fun e => by subst e; exact hI.dis i l row hl hρ
  exact ⟨k1, k2, hb _ (hI.inj i ρ hne (.inl ⟨l, hl⟩) hact) k3⟩
 ·have hne : i ≠ ρ := fun e => by subst e; exact hgone r hr
  obtain ⟨k1, k2⟩ := hI.row i r (hsub _ _ hr)
  refine ⟨k1, ?_⟩
  rcases k2 with k2 | ⟨o1, q1, q2, q3, q⟩
  ·exact .inl k2
  ·by_cases hrc : r.c = 0
   ·rcases q with ⟨q4, _⟩; exact .inl ⟨hrc, by omega⟩
   ·exact .inr ⟨o1, q1, q2, hb _ (hI.inj i ρ hne (.inr ⟨r, hsub _ _ hr, hrc⟩) hact) q3, q⟩
 ·exact hI.inj i j hij (hi.imp id fun ⟨r, hr, hc⟩ => ⟨r, hsub _ _ hr, hc⟩) (hj.imp id fun ⟨r, hr, hc⟩ => ⟨r, hsub _ _ hr, hc⟩)
theorem WX.seal {C : Cx} {s : List It} {env : Env} {L : Locs} {R R' : Rows} {Γ Γ1 : Facts} {α : Type} [GoT α] {row : Row} {l : List α} (ρ ℓ n : Nat) (hρ : look R ρ = some row) (hk : row.k = GoT.k α) (hn : row.n = l.length)
  (hℓ : agt [ℓ] Γ = some ([MF.ol row.xs l], Γ1)) (hR : apr R ρ = some R')
  (k : WX C s env L R' ((n, MF.rs .der row.p row.c l) :: (n + 1, MF.os row.p row.c l) :: Γ1)) : WX C s env L R Γ := by
 rintro a w ⟨G, bs, hA, hI, hΓ⟩
 obtain ⟨hsub, hgone⟩ := aku hR
 obtain ⟨H, q1, q2, q3, q4⟩ := agi hℓ hΓ
 have hol : OwL H row.xs l := ais q3
 obtain ⟨h1, h2⟩ := hI.row ρ row hρ
 have triv : row.c = 0 → row.n = 0 → WX C s env L R' ((n, MF.rs .der row.p row.c l) :: (n + 1, MF.os row.p row.c l) :: Γ1) → cont C s .normal a w := fun hc hn0 k => by
  have hl : l = [] := List.eq_nil_of_length_eq_zero (by omega)
  have ho : OwSl emp row.p row.c l := .inl ⟨hc, hl⟩
  refine k a w ⟨G, bs, hA, hI.sub (Sub.refl _) hsub, ?_⟩
  have := (q4.mono (ai0 G H)).new (n + 1) (MF.os row.p row.c l) (h := emp) (Le.refl _) (aes _) (fun _ => ag5 _) (fun _ _ _ h => by cases h) ho
  exact this.der n _ rfl ((this.get (n + 1) (by rw [adg, if_pos rfl]) : OwSl G row.p row.c l).rd)
 rcases h2 with ⟨hc, hn0⟩ | ⟨o1, hpp, hB, hGb, hnc, hcm, cur, T, hh, hcs, htk⟩
 ·exact triv hc hn0 k
 ·by_cases hc0 : row.c = 0
  ·exact triv hc0 (by omega) k
  ·have hI' := hI.give hρ hc0 hR
   refine k a w ⟨_, bs, hA, hI', ?_⟩
   have hHb : H (bs ρ) = none := by
    cases hx : H (bs ρ) with
    | none => rfl
    | some q => rw [q1 _ _ hx] at hGb; cases hGb
   have ho : OwSl (join H (fun b => if b = bs ρ then hp w b else none)) row.p row.c l := by
    refine .inr ⟨bs ρ, o1, T, cur, H, hpp, ?_, adz _ _, hHb, by omega, hcm, by rw [← hk]; exact hcs, ?_⟩
    ·unfold join; rw [hHb]; simp only [if_true]; exact hh
    ·rw [← hk, ← hn, htk]; exact hol
   have hdj : Dj (join H (fun b => if b = bs ρ then hp w b else none)) (cut G H) := agf (ajs G H).symm (fun b => by
    by_cases he : b = bs ρ
    ·subst he; right; exact akt hGb
    ·left; simp [he])
   have hle : Le (join H (fun b => if b = bs ρ then hp w b else none)) (join G (fun b => if b = bs ρ then hp w b else none)) := afg (q1.trans (adz _ _)) (fun b o hb => by
    by_cases he : b = bs ρ
    ·subst he; unfold join; rw [hGb]; exact hb
    ·simp [he] at hb)
   have := q4.new (n + 1) (MF.os row.p row.c l) (h := join H (fun b => if b = bs ρ then hp w b else none)) ((ai0 G H).trans (adz _ _)) hle (fun _ => hdj) (fun _ b o hb => by
    rcases ara hb with hb | hb
    ·exact q2 b o hb
    ·by_cases he : b = bs ρ
     ·subst he; exact hB
     ·simp [he] at hb) ho
   exact this.der n _ rfl ((this.get (n + 1) (by rw [adg, if_pos rfl]) : OwSl _ row.p row.c l).rd)
theorem WX.opn {α : Type} [GoT α] {p : Option Addr} {c : Nat} {l : List α} (ρ ℓ n : Nat) (hkk : kk = GoT.k α) (hℓ : agt [ℓ] Γ = some ([MF.os p c l], Γ1)) (hnl : agp ρ env L R = false)
  (k : ∀ xs, xs.length = l.length * kk → WX C s env L ((ρ, ⟨kk, p, l.length, c, xs⟩) :: R) ((n, MF.ol xs l) :: Γ1)) : WX C s env L R Γ := by
 rintro a w ⟨G, bs, hA, hI, hΓ⟩
 subst hkk
 obtain ⟨H, q1, q2, q3, q4⟩ := agi hℓ hΓ
 obtain ⟨l1, l2, l3, l4⟩ := aex hnl
 rcases (ais q3 : OwSl H p c l) with ⟨hc, hl⟩ | ⟨b, o1, T, cur, h', k1, k2, k3, k4, k5, k6, k7, k8⟩
 ·subst hl
  refine k [] (by simp) a w ⟨G, fun j => if j = ρ then 0 else bs j, hA.notH l1 (fun i hi => if_neg hi), ?_, ?_⟩
  ·exact hI.upd (ρ := ρ) (b' := 0) (r' := ⟨GoT.k α, p, 0, c, []⟩) l4 False (fun h => h.elim) (alf w _ _) (.inr (.inr hc)) (fun j => adg _ _ _ _) (fun l h => aff l2 h rfl) ⟨by simp, .inl ⟨hc, rfl⟩⟩
  ·exact (q4.mono (ai0 G H)).new n _ (h := emp) (Le.refl _) (aes _) (fun _ => ag5 _) (fun _ _ _ h => by cases h) (rfl : ([] : List Value) = [])
 ·have hlen := k8.len
  have hbG : G b = some (.cells cur T (0, 0)) := q1 b _ k2
  have hbw := hI.le b _ hbG
  have hcb : cut G (fun x => if x = b then some (.cells cur T (0, 0)) else none) b = none := by unfold cut; simp
  refine k _ hlen a w ⟨cut G (fun x => if x = b then some (.cells cur T (0, 0)) else none), fun j => if j = ρ then b else bs j, hA.notH l1 (fun i hi => if_neg hi), ?_, ?_⟩
  ·have hne : ∀ i, Acts L R i → bs i ≠ b := fun i hi e => by
    rcases hi with ⟨x, hx⟩ | ⟨r, hr, hc⟩
    ·have := (hI.loc i x hx).2.2; rw [e, hbG] at this; cases this
    ·rcases (hI.row i r hr).2 with ⟨h0, _⟩ | ⟨_, _, _, h3, _⟩
     ·exact hc h0
     ·rw [e, hbG] at h3; cases h3
   have hnL : ∀ {i : Nat} {x : Loc}, look L i = some x → i ≠ ρ := fun h => aff l2 h
   have hnR : ∀ {i : Nat} {x : Row}, look R i = some x → i ≠ ρ := fun h => aff l3 h
   refine ⟨hI.keep, (ai0 _ _).trans hI.le, fun i l hl => ?_, fun i r hr => ?_, fun i j hij hi hj => ?_, fun i l r hl hr => ?_, fun b' hb' => by simp only [if_neg (Ne.symm l4)]; exact hI.pin b' hb', fun r hr => by rw [adg, if_neg l4] at hr; exact hI.nr r hr⟩
   ·obtain ⟨t1, t2, t3⟩ := hI.loc i l hl
    simp only [if_neg (hnL hl)]
    exact ⟨t1, t2, akt t3⟩
   ·rw [adg] at hr
    by_cases he : ρ = i
    ·subst he; rw [if_pos rfl] at hr; simp at hr; subst hr
     simp only [if_true]
     exact ⟨hlen, .inr ⟨o1, k1, q2 b _ k2, hcb, k5, k6, cur, T, hbw, k7, rfl⟩⟩
    ·rw [if_neg he] at hr
     simp only [if_neg (Ne.symm he)]
     obtain ⟨t1, t2⟩ := hI.row i r hr
     exact ⟨t1, t2.imp id fun ⟨o2, u1, u2, u3, u⟩ => ⟨o2, u1, u2, akt u3, u⟩⟩
   ·have hold : ∀ i, i ≠ ρ → Acts L ((ρ, (⟨GoT.k α, p, l.length, c, (cur.toList.drop o1).take (l.length * GoT.k α)⟩ : Row)) :: R) i → Acts L R i := fun i hne h => h.imp id fun ⟨r, hr, hc⟩ => by
     rw [adg, if_neg (Ne.symm hne)] at hr; exact ⟨r, hr, hc⟩
    by_cases e1 : i = ρ <;> by_cases e2 : j = ρ
    ·omega
    ·simp only [e1, if_true, if_neg e2]; exact Ne.symm (hne j (hold j e2 hj))
    ·simp only [e2, if_true, if_neg e1]; exact hne i (hold i e1 hi)
    ·simp only [if_neg e1, if_neg e2]; exact hI.inj i j hij (hold i e1 hi) (hold j e2 hj)
   ·rw [adg] at hr
    split at hr
    ·rename_i e; exact hnL hl e.symm
    ·exact hI.dis i l r hl hr
  ·have hle : Le (cut G H) (cut G (fun x => if x = b then some (.cells cur T (0, 0)) else none)) := ail (ai0 _ _) (fun x => by
    by_cases hx : x = b
    ·subst hx; left; unfold cut; rw [k2]
    ·right; simp [hx])
   exact q4.new n (MF.ol _ l) (h := h') hle (ail (k3.trans q1) (fun x => by
    by_cases hx : x = b
    ·subst hx; exact .inl k4
    ·right; simp [hx])) (fun _ => ((ajs G H).symm).mono k3 (Le.refl _)) (fun _ x o hx => q2 x o (k3 x o hx)) k8
namespace B
theorem nt (h : (!b) = true) : b = false := by simpa using h
theorem nf (h : (!b) = false) : b = true := by simpa using h
theorem dt [Decidable p] (h : decide p = true) : p := of_decide_eq_true h
theorem df [Decidable p] (h : decide p = false) : ¬ p := of_decide_eq_false h
theorem et {α : Type} [BEq α] [LawfulBEq α] {a b : α} (h : (a == b) = true) : a = b := eq_of_beq h
theorem ef {α : Type} [BEq α] [LawfulBEq α] {a b : α} (h : (a == b) = false) : ¬ a = b := ne_of_beq_false h
theorem nt' {α : Type} [BEq α] [LawfulBEq α] {a b : α} (h : (a != b) = true) : ¬ a = b := by simpa using h
theorem nf' {α : Type} [BEq α] [LawfulBEq α] {a b : α} (h : (a != b) = false) : a = b := by simpa using h
end B
theorem aib {α : Type} [GoT α] (G : GH) (p : Option Addr) (c : Nat) : RdSl G p c ([] : List α) := ⟨by simp, by simp, [], fun j u h => by simp at h, rfl⟩
theorem aeo {α : Type} [GoT α] (G : GH) (p : Option Addr) : OwSl G p 0 ([] : List α) := .inl ⟨rfl, rfl⟩
end Go.Stp
