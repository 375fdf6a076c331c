/-
  What the proof of one law needs: rules of the program logic, functions as Lean functions, contracts. No condition but what each says. Written by a program (pack.py) out of my own texts.
-/
import Derived.Carry
import Derived.ChangeArms
import Derived.ProofKit
import Derived.OpenShut
import Derived.JoinedCond
import Derived.Test.YtpmejlbgjkiobaaGreatKNewNetwork2
open Go.IntKind (i64)
set_option linter.unusedVariables false
set_option linter.unusedSimpArgs false
namespace Go.Stp
open GoT (X k ok sh fa oa)
variable {l : Loc} {i j d fuel c T kk : Nat} {ops : Array Oper} {listed : Array Bool} {D : Nat → Option Nat} {y x sv sf : SV} {v : Value} {C : Cx} {G : GH} {bs : Nat → Nat} {L : Locs} {R : Rows} {a : Act} {tl : List Nat} {s st : List It} {S : World → Prop} {env e0 : Env} {Γ : Facts} {o : Oper} {f : Operand} {args : List Operand} {ats : Array TypeId} {g : FuncId} {svs : List SV} {caps : (Nat → Nat) → List Value} {Q : Prop} {cs : List Value} {parts : Array (Nat × Operand)} {α : Type} {kd : Kd}
structure PI where
 j : Nat
 d : Nat
 obj : Obj
 val : Nat → Value
 env : Env := []
variable {P : List PI}
def PIok (C : Cx) (ops : Array Oper) (it : PI) : Prop :=
 ∃ o, ops[it.j]? = some o ∧ gd ops [] o = some true ∧ o.dst = some it.d ∧ it.d < C.fn.ntmps ∧ ∀ (a : Act) (w : World) (bs : Nat → Nat), At C.fn.ntmps it.env bs a → (execOp a.eval o).run C.P w = .ok (.value (it.val w.heap.size)) (w.alloc it.obj)
structure POk (C : Cx) (ops : Array Oper) (listed : Array Bool) (env : Env) (P : List PI) : Prop where
 ok : ∀ it ∈ P, PIok C ops it
 free : ∀ it ∈ P, look env it.d = none
 sub : ∀ it ∈ P, Sub it.env env
 rdy : ∀ it ∈ P, agx ops listed it.j = true
 dis : P.Pairwise (fun x y => x.j ≠ y.j ∧ x.d ≠ y.d)
def af8 (listed : Array Bool) (D : Nat → Option Nat) : List PI → Array Bool
 | [] => listed
 | it :: P => match D it.j with
  | some _ => (af8 listed D P).setIfInBounds it.j true
  | none => af8 listed D P
def left (D : Nat → Option Nat) : List PI → Nat
 | [] => 0
 | it :: P => match D it.j with
  | some _ => left D P
  | none => left D P + 1
def upd (D : Nat → Option Nat) (j b : Nat) : Nat → Option Nat := fun i => if i = j then some b else D i
theorem aq1 {l : Array Bool} : (l.setIfInBounds i true).getD i true = true := by
 rw [Array.getD_eq_getD_getElem?]
 by_cases h : i < l.size
 ·simp [h]
 ·rw [Array.getElem?_eq_none (by simp; omega)]; rfl
theorem amq {listed : Array Bool} {D : Nat → Option Nat} {i : Nat} : ∀ {P : List PI}, (af8 listed D P).getD i true = false → listed.getD i true = false ∧ ∀ it ∈ P, it.j = i → D i = none
 | [], h => ⟨h, fun _ h => by cases h⟩
 | it :: P, h => by
  unfold af8 at h
  split at h
  ·rename_i b hb
   by_cases hi : it.j = i
   ·subst hi; rw [aq1] at h; cases h
   ·rw [getD_set_ne true hi] at h
    obtain ⟨h1, h2⟩ := amq h
    exact ⟨h1, fun x hx he => (List.mem_cons.1 hx).elim (fun e => by subst e; exact absurd he hi) (fun hx => h2 x hx he)⟩
  ·rename_i hb
   obtain ⟨h1, h2⟩ := amq h
   exact ⟨h1, fun x hx he => (List.mem_cons.1 hx).elim (fun e => by subst e; rw [← he]; exact hb) (fun hx => h2 x hx he)⟩
theorem ajj {listed : Array Bool} {D : Nat → Option Nat} {i : Nat} (h : listed.getD i false = true) : ∀ {P : List PI}, (af8 listed D P).getD i false = true
 | [] => h
 | it :: P => by
  unfold af8
  split
  ·exact getD_set_true (ajj h)
  ·exact ajj h
theorem amk {listed : Array Bool} {D : Nat → Option Nat} {i : Nat} (x : Bool) : ∀ {P : List PI}, (∀ it ∈ P, it.j ≠ i) → (af8 listed D P).getD i x = listed.getD i x
 | [], _ => rfl
 | it :: P, h => by
  unfold af8
  split
  ·rw [getD_set_ne x (h it List.mem_cons_self)]; exact amk x fun y hy => h y (List.mem_cons_of_mem _ hy)
  ·exact amk x fun y hy => h y (List.mem_cons_of_mem _ hy)
theorem aiv {listed : Array Bool} {D : Nat → Option Nat} {y : Nat} : ∀ {P : List PI}, (∀ it ∈ P, it.j ≠ y) → af8 (listed.setIfInBounds y true) D P = (af8 listed D P).setIfInBounds y true
 | [], _ => rfl
 | it :: P, h => by
  unfold af8
  split
  ·rw [aiv fun x hx => h x (List.mem_cons_of_mem _ hx)]; exact Array.setIfInBounds_comm _ _ (Ne.symm (h it List.mem_cons_self))
  ·exact aiv fun x hx => h x (List.mem_cons_of_mem _ hx)
theorem ak9 {listed : Array Bool} {D D' : Nat → Option Nat} : ∀ {P : List PI}, (∀ it ∈ P, D' it.j = D it.j) → af8 listed D' P = af8 listed D P ∧ left D' P = left D P
 | [], _ => ⟨rfl, rfl⟩
 | it :: P, h => by
  obtain ⟨h1, h2⟩ := ak9 (listed := listed) (P := P) fun x hx => h x (List.mem_cons_of_mem _ hx)
  unfold af8 left
  rw [h it List.mem_cons_self, h1, h2]
  exact ⟨rfl, rfl⟩
theorem an0 {listed : Array Bool} {D : Nat → Option Nat} {it : PI} {b : Nat} (hD : D it.j = none) : ∀ {P : List PI}, P.Pairwise (fun x y => x.j ≠ y.j ∧ x.d ≠ y.d) → it ∈ P → af8 listed (upd D it.j b) P = (af8 listed D P).setIfInBounds it.j true ∧ left D P = left (upd D it.j b) P + 1
 | [], _, h => by cases h
 | x :: P, hd, h => by
  rw [List.pairwise_cons] at hd
  rcases List.mem_cons.1 h with rfl | h
  ·obtain ⟨h1, h2⟩ := ak9 (listed := listed) (D := D) (D' := upd D it.j b) (P := P) fun y hy => if_neg (Ne.symm (hd.1 y hy).1)
   unfold af8 left
   have h3 : upd D it.j b it.j = some b := if_pos rfl
   rw [h3, hD, h1, h2]
   exact ⟨rfl, rfl⟩
  ·obtain ⟨h1, h2⟩ := an0 (listed := listed) hD hd.2 h
   have h3 : upd D it.j b x.j = D x.j := if_neg (hd.1 it h).1
   unfold af8 left
   rw [h3, h1]
   cases D x.j with
   | none => dsimp only; exact ⟨rfl, by omega⟩
   | some q => dsimp only; exact ⟨Array.setIfInBounds_comm _ _ (Ne.symm (hd.1 it h).1), h2⟩
def awf (ops : Array Oper) (listed : Array Bool) (P : List PI) (i : Nat) : Bool :=
 match ops[i]? with
 | some o => o.after.any fun e => Region.binds .any e && !listed.getD e.on false && P.all fun it => !Nat.beq it.j e.on
 | none => true
def aol (ops : Array Oper) (listed : Array Bool) (P P' : List PI) (y : Nat) : Bool :=
 (List.range ops.size).all fun i => Nat.beq i y || listed.getD i true || (P.any fun it => Nat.beq it.j i) || awf ops listed P' i
theorem arb {P' : List PI} {y : Nat} (hn : aol ops listed P P' y = true) (hD : af8 listed D P = af8 listed D P') (hr : i ∈ Region.ready .any ops (af8 listed D P)) : i = y ∨ ∃ it ∈ P, it.j = i ∧ D it.j = none := by
 obtain ⟨hun, o, ho, hall⟩ := mem_ready.1 hr
 obtain ⟨u1, u2⟩ := amq hun
 have h1 := List.all_eq_true.1 hn i (List.mem_range.2 (Array.getElem?_eq_some_iff.1 ho).1)
 simp only [Bool.or_eq_true] at h1
 rcases h1 with ((h1 | h1) | h1) | h1
 ·exact .inl (Nat.eq_of_beq_eq_true h1)
 ·rw [u1] at h1; cases h1
 ·obtain ⟨it, hit, he⟩ := List.any_eq_true.1 h1
  have he' := Nat.eq_of_beq_eq_true he
  exact .inr ⟨it, hit, he', by rw [he']; exact u2 it hit he'⟩
 ·exfalso
  unfold awf at h1
  rw [ho] at h1
  obtain ⟨e, he, hb⟩ := Array.any_eq_true'.1 h1
  simp only [Bool.and_eq_true, Bool.not_eq_true', List.all_eq_true] at hb
  have h2 := hall e he hb.1.1
  rw [hD, amk false fun it hit h => by have := hb.2 it hit; rw [h] at this; simp at this] at h2
  rw [hb.1.2] at h2; cases h2
theorem art {ops : Array Oper} {listed : Array Bool} {D : Nat → Option Nat} {P : List PI} {y : Nat} (hy : agx ops listed y = true) (hP : ∀ it ∈ P, it.j = y → D it.j = none) : y ∈ Region.ready .any ops (af8 listed D P) := by
 have h := hy
 unfold agx at h
 cases ho : ops[y]? with
 | none => simp [ho] at h
 | some o =>
  simp only [ho, Bool.and_eq_true, Bool.not_eq_true'] at h
  refine mem_ready.2 ⟨?_, o, ho, fun e he hb => ?_⟩
  ·have key : ∀ {P : List PI}, (∀ it ∈ P, it.j = y → D it.j = none) → (af8 listed D P).getD y true = listed.getD y true := by
    intro P
    induction P with
    | nil => exact fun _ => rfl
    | cons it P ih =>
     intro hP
     have ih := ih fun x hx => hP x (List.mem_cons_of_mem _ hx)
     unfold af8
     split
     ·rename_i b hb
      by_cases he : it.j = y
      ·rw [hP it List.mem_cons_self he] at hb; cases hb
      ·rw [getD_set_ne true he]; exact ih
     ·exact ih
   rw [key hP]; exact h.1
  ·have h2 := Array.all_eq_true_iff_forall_mem.1 h.2 e he
   simp only [hb, Bool.not_true, Bool.false_or] at h2
   exact ajj h2
theorem aso {α : Type} {R : α → α → Prop} (hs : ∀ x y, R x y → R y x) : ∀ {l : List α}, l.Pairwise R → ∀ x ∈ l, ∀ y ∈ l, x = y ∨ R x y
 | [], _, x, hx, _, _ => by cases hx
 | z :: l, h, x, hx, y, hy => by
  rw [List.pairwise_cons] at h
  rcases List.mem_cons.1 hx with e1 | h1 <;> rcases List.mem_cons.1 hy with e2 | h2
  ·exact .inl (e1.trans e2.symm)
  ·exact .inr (e1 ▸ h.1 y h2)
  ·exact .inr (hs _ _ (e2 ▸ h.1 x h1))
  ·exact aso hs h.2 x h1 y h2
theorem aps {l : Array Value} {x : Value} (h : i ≠ j) : (l.setIfInBounds i v).getD j x = l.getD j x := by simp [Array.getD_eq_getD_getElem?, h]
def Fr (C : Cx) (w : World) (G : GH) (bs : Nat → Nat) (L : Locs) (R : Rows) (a : Act) (D : Nat → Option Nat) (P : List PI) : Prop :=
 ∀ it ∈ P, ∀ b, D it.j = some b → a.tmps.getD it.d undef = it.val b ∧ w.heap[b]? = some it.obj ∧ C.w0.heap.size ≤ b ∧ G b = none ∧ (∀ i, Acts L R i → bs i ≠ b) ∧ (∀ it' ∈ P, ∀ b', D it'.j = some b' → it'.j ≠ it.j → b' ≠ b)
def SatD (C : Cx) (env : Env) (L : Locs) (R : Rows) (Γ : Facts) (a : Act) (w : World) (D : Nat → Option Nat) (P : List PI) : Prop :=
 ∃ G bs, At C.fn.ntmps env bs a ∧ HInv C w G bs L R ∧ AllK C.M G Γ ∧ Fr C w G bs L R a D P
def TXP (C : Cx) (ops : Array Oper) (tl : List Nat) (s : List It) (S : World → Prop) (P : List PI) (fuel : Nat) (listed : Array Bool) (env : Env) (L : Locs) (R : Rows) (Γ : Facts) : Prop :=
 (∀ w w', Kp emp w w' → S w → S w') → POk C ops listed env P → ∀ D a w, SatD C env L R Γ a w D P → afk C.P ops (cont C s) S tl (fuel + left D P) (af8 listed D P) a w
theorem Fr.keep {w w' : World} {G' Hc : GH} {L' : Locs} (h : Fr C w G bs L R a D P) (hb : Kp Hc w w') (hc : ∀ b, G b = none → (∀ i, Acts L R i → bs i ≠ b) → Hc b = none) (hG : ∀ b, G b = none → b < w.heap.size → (∀ i, Acts L R i → bs i ≠ b) → G' b = none) (hL : ∀ i, Acts L' R i → Acts L R i) (hd : ∀ it ∈ P, it.d ≠ d) : Fr C w' G' bs L' R (a.put (some d) v) D P := by
 intro it hit b hD
 obtain ⟨h1, h2, h3, h4, h5, h6⟩ := h it hit b hD
 have hlt : b < w.heap.size := (Array.getElem?_eq_some_iff.1 h2).1
 refine ⟨?_, ?_, h3, hG b h4 hlt h5, fun i hi => h5 i (hL i hi), h6⟩
 ·show (a.tmps.setIfInBounds d v).getD it.d undef = _
  rw [aps (Ne.symm (hd it hit))]; exact h1
 ·rw [hb.block b hlt (hc b h4 h5)]; exact h2
theorem awm {C : Cx} {ops : Array Oper} {listed : Array Bool} {env : Env} {L : Locs} {R : Rows} {Γ : Facts} {P : List PI} {it : PI} {D : Nat → Option Nat} {Q : Exit → Act → World → Prop} {a : Act} {w : World} (hP : POk C ops listed env P) (hit : it ∈ P) (hS : SatD C env L R Γ a w D P) :
  wpOp C.P ops Q it.j (fun a' w' => Kp emp w w' ∧ ∃ b, SatD C env L R Γ a' w' (upd D it.j b) P) a w := by
 obtain ⟨G, bs, hA, hI, hΓ, hF⟩ := hS
 obtain ⟨o, ho, hg, hd, hlt, hx⟩ := hP.ok it hit
 unfold wpOp
 simp only [ho]
 rw [if_pos (aee (env := []) (bs := bs) ⟨hA.size, hA.dfr, fun _ _ h => by simp [look] at h⟩ hg)]
 refine .inl ?_
 unfold Oper.wp
 rw [hx a w bs ⟨hA.size, hA.dfr, fun d s h => hA.slot d s (hP.sub it hit d s h)⟩]
 simp only [Oper.upon, hd]
 have hk : Kp emp w (w.alloc it.obj) := (Kp.refl emp w).alloc _
 refine ⟨hk, w.heap.size, join (cut G emp) emp, bs, ⟨?_, hA.dfr, fun e x hex => ?_⟩, (hI.called (aes _) (fun _ _ h => by cases h) hk (aes _) (fun _ _ h => by cases h)).1, hΓ.mono (adz (cut G emp) emp), ?_⟩
 ·show (a.tmps.setIfInBounds _ _).size = _
  rw [Array.size_setIfInBounds]; exact hA.size
 ·show (a.tmps.setIfInBounds it.d _).getD e undef = _
  have hne : it.d ≠ e := fun h => by subst h; rw [hP.free it hit] at hex; cases hex
  rw [aps hne]; exact hA.slot e x hex
 ·have hGn : ∀ b, G b = none → join (cut G emp) emp b = none := fun b h => by unfold join; rw [agl h]; rfl
  have hlt' : ∀ i, Acts L R i → bs i < w.heap.size := by
   intro i h
   rcases h with ⟨x, hx⟩ | ⟨r, hr, hc⟩
   ·exact (Array.getElem?_eq_some_iff.1 (hI.loc i x hx).1).1
   ·rcases (hI.row i r hr).2 with ⟨h0, _⟩ | ⟨_, _, _, _, _, _, cur, T, hh, _⟩
    ·exact absurd h0 hc
    ·exact (Array.getElem?_eq_some_iff.1 hh).1
  have hGs : G w.heap.size = none := by
   cases hg' : G w.heap.size with
   | none => rfl
   | some q => have := hI.le.lt hg'; omega
  intro x hx b hb
  by_cases hj : x.j = it.j
  ·have hxi : x = it := (aso (fun _ _ h => ⟨Ne.symm h.1, Ne.symm h.2⟩) hP.dis x hx it hit).resolve_right fun h => h.1 hj
   subst hxi
   have hb' : w.heap.size = b := by
    have : upd D x.j w.heap.size x.j = some w.heap.size := if_pos rfl
    rw [this] at hb; injection hb
   subst hb'
   refine ⟨?_, heap_alloc_new w _, hI.keep.size, hGn _ hGs, fun i hi => Nat.ne_of_lt (hlt' i hi), fun y hy b' hb' hne => ?_⟩
   ·show (a.tmps.setIfInBounds x.d _).getD x.d undef = _
    rw [Array.getD_eq_getD_getElem?]
    simp [hA.size, hlt]
   ·have h2 : upd D x.j w.heap.size y.j = D y.j := if_neg hne
    rw [h2] at hb'
    have := (Array.getElem?_eq_some_iff.1 (hF y hy b' hb').2.1).1
    omega
  ·have h2 : upd D it.j w.heap.size x.j = D x.j := if_neg hj
   rw [h2] at hb
   obtain ⟨q1, q2, q3, q4, q5, q6⟩ := hF x hx b hb
   have hlt2 : b < w.heap.size := (Array.getElem?_eq_some_iff.1 q2).1
   have hxd : it.d ≠ x.d := fun h => (aso (fun _ _ h => ⟨Ne.symm h.1, Ne.symm h.2⟩) hP.dis x hx it hit).elim (fun e => hj (by rw [e])) (fun e => e.2 h.symm)
   refine ⟨?_, by rw [hk.block b hlt2 rfl]; exact q2, q3, hGn _ q4, q5, fun y hy b' hb' hne => ?_⟩
   ·show (a.tmps.setIfInBounds it.d _).getD x.d undef = _
    rw [aps hxd]; exact q1
   ·by_cases hyj : y.j = it.j
    ·have : upd D it.j w.heap.size y.j = some w.heap.size := if_pos hyj
     rw [this] at hb'
     injection hb' with hb'
     omega
    ·have h3 : upd D it.j w.heap.size y.j = D y.j := if_neg hyj
     rw [h3] at hb'
     exact q6 y hy b' hb' hne
theorem TXP.core {C : Cx} {ops : Array Oper} {tl : List Nat} {s : List It} {S : World → Prop} {P : List PI} {fuel y : Nat} {listed : Array Bool} {env : Env} {L : Locs} {R : Rows} {Γ : Facts} (hS : ∀ w w', Kp emp w w' → S w → S w') (hP : POk C ops listed env P) (ok : (Nat → Option Nat) → Prop)
  (hn : ∀ D, ok D → ∀ i ∈ Region.ready .any ops (af8 listed D P), i = y ∨ ∃ it ∈ P, it.j = i ∧ D it.j = none) (hne : ∀ D, ok D → Region.ready .any ops (af8 listed D P) ≠ [])
  (stop : ∀ D a w, ¬ ok D → SatD C env L R Γ a w D P → afk C.P ops (cont C s) S tl (fuel + left D P) (af8 listed D P) a w)
  (step : ∀ D a w, ok D → SatD C env L R Γ a w D P → y ∈ Region.ready .any ops (af8 listed D P) → ∃ f, fuel + left D P = f + 1 ∧ wpOp C.P ops (cont C s) y (fun a' w' => (tl.contains y = false → S w → S w') ∧ afk C.P ops (cont C s) S tl f ((af8 listed D P).setIfInBounds y true) a' w') a w) :
  ∀ n D a w, left D P = n → SatD C env L R Γ a w D P → afk C.P ops (cont C s) S tl (fuel + left D P) (af8 listed D P) a w := by
 intro n
 induction n with
 | zero =>
  intro D a w hn0 hSat
  by_cases hok : ok D
  ·have hnone : ∀ it ∈ P, D it.j ≠ none := fun it hit h => by have := (an0 (listed := listed) (b := 0) h hP.dis hit).2; omega
   have hy : y ∈ Region.ready .any ops (af8 listed D P) := by
    cases hr : Region.ready .any ops (af8 listed D P) with
    | nil => exact absurd hr (hne D hok)
    | cons i r =>
     rcases hn D hok i (by rw [hr]; exact List.mem_cons_self) with rfl | ⟨it, hit, _, h⟩
     ·exact List.mem_cons_self
     ·exact absurd h (hnone it hit)
   obtain ⟨f, hf, hs⟩ := step D a w hok hSat hy
   rw [hf]
   refine ⟨fun h => absurd h (hne D hok), fun i hi => ?_⟩
   rcases hn D hok i hi with rfl | ⟨it, hit, _, h⟩
   ·exact hs
   ·exact absurd h (hnone it hit)
  ·exact stop D a w hok hSat
 | succ n ih =>
  intro D a w hn0 hSat
  by_cases hok : ok D
  ·have hf : fuel + left D P = (fuel + n) + 1 := by omega
   rw [hf]
   refine ⟨fun h => absurd h (hne D hok), fun i hi => ?_⟩
   rcases hn D hok i hi with rfl | ⟨it, hit, rfl, h⟩
   ·obtain ⟨f, hf', hs⟩ := step D a w hok hSat hi
    have : f = fuel + n := by omega
    subst this
    exact hs
   ·refine wpOp_mono (fun a' w' ⟨hk, b, hSat'⟩ => ⟨fun _ h => hS _ _ hk h, ?_⟩) (awm (Q := cont C s) hP hit hSat)
    obtain ⟨e1, e2⟩ := an0 (listed := listed) (b := b) h hP.dis hit
    have hl : left (upd D it.j b) P = n := by omega
    have := ih (upd D it.j b) a' w' hl hSat'
    rw [e1, hl] at this
    exact this
  ·exact stop D a w hok hSat
theorem TX.toP (k : TXP C ops tl s S [] fuel listed env L R Γ) : TX C ops tl s S fuel listed env L R Γ := fun hS a w ⟨G, bs, hA, hI, hΓ⟩ =>
 k hS ⟨(fun _ h => by cases h), (fun _ h => by cases h), (fun _ h => by cases h), (fun _ h => by cases h), .nil⟩ (fun _ => none) a w ⟨G, bs, hA, hI, hΓ, fun _ h => by cases h⟩
theorem TXP.done (k : TX C ops tl s S fuel listed env L R Γ) : TXP C ops tl s S [] fuel listed env L R Γ := fun hS _ _ a w ⟨G, bs, hA, hI, hΓ, _⟩ => k hS a w ⟨G, bs, hA, hI, hΓ⟩
def ar0 (d : Nat) (e : Env) : Bool := e.all fun x => !Nat.beq x.1 d
def ai3 (P : List PI) (j d : Nat) : Bool := P.all fun it => !Nat.beq it.j j && !Nat.beq it.d d && ar0 d it.env
theorem age (h : ai3 P j d = true) : ∀ it ∈ P, it.j ≠ j ∧ it.d ≠ d := fun it hit => by
 have := List.all_eq_true.1 h it hit
 simp only [Bool.and_eq_true, Bool.not_eq_true'] at this
 exact ⟨Nat.ne_of_beq_eq_false this.1.1, Nat.ne_of_beq_eq_false this.1.2⟩
theorem au7 (h : ai3 P j d = true) : ∀ it ∈ P, ar0 d it.env = true := fun it hit => by
 have := List.all_eq_true.1 h it hit
 simp only [Bool.and_eq_true, Bool.not_eq_true'] at this
 exact this.2
theorem aql {e : Env} (h : ar0 d e = true) (hs : Sub e env) : Sub e ((d, sv) :: env) := fun i x hx => by
 have h1 := List.all_eq_true.1 h (i, x) (al1 hx)
 simp only [Bool.not_eq_true'] at h1
 rw [adg, if_neg (Ne.symm (Nat.ne_of_beq_eq_false h1))]
 exact hs i x hx
theorem TXP.pend (it : PI) (hok : PIok C ops it) (hsb : Sub it.env env) (hf : look env it.d = none) (hr : agx ops listed it.j = true) (hd : ai3 P it.j it.d = true)
  (k : TXP C ops tl s S (it :: P) fuel listed env L R Γ) : TXP C ops tl s S P (fuel + 1) listed env L R Γ := by
 intro hS hP D a w ⟨G, bs, hA, hI, hΓ, hF⟩
 have hdd := age hd
 let D' : Nat → Option Nat := fun i => if i = it.j then none else D i
 have hD0 : D' it.j = none := if_pos rfl
 have hD1 : ∀ x ∈ P, D' x.j = D x.j := fun x hx => if_neg (hdd x hx).1
 obtain ⟨e1, e2⟩ := ak9 (listed := listed) hD1
 have key := k hS ⟨fun x hx => (List.mem_cons.1 hx).elim (fun e => e ▸ hok) (hP.ok x), fun x hx => (List.mem_cons.1 hx).elim (fun e => e ▸ hf) (hP.free x), fun x hx => (List.mem_cons.1 hx).elim (fun e => e ▸ hsb) (hP.sub x), fun x hx => (List.mem_cons.1 hx).elim (fun e => e ▸ hr) (hP.rdy x), List.pairwise_cons.2 ⟨fun x hx => ⟨Ne.symm (hdd x hx).1, Ne.symm (hdd x hx).2⟩, hP.dis⟩⟩ D' a w ⟨G, bs, hA, hI, hΓ, fun x hx b hb => ?_⟩
 ·unfold af8 left at key
  rw [hD0] at key
  dsimp only at key
  rw [e1, e2] at key
  rw [show fuel + 1 + left D P = fuel + (left D P + 1) by omega]
  exact key
 ·rcases List.mem_cons.1 hx with e | hx
  ·subst e; rw [hD0] at hb; cases hb
  ·rw [hD1 x hx] at hb
   obtain ⟨q1, q2, q3, q4, q5, q6⟩ := hF x hx b hb
   refine ⟨q1, q2, q3, q4, q5, fun y hy b' hb' hne => ?_⟩
   rcases List.mem_cons.1 hy with e | hy
   ·subst e; rw [hD0] at hb'; cases hb'
   ·rw [hD1 y hy] at hb'; exact q6 y hy b' hb' hne
theorem anu {ops : Array Oper} {listed : Array Bool} {i j : Nat} (h : agx ops listed j = true) (hij : j ≠ i) : agx ops (listed.setIfInBounds i true) j = true := by
 unfold agx at h ⊢
 rw [getD_set_ne true (Ne.symm hij)]
 cases ho : ops[j]? with
 | none => simp [ho] at h
 | some o =>
  simp only [ho, Bool.and_eq_true] at h ⊢
  refine ⟨h.1, Array.all_eq_true_iff_forall_mem.2 fun e he => ?_⟩
  have := Array.all_eq_true_iff_forall_mem.1 h.2 e he
  simp only [Bool.or_eq_true] at this ⊢
  exact this.imp id getD_set_true
theorem asg (h : i ∈ Region.ready .any ops listed) (hP : ∀ it ∈ P, it.j ≠ i) : i ∈ Region.ready .any ops (af8 listed D P) := by
 obtain ⟨hun, o, ho, hall⟩ := mem_ready.1 h
 exact mem_ready.2 ⟨by rw [amk true hP]; exact hun, o, ho, fun e he hb => ajj (hall e he hb)⟩
theorem POk.step (hP : POk C ops listed env P) (ha : ai3 P i d = true) : POk C ops (listed.setIfInBounds i true) ((d, sv) :: env) P :=
 have h := age ha
 ⟨hP.ok, fun x hx => by rw [adg, if_neg (Ne.symm (h x hx).2)]; exact hP.free x hx, fun x hx => aql (au7 ha x hx) (hP.sub x hx), fun x hx => anu (hP.rdy x hx) (h x hx).1, hP.dis⟩
theorem TXP.takeP {C : Cx} {ops : Array Oper} {tl : List Nat} {s : List It} {S : World → Prop} {P : List PI} {fuel : Nat} {listed : Array Bool} {env : Env} {L : Locs} {R : Rows} {Γ : Facts} {i d : Nat} {o : Oper} {sv : SV} {b : Bool} (hb : mayP ops listed i = true) (hi : ops[i]? = some o) (hd : o.dst = some d) (hlt : d < C.fn.ntmps) (ha : ai3 P i d = true)
  (hg : gd ops env o = some b) (hl : b = true → ∀ a w bs, At C.fn.ntmps env bs a → (execOp a.eval o).run C.P w = .ok (.value (conc bs sv)) w) (hu : b = false → sv = .v undef)
  (k : TXP C ops tl s S P fuel (listed.setIfInBounds i true) ((d, sv) :: env) L R Γ) : TXP C ops tl s S P (fuel + 1) listed env L R Γ := by
 intro hS hP D a w ⟨G, bs, hA, hI, hΓ, hF⟩
 have hap := age ha
 simp only [mayP, Bool.and_eq_true] at hb
 obtain ⟨⟨h1, h4⟩, h5⟩ := hb
 have hr : i ∈ Region.ready .any ops (af8 listed D P) := asg (by simpa using h5) fun it hit => (hap it hit).1
 rw [show fuel + 1 + left D P = (fuel + left D P) + 1 by omega]
 refine agn hi (Region.noSelect_spec h1) (fun c a w h => (agy C s c _ _ h).elim) (fuel + left D P) (af8 listed D P) a w (fun j oj hj hne hun hno => Region.free_spec hi h4 j oj hj hne (amq hun).1 hno) hr (v := conc bs sv) ?_ ?_
 ·cases b with
  | true => exact .inl ⟨aee hA hg, fun w' _ => hl rfl a w' bs hA⟩
  | false => exact .inr ⟨aee hA hg, by rw [hu rfl]; rfl⟩
 ·rw [hd, ← aiv fun it hit => (hap it hit).1]
  refine k hS (hP.step ha) D _ _ ⟨G, bs, hA.put hlt sv, hI, hΓ, fun x hx b hb => ?_⟩
  obtain ⟨q1, q⟩ := hF x hx b hb
  exact ⟨by rw [← q1]; exact aps (Ne.symm (hap x hx).2), q⟩
def awk (ops : Array Oper) (P : List PI) (is : List Nat) : Bool := is.all fun i => match getO ops.toList i with | some o => (match o.dst with | some d => ai3 P i d | none => false) | none => false
theorem TXP.takes {C : Cx} {ops : Array Oper} {tl : List Nat} {s : List It} {S : World → Prop} {P : List PI} {L : Locs} {R : Rows} {Γ : Facts} (ht : aek C.P C.tt) : ∀ (is : List Nat) {fuel : Nat} {listed : Array Bool} {env env' : Env}, awk ops P is = true → ajy ops tl listed (is.map fun i => (i, true)) = true →
  ahf C.tt C.fn.ntmps ops [] env (is.map fun i => (i, true)) = some env' → TXP C ops tl s S P fuel (apc listed (is.map fun i => (i, true))) env' L R Γ → TXP C ops tl s S P (fuel + is.length) listed env L R Γ
 | [], _, _, _, _, _, _, h, k => by simp [ahf] at h; subst h; exact k
 | i :: r, fuel, listed, env, env', ha, hb, h, k => by
  simp only [awk, List.all_cons, Bool.and_eq_true] at ha
  simp only [List.map_cons, ajy, Bool.and_eq_true] at hb
  simp only [List.map_cons, ahf] at h
  split at h
  ·rename_i o ho
   simp only [ho] at ha
   rw [aey] at ho
   have ho' : ops[i]? = some o := by simpa using ho
   split at h
   ·rename_i d hd
    simp only [hd] at ha
    split at h
    ·rename_i hlt
     have hlt' : d < C.fn.ntmps := by simpa [Nat.blt_eq] using hlt
     split at h
     ·rename_i hg
      split at h
      ·rename_i sv hsv
       exact TXP.takeP hb.1 ho' hd hlt' ha.1 hg (fun _ a w bs' hA => aj2 ht w hA hsv) (fun h => by cases h) (TXP.takes ht r ha.2 hb.2 h k)
      ·cases h
     ·rename_i hg
      exact TXP.takeP hb.1 ho' hd hlt' ha.1 hg (fun h => by cases h) (fun _ => rfl) (TXP.takes ht r ha.2 hb.2 h k)
     ·cases h
    ·cases h
   ·cases h
  ·cases h
theorem TXP.seeP (i : Nat) (hb : mayP ops listed i = true) (hi : getO ops.toList i = some o) (hg : gd ops env o = some true) (hd : o.dst = some d) (hlt : Nat.blt d C.fn.ntmps = true) (ha : ai3 P i d = true)
  (hl : alh C env o sv) (k : TXP C ops tl s S P fuel (listed.setIfInBounds i true) ((d, sv) :: env) L R Γ) : TXP C ops tl s S P (fuel + 1) listed env L R Γ := by
 rw [aey] at hi
 exact TXP.takeP hb (by simpa using hi) hd (by simpa [Nat.blt_eq] using hlt) ha hg (fun _ a w bs hA => hl a w bs hA) (fun h => by cases h) k
theorem TXP.next (hn : aol ops listed P P i = true) (hr : agx ops listed i = true) (ha : ai3 P i d = true)
  (step : (∀ w w', Kp emp w w' → S w → S w') → POk C ops listed env P → ∀ D a w, SatD C env L R Γ a w D P → wpOp C.P ops (cont C s) i (fun a' w' => (tl.contains i = false → S w → S w') ∧ afk C.P ops (cont C s) S tl (fuel + left D P) (af8 (listed.setIfInBounds i true) D P) a' w') a w) : TXP C ops tl s S P (fuel + 1) listed env L R Γ := by
 intro hS hP D a w hSat
 have hap := age ha
 have hin : ∀ D, i ∈ Region.ready .any ops (af8 listed D P) := fun D => art hr fun it hit h => absurd h (hap it hit).1
 refine TXP.core (y := i) hS hP (fun _ => True) (fun D _ j hj => arb hn rfl hj) (fun D _ h => by have := hin D; rw [h] at this; cases this) (fun _ _ _ h => absurd trivial h) (fun D a w _ hSat _ => ⟨fuel + left D P, by omega, ?_⟩) _ D a w rfl hSat
 have := step hS hP D a w hSat
 rw [aiv fun it hit => (hap it hit).1] at this
 exact this
theorem TXP.callG (i : Nat)
  {Ψ : World → Value → World → Prop} (hn : aol ops listed P P i = true) (hr : agx ops listed i = true) (ha : ai3 P i d = true) (hi : getO ops.toList i = some o) (hg : gd ops env o = some true) (hd : o.dst = some d) (ho : o.op = .call { callee := .value f, args := args.toArray, argTypes := ats })
  (hf : ev env f = some sf) (hsf : ∀ bs, conc bs sf = .func (.func g) #[] (caps bs).toArray) (hargs : evs env args = some svs)
  (hc : ∀ w G bs, HInv C w G bs L R → AllK C.M (hp w) Γ → Does C.P g (svs.map (conc bs) ++ caps bs).toArray w emp (Ψ w))
  (k : ∀ a w w' G bs v D, (∀ w w', Kp emp w w' → S w → S w') → POk C ops listed env P → At C.fn.ntmps env bs a → HInv C w G bs L R → AllK C.M G Γ → Fr C w G bs L R a D P → Kp emp w w' → Ψ w v w' → afk C.P ops (cont C st) S tl (fuel + left D P) (af8 (listed.setIfInBounds i true) D P) (a.put (some d) v) w') : TXP C ops tl st S P (fuel + 1) listed env L R Γ := by
 refine TXP.next (d := d) hn hr ha fun hS hP D a w ⟨G, bs, hA, hI, hΓ, hF⟩ => ?_
 rw [aey] at hi
 have hi' : ops[i]? = some o := by simpa using hi
 unfold wpOp
 simp only [hi']
 rw [if_pos (aee hA hg)]
 refine .inl ?_
 unfold Oper.wp
 obtain ⟨he, hcalls⟩ := hc w G bs hI (hΓ.mono hI.le)
 rw [ah9 he ho (by rw [ad7 hA hf, hsf]) (ah0 hA args svs hargs)]
 simp only [Oper.upon]
 refine hcalls.mono fun e w' ⟨v, hv, hb, hψ⟩ => ?_
 subst hv
 rw [hd]
 exact ⟨fun _ hs => hS _ _ hb hs, k a w w' G bs v D hS hP hA hI hΓ hF hb hψ⟩
theorem al8 {h : GH} {b : Nat} (h1 : G b = none) (h2 : h b = none) : join G h b = none := by unfold join; rw [h1]; exact h2
theorem TXP.callV (i : Nat)
  {c : Value} (hn : aol ops listed P P i = true) (hr : agx ops listed i = true) (hi : getO ops.toList i = some o) (hg : gd ops env o = some true) (hd : o.dst = some d) (ha : ai3 P i d = true) (hlt : Nat.blt d C.fn.ntmps = true) (ho : o.op = .call { callee := .value f, args := args.toArray, argTypes := ats })
  (hf : ev env f = some sf) (hsf : ∀ bs, conc bs sf = .func (.func g) #[] (caps bs).toArray) (hargs : evs env args = some svs)
  (hc : ∀ w G bs, HInv C w G bs L R → AllK C.M (hp w) Γ → Does C.P g (svs.map (conc bs) ++ caps bs).toArray w emp fun v _ => v = c ∧ Q)
  (k : Q → TXP C ops tl st S P fuel (listed.setIfInBounds i true) ((d, .v c) :: env) L R Γ) : TXP C ops tl st S P (fuel + 1) listed env L R Γ :=
 TXP.callG (Ψ := fun _ v _ => v = c ∧ Q) i hn hr ha hi hg hd ho hf hsf hargs hc fun a w w' G bs v D hS hP hA hI hΓ hF hb ⟨hv, hq⟩ => by
  subst hv
  have hI' := (hI.called (aes _) (fun _ _ h => by cases h) hb (aes _) (fun _ _ h => by cases h)).1
  exact k hq hS (hP.step ha) D _ _ ⟨_, bs, hA.put (by simpa [Nat.blt_eq] using hlt) (.v v), hI', hΓ.mono (adz (cut G emp) emp), hF.keep hb (fun _ _ _ => rfl) (fun b h _ _ => al8 (agl h) rfl) (fun _ h => h) fun it hit => (age ha it hit).2⟩
theorem TXP.callF {C : Cx} {ops : Array Oper} {tl : List Nat} {st : List It} {S : World → Prop} {P : List PI} {fuel : Nat} {listed : Array Bool} {env : Env} {L : Locs} {R : Rows} {Γ : Facts} {o : Oper} (i m : Nat) {f : Operand} {args : List Operand} {ats : Array TypeId} {g : FuncId} {sf : SV} {svs : List SV} {caps : (Nat → Nat) → List Value}
    {ι : Type} {val val' : ι → Value} {gs ds : ι → List MF} {Q : Prop} {d : Nat} {Γ' : ι → Facts} (hds : ∀ i h, Sep h (gs i) → All h (ds i)) (hdk : ∀ i, ∀ f ∈ ds i, f.k = .der) (hn : aol ops listed P P i = true) (hr : agx ops listed i = true) (hi : getO ops.toList i = some o) (hg : gd ops env o = some true) (hd : o.dst = some d) (ha : ai3 P i d = true) (hlt : Nat.blt d C.fn.ntmps = true) (ho : o.op = .call { callee := .value f, args := args.toArray, argTypes := ats })
    (hf : ev env f = some sf) (hsf : ∀ bs, conc bs sf = .func (.func g) #[] (caps bs).toArray) (hargs : evs env args = some svs)
    (hc : ∀ w G bs, HInv C w G bs L R → AllK C.M (hp w) Γ → Does C.P g (svs.map (conc bs) ++ caps bs).toArray w emp (Post w emp val gs Q))
    (hv : ∀ i, aio (val i) = some (val' i)) (hΓ' : ∀ i, addF m (ds i ++ gs i) Γ = some (Γ' i))
    (k : ∀ j, Q → TXP C ops tl st S P fuel (listed.setIfInBounds i true) ((d, .v (val' j)) :: env) L R (Γ' j)) : TXP C ops tl st S P (fuel + 1) listed env L R Γ :=
  TXP.callG (Ψ := fun w v w' => Post w emp val gs Q v w') i hn hr ha hi hg hd ho hf hsf hargs hc fun a w w' G bs v D hS hP hA hI hΓ hF hb hv' => by
    obtain ⟨j, h, rfl, hq, hle1, hdom, hs⟩ := hv'
    rw [← aic (hv j)]
    obtain ⟨hI', hdj⟩ := hI.called (aes _) (fun _ _ h => by cases h) hb hle1 hdom
    refine k j hq hS (hP.step ha) D _ _ ⟨_, bs, hA.put (by simpa [Nat.blt_eq] using hlt) (.v _), hI', hΓ.after hdj (fun b o hb' => .inl ((hdom b o hb').elim (Nat.le_trans hI.keep.size) (fun h => absurd rfl h))) hs (hdk j) (hds j h hs) (hΓ' j), hF.keep hb (fun _ _ _ => rfl) (fun b h1 h2 _ => al8 (agl h1) ?_) (fun _ h => h) fun it hit => (age ha it hit).2⟩
    cases hx : h b with
    | none => rfl
    | some q => rcases hdom b q hx with h3 | h3
                · omega
                · exact absurd rfl h3
def getP : List PI → Nat → Option PI
 | [], _ => none
 | it :: _, 0 => some it
 | _ :: P, k + 1 => getP P k
def rmP : List PI → Nat → List PI
 | [], _ => []
 | _ :: P, 0 => P
 | it :: P, k + 1 => it :: rmP P k
theorem afw {it x : PI} : ∀ {P : List PI} {k : Nat}, x ∈ rmP P k → x ∈ P
 | [], _, h => h
 | _ :: P, 0, h => List.mem_cons_of_mem _ h
 | y :: P, k + 1, h => (List.mem_cons.1 h).elim (fun e => e ▸ List.mem_cons_self) fun h => List.mem_cons_of_mem _ (afw (it := it) h)
theorem aks {it : PI} : ∀ {P : List PI} {k : Nat}, getP P k = some it → it ∈ P
 | [], _, h => by cases h
 | _ :: P, 0, h => by cases h; exact List.mem_cons_self
 | y :: P, k + 1, h => List.mem_cons_of_mem _ (aks h)
theorem at7 {P : List PI} (h : P.Pairwise (fun x y => x.j ≠ y.j ∧ x.d ≠ y.d)) : ∀ {k : Nat} {it : PI}, getP P k = some it → (rmP P k).Pairwise (fun x y => x.j ≠ y.j ∧ x.d ≠ y.d) ∧ ∀ x ∈ rmP P k, x.j ≠ it.j ∧ x.d ≠ it.d := by
 induction P with
 | nil => exact fun h => by cases h
 | cons y P ih =>
  intro k it hk
  rw [List.pairwise_cons] at h
  cases k with
  | zero => cases hk; exact ⟨h.2, fun x hx => ⟨Ne.symm (h.1 x hx).1, Ne.symm (h.1 x hx).2⟩⟩
  | succ k =>
   obtain ⟨i1, i2⟩ := ih h.2 hk
   refine ⟨List.pairwise_cons.2 ⟨fun x hx => h.1 x (afw (it := it) hx), i1⟩, fun x hx => ?_⟩
   rcases List.mem_cons.1 hx with rfl | hx
   ·exact h.1 it (aks hk)
   ·exact i2 x hx
theorem aj4 {listed : Array Bool} {D : Nat → Option Nat} {it : PI} : ∀ {P : List PI} {k : Nat}, P.Pairwise (fun x y => x.j ≠ y.j ∧ x.d ≠ y.d) → getP P k = some it → (D it.j = none → af8 listed D P = af8 listed D (rmP P k)) ∧ (∀ b, D it.j = some b → af8 listed D P = af8 (listed.setIfInBounds it.j true) D (rmP P k) ∧ left D P = left D (rmP P k))
 | [], _, _, h => by cases h
 | y :: P, 0, hd, h => by
  cases h
  rw [List.pairwise_cons] at hd
  refine ⟨fun h => ?_, fun b h => ?_⟩
  ·show af8 listed D (_ :: P) = af8 listed D P
   conv => lhs; unfold af8
   rw [h]
  ·show af8 listed D (_ :: P) = af8 _ D P ∧ left D (_ :: P) = left D P
   rw [aiv fun x hx => Ne.symm (hd.1 x hx).1]
   constructor
   ·conv => lhs; unfold af8
    rw [h]
   ·conv => lhs; unfold left
    rw [h]
 | y :: P, k + 1, hd, h => by
  rw [List.pairwise_cons] at hd
  obtain ⟨i1, i2⟩ := aj4 (listed := listed) (D := D) hd.2 (show getP P k = some it from h)
  refine ⟨fun h => ?_, fun b h => ?_⟩
  ·show af8 listed D (y :: P) = af8 listed D (y :: rmP P k)
   unfold af8; rw [i1 h]
  ·obtain ⟨j1, j2⟩ := i2 b h
   show af8 listed D (y :: P) = af8 _ D (y :: rmP P k) ∧ left D (y :: P) = left D (y :: rmP P k)
   unfold af8 left; rw [j1, j2]; exact ⟨rfl, rfl⟩
def Stop (C : Cx) (ops : Array Oper) (tl : List Nat) (s : List It) (S : World → Prop) (P : List PI) (fuel : Nat) (listed : Array Bool) (env : Env) (L : Locs) (R : Rows) (Γ : Facts) (it : PI) (k : Nat) : Prop :=
 (∀ w w', Kp emp w w' → S w → S w') → POk C ops listed env P → ∀ D a w b, D it.j = some b → SatD C env L R Γ a w D P → afk C.P ops (cont C s) S tl (fuel + left D (rmP P k)) (af8 (listed.setIfInBounds it.j true) D (rmP P k)) a w
theorem TXP.settle {C : Cx} {ops : Array Oper} {tl : List Nat} {s : List It} {S : World → Prop} {P : List PI} {fuel : Nat} {listed : Array Bool} {env : Env} {L : Locs} {R : Rows} {Γ : Facts} {it : PI} (k : Nat) (hk : getP P k = some it) (hn : aol ops listed P (rmP P k) ops.size = true)
  (stop : Stop C ops tl s S P fuel listed env L R Γ it k) : TXP C ops tl s S P fuel listed env L R Γ := by
 intro hS hP D a w hSat
 have hit := aks hk
 refine TXP.core (y := ops.size) hS hP (fun D => D it.j = none) (fun D hD i hi => arb hn ((aj4 hP.dis hk).1 hD) hi) (fun D hD h => by
  have := art (D := D) (P := P) (hP.rdy it hit) fun x hx he => by rw [he]; exact hD
  rw [h] at this; cases this) (fun D a w hD hSat => ?_) (fun D a w _ _ hy => by
  obtain ⟨_, o, ho, _⟩ := mem_ready.1 hy
  have := (Array.getElem?_eq_some_iff.1 ho).1
  omega) _ D a w rfl hSat
 cases hb : D it.j with
 | none => exact absurd hb hD
 | some b =>
  obtain ⟨e1, e2⟩ := (aj4 (listed := listed) (D := D) hP.dis hk).2 b hb
  rw [e1, e2]
  exact stop hS hP D a w b hb hSat
theorem at2 {D : Nat → Option Nat} {it : PI} (hD : D it.j = none) : ∀ {P : List PI} {k : Nat}, getP P k = some it → left D P = left D (rmP P k) + 1
 | [], _, h => by cases h
 | y :: P, 0, h => by
  cases h
  show left D (_ :: P) = left D P + 1
  conv => lhs; unfold left
  rw [hD]
 | y :: P, k + 1, h => by
  have ih := at2 hD (show getP P k = some it from h)
  show left D (y :: P) = left D (y :: rmP P k) + 1
  unfold left
  cases D y.j <;> dsimp only <;> omega
theorem TXP.split {C : Cx} {ops : Array Oper} {tl : List Nat} {s : List It} {S : World → Prop} {P : List PI} {fuel : Nat} {listed : Array Bool} {env : Env} {L : Locs} {R : Rows} {Γ : Facts} {it : PI} (k : Nat) (hk : getP P k = some it) (no : TXP C ops tl s S (rmP P k) (fuel + 1) listed env L R Γ)
  (stop : Stop C ops tl s S P fuel listed env L R Γ it k) : TXP C ops tl s S P fuel listed env L R Γ := by
 intro hS hP D a w hSat
 cases hb : D it.j with
 | none =>
  obtain ⟨G, bs, hA, hI, hΓ, hF⟩ := hSat
  have := no hS ⟨fun x hx => hP.ok x (afw (it := it) hx), fun x hx => hP.free x (afw (it := it) hx), fun x hx => hP.sub x (afw (it := it) hx), fun x hx => hP.rdy x (afw (it := it) hx), (at7 hP.dis hk).1⟩ D a w ⟨G, bs, hA, hI, hΓ, fun x hx b hb => by
   obtain ⟨q1, q2, q3, q4, q5, q6⟩ := hF x (afw (it := it) hx) b hb
   exact ⟨q1, q2, q3, q4, q5, fun y hy => q6 y (afw (it := it) hy)⟩⟩
  rw [at2 hb hk, (aj4 hP.dis hk).1 hb, show fuel + (left D (rmP P k) + 1) = fuel + 1 + left D (rmP P k) by omega]
  exact this
 | some b =>
  obtain ⟨e1, e2⟩ := (aj4 (listed := listed) (D := D) hP.dis hk).2 b hb
  rw [e1, e2]
  exact stop hS hP D a w b hb hSat
theorem POk.rm {k : Nat} {it : PI} (hP : POk C ops listed env P) (hk : getP P k = some it) (hz : ((rmP P k).all fun x => ar0 it.d x.env) = true) : POk C ops (listed.setIfInBounds it.j true) ((it.d, sv) :: env) (rmP P k) := by
 obtain ⟨p1, p2⟩ := at7 hP.dis hk
 exact ⟨fun x hx => hP.ok x (afw (it := it) hx), fun x hx => by rw [adg, if_neg (Ne.symm (p2 x hx).2)]; exact hP.free x (afw (it := it) hx), fun x hx => aql (List.all_eq_true.1 hz x hx) (hP.sub x (afw (it := it) hx)), fun x hx => anu (hP.rdy x (afw (it := it) hx)) (p2 x hx).1, p1⟩
def PI.loc (j d : Nat) (l : Loc) : PI := ⟨j, d, lobj l, fun b => .pointer (some ⟨b, 0, none⟩), []⟩
def PI.lit (j d c T : Nat) (cs : List Value) (env : Env) : PI := ⟨j, d, .cells cs.toArray T (0, 0), fun b => .slice (some ⟨b, 0, none⟩) c c, env⟩
theorem ay1 (ht : aek C.P C.tt) (hi : getO ops.toList j = some o) (hg : gd ops [] o = some true) (hd : o.dst = some d) (hlt : Nat.blt d C.fn.ntmps = true) (hl : ladd C.tt [] o.op = some l) : PIok C ops (PI.loc j d l) := by
 rw [aey] at hi
 exact ⟨o, show ops[j]? = some o by simpa using hi, hg, hd, show d < C.fn.ntmps by simpa [Nat.blt_eq] using hlt, fun a w bs hA => alq (bs := bs) (env := []) ht hA hl⟩
theorem ay6 (k : Nat) (hk : getP P k = some (PI.loc j d l)) (hl : agp d env L R = false) (hz : ((rmP P k).all fun x => ar0 d x.env) = true)
  (kk : TXP C ops tl s S (rmP P k) fuel (listed.setIfInBounds j true) ((d, .p d 0) :: env) ((d, l) :: L) R Γ) : Stop C ops tl s S P fuel listed env L R Γ (PI.loc j d l) k := by
 refine fun hS hP D a w b hb ⟨G, bs, hA, hI, hΓ, hF⟩ => ?_
 have hit := aks hk
 obtain ⟨q1, q2, q3, q4, q5, q6⟩ := hF _ hit b hb
 obtain ⟨n1, n2, n3, n4⟩ := aex hl
 have hnL : ∀ {i : Nat} {x : Loc}, look L i = some x → i ≠ d := fun h => aff n2 h
 have hnR : ∀ {i : Nat} {x : Row}, look R i = some x → i ≠ d := fun h => aff n3 h
 have act : ∀ {i : Nat}, i ≠ d → Acts ((d, l) :: L) R i → Acts L R i := fun {i} hne h => by
  rcases h with ⟨x, hx⟩ | h
  ·rw [adg, if_neg (Ne.symm hne)] at hx; exact .inl ⟨x, hx⟩
  ·exact .inr h
 refine kk hS (hP.rm hk hz) D a w ⟨G, fun i => if i = d then b else bs i, ?_, ⟨hI.keep, hI.le, fun i x hx => ?_, fun i r hr => ?_, fun i j hij hi hj => ?_, fun i x r hx hr => ?_, fun b' hb' => by simp only [if_neg (Ne.symm n4)]; exact hI.pin b' hb', hI.nr⟩, hΓ, fun x hx b' hb' => ?_⟩
 ·have hA' := hA.notH (d := d) (bs' := fun j => if j = d then b else bs j) n1 (fun i hi => if_neg hi)
  refine ⟨hA'.size, hA'.dfr, fun e x hx => ?_⟩
  rw [adg] at hx
  split at hx
  ·rename_i he; subst he
   cases hx
   simp only [conc, if_true]
   exact q1
  ·exact hA'.slot e x hx
 ·rw [adg] at hx
  split at hx
  ·rename_i he; subst he
   cases hx
   simp only [if_true]
   exact ⟨q2, .inl q3, q4⟩
  ·rename_i he
   simp only [if_neg (Ne.symm he)]
   exact hI.loc i x hx
 ·simp only [if_neg (hnR hr)]
  exact hI.row i r hr
 ·by_cases hid : i = d
  ·subst hid
   simp only [if_true, if_neg (Ne.symm hij)]
   exact Ne.symm (q5 j (act (Ne.symm hij) hj))
  ·by_cases hjd : j = d
   ·subst hjd
    simp only [if_true, if_neg hid]
    exact q5 i (act hid hi)
   ·simp only [if_neg hid, if_neg hjd]
    exact hI.inj i j hij (act hid hi) (act hjd hj)
 ·rw [adg, if_neg (Ne.symm (hnR hr))] at hx
  exact hI.dis i x r hx hr
 ·obtain ⟨r1, r2, r3, r4, r5, r6⟩ := hF x (afw (it := x) hx) b' hb'
  have hne := (at7 hP.dis hk).2 x hx
  refine ⟨r1, r2, r3, r4, fun i hi => ?_, fun y hy => r6 y (afw (it := y) hy)⟩
  by_cases hid : i = d
  ·subst hid
   simp only [if_true]
   exact fun e => q6 x (afw (it := x) hx) b' hb' hne.1 e.symm
  ·simp only [if_neg hid]
   exact r5 i (act hid hi)
theorem TXP.settleL (k : Nat) (hk : getP P k = some (PI.loc j d l)) (hl : agp d env L R = false) (hn : aol ops listed P (rmP P k) ops.size = true) (hz : ((rmP P k).all fun x => ar0 d x.env) = true)
  (kk : TXP C ops tl s S (rmP P k) fuel (listed.setIfInBounds j true) ((d, .p d 0) :: env) ((d, l) :: L) R Γ) : TXP C ops tl s S P fuel listed env L R Γ :=
 TXP.settle k hk hn (ay6 k hk hl hz kk)
def elT (tt : TT) (T : Nat) : Option Nat := match elO tt T with | some (e, _) => some e | none => none
theorem aw7 {P : Program} {tt : TT} (ht : aek P tt) {n : Nat} (hA : At n env bs a) {len e : Nat} (h : bldO tt env T len parts.toList = some (kk, cs)) (he : elT tt T = some e) (w : World) :
  (Instr.buildSlice T len (parts.map fun x => (x.1, a.eval x.2))).run P w = .ok (.slice (some ⟨w.heap.size, 0, none⟩) len len) (w.alloc (.cells cs.toArray e)) := by
 unfold bldO at h
 unfold elT at he
 split at h
 ·rename_i e' kk' by_ z hel
  rw [hel] at he
  cases he
  split at h
  ·rename_i hle
   split at h
   ·rename_i q hq
    split at h
    ·rename_i cs' hcs
     simp only [Option.some.injEq, Prod.mk.injEq] at h
     obtain ⟨rfl, rfl⟩ := h
     obtain ⟨hu, i, v, te, hE, hte, hi, h0, hs, _, hv, hzl, hpos⟩ := amm ht hel
     have hq' := aqc hq
     have hle' : len * kk' ≤ 16777216 := Nat.le_of_ble_eq_true hle
     have hfill := aig ht hA (place := fun i => some (i * kk', e)) (place' := fun i => some (i * kk', kk')) (fun j off T' ti' h1 h2 => by
      simp only [Option.some.injEq, Prod.mk.injEq] at h1
      obtain ⟨rfl, rfl⟩ := h1
      rw [hE] at h2; simp at h2; subst h2; rw [hte]) _ _ _ hcs
     have hvs : v.cells.size = kk' := by rw [← hzl, ← hv]; simp
     by_cases hl0 : len = 0
     ·subst hl0
      have : q = [] := by rw [hq']; rfl
      subst this
      have hf' : Instr.fill (fun i => some (i * kk', kk')) #[] (List.map (fun x => (x.1, a.eval x.2)) parts.toList) = some cs'.toArray := hfill
      simp [Instr.buildSlice, run_underlying hu, sizeOf, typeInfo, zeroValue, hi, newRow, hs, Array.range_zero', hf']
     ·have hne : ¬ (len * kk' = 0) := by
       intro h; rcases Nat.mul_eq_zero.1 h with h | h <;> omega
      have hr := ajf v.cells (by omega) len
      rw [hvs, hv, ← hq'] at hr
      have hq2 : (Array.range (len * kk')).map (fun i => v.cells[i % v.cells.size]!) = q.toArray := Array.ext' (by simpa [hvs] using hr)
      have hsm : ¬ (16777216 < len * kk') := by omega
      have hf' : Instr.fill (fun i => some (i * kk', kk')) ((Array.range (len * kk')).map (fun i => v.cells[i % v.cells.size]!)) (List.map (fun x => (x.1, a.eval x.2)) parts.toList) = some cs'.toArray := by rw [hq2]; exact hfill
      simp only [Instr.buildSlice, Sem.run_bind, run_underlying hu, Result.andThen_ok, afu hi, hs, newRow]
      simp [hsm, hne, zeroValue, typeInfo, hi, h0, hf']
    ·cases h
   ·cases h
  ·cases h
 ·cases h
theorem awl {T0 : Nat} (ht : aek C.P C.tt) (hi : getO ops.toList j = some o) (hg : gd ops [] o = some true) (hd : o.dst = some d) (hlt : Nat.blt d C.fn.ntmps = true) (ho : o.op = .buildSlice T0 c parts) (hb : bldO C.tt env T0 c parts.toList = some (kk, cs)) (he : elT C.tt T0 = some T) : PIok C ops (PI.lit j d c T cs env) := by
 rw [aey] at hi
 refine ⟨o, show ops[j]? = some o by simpa using hi, hg, hd, show d < C.fn.ntmps by simpa [Nat.blt_eq] using hlt, fun a w bs hA => ?_⟩
 have hrun := aw7 (bs := bs) ht hA hb he w
 unfold execOp
 simp only [ho, Sem.run_bind, hrun, Result.andThen_ok, Sem.run_pure]
 rfl
theorem ay7 [GoT α] {l : List α} (k m : Nat) (hk : getP P k = some (PI.lit j d c T cs e0)) (hlen : l.length = c) (hmax : Nat.ble c 1048576 = true) (hw : OwL emp cs l) (hz : ((rmP P k).all fun x => ar0 d x.env) = true)
  (kk : ∀ p, TXP C ops tl s S (rmP P k) fuel (listed.setIfInBounds j true) ((d, .v (.slice p c c)) :: env) L R ((m, MF.rs .stb p c l) :: Γ)) : Stop C ops tl s S P fuel listed env L R Γ (PI.lit j d c T cs e0) k := by
 refine fun hS hP D a w b hb ⟨G, bs, hA, hI, hΓ, hF⟩ => ?_
 have hit := aks hk
 obtain ⟨q1, q2, q3, q4, q5, q6⟩ := hF _ hit b hb
 have q2' : w.heap[b]? = some (.cells cs.toArray T (0, 0)) := q2
 refine kk (some ⟨b, 0, none⟩) hS (hP.rm hk hz) D a w ⟨join G (sgl b (.cells cs.toArray T (0, 0))), bs, ⟨hA.size, hA.dfr, fun e x hx => ?_⟩, hI.more q2' q5, ?_, fun x hx b' hb' => ?_⟩
 ·rw [adg] at hx
  split at hx
  ·rename_i he
   cases he
   cases hx
   exact q1
  ·exact hA.slot e x hx
 ·refine hΓ.new m _ (h := sgl b (.cells cs.toArray T (0, 0))) (adz _ _) (aer (amd q4).symm) (fun _ => amd q4) (fun h => by cases h) ?_
  have hc := Nat.le_of_ble_eq_true hmax
  have hx := ao6 (G := sgl b (.cells cs.toArray T (0, 0))) (o := 0) (aif b _) cs.length
  simp only [List.drop_zero, List.take_length] at hx
  exact (⟨by omega, by omega, cs, hx, hw.rd.mono (aes _)⟩ : RdSl _ (some ⟨b, 0, none⟩) c l)
 ·obtain ⟨r1, r2, r3, r4, r5, r6⟩ := hF x (afw (it := x) hx) b' hb'
  have hne := (at7 hP.dis hk).2 x hx
  exact ⟨r1, r2, r3, al8 r4 (ako _ (q6 x (afw (it := x) hx) b' hb' hne.1)), r5, fun y hy => r6 y (afw (it := y) hy)⟩
theorem TXP.settleS [GoT α] {l : List α} (k m : Nat) (hk : getP P k = some (PI.lit j d c T cs e0)) (hlen : l.length = c) (hmax : Nat.ble c 1048576 = true) (hw : OwL emp cs l) (hn : aol ops listed P (rmP P k) ops.size = true) (hz : ((rmP P k).all fun x => ar0 d x.env) = true)
  (kk : ∀ p, TXP C ops tl s S (rmP P k) fuel (listed.setIfInBounds j true) ((d, .v (.slice p c c)) :: env) L R ((m, MF.rs .stb p c l) :: Γ)) : TXP C ops tl s S P fuel listed env L R Γ :=
 TXP.settle k hk hn (ay7 k m hk hlen hmax hw hz kk)
theorem TXP.der (m : Nat) (f : MF) (hk : f.k = .der) (h : ∀ G, AllK C.M G Γ → f.p G)
  (k : TXP C ops tl s S P fuel listed env L R ((m, f) :: Γ)) : TXP C ops tl s S P fuel listed env L R Γ := fun hS hP D a w ⟨G, bs, hA, hI, hΓ, hF⟩ => k hS hP D a w ⟨G, bs, hA, hI, hΓ.der m f hk (h G hΓ), hF⟩
theorem TX.slot (d : Nat) (h : look env d = some x) (e : ∀ bs, conc bs x = conc bs y) (k : TX C ops tl s S fuel listed ((d, y) :: env) L R Γ) : TX C ops tl s S fuel listed env L R Γ := by
 intro hS a w ⟨G, bs, hA, hI, hΓ⟩
 refine k hS a w ⟨G, bs, ⟨hA.size, hA.dfr, fun i x' hx => ?_⟩, hI, hΓ⟩
 rw [adg] at hx
 split at hx
 ·rename_i hi; subst hi; simp at hx; subst hx; rw [← e bs]; exact hA.slot d x h
 ·exact hA.slot i x' hx
theorem TS.slot (d : Nat) (h : look env d = some x) (e : ∀ bs, conc bs x = conc bs y) (k : TS C ops tl s S fuel listed ((d, y) :: env) L R Γ i) : TS C ops tl s S fuel listed env L R Γ i := by
 intro hS a w ⟨G, bs, hA, hI, hΓ⟩
 refine k hS a w ⟨G, bs, ⟨hA.size, hA.dfr, fun i x' hx => ?_⟩, hI, hΓ⟩
 rw [adg] at hx
 split at hx
 ·rename_i hi; subst hi; simp at hx; subst hx; rw [← e bs]; exact hA.slot d x h
 ·exact hA.slot i x' hx
theorem TS.idx [GoT α] {x y : Operand} {q : Nat} {m : Int} {p : Option Addr} {l : List α} (i ℓ j : Nat) (ht : aek C.P C.tt)
  (hi : getO ops.toList i = some o) (hg : gd ops env o = some true) (hd : o.dst = some d) (hlt : Nat.blt d C.fn.ntmps = true) (ho : o.op = .indexAddr T x y)
  (hx : ev env x = some (.v (.slice p q c))) (hy : ev env y = some (.v (.int .i64 m))) (hk : ajp C.tt T = some kk) (hℓ : look Γ ℓ = some (MF.rs kd p c l)) (hq : q = l.length) (hm : m = (j : Int)) (hj : j < l.length)
  (k : ∀ ad, p = some ad → TX C ops tl s S fuel (listed.setIfInBounds i true) ((d, .e (some ad) j kk 0) :: env) L R Γ) : TS C ops tl s S fuel listed env L R Γ i :=
 TS.peek i hi hg hd hlt fun G hΓ => by
  obtain ⟨x', ad, rfl, _⟩ := RdSl.get (i := j) (hΓ.get ℓ hℓ : RdSl G p c l) (List.getElem?_eq_getElem hj)
  exact ⟨_, Γ, al9 ht ho hx hy hk hm (by omega), fun h => h, k ad rfl⟩
theorem TS.ldE [GoT α] {x : Operand} {off : Nat} {ti : TI} {ad : Addr} {l : List α} (i ℓ m : Nat) (a : α) {val : X α → Value} {Γ' : X α → Facts} (ht : aek C.P C.tt)
  (hi : getO ops.toList i = some o) (hg : gd ops env o = some true) (hd : o.dst = some d) (hlt : Nat.blt d C.fn.ntmps = true) (ho : o.op = .load T x)
  (hx : ev env x = some (.e (some ad) j (GoT.k α) off)) (hT : look C.tt T = some ti) (hℓ : look Γ ℓ = some (MF.rs kd (some ad) c l)) (ha : l[j]? = some a)
  (hv : ∀ x, asm ti (sh a x) off = some (val x)) (hf : ∀ x, addF m (fa .der a x) Γ = some (Γ' x))
  (k : ∀ x, TX C ops tl s S fuel (listed.setIfInBounds i true) ((d, .v (val x)) :: env) L R (Γ' x)) : TS C ops tl s S fuel listed env L R Γ i :=
 TS.peek i hi hg hd hlt fun G hΓ => by
  obtain ⟨x', ad', had, hfa, hc⟩ := RdSl.get (i := j) (hΓ.get ℓ hℓ : RdSl G (some ad) c l) ha
  simp at had; subst had
  exact ⟨_, Γ' x', anc ht ho hx hT hc (hv x'), fun h => AllK.ders (hf x') (fun f hf => GoT.fak f hf) hfa h, k x'⟩
end Go.Stp
namespace Go.Stp
open GoT (X k ok sh fa oa)
theorem TXP.appF {C : Cx} {ops : Array Oper} {tl : List Nat} {st : List It} {S : World → Prop} {P : List PI} {fuel : Nat} {listed : Array Bool} {env : Env} {L : Locs} {R : Rows} {Γ : Facts} {o : Oper} (i m : Nat) {x y : Operand} {T by_ q c d : Nat} {z : Value} {p0 p : Option Addr} {α : Type} [GoT α] [Flat α] {kd : Kd} {l : List α} (ht : aek C.P C.tt)
  (hn : aol ops listed P P i = true) (hr : agx ops listed i = true) (hi : getO ops.toList i = some o) (hg : gd ops env o = some true) (hd : o.dst = some d) (ha : ai3 P i d = true) (hlt : Nat.blt d C.fn.ntmps = true) (ho : o.op = .call { callee := .builtin .append, args := #[x, y], argTypes := #[T, T] })
  (hx : ev env x = some (.v (.slice p0 0 0))) (hy : ev env y = some (.v (.slice p q c))) (hq : q = l.length) (hap : appO C.tt T = some (GoT.k α, by_, z)) (hz : z.cells.size = GoT.k α) (ℓ : Nat) (hℓ : look Γ ℓ = some (MF.rs kd p c l)) (hroom : l.length * by_ ≤ 140737488355328) (hmax : l.length ≤ 9223372036854775807)
  (k : ∀ p' c', TXP C ops tl st S P fuel (listed.setIfInBounds i true) ((d, .v (.slice p' l.length c')) :: env) L R ((m, MF.rs .der p' c' l) :: (m + 1, MF.os p' c' l) :: Γ)) : TXP C ops tl st S P (fuel + 1) listed env L R Γ := by
 subst hq
 refine TXP.next (d := d) hn hr ha fun hS hP D a w ⟨G, bs, hA, hI, hΓ, hF⟩ => ?_
 rw [aey] at hi
 have hi' : ops[i]? = some o := by simpa using hi
 obtain ⟨ti, e, te, hT, hde, hE, hks, rfl, rfl, hpos⟩ := ai2 hap
 obtain ⟨hu, _⟩ := ht.get hT
 rw [hde] at hu
 obtain ⟨xs, hs, hrd⟩ : ∃ xs, Src C.P te.size T (.slice p l.length c) l.length xs w ∧ RdL G xs l := by
  obtain ⟨h1, h2, xs, h4, h5⟩ := (hΓ.get ℓ hℓ : RdSl G p c l)
  refine ⟨xs, ?_, h5⟩
  rw [hks]
  cases hl : l with
  | nil =>
   subst hl
   have hxs : xs = [] := h5
   subst hxs
   cases hp : p with
   | none => exact Src.ofNil w hu c
   | some ad => exact Src.ofSlice w hu ad 0 c [] (by simp) (fun j u h => by simp at h) (fun u h => by cases h)
  | cons a l' =>
   have hlen := h5.len
   have hpos := GoT.pos (α := α)
   obtain ⟨u, hu0⟩ : ∃ u, xs[0]? = some u := ⟨_, List.getElem?_eq_getElem (by rw [hlen, hl]; simp only [List.length_cons, Nat.add_mul]; omega)⟩
   obtain ⟨ad, had, _⟩ := h4 0 u hu0
   subst had
   rw [← hl]
   exact Src.ofSlice w hu ad l.length c xs hlen (fun j u hj => by
    obtain ⟨ad', h', hg'⟩ := h4 j u hj
    simp at h'; subst h'
    exact hI.le.cell hg') h5.one
 have hrow : aid C.M w G 0 ⟨te.size, p0, 0, 0, []⟩ := ⟨by simp, .inl ⟨rfl, rfl⟩⟩
 obtain ⟨p', c', w', b', hrun, ⟨hr1, hr2⟩, honly, hnew⟩ := ahs (ty := o.type) ht hT hde hE hpos hrow rfl (.inl hI.keep.size) hI.le hs (by simp only [maxLen]; omega) (by simpa using hroom) (by rw [hz, hks])
 have hexec : (execOp a.eval o).run C.P w = .ok (.value (.slice p' l.length c')) w' := by
  unfold execOp
  simp only [Nat.zero_add] at hrun
  simp only [ho, resolve, invoke, builtin, Sem.run_bind, Sem.run_pure, Result.andThen_ok, List.map_toArray, List.map_cons, List.map_nil, ad7 hA hx, ad7 hA hy, apo, hrun]
 have hb : Kp emp w w' := ⟨honly.os, honly.tape, honly.output, honly.size, fun j hj _ => honly.block j hj (fun h => absurd rfl h)⟩
 obtain ⟨h, hle1, hdom, how⟩ : ∃ h, Le h (hp w') ∧ (∀ b o, h b = some o → w.heap.size ≤ b) ∧ OwSl h p' c' l := by
  have triv : c' = 0 → l.length = 0 → ∃ h, Le h (hp w') ∧ (∀ b o, h b = some o → w.heap.size ≤ b) ∧ OwSl h p' c' l := fun hc hn0 => ⟨emp, aes _, (fun _ _ h => by cases h), .inl ⟨hc, List.eq_nil_of_length_eq_zero hn0⟩⟩
  rcases hr2 with ⟨hc, hn0⟩ | ⟨o1, hpp, hB, hGb, hnc, hcm, cur, T', hh, hcs, htk⟩
  ·exact triv hc (by simpa using hn0)
  ·by_cases hc0 : c' = 0
   ·subst hc0
    refine triv rfl ?_
    have : 0 + l.length ≤ 0 := hnc
    omega
   ·have hnb : w.heap.size ≤ b' := by
     rcases hnew with ⟨_, h0⟩ | h0 | h0
     ·exact absurd rfl h0
     ·exact h0
     ·exact absurd h0 hc0
    refine ⟨sgl b' (.cells cur T' (0, 0)), ar7 hh, fun b q hx => ?_, .inr ⟨b', o1, T', cur, emp, hpp, aif _ _, aes _, rfl, by simpa using hnc, hcm, by rw [← hks]; exact hcs, ?_⟩⟩
    ·by_cases hbb : b = b'
     ·subst hbb; exact hnb
     ·rw [ako _ hbb] at hx; cases hx
    ·have h9 : (cur.toList.drop o1).take ((0 + l.length) * te.size) = [] ++ xs := htk
     rw [← hks]
     rw [Nat.zero_add, List.nil_append] at h9
     rw [h9]
     exact hrd.flat emp
 unfold wpOp
 simp only [hi']
 rw [if_pos (aee hA hg)]
 refine .inl ?_
 unfold Oper.wp
 rw [hexec]
 show (_ → _) ∧ _
 rw [hd]
 refine ⟨fun _ hs => hS _ _ hb hs, ?_⟩
 obtain ⟨hI', hdj⟩ := hI.called (aes _) (fun _ _ h => by cases h) hb hle1 (fun b o h => .inl (hdom b o h))
 refine k p' c' hS (hP.step ha) D _ _ ⟨_, bs, hA.put (by simpa [Nat.blt_eq] using hlt) (.v _), hI', hΓ.after (n := m) (gs := [MF.os p' c' l]) (ds := [MF.rs .der p' c' l]) hdj (fun b o hb' => .inl (Nat.le_trans hI.keep.size (hdom b o hb'))) (aiz how) (fun f hf => by cases List.mem_singleton.1 hf; rfl) (All.cons how.rd All.nil) rfl, hF.keep hb (fun _ _ _ => rfl) (fun b h1 h2 _ => al8 (agl h1) ?_) (fun _ h => h) fun it hit => (age ha it hit).2⟩
 cases hx : h b with
 | none => rfl
 | some q => have := hdom b q hx; omega
end Go.Stp
namespace Go.Stp
variable {C : Cx} {env : Env} {L : Locs} {R : Rows} {G : GH} {o : Oper} {x y : Operand} {T T' : Nat} {k : IntKind} {m n : Int}
def bkO (b : BinOp) (k : IntKind) (m n : Int) : Option Int :=
 match b with
 | .add => some (k.wrap (m + n))
 | .sub => some (k.wrap (m - n))
 | .mul => some (k.wrap (m * n))
 | .and => some (k.wrap ((BitVec.ofInt k.bits m &&& BitVec.ofInt k.bits n).toNat : Int))
 | _ => none
theorem agd {b : BinOp} (q : Int) (ho : o.op = .binOp b T x y T')
  (hx : ev env x = some (.v (.int k m))) (hy : ev env y = some (.v (.int k n))) (hq : bkO b k m n = some q) : Looks C env L R G o (.v (.int k q)) := by
 intro a w G' bs _ hA hI
 unfold execOp
 simp only [ho, ad7 hA hx, ad7 hA hy, conc]
 cases b <;> simp [bkO] at hq <;> subst hq <;> simp [eqGuard, binOp, Op.intArith, Op.intBits]
theorem aj0 {kq : IntKind} (q : Int) (ho : o.op = .binOp .shr T x y T') (hx : ev env x = some (.v (.int k m))) (hy : ev env y = some (.v (.int kq n))) (h0 : 0 ≤ n) (hq : m.fdiv (2 ^ (min n.toNat k.bits)) = q) : Looks C env L R G o (.v (.int k q)) := by
 intro a w G' bs _ hA hI
 unfold execOp
 have h1 : ¬ n < 0 := by omega
 simp [ho, ad7 hA hx, ad7 hA hy, conc, eqGuard, binOp, Op.shift, h1, hq]
theorem anv {S : Nat} {si ti : TI} {sd : TypeDesc} {k' : IntKind} (q : Int) (ht : aek C.P C.tt) (ho : o.op = .convert S T x) (hS : look C.tt S = some si) (hs : si.desc = sd) (hT : look C.tt T = some ti) (hk : ti.desc = .int k')
  (hx : ev env x = some (.v (.int k n))) (hq : k'.wrap n = q) : Looks C env L R G o (.v (.int k' q)) := by
 have h := ao3 (L := L) (R := R) (G := G) ht ho hS hs hT hk hx
 rwa [hq] at h
theorem ari (ho : o.op = .binOp .gtr T x y T') (hx : ev env x = some (.v (.int k m))) (hy : ev env y = some (.v (.int k n))) (h : ¬ m > n) : Looks C env L R G o .F := by
 intro a w G' bs _ hA hI
 unfold execOp
 simp [ho, ad7 hA hx, ad7 hA hy, conc, eqGuard, binOp, Op.intCmp]
 omega
theorem alc (p : Option Addr) (c kk : Nat) : offP p c 0 kk = p := by
 unfold offP
 split
 ·rfl
 ·cases p with
  | none => rfl
  | some a => simp [Addr.add]
theorem aw5 {α : Type} [GoT α] {p : Option Addr} {c : Nat} {l : List α} (h : RdSl G p c l) : ∃ xs, akf G p xs ∧ RdL G xs l := by
 obtain ⟨_, _, xs, h1, h2⟩ := h
 exact ⟨xs, h1, h2⟩
end Go.Stp
namespace Go.Stp
open Go.RowKit (Below)
theorem WX.callPM {C : Cx} {ops : Array Oper} {o : Oper} {r : List Oper} {s : List It} {env : Env} {L : Locs} {R : Rows} {Γ Γ1 : Facts} {fs : List MF} {f : Operand} {args : List Operand} {ats : Array TypeId} {g : FuncId} {sf : SV} {svs : List SV} {caps : (Nat → Nat) → List Value} {T : Nat} {cs : List Value}
    {ι : Type} {val val' : ι → Value} {cs' : ι → List Value} {gs ds : ι → List MF} {Q : Prop} {d : Nat} {Γ' : ι → Facts} (lab : Nat) (ks : List Nat) (n : Nat) (hl : look L lab = some ⟨T, cs⟩) (hks : agt ks Γ = some (fs, Γ1)) (hds : ∀ i h, Sep h (gs i) → All h (ds i)) (hdk : ∀ i, ∀ f ∈ ds i, f.k = .der) (hg : gd ops env o = some true) (hd : o.dst = some d) (hlt : Nat.blt d C.fn.ntmps = true) (ho : o.op = .call { callee := .value f, args := args.toArray, argTypes := ats })
    (hf : ev env f = some sf) (hsf : ∀ bs, conc bs sf = .func (.func g) #[] (caps bs).toArray) (hargs : evs env args = some svs)
    (hc : ∀ w G bs H, HInv C w G bs L R → Le H (hp w) → Sep H (MF.bx (bs lab) T cs :: fs) → AllK C.M (cut (hp w) H) Γ1 → Does C.P g (svs.map (conc bs) ++ caps bs).toArray w H (Post w H val (fun i => MF.bx (bs lab) T (cs' i) :: gs i) Q))
    (hv : ∀ i, aio (val i) = some (val' i)) (hΓ' : ∀ i, addF n (ds i ++ gs i) Γ1 = some (Γ' i))
    (k : ∀ i, Q → WX C (.ops ops r :: s) ((d, .v (val' i)) :: env) (setL L lab (cs' i)) R (Γ' i)) : WX C (.ops ops (o :: r) :: s) env L R Γ := by
  rintro a w ⟨G, bs, hA, hI, hΓ⟩
  show wpList C.P ops (cont C s) (o :: r) a w
  unfold wpList
  rw [if_pos (aee hA hg)]
  refine .inl ?_
  unfold Oper.wp
  obtain ⟨H, q1, q2, q3, q4⟩ := agi hks hΓ
  obtain ⟨h1, h2, h3⟩ := hI.loc lab _ hl
  have hBG : Dj (sgl (bs lab) (lobj ⟨T, cs⟩)) G := amd h3
  have hBH : Dj (sgl (bs lab) (lobj ⟨T, cs⟩)) H := hBG.mono (Le.refl _) q1
  have hHw : Le H (hp w) := q1.trans hI.le
  have hcut : Le (cut G H) (cut (hp w) (join (sgl (bs lab) (lobj ⟨T, cs⟩)) H)) := ail ((ai0 _ _).trans hI.le) (fun b => by
    unfold join
    cases hx : sgl (bs lab) (lobj ⟨T, cs⟩) b with
    | some q => exact .inl (agl ((hBG b).resolve_left (by rw [hx]; simp)))
    | none => exact ajs G H b)
  obtain ⟨he, hcalls⟩ := hc w G bs (join (sgl (bs lab) (lobj ⟨T, cs⟩)) H) hI (afg (ar7 h1) hHw) ⟨_, H, adz _ _, aer hBH, hBH, aif _ _, q3⟩ (q4.mono hcut)
  rw [ah9 he ho (by rw [ad7 hA hf, hsf]) (ah0 hA args svs hargs)]
  simp only [Oper.upon]
  refine hcalls.mono fun e w' ⟨v, hve, hb, hψ⟩ => ?_
  subst hve
  obtain ⟨i, h, rfl, hq, hle, hdom, ha, hr, a1, a2, a3, a4, a5⟩ := hψ
  have a4' : ha (bs lab) = some (lobj ⟨T, cs' i⟩) := a4
  rw [hd, ← aic (hv i)]
  have hM : ∀ b q, join (sgl (bs lab) (lobj ⟨T, cs⟩)) H b = some q → C.M b := fun b q hx => by
    by_cases hbb : b = bs lab
    · subst hbb; exact h2
    · unfold join at hx; rw [ako _ hbb] at hx; exact q2 b q hx
  obtain ⟨hI', hdj⟩ := (hI.drop hl).called (Hc := join (sgl (bs lab) (lobj ⟨T, cs⟩)) H) (afg (aer hBG.symm) (q1.trans (adz _ _))) hM hb hle hdom
  have hG1 : Le (cut G H) (cut (join G (sgl (bs lab) (lobj ⟨T, cs⟩))) (join (sgl (bs lab) (lobj ⟨T, cs⟩)) H)) := ail ((ai0 _ _).trans (adz _ _)) (fun b => by
    unfold join
    cases hx : sgl (bs lab) (lobj ⟨T, cs⟩) b with
    | some q => exact .inl (agl ((hBG b).resolve_left (by rw [hx]; simp)))
    | none => exact ajs G H b)
  have hlab : h (bs lab) = some (lobj ⟨T, cs' i⟩) := a1 _ _ a4'
  have hG2 : join (cut (join G (sgl (bs lab) (lobj ⟨T, cs⟩))) (join (sgl (bs lab) (lobj ⟨T, cs⟩)) H)) h (bs lab) = some (lobj ⟨T, cs' i⟩) := aer hdj.symm _ _ hlab
  have hI2 := hI'.take (i := lab) (l := ⟨T, cs' i⟩) (L' := setL L lab (cs' i)) (fun j => by
    rw [aiu, al4]
    by_cases hij : lab = j
    · subst hij; simp [hl]
    · simp [hij]) (fun r hr' => hI.dis lab _ r hl hr') hG2 h2
  have hdr : Dj hr (cut G H) := hdj.mono a2 hG1
  have hΓ2 := q4.after (h := hr) (n := n) (ds := ds i) hdr (fun b q hx => by
    rcases hdom b q (a2 b q hx) with h4 | h4
    · exact .inl (Nat.le_trans hI.keep.size h4)
    · cases hy : join (sgl (bs lab) (lobj ⟨T, cs⟩)) H b with
      | none => exact absurd hy h4
      | some z => exact hM b z hy) a5 (hdk i) (hds i hr a5) (hΓ' i)
  refine k i hq _ _ ⟨_, bs, hA.put (by simpa [Nat.blt_eq] using hlt) (.v _), hI2, hΓ2.mono (afg ?_ ?_)⟩
  · refine ail (hG1.trans (adz _ _)) (amd ?_).symm
    exact agl h3
  · refine ail (a2.trans (aer hdj.symm)) (amd ?_).symm
    cases hx : hr (bs lab) with
    | none => rfl
    | some q => rcases a3 (bs lab) with h5 | h5
                · rw [a4'] at h5; cases h5
                · rw [hx] at h5; cases h5
theorem WX.fin {C : Cx} {env : Env} {L : Locs} {R : Rows} {Γ : Facts} (ht : aek C.P C.tt) {vs : List Value} (hv : resV C.tt env L C.fn.results.toList = some vs)
  (k : ∀ w G bs, HInv C w G bs L R → AllK C.M G Γ → C.Φ (tup vs) w) : WX C [] env L R Γ := by
 rintro a w ⟨G, bs, hA, hI, hΓ⟩
 exact ⟨hA.dfr, tup vs, ane (ajk ht hA hI _ _ hv), tup vs, rfl, hI.keep, k w G bs hI hΓ⟩
end Go.Stp
namespace Go.Stp
variable {α : Type} {x : Int}
theorem mid (p : List α) (e : α) (l : List α) : (p ++ e :: l)[p.length]? = some e := by simp
theorem afa (p : List α) (e x : α) (l : List α) : (p ++ e :: l).set p.length x = (p ++ [x]) ++ l := by simp
theorem aea (p : List α) (e : α) (l : List α) : (p ++ [e]) ++ l = p ++ e :: l := by simp
theorem ae9 (p : List α) (e : α) : (p ++ [e]).length = p.length + 1 := by simp
def SzR (r left : Int) (s : Nat) : Prop := r = -1 ∨ ((s : Int) ≤ left ∧ r = left - s)
theorem SzR.pos {r left : Int} {s : Nat} (h : SzR r left s) (hr : 0 ≤ r) : (s : Int) ≤ left ∧ r = left - s := by
 rcases h with h | h
 ·omega
 ·exact h
def SzL (r : Ctl Int Int) (left : Int) (s : Nat) : Prop := r = .ret (-1) ∨ ((s : Int) ≤ left ∧ r = .nxt (left - s))
theorem dF (h : 0 ≤ x) : decide (x < 0) = false := decide_eq_false (by omega)
theorem dT (h : x < 0) : decide (x < 0) = true := decide_eq_true h
theorem afe {n : Nat} (h0 : 0 ≤ x) (h1 : x ≤ 1048576) (hn : n ≤ 9223372036854775807) : i64.wrap (x - (n : Int)) = x - n := ajh (by unfold I64; omega)
theorem aft (h0 : 0 ≤ x) (h1 : x ≤ 4611686018427387904) : i64.wrap (x + 1) = x + 1 := ajh (by unfold I64; omega)
theorem ads [GoT α] [Sz α] (a : α) (l : List α) : szL (a :: l) = sz a + szL l := by simp [szL]
theorem aed [GoT α] [Sz α] : szL ([] : List α) = 0 := rfl
theorem akj {α : Type} [GoT α] [Sz α] (h : ∀ a : α, sz a = 0) : ∀ l : List α, szL l = 0
 | [] => rfl
 | a :: l => by rw [ads, h a, akj h l]
theorem ay2 (l : List UInt8) : szL l = 0 := akj (fun _ => rfl) l
theorem awt (l : List Int) : szL l = 0 := akj (fun _ => rfl) l
def MkR (k k' : Int) (s : Nat) (held : Int) : Prop := k ≤ k' ∧ k' ≤ k + 16 * (s : Int) ∧ held = k'
theorem ad2 [BEq α] [LawfulBEq α] (a : α) : (a != a) = false := by simp
theorem ade [BEq α] [LawfulBEq α] (a : α) : (!(a == a)) = false := by simp
theorem ajr : ∀ l : List UInt8, Op.bytesLess l l = false
 | [] => rfl
 | a :: l => by simp [Op.bytesLess, ajr l]
theorem avg (a b : List UInt8) : ((bif Op.bytesLess a b then (-1) else bif (!(Op.bytesLess a b || a == b)) then 1 else 0 : Int) = 0) ↔ a = b := by
 cases h : Op.bytesLess a b
 ·by_cases e : a = b
  ·simp [e]
  ·have : (a == b) = false := by simpa using e
   simp [this, e]
 ·constructor
  ·intro x; simp at x
  ·intro e; rw [e, ajr] at h; cases h
end Go.Stp
namespace Go.Stp
open Go.RowKit (Below)
open GoT (X k ok sh fa oa)
variable {P : Program} {T : TypeId} {f : Field} {off : Nat} {α β : Type} {fs : Array Field}
def Opens (P : Program) (T : TypeId) (α : Type) [GoT α] : Prop :=
 P.cellsOf T = k α ∧ ∀ {H : Type} {enc : TypeId × Value → H} {w : World} {spare : Nat → Bool} {held : Bool} {fuel : Nat} {cs : List Value} {x : DataW H × List MemPlace}, DataW.trod enc P w 0 spare held fuel T cs = some x →
  ∃ (a : α) (y : X α), cs = sh a y ∧ ok 10 a ∧ All (hp w) (fa .der a y)
theorem ahb (h : P.underlying T = some (.int .i64)) (hc : P.cellsOf T = 1) : Opens P T Int := ⟨hc, fun h' => by
 obtain ⟨n, rfl, _, hw⟩ := DataW.trod_int h h'
 exact ⟨n, (), rfl, by simpa [Lit.wf, IntKind.min, IntKind.max, IntKind.signed, IntKind.bits, ok, I64] using hw, (fun _ h_ => by cases h_)⟩⟩
theorem aqr (h : P.underlying T = some .string) (hc : P.cellsOf T = 1) : Opens P T ByteArray := ⟨hc, fun h' => by
 obtain ⟨n, rfl, _, hw⟩ := DataW.trod_string h h'
 exact ⟨n, (), rfl, (by simp only [maxLen] at hw; omega : n.size ≤ 9223372036854775807), (fun _ h_ => by cases h_)⟩⟩
theorem aty (h : P.underlying T = some (.int .u8)) (hc : P.cellsOf T = 1) : Opens P T UInt8 := ⟨hc, fun h' => by
 obtain ⟨n, rfl, _, hw⟩ := DataW.trod_int h h'
 have hn : 0 ≤ n ∧ n ≤ 255 := by simpa [Lit.wf, IntKind.min, IntKind.max, IntKind.signed, IntKind.bits] using hw
 refine ⟨UInt8.ofNat n.toNat, (), ?_, trivial, (fun _ h_ => by cases h_)⟩
 have : ((UInt8.ofNat n.toNat).toNat : Int) = n := by
  rw [UInt8.toNat_ofNat', Nat.mod_eq_of_lt (by omega)]; omega
 simp only [sh]
 rw [this]⟩
theorem asp {w : World} {a : Addr} {n : Nat} {cs : List Value} (h : w.cells? 0 a n = some cs) : ∀ j u, cs[j]? = some u → w.cell? (a.add j) = some u := by
 intro j u hj
 obtain ⟨_, h1, h2⟩ := World.cells?_some h
 rw [h2 j (by rw [← h1]; exact (List.getElem?_eq_some_iff.1 hj).1)]; exact hj
theorem afr {P : Program} {T E : TypeId} {α : Type} [GoT α] (h : P.underlying T = some (.slice E)) (hc : P.cellsOf T = 1) (he : Opens P E α) : Opens P T (List α) := ⟨hc, fun {H enc w spare held fuel cs x} h' => by
 rcases DataW.trod_slice h h' with ⟨rfl, _⟩ | ⟨a, len, cap, elems, rest, n, _, rfl, _, _, hl, hm, hlen, hel, _, _⟩
 ·exact ⟨[], (none, 0), rfl, ⟨Nat.zero_le _, fun _ h_ => by cases h_⟩, fun f hf => by
   obtain rfl := List.mem_singleton.1 hf
   exact ⟨Nat.zero_le _, Nat.zero_le _, [], fun j u h => by simp at h, rfl⟩⟩
 ·have key : ∀ m, m ≤ len → ∃ (l : List α) (xs : List Value), l.length = m ∧ xs.length = m * k α ∧ RdL (hp w) xs l ∧ (∀ b ∈ l, ok 10 b) ∧ akf (hp w) (some a) xs := by
   intro m
   induction m with
   | zero => exact fun _ => ⟨[], [], rfl, by simp, rfl, by simp, fun j u h => by simp at h⟩
   | succ m ih =>
    intro hmle
    obtain ⟨l, xs, h1, h2, h3, h4, h5⟩ := ih (by omega)
    have hm' := hel m (by omega)
    rw [he.1] at hm'
    obtain ⟨y, hy⟩ : ∃ y, elems[m]? = some y := ⟨_, List.getElem?_eq_getElem (by omega)⟩
    rw [hy, Option.bind_eq_some_iff] at hm'
    obtain ⟨cs', hcs, htr⟩ := hm'
    obtain ⟨b, yb, rfl, hok, hfa⟩ := he.2 htr
    refine ⟨l ++ [b], xs ++ sh b yb, by simp [h1], by rw [List.length_append, h2, GoT.len, Nat.add_mul]; omega, h3.snoc hfa, ?_, ?_⟩
    ·intro c hc
     rcases List.mem_append.1 hc with hc | hc
     ·exact h4 c hc
     ·simp at hc; subst hc; exact hok
    ·intro j u hj
     refine ⟨a, rfl, ?_⟩
     by_cases hlt : j < xs.length
     ·rw [List.getElem?_append_left hlt] at hj
      obtain ⟨a', ha', hg⟩ := h5 j u hj
      simp at ha'; subst ha'; exact hg
     ·rw [List.getElem?_append_right (by omega)] at hj
      have := asp hcs _ _ hj
      rw [ag2, h2, show m * k α + (j - m * k α) = j by omega] at this
      exact this
  obtain ⟨l, xs, h1, h2, h3, h4, h5⟩ := key len (Nat.le_refl _)
  have hm' : len ≤ 9223372036854775807 := by simp only [maxLen] at hm; omega
  refine ⟨l, (some a, cap), by simp [sh, h1], ⟨by show l.length ≤ 9223372036854775807; omega, h4⟩, fun f hf => ?_⟩
  obtain rfl := List.mem_singleton.1 hf
  exact ⟨by omega, by omega, xs, h5, h3⟩⟩
def asx (P : Program) (fs : List Field) (off : Nat) (β : Type) [GoT β] : Prop :=
 ∀ {H : Type} {enc : TypeId × Value → H} {w : World} {spare : Nat → Bool} {held : Bool} {n : Nat} {cs : List Value},
  (∀ (i : Nat) (f : Field), fs[i]? = some f → ∃ y, DataW.trod enc P w 0 spare held n f.type ((cs.drop f.offset).take (P.cellsOf f.type)) = some y) →
  ∃ (b : β) (y : X β), (cs.drop off).take (k β) = sh b y ∧ ok 10 b ∧ All (hp w) (fa .der b y)
theorem ag4 [GoT α] (ho : f.offset = off) (hf : Opens P f.type α) : asx P [f] off α := fun {H enc w spare held n cs} h => by
 obtain ⟨y, hy⟩ := h 0 f rfl
 obtain ⟨a, ya, h1, h2, h3⟩ := hf.2 hy
 rw [hf.1, ho] at h1
 exact ⟨a, ya, h1, h2, h3⟩
theorem afc {fs : List Field} [GoT α] [GoT β] (ho : f.offset = off) (hf : Opens P f.type α) (hr : asx P fs (off + k α) β) : asx P (f :: fs) off (α × β) := fun {H enc w spare held n cs} h => by
 obtain ⟨y, hy⟩ := h 0 f rfl
 obtain ⟨a, ya, h1, h2, h3⟩ := hf.2 hy
 obtain ⟨b, yb, k1, k2, k3⟩ := hr (cs := cs) (fun i g hg => h (i + 1) g (by simpa using hg))
 rw [hf.1, ho] at h1
 refine ⟨(a, b), (ya, yb), ?_, ⟨h2, k2⟩, All.append h3 k3⟩
 show (cs.drop off).take (k α + k β) = sh a ya ++ sh b yb
 rw [← h1, ← k1, List.take_add, List.drop_drop]
theorem afl [GoT β] (e : α → β) (mk : β → α) (hm : ∀ b, e (mk b) = b) (h : P.underlying T = some (.struct fs)) (hc : P.cellsOf T = k β) (hf : asx P fs.toList 0 β) :
  @Opens P T α (GoT.via e) := by
 letI : GoT α := GoT.via e
 refine ⟨hc, fun {H enc w spare held fuel cs x} h' => ?_⟩
 obtain ⟨xs, n, _, _, hcl, hxl, hall⟩ := DataW.trod_struct h h'
 obtain ⟨b, y, h1, h2, h3⟩ := hf (cs := cs) (fun i f hi => by
  have hi' : fs[i]? = some f := by simpa using hi
  have := hall i f hi'
  obtain ⟨z, hz⟩ : ∃ z, xs[i]? = some z := ⟨_, List.getElem?_eq_getElem (by rw [hxl]; exact (Array.getElem?_eq_some_iff.1 hi').1)⟩
  exact ⟨z, by rw [this, hz]⟩)
 rw [List.drop_zero, List.take_of_length_le (by rw [hcl, hc]; exact Nat.le_refl _)] at h1
 refine ⟨mk b, y, ?_, ?_, ?_⟩
 ·show cs = sh (e (mk b)) y; rw [hm]; exact h1
 ·show ok 10 (e (mk b)); rw [hm]; exact h2
 ·show All (hp w) (fa .der (e (mk b)) y); rw [hm]; exact h3
def Arg (P : Program) (T : TypeId) (α : Type) [GoT α] (mk : List Value → Value) : Prop :=
 ∀ {H : Type} {enc : TypeId × Value → H} {W : World} {b0 : Nat} {spare : Nat → Bool} {held : Bool} {v : Value} {d : DataW H} {ps : List MemPlace}, Value.okWide P W .any b0 T v → DataW.Trod enc P W 0 spare held T v d ps →
  ∃ (a : α) (y : X α), v = mk (sh a y) ∧ ok 10 a ∧ All (hp W) (fa .der a y)
theorem apl [GoT α] (h : P.underlying T = some (.struct fs)) (ho : Opens P T α) : Arg P T α (fun cs => .agg ⟨cs⟩) := by
 intro H enc W b0 spare held v d ps hval ⟨fuel, hf⟩
 simp only [Value.okWide, h] at hval
 obtain ⟨cs, rfl, _⟩ := hval
 obtain ⟨a, y, h1, h2, h3⟩ := ho.2 hf
 refine ⟨a, y, ?_, h2, h3⟩
 have : cs.toList = sh a y := by simpa [Value.cells] using h1
 rw [← this]
theorem ax2 (h : P.underlying T = some (.int .i64)) : Arg P T Int (fun cs => cs.headD undef) := by
 intro H enc W b0 spare held v d ps hval ht
 obtain ⟨n, rfl, _, _, hw⟩ := ChangeShapes.open_int h hval ht
 exact ⟨n, (), rfl, by simpa [Lit.wf, IntKind.min, IntKind.max, IntKind.signed, IntKind.bits, ok, I64] using hw, (fun _ h_ => by cases h_)⟩
theorem auw {P : Program} {T E : TypeId} {α : Type} [GoT α] (h : P.underlying T = some (.slice E)) (ho : Opens P T (List α)) : Arg P T (List α) (fun cs => cs.headD undef) := by
 intro H enc W b0 spare held v d ps hval ⟨fuel, hf⟩
 obtain ⟨a, y, h1, h2, h3⟩ := ho.2 hf
 refine ⟨a, y, ?_, h2, h3⟩
 cases v with
 | agg cs => simp [Value.okWide, h, Cell.okWide, Cell.ok] at hval
 | _ => first | (simp [Value.cells, sh] at h1; done) | (simp [Value.cells, sh] at h1; simp [sh, h1])
theorem ala {H : Type} {enc : TypeId × Value → H} {P : Program} (hl : laidOutB P = true) {W W' : World} {sp : Nat → Bool} : ∀ {ts : List TypeId} {vs : List Value} {ds : List (DataW H)} {ps : List MemPlace},
  ts.all (fun t => P.readableRec t && decide (t < P.types.size)) = true → DataW.TrodAll enc P W 0 (fun _ => true) true ts vs ds ps → (∀ p ∈ ps, W.sameAt W' p) → (∀ p ∈ ps, sp p.block = true) → DataW.TrodAll enc P W' 0 sp true ts vs ds ps
 | [], [], [], _, _, h, _, _ => h
 | t :: ts, v :: vs, d :: ds, ps, ha, ⟨p, q, h1, h2, e⟩, hs, hsp => by
  simp only [List.all_cons, Bool.and_eq_true, decide_eq_true_eq] at ha
  subst e
  exact ⟨p, q, WideElems.Trod_stays hl ha.1.1 ha.1.2 h1 (fun x hx => hs x (List.mem_append_left _ hx)) (fun x hx => hsp x (List.mem_append_left _ hx)),
   ala hl ha.2 h2 (fun x hx => hs x (List.mem_append_right _ hx)) (fun x hx => hsp x (List.mem_append_right _ hx)), rfl⟩
theorem anb {H : Type} {enc : TypeId × Value → H} {P : Program} {W : World} {b : Nat} {sp : Nat → Bool} {hd : Bool} : ∀ {ts : List TypeId} {vs : List Value} {ds : List (DataW H)} {ps : List MemPlace}, DataW.TrodAll enc P W b sp hd ts vs ds ps → ds.length = ts.length
 | [], [], [], _, _ => rfl
 | _ :: _, _ :: _, _ :: _, _, ⟨_, _, _, h2, _⟩ => by simp [anb h2]
theorem aw6 {H : Type} {enc : TypeId × Value → H} {f : Func} {s : ChangeSpec} {W W' : World} {args : Array Value} {ds gs : List (DataW H)} {before : List MemPlace} {B : TypeId}
  (hl : laidOutB P = true) (hpar : f.params.toList.all (fun t => P.readableRec t && decide (t < P.types.size)) = true) (hvars : s.vars = []) (hB : f.resultTypes = #[B]) (hu : P.underlying B = some .bool)
  (hfn : ∀ ds : List (DataW H), ds.length = f.params.size → s.fn H ds = { results := [.lit (.bool true)], args := ds })
  (hW : DataW.Whole enc P f.params.toList s.vars false W args.toList ds gs before) (hb : Below W.heap.size W W') : s.post enc P f false true false false W args (.bool true) W' := by
 have hW' := hW
 have hlt : ∀ p ∈ before, p.block < W.heap.size := fun p hp => hW.lt p hp
 obtain ⟨p, q, hA, hV, rfl, hfz, hnd⟩ := hW'
 rw [hvars] at hV
 obtain ⟨rfl, rfl⟩ := ChangeShapes.trodVars_none hV
 have hlen : ds.length = f.params.size := by simpa using anb hA
 have hdd : s.fn H (ds ++ []) = { results := [.lit (.bool true)], args := ds } := by rw [List.append_nil]; exact hfn ds hlen
 have hres : ∀ (b : Nat) (sp : Nat → Bool) (hd : Bool), DataW.TrodAll enc P W' b sp hd f.resultTypes.toList ((Value.bool true).resultList f.resultTypes.size) (s.fn H (ds ++ [])).results [] := by
  intro b sp hd
  rw [hdd, hB]
  exact trodAll_cons_mk (RowKit.shut_bool hu _) ChangeShapes.trodAll_mk0
 have hargs : ∀ sp : Nat → Bool, (∀ x ∈ p ++ [], sp x.block = true) → DataW.TrodAll enc P W' 0 sp true f.params.toList args.toList (s.fn H (ds ++ [])).args p := by
  intro sp hsp
  rw [hdd]
  exact ala hl hpar hA (fun x hx => hb.same (hlt x (by simpa using hx))) (fun x hx => hsp x (by simpa using hx))
 have hvars' : ∀ sp : Nat → Bool, DataW.TrodVars enc P W' sp s.vars (s.fn H (ds ++ [])).vars [] := by
  intro sp; rw [hvars, hdd]; rfl
 have hold : ∀ x ∈ p ++ [], (fun b => decide (b < W.heap.size)) x.block = true := fun x hx => by simpa using hlt x hx
 refine ⟨ds, [], p ++ [], [], p, [], hW, hres _ _ _, hargs _ hold, hvars' _, World.keptBut_mono (fun x hx => ⟨hx, Or.inr (by simpa using hx)⟩) (hb.frame (· ∈ p ++ [])), fun h => (by cases h)⟩
end Go.Stp
namespace Go.Proofs.YtpmejlbgjkiobaaGreat
open Go.Stp
variable {fn : Func} {w0 : World} {H G G0 H0 : GH} {pin : Option Nat} {Φ : Value → World → Prop} {s st s0 : List It} {env env' ek env0 : Env} {L lk L0 : Locs} {R R' : Go.Stp.Rows} {Γ Γ1 gk Γ2 Γ0 : Facts} {vs cs xs ys A B cs' : List Value} {e b : Bool} {α α0 α1 α2 α3 α4 ι : Type} {p0 p1 p2 p3 p4 p : Option Addr} {c0 c1 c2 c3 c4 c n d T fuel i len kk off by_ T' : Nat} {f x y : Operand} {g : FuncId} {args : List Operand} {C : Cx} {ops : Array Oper} {o : Oper} {r : List Oper} {ats : Array TypeId} {sf sv : SV} {svs : List SV} {caps : (Nat → Nat) → List Value} {Q : Prop} {tl : List Nat} {bs : Nat → Nat} {listed : Array Bool} {S : World → Prop} {P : List PI} {fs : List MF} {v z : Value} {parts : Array (Nat × Operand)} {row src : Row} {m : Int} {kd : Kd} {ti : TI} {ad : Addr}
theorem R0 {s' : List It} {L' : Locs} (k : WX ⟨Tryz.prog, fn, tt, w0, H, pin, Φ⟩ s' env' L' R Γ) (h : exec tt fn.ntmps R 1000 s env L = (s', env', L') := by exact rfl) : WX ⟨Tryz.prog, fn, tt, w0, H, pin, Φ⟩ s env L R Γ := WX.run ttOk h k
theorem R1 (k : ∀ w G bs, HInv ⟨Tryz.prog, fn, tt, w0, H, pin, Φ⟩ w G bs L R → AllK (Cx.M ⟨Tryz.prog, fn, tt, w0, H, pin, Φ⟩) G Γ → Φ (tup vs) w) (h : resV tt env L fn.results.toList = some vs := by exact rfl) : WX ⟨Tryz.prog, fn, tt, w0, H, pin, Φ⟩ (.code .ret :: s) env L R Γ := WX.ret ttOk h k
theorem Z {α : Sort _} {a : α} : a = a := rfl
theorem J {α : Sort _} {a b : α} (h : a = b := by kernel_rfl) : a = b := h
theorem O {α : Sort _} {β : Sort _} {f : α → β} (x : α) : f x = f x := rfl
theorem cT (a b : α) : cond true a b = a := rfl
theorem cF (a b : α) : cond false a b = b := rfl
theorem aS1 [GoT α0] {l0 : List α0} (a0 : RdSl G p0 c0 l0) : AllS G [(0, MF.rs .stb p0 c0 l0)] := afb rfl a0 adc
theorem aS2 [GoT α0] {l0 : List α0} [GoT α1] {l1 : List α1} (a0 : RdSl G p0 c0 l0) (a1 : RdSl G p1 c1 l1) : AllS G [(0, MF.rs .stb p0 c0 l0), (1, MF.rs .stb p1 c1 l1)] := afb rfl a0 (afb rfl a1 adc)
theorem aS3 [GoT α0] {l0 : List α0} [GoT α1] {l1 : List α1} [GoT α2] {l2 : List α2} (a0 : RdSl G p0 c0 l0) (a1 : RdSl G p1 c1 l1) (a2 : RdSl G p2 c2 l2) : AllS G [(0, MF.rs .stb p0 c0 l0), (1, MF.rs .stb p1 c1 l1), (2, MF.rs .stb p2 c2 l2)] := afb rfl a0 (afb rfl a1 (afb rfl a2 adc))
theorem aS4 [GoT α0] {l0 : List α0} [GoT α1] {l1 : List α1} [GoT α2] {l2 : List α2} [GoT α3] {l3 : List α3} (a0 : RdSl G p0 c0 l0) (a1 : RdSl G p1 c1 l1) (a2 : RdSl G p2 c2 l2) (a3 : RdSl G p3 c3 l3) : AllS G [(0, MF.rs .stb p0 c0 l0), (1, MF.rs .stb p1 c1 l1), (2, MF.rs .stb p2 c2 l2), (3, MF.rs .stb p3 c3 l3)] := afb rfl a0 (afb rfl a1 (afb rfl a2 (afb rfl a3 adc)))
theorem aS6 [GoT α0] {l0 : List α0} [GoT α1] {l1 : List α1} [GoT α2] {l2 : List α2} [GoT α3] {l3 : List α3} [GoT α4] {l4 : List α4} {α5 : Type} [GoT α5] {p5 : Option Addr} {c5 : Nat} {l5 : List α5} (a0 : RdSl G p0 c0 l0) (a1 : RdSl G p1 c1 l1) (a2 : RdSl G p2 c2 l2) (a3 : RdSl G p3 c3 l3) (a4 : RdSl G p4 c4 l4) (a5 : RdSl G p5 c5 l5) : AllS G [(0, MF.rs .stb p0 c0 l0), (1, MF.rs .stb p1 c1 l1), (2, MF.rs .stb p2 c2 l2), (3, MF.rs .stb p3 c3 l3), (4, MF.rs .stb p4 c4 l4), (5, MF.rs .stb p5 c5 l5)] := afb rfl a0 (afb rfl a1 (afb rfl a2 (afb rfl a3 (afb rfl a4 (afb rfl a5 adc)))))
theorem aC [GoT α] {l : List α} (k : Nat) (a : RdSl G p c l) (h : AllS G Γ) : AllS G ((k, MF.rs .stb p c l) :: Γ) := afb rfl a h
theorem bS0 (hn : n + 0 ≤ 9) : 1048576 ≤ bd n ∧ bd n ≤ 274877906944 := ⟨ao5 n, awj (by omega)⟩
theorem bS1 (hn : n + 1 ≤ 9) : 1048576 ≤ bd n ∧ bd (n + 1) = 4 * bd (n) ∧ bd (n + 1) ≤ 274877906944 := ⟨ao5 n, awz (by omega), awj (by omega)⟩
theorem i6 (x : Int) (h : I64 x := by unfold I64; omega) : I64 x := h
abbrev pB (b : Bool) : Value → World → Prop := fun rv _ => rv = .bool b ∧ True
theorem _root_.Go.Stp.AllK.q {M : Nat → Prop} (h : AllK M G Γ) (i : Nat) {f : MF} (hf : Go.Stp.look Γ i = some f) : f.p G := h.get i hf
theorem EN {c : Code} {args : List Value} {w : World}
    (hf : Tryz.prog.funcs[g]? = some fn) (hb : fn.body = some c) (h0 : AllS (hp w) Γ)
    (k : WX ⟨Tryz.prog, fn, tt, w, emp, none, Φ⟩ [.code c] (aop 0 args) [] [] Γ) (hn : (fn.name == "runtime.NumGoroutine") = false := by kernel_rfl) (hs : Nat.ble args.length fn.ntmps = true := by exact rfl) : Does Tryz.prog g args.toArray w emp Φ := WX.enter hf hb hn hs h0 k
theorem R4 (h : resV tt env L fn.results.toList = some [.bool b]) (k : e = b) : WX ⟨Tryz.prog, fn, tt, w0, H, pin, fun rv _ => rv = .bool e ∧ True⟩ (.code .ret :: s) env L R Γ := WX.ret ttOk h (fun _ _ _ _ _ => by rw [k]; exact ⟨rfl, trivial⟩)
theorem CV {c : Value} (hg : gd ops env o = some true) (hd : o.dst = some d) (hlt : Nat.blt d C.fn.ntmps = true) (ho : o.op = .call { callee := .value f, args := args.toArray, argTypes := ats }) (hf : ev env f = some sf) (hsf : ∀ bs, conc bs sf = .func (.func g) #[] (caps bs).toArray) (hargs : evs env args = some svs) (hc : ∀ {bs : Nat → Nat} w, AllK C.M (hp w) Γ → Does C.P g (svs.map (conc bs) ++ caps bs).toArray w emp fun v _ => v = c ∧ Q) (k : Q → WX C (.ops ops r :: s) ((d, .v c) :: env) L R Γ) : WX C (.ops ops (o :: r) :: s) env L R Γ := WX.callV hg hd hlt ho hf hsf hargs (fun w _ bs _ h => hc (bs := bs) w h) k
theorem CF [GoT α] {a : α} {val val' : GoT.X α → Value} {Γ' : GoT.X α → Facts} (n : Nat) (hg : gd ops env o = some true) (hd : o.dst = some d) (hlt : Nat.blt d C.fn.ntmps = true) (ho : o.op = .call { callee := .value f, args := args.toArray, argTypes := ats }) (hf : ev env f = some sf) (hsf : ∀ bs, conc bs sf = .func (.func g) #[] (caps bs).toArray) (hargs : evs env args = some svs) (hc : ∀ {bs : Nat → Nat} w, AllK C.M (hp w) Γ → Does C.P g (svs.map (conc bs) ++ caps bs).toArray w emp (Post w emp val (fun x => GoT.oa a x) Q)) (k : ∀ i, Q → WX C (.ops ops r :: s) ((d, .v (val' i)) :: env) L R (Γ' i)) (hv : ∀ i, aio (val i) = some (val' i) := by exact fun _ => rfl) (hΓ' : ∀ i, addF n (GoT.fa .der a i ++ GoT.oa a i) Γ = some (Γ' i) := by exact fun _ => rfl) : WX C (.ops ops (o :: r) :: s) env L R Γ := WX.callF n (fun _ _ h => GoT.ow_rd h) (fun _ f hf => GoT.fak f hf) hg hd hlt ho hf hsf hargs (fun w _ bs _ h => hc (bs := bs) w h) hv hΓ' k
theorem DXV (i : Nat) {c : Value} (hit : tl.contains i = false) (hr : Region.ready .any ops listed = [i]) (hi : getO ops.toList i = some o) (hg : gd ops env o = some true) (hd : o.dst = some d) (hlt : Nat.blt d C.fn.ntmps = true) (ho : o.op = .call { callee := .value f, args := args.toArray, argTypes := ats }) (hf : ev env f = some sf) (hsf : ∀ bs, conc bs sf = .func (.func g) #[] (caps bs).toArray) (hargs : evs env args = some svs) (hc : ∀ {bs : Nat → Nat} w, AllK C.M (hp w) Γ → Does C.P g (svs.map (conc bs) ++ caps bs).toArray w emp fun v _ => v = c ∧ Q) (k : Q → DX C ops tl st bs G0 fuel (listed.setIfInBounds i true) ((d, .v c) :: env) L R Γ) : DX C ops tl st bs G0 (fuel + 1) listed env L R Γ := DX.callV i hit hr hi hg hd hlt ho hf hsf hargs (fun w _ bs _ h => hc (bs := bs) w h) k
theorem DXF (i m : Nat) [GoT α] {a : α} {val val' : GoT.X α → Value} {Γ' : GoT.X α → Facts} (hit : tl.contains i = false) (hr : Region.ready .any ops listed = [i]) (hi : getO ops.toList i = some o) (hg : gd ops env o = some true) (hd : o.dst = some d) (hlt : Nat.blt d C.fn.ntmps = true) (ho : o.op = .call { callee := .value f, args := args.toArray, argTypes := ats }) (hf : ev env f = some sf) (hsf : ∀ bs, conc bs sf = .func (.func g) #[] (caps bs).toArray) (hargs : evs env args = some svs) (hc : ∀ {bs : Nat → Nat} w, AllK C.M (hp w) Γ → Does C.P g (svs.map (conc bs) ++ caps bs).toArray w emp (Post w emp val (fun x => GoT.oa a x) Q)) (k : ∀ j, Q → DX C ops tl st bs G0 fuel (listed.setIfInBounds i true) ((d, .v (val' j)) :: env) L R (Γ' j)) (hv : ∀ i, aio (val i) = some (val' i) := by exact fun _ => rfl) (hΓ' : ∀ i, addF m (GoT.fa .der a i ++ GoT.oa a i) Γ = some (Γ' i) := by exact fun _ => rfl) : DX C ops tl st bs G0 (fuel + 1) listed env L R Γ := DX.callF i m (fun _ _ h => GoT.ow_rd h) (fun _ f hf => GoT.fak f hf) hit hr hi hg hd hlt ho hf hsf hargs (fun w _ bs _ h => hc (bs := bs) w h) hv hΓ' k
theorem TPF (i m : Nat) [GoT α] {a : α} {val val' : GoT.X α → Value} {Γ' : GoT.X α → Facts} (hn : aol ops listed P P i = true) (hr : agx ops listed i = true) (hi : getO ops.toList i = some o) (hg : gd ops env o = some true) (hd : o.dst = some d) (ha : ai3 P i d = true) (hlt : Nat.blt d C.fn.ntmps = true) (ho : o.op = .call { callee := .value f, args := args.toArray, argTypes := ats }) (hf : ev env f = some sf) (hsf : ∀ bs, conc bs sf = .func (.func g) #[] (caps bs).toArray) (hargs : evs env args = some svs) (hc : ∀ {bs : Nat → Nat} w, AllK C.M (hp w) Γ → Does C.P g (svs.map (conc bs) ++ caps bs).toArray w emp (Post w emp val (fun x => GoT.oa a x) Q)) (k : ∀ j, Q → TXP C ops tl st S P fuel (listed.setIfInBounds i true) ((d, .v (val' j)) :: env) L R (Γ' j)) (hv : ∀ i, aio (val i) = some (val' i) := by exact fun _ => rfl) (hΓ' : ∀ i, addF m (GoT.fa .der a i ++ GoT.oa a i) Γ = some (Γ' i) := by exact fun _ => rfl) : TXP C ops tl st S P (fuel + 1) listed env L R Γ := TXP.callF i m (fun _ _ h => GoT.ow_rd h) (fun _ f hf => GoT.fak f hf) hn hr hi hg hd ha hlt ho hf hsf hargs (fun w _ bs _ h => hc (bs := bs) w h) hv hΓ' k
noncomputable abbrev cx (fn : Func) (w0 : World) (H0 : GH) (pin : Option Nat) (Φ : Value → World → Prop) : Cx := ⟨Tryz.prog, fn, tt, w0, H0, pin, Φ⟩
theorem i8 {x : Int} (h : I64 x) : -9223372036854775808 ≤ x ∧ x ≤ 9223372036854775807 := h
theorem okE [GoT α] {l : List α} {e : α} (h : GoT.ok n l) (k : l[i]? = some e) : GoT.ok n e := (okl h).2 _ (List.mem_of_getElem? k)
theorem gE {l : List α} (h : i < l.length) : ∃ e, l[i]? = some e := ⟨_, List.getElem?_eq_getElem h⟩
abbrev J6 (x : Int) : Prop := -9223372036854775808 ≤ x ∧ x ≤ 9223372036854775807
abbrev JL {α : Type} [GoT α] (n : Nat) (l : List α) : Prop := l.length ≤ bd n ∧ ∀ z ∈ l, GoT.ok n z
abbrev JE {α : Type} [GoT α] (n : Nat) (l : List α) : Prop := ∀ z ∈ l, GoT.ok n z
theorem R8 {val : ι → Value} {gs : ι → List MF} (h : resV tt env L fn.results.toList = some vs) (ks : List Nat) (i : ι) (hk : agt ks Γ = some (fs, Γ1)) (hv : tup vs = val i) (hf : gs i = fs) (hq : Q) : WX ⟨Tryz.prog, fn, tt, w0, H, pin, Post w0 H val gs Q⟩ (.code .ret :: s) env L R Γ := WX.ret ttOk h fun _ _ _ hI hΓ => Post.of ks i hI hΓ hk hv hf hq
theorem R6 (h : resV tt env L fn.results.toList = some vs) (q : Q) (e : tup vs = v := by exact rfl) : WX ⟨Tryz.prog, fn, tt, w0, H, pin, fun rv _ => rv = v ∧ Q⟩ (.code .ret :: s) env L R Γ := WX.ret ttOk h fun _ _ _ _ _ => ⟨e, q⟩
theorem atg {α : Type} : ∀ (A B : List (Nat × α)) (i : Nat) (x : α), Go.Stp.look (A ++ B) i = some x → Go.Stp.look A i = some x ∨ Go.Stp.look B i = some x
  | [], B, i, x, h => .inr h
  | (j, y) :: A, B, i, x, h => by
    rw [List.cons_append, adg] at h
    rw [adg]
    split at h
    · rename_i e; rw [if_pos e]; exact .inl h
    · rename_i e; rw [if_neg e]; exact atg A B i x h
theorem avh {A B C : List (Nat × α)} (h : Sub A C) (k : Sub B C) : Sub (A ++ B) C := fun i x hx => (atg A B i x hx).elim (h i x) (k i x)
def ar3 {α : Type} (l : List (Nat × α)) : List Nat → Option (List (Nat × α))
  | [] => some []
  | d :: ds => (match Go.Stp.look l d with
    | some x => (match ar3 l ds with | some q => some ((d, x) :: q) | none => none)
    | none => none)
theorem ang {α : Type} {l : List (Nat × α)} : ∀ {ds : List Nat} {q : List (Nat × α)}, ar3 l ds = some q → Sub q l
  | [], q, h => by simp [ar3] at h; subst h; exact Sub.nil
  | e :: ds, q, h => by
    simp only [ar3] at h
    split at h
    · rename_i y hy
      split at h
      · rename_i z hz
        simp only [Option.some.injEq] at h; subst h
        exact Sub.cons hy (ang hz)
      · cases h
    · cases h
theorem LK {c : Code} (i : ι) (F : ι → Prop × Nat × Env × Locs × Go.Stp.Rows × Facts) (hi : (F i).1) (ke kl kk ks : List Nat) (k : ∀ i, (F i).1 → WX C (.code c :: .iter (Head.I ⟨fun i => (F i).1, fun i => (F i).2.1, fun i => (F i).2.2.1 ++ ek, fun i => (F i).2.2.2.1 ++ lk, fun i => (F i).2.2.2.2.1, fun i => gk ++ (F i).2.2.2.2.2⟩ C (F i).2.1) :: s) ((F i).2.2.1 ++ ek) ((F i).2.2.2.1 ++ lk) (F i).2.2.2.2.1 (gk ++ (F i).2.2.2.2.2)) (h1 : ar3 env ke = some ek := by exact rfl) (h2 : ar3 L kl = some lk := by exact rfl) (h3 : akh kk Γ = some gk := by exact rfl) (hΓ : akh ks Γ = some (gk ++ (F i).2.2.2.2.2) := by exact rfl) (he : Sub (F i).2.2.1 env := by repeat (first | exact Sub.nil | refine Sub.cons rfl ?_)) (hL : Sub (F i).2.2.2.1 L := by repeat (first | exact Sub.nil | refine Sub.cons rfl ?_)) (hR : Sub (F i).2.2.2.2.1 R := by repeat (first | exact Sub.nil | refine Sub.cons rfl ?_)) : WX C (.code (.loop c) :: s) env L R Γ := WX.loop ⟨fun i => (F i).1, fun i => (F i).2.1, fun i => (F i).2.2.1 ++ ek, fun i => (F i).2.2.2.1 ++ lk, fun i => (F i).2.2.2.2.1, fun i => gk ++ (F i).2.2.2.2.2⟩ i hi (avh he (ang h1)) (avh hL (ang h2)) hR ks hΓ k
theorem IT {H : Head ι} (i : ι) (hi : H.pre i) (hm : H.m i < n) (ks : List Nat) (hΓ : akh ks Γ = some (H.Γ i) := by exact rfl) (he : Sub (H.env i) env := by repeat (first | exact Sub.nil | refine Sub.cons rfl ?_)) (hL : Sub (H.L i) L := by repeat (first | exact Sub.nil | refine Sub.cons rfl ?_)) (hR : Sub (H.R i) R := by repeat (first | exact Sub.nil | refine Sub.cons rfl ?_)) : WX C (.iter (H.I C n) :: s) env L R Γ := WX.iter i hi hm he hL hR ks hΓ
theorem T1 [GoT α] (ks : List Nat) (n : Nat) (a : α) (x : GoT.X α) (hk : agt ks Γ = some (GoT.oa a x, Γ1)) (k : (∀ u ∈ GoT.sh a x, u.oneCell' = true) → WX C s env L R ((n, MF.ol (GoT.sh a x) [a]) :: Γ1)) : WX C s env L R Γ := WX.turn ks n hk (fun _ hs => ay0 hs) rfl (WX.know (fun _ hΓ => (hΓ.get n (by rw [adg, if_pos rfl]) : OwL _ (GoT.sh a x) [a]).rd.one) k)
theorem T2 [GoT α] {l m : List α} (ks : List Nat) (n : Nat) (hk : agt ks Γ = some ([MF.ol xs l, MF.ol ys m], Γ1)) (k : WX C s env L R ((n, MF.ol (xs ++ ys) (l ++ m)) :: Γ1)) : WX C s env L R Γ := WX.turn ks n hk (fun _ hs => axv hs) rfl k
theorem RL (ks : List Nat) (n : Nat) (hk : agt ks Γ = some (fs, Γ1)) (ha : addF n fs Γ1 = some Γ2) (k : WX C s env L R Γ2) : WX C s env L R Γ := WX.turn ks n hk (fun _ h => h) ha k
theorem F0 (n : Nat) (α : Type) [GoT α] (k : WX C s env L R ((n, MF.ol [] ([] : List α)) :: Γ)) : WX C s env L R Γ := WX.free n _ rfl k
theorem D0 [GoT α] {l : List α} (n i : Nat) (h : Go.Stp.look Γ i = some (MF.os p c l)) (k : WX C s env L R ((n, MF.rs .der p c l) :: Γ)) : WX C s env L R Γ := WX.der n _ rfl (fun _ hΓ => (hΓ.get i h : OwSl _ _ _ _).rd) k
theorem KD0 {p : Prop} [Decidable p] (d : Nat) (h : Go.Stp.look env d = some (.v (.bool (decide p)))) (kt : (decide p) = true → p → WX C s ((d, .T) :: env) L R Γ) (kf : (decide p) = false → ¬p → WX C s ((d, .F) :: env) L R Γ) : WX C s env L R Γ := WX.cases d h (fun h => kt h ((B.dt) h)) (fun h => kf h ((B.df) h))
theorem KN0 (d : Nat) (h : Go.Stp.look env d = some (.v (.bool (!b)))) (kt : (!b) = true → b = false → WX C s ((d, .T) :: env) L R Γ) (kf : (!b) = false → b = true → WX C s ((d, .F) :: env) L R Γ) : WX C s env L R Γ := WX.cases d h (fun h => kt h ((B.nt) h)) (fun h => kf h ((B.nf) h))
theorem KE0 [BEq α] [LawfulBEq α] {a b : α} (d : Nat) (h : Go.Stp.look env d = some (.v (.bool (a == b)))) (kt : (a == b) = true → a = b → WX C s ((d, .T) :: env) L R Γ) (kf : (a == b) = false → ¬a = b → WX C s ((d, .F) :: env) L R Γ) : WX C s env L R Γ := WX.cases d h (fun h => kt h ((B.et) h)) (fun h => kf h ((B.ef) h))
theorem KM0 [BEq α] [LawfulBEq α] {a b : α} (d : Nat) (h : Go.Stp.look env d = some (.v (.bool (a != b)))) (kt : (a != b) = true → ¬a = b → WX C s ((d, .T) :: env) L R Γ) (kf : (a != b) = false → a = b → WX C s ((d, .F) :: env) L R Γ) : WX C s env L R Γ := WX.cases d h (fun h => kt h ((B.nt') h)) (fun h => kf h ((B.nf') h))
theorem KX0 [BEq α] [LawfulBEq α] {a b : α} (d : Nat) (h : Go.Stp.look env d = some (.v (.bool (!(a == b))))) (kt : (!(a == b)) = true → ¬a = b → WX C s ((d, .T) :: env) L R Γ) (kf : (!(a == b)) = false → a = b → WX C s ((d, .F) :: env) L R Γ) : WX C s env L R Γ := WX.cases d h (fun h => kt h ((fun h => B.ef (B.nt h)) h)) (fun h => kf h ((fun h => B.et (B.nf h)) h))
theorem KV {c : Value} (h0 : exec tt fn.ntmps R 1000 s0 env0 L0 = ((.ops ops (o :: r) :: s), env, L)) (hg : gd ops env o = some true) (hd : o.dst = some d) (hlt : Nat.blt d (cx fn w0 H0 pin Φ).fn.ntmps = true) (ho : o.op = .call { callee := .value f, args := args.toArray, argTypes := ats }) (hf : ev env f = some sf) (hsf : ∀ bs, conc bs sf = .func (.func g) #[] (caps bs).toArray) (hargs : evs env args = some svs) (hc : ∀ {bs : Nat → Nat} w, AllK (cx fn w0 H0 pin Φ).M (hp w) Γ → Does (cx fn w0 H0 pin Φ).P g (svs.map (conc bs) ++ caps bs).toArray w emp fun v _ => v = c ∧ Q) (k : Q → WX (cx fn w0 H0 pin Φ) (.ops ops r :: s) ((d, .v c) :: env) L R Γ) : WX ⟨Tryz.prog, fn, tt, w0, H0, pin, Φ⟩ s0 env0 L0 R Γ := WX.run ttOk h0 (CV hg hd hlt ho hf hsf hargs hc k)
theorem KF [GoT α] {a : α} {val val' : GoT.X α → Value} {Γ' : GoT.X α → Facts} (h0 : exec tt fn.ntmps R 1000 s0 env0 L0 = ((.ops ops (o :: r) :: s), env, L)) (n : Nat) (hg : gd ops env o = some true) (hd : o.dst = some d) (hlt : Nat.blt d (cx fn w0 H0 pin Φ).fn.ntmps = true) (ho : o.op = .call { callee := .value f, args := args.toArray, argTypes := ats }) (hf : ev env f = some sf) (hsf : ∀ bs, conc bs sf = .func (.func g) #[] (caps bs).toArray) (hargs : evs env args = some svs) (hc : ∀ {bs : Nat → Nat} w, AllK (cx fn w0 H0 pin Φ).M (hp w) Γ → Does (cx fn w0 H0 pin Φ).P g (svs.map (conc bs) ++ caps bs).toArray w emp (Post w emp val (fun x => GoT.oa a x) Q)) (k : ∀ i, Q → WX (cx fn w0 H0 pin Φ) (.ops ops r :: s) ((d, .v (val' i)) :: env) L R (Γ' i)) (hv : ∀ i, aio (val i) = some (val' i) := by exact fun _ => rfl) (hΓ' : ∀ i, addF n (GoT.fa .der a i ++ GoT.oa a i) Γ = some (Γ' i) := by exact fun _ => rfl) : WX ⟨Tryz.prog, fn, tt, w0, H0, pin, Φ⟩ s0 env0 L0 R Γ := WX.run ttOk h0 (CF n hg hd hlt ho hf hsf hargs hc k (hv := hv) (hΓ' := hΓ'))
theorem KS (h0 : exec tt fn.ntmps R 1000 s0 env0 L0 = ((.ops ops (o :: r) :: s), env, L)) (hg : gd ops env o = some true) (hd : o.dst = some d) (hlt : Nat.blt d (cx fn w0 H0 pin Φ).fn.ntmps = true) (hl : ∀ G, AllK (cx fn w0 H0 pin Φ).M G Γ → Looks (cx fn w0 H0 pin Φ) env L R G o sv) (k : WX (cx fn w0 H0 pin Φ) (.ops ops r :: s) ((d, sv) :: env) L R Γ) : WX ⟨Tryz.prog, fn, tt, w0, H0, pin, Φ⟩ s0 env0 L0 R Γ := WX.run ttOk h0 (WX.see hg hd hlt hl k)
theorem LM {c : Code} (h0 : exec tt fn.ntmps R 1000 s0 env0 L0 = ((.code (.loop c) :: s), env, L)) (i : ι) (F : ι → Prop × Nat × Env × Locs × Go.Stp.Rows × Facts) (hi : (F i).1) (ke kl kk ks : List Nat) (k : ∀ i, (F i).1 → WX (cx fn w0 H0 pin Φ) (.code c :: .iter (Head.I ⟨fun i => (F i).1, fun i => (F i).2.1, fun i => (F i).2.2.1 ++ ek, fun i => (F i).2.2.2.1 ++ lk, fun i => (F i).2.2.2.2.1, fun i => gk ++ (F i).2.2.2.2.2⟩ (cx fn w0 H0 pin Φ) (F i).2.1) :: s) ((F i).2.2.1 ++ ek) ((F i).2.2.2.1 ++ lk) (F i).2.2.2.2.1 (gk ++ (F i).2.2.2.2.2)) (h1 : ar3 env ke = some ek := by exact rfl) (h2 : ar3 L kl = some lk := by exact rfl) (h3 : akh kk Γ = some gk := by exact rfl) (hΓ : akh ks Γ = some (gk ++ (F i).2.2.2.2.2) := by exact rfl) (he : Sub (F i).2.2.1 env := by repeat (first | exact Sub.nil | refine Sub.cons rfl ?_)) (hL : Sub (F i).2.2.2.1 L := by repeat (first | exact Sub.nil | refine Sub.cons rfl ?_)) (hR : Sub (F i).2.2.2.2.1 R := by repeat (first | exact Sub.nil | refine Sub.cons rfl ?_)) : WX ⟨Tryz.prog, fn, tt, w0, H0, pin, Φ⟩ s0 env0 L0 R Γ := WX.run ttOk h0 (LK i F hi ke kl kk ks k (h1 := h1) (h2 := h2) (h3 := h3) (hΓ := hΓ) (he := he) (hL := hL) (hR := hR))
theorem KW {c : Value} (h0 : exec tt fn.ntmps R 1000 s0 env0 L0 = ((.ops ops (o :: r) :: s), env, L)) (hg : gd ops env o = some true) (hd : o.dst = some d) (hlt : Nat.blt d (cx fn w0 H0 pin Φ).fn.ntmps = true) (ho : o.op = .call { callee := .value f, args := args.toArray, argTypes := ats }) (hf : ev env f = some sf) (hsf : ∀ bs, conc bs sf = .func (.func g) #[] (caps bs).toArray) (hargs : evs env args = some svs) (hc : ∀ w G bs, HInv (cx fn w0 H0 pin Φ) w G bs L R → AllK (cx fn w0 H0 pin Φ).M (hp w) Γ → Does (cx fn w0 H0 pin Φ).P g (svs.map (conc bs) ++ caps bs).toArray w emp fun v _ => v = c ∧ Q) (k : Q → WX (cx fn w0 H0 pin Φ) (.ops ops r :: s) ((d, .v c) :: env) L R Γ) : WX ⟨Tryz.prog, fn, tt, w0, H0, pin, Φ⟩ s0 env0 L0 R Γ := WX.run ttOk h0 (WX.callV hg hd hlt ho hf hsf hargs hc k)
theorem ITr {H : Head ι} (h0 : exec tt fn.ntmps R 1000 s0 env0 L0 = ((.iter (H.I (cx fn w0 H0 pin Φ) n) :: s), env, L)) (i : ι) (hi : H.pre i) (hm : H.m i < n) (ks : List Nat) (hΓ : akh ks Γ = some (H.Γ i) := by exact rfl) (he : Sub (H.env i) env := by repeat (first | exact Sub.nil | refine Sub.cons rfl ?_)) (hL : Sub (H.L i) L := by repeat (first | exact Sub.nil | refine Sub.cons rfl ?_)) (hR : Sub (H.R i) R := by repeat (first | exact Sub.nil | refine Sub.cons rfl ?_)) : WX ⟨Tryz.prog, fn, tt, w0, H0, pin, Φ⟩ s0 env0 L0 R Γ := WX.run ttOk h0 (IT i hi hm ks (hΓ := hΓ) (he := he) (hL := hL) (hR := hR))
theorem R6r (h0 : exec tt fn.ntmps R 1000 s0 env0 L0 = (.code .ret :: s, env, L)) (h : resV tt env L fn.results.toList = some vs) (q : Q) (e : tup vs = v := by exact rfl) : WX ⟨Tryz.prog, fn, tt, w0, H, pin, fun rv _ => rv = v ∧ Q⟩ s0 env0 L0 R Γ := WX.run ttOk h0 (R6 h q (e := e))
theorem R4r (h0 : exec tt fn.ntmps R 1000 s0 env0 L0 = (.code .ret :: s, env, L)) (h : resV tt env L fn.results.toList = some [.bool b]) (k : e = b) : WX ⟨Tryz.prog, fn, tt, w0, H, pin, fun rv _ => rv = .bool e ∧ True⟩ s0 env0 L0 R Γ := WX.run ttOk h0 (R4 h k)
theorem zI [GoT α] {l : List α} (ℓ : Nat) (i : Nat) (hi : i < l.length) (k : ∀ ad, p = some ad → WX (cx fn w0 H0 pin Φ) (.ops ops r :: s) ((d, .e (some ad) i kk 0) :: env) L R Γ) (ht : aek (cx fn w0 H0 pin Φ).P (cx fn w0 H0 pin Φ).tt := by exact ttOk) (hℓ : Go.Stp.look Γ ℓ = some (MF.rs kd p c l) := by exact rfl) (hg : gd ops env o = some true := by exact rfl) (hd : o.dst = some d := by exact rfl) (hlt : Nat.blt d (cx fn w0 H0 pin Φ).fn.ntmps = true := by exact rfl) (ho : o.op = .indexAddr T x y := by exact rfl) (hx : ev env x = some (.v (.slice p n c)) := by exact rfl) (hy : ev env y = some (.v (.int .i64 m)) := by exact rfl) (hk : ajp (cx fn w0 H0 pin Φ).tt T = some kk := by exact rfl) (hn : n = l.length := by exact rfl) (hm : m = (i : Int) := by exact rfl)  : WX (cx fn w0 H0 pin Φ) (.ops ops (o :: r) :: s) env L R Γ := WX.idx (ℓ := ℓ) (i := i) (ht := ht) (hg := hg) (hd := hd) (hlt := hlt) (ho := ho) (hx := hx) (hy := hy) (hk := hk) (hℓ := hℓ) (hn := hn) (hm := hm) (hi := hi) (k := k)
theorem yI [GoT α] {l : List α} (ℓ : Nat) (i : Nat) (hi : i < l.length) (k : ∀ ad, p = some ad → WX (cx fn w0 H0 pin Φ) (.ops ops r :: s) ((d, .e (some ad) i kk 0) :: env) L R Γ) (h0 : exec tt fn.ntmps R 1000 s0 env0 L0 = ((.ops ops (o :: r) :: s), env, L) := by exact rfl) (ht : aek (cx fn w0 H0 pin Φ).P (cx fn w0 H0 pin Φ).tt := by exact ttOk) (hℓ : Go.Stp.look Γ ℓ = some (MF.rs kd p c l) := by exact rfl) (hg : gd ops env o = some true := by exact rfl) (hd : o.dst = some d := by exact rfl) (hlt : Nat.blt d (cx fn w0 H0 pin Φ).fn.ntmps = true := by exact rfl) (ho : o.op = .indexAddr T x y := by exact rfl) (hx : ev env x = some (.v (.slice p n c)) := by exact rfl) (hy : ev env y = some (.v (.int .i64 m)) := by exact rfl) (hk : ajp (cx fn w0 H0 pin Φ).tt T = some kk := by exact rfl) (hn : n = l.length := by exact rfl) (hm : m = (i : Int) := by exact rfl)  : WX (cx fn w0 H0 pin Φ) s0 env0 L0 R Γ := WX.run ttOk h0 (WX.idx (ℓ := ℓ) (i := i) (ht := ht) (hg := hg) (hd := hd) (hlt := hlt) (ho := ho) (hx := hx) (hy := hy) (hk := hk) (hℓ := hℓ) (hn := hn) (hm := hm) (hi := hi) (k := k))
theorem zL [GoT α] {l : List α} {val : GoT.X α → Value} {Γ' : GoT.X α → Facts} (ℓ : Nat) (n : Nat) (a : α) (ha : l[i]? = some a) (k : ∀ x, WX (cx fn w0 H0 pin Φ) (.ops ops r :: s) ((d, .v (val x)) :: env) L R (Γ' x)) (ht : aek (cx fn w0 H0 pin Φ).P (cx fn w0 H0 pin Φ).tt := by exact ttOk) (hℓ : Go.Stp.look Γ ℓ = some (MF.rs kd (some ad) c l) := by exact rfl) (hg : gd ops env o = some true := by exact rfl) (hd : o.dst = some d := by exact rfl) (hlt : Nat.blt d (cx fn w0 H0 pin Φ).fn.ntmps = true := by exact rfl) (ho : o.op = .load T x := by exact rfl) (hx : ev env x = some (.e (some ad) i (GoT.k α) off) := by exact rfl) (hT : Go.Stp.look (cx fn w0 H0 pin Φ).tt T = some ti := by exact rfl) (hkd : kdL kd = false := by exact rfl) (hv : ∀ x, asm ti (GoT.sh a x) off = some (val x) := by exact fun _ => rfl) (hf : ∀ x, addF n (GoT.fa kd a x) Γ = some (Γ' x) := by exact fun _ => rfl)  : WX (cx fn w0 H0 pin Φ) (.ops ops (o :: r) :: s) env L R Γ := WX.ldE (ℓ := ℓ) (n := n) (a := a) (ht := ht) (hg := hg) (hd := hd) (hlt := hlt) (ho := ho) (hx := hx) (hT := hT) (hℓ := hℓ) (hkd := hkd) (ha := ha) (hv := hv) (hf := hf) (k := k)
theorem yL [GoT α] {l : List α} {val : GoT.X α → Value} {Γ' : GoT.X α → Facts} (ℓ : Nat) (n : Nat) (a : α) (ha : l[i]? = some a) (k : ∀ x, WX (cx fn w0 H0 pin Φ) (.ops ops r :: s) ((d, .v (val x)) :: env) L R (Γ' x)) (h0 : exec tt fn.ntmps R 1000 s0 env0 L0 = ((.ops ops (o :: r) :: s), env, L) := by exact rfl) (ht : aek (cx fn w0 H0 pin Φ).P (cx fn w0 H0 pin Φ).tt := by exact ttOk) (hℓ : Go.Stp.look Γ ℓ = some (MF.rs kd (some ad) c l) := by exact rfl) (hg : gd ops env o = some true := by exact rfl) (hd : o.dst = some d := by exact rfl) (hlt : Nat.blt d (cx fn w0 H0 pin Φ).fn.ntmps = true := by exact rfl) (ho : o.op = .load T x := by exact rfl) (hx : ev env x = some (.e (some ad) i (GoT.k α) off) := by exact rfl) (hT : Go.Stp.look (cx fn w0 H0 pin Φ).tt T = some ti := by exact rfl) (hkd : kdL kd = false := by exact rfl) (hv : ∀ x, asm ti (GoT.sh a x) off = some (val x) := by exact fun _ => rfl) (hf : ∀ x, addF n (GoT.fa kd a x) Γ = some (Γ' x) := by exact fun _ => rfl)  : WX (cx fn w0 H0 pin Φ) s0 env0 L0 R Γ := WX.run ttOk h0 (WX.ldE (ℓ := ℓ) (n := n) (a := a) (ht := ht) (hg := hg) (hd := hd) (hlt := hlt) (ho := ho) (hx := hx) (hT := hT) (hℓ := hℓ) (hkd := hkd) (ha := ha) (hv := hv) (hf := hf) (k := k))
theorem zDI [GoT α] {q : Nat} {l : List α} (i : Nat) (ℓ : Nat) (j : Nat) (h0 : AllK (cx fn w0 H0 pin Φ).M G0 Γ0) (hq : q = l.length) (hj : j < l.length) (k : ∀ ad, p = some ad → DX (cx fn w0 H0 pin Φ) ops tl s bs G0 fuel (listed.setIfInBounds i true) ((d, .e (some ad) j kk 0) :: env) L R Γ) (ht : aek (cx fn w0 H0 pin Φ).P (cx fn w0 H0 pin Φ).tt := by exact ttOk) (hℓ : Go.Stp.look Γ0 ℓ = some (MF.rs kd p c l) := by exact rfl) (hb : mayB ops tl listed i = true := by kernel_rfl) (hi : getO ops.toList i = some o := by exact rfl) (hg : gd ops env o = some true := by exact rfl) (hd : o.dst = some d := by exact rfl) (hlt : Nat.blt d (cx fn w0 H0 pin Φ).fn.ntmps = true := by exact rfl) (ho : o.op = .indexAddr T x y := by exact rfl) (hx : ev env x = some (.v (.slice p q c)) := by exact rfl) (hy : ev env y = some (.v (.int .i64 m)) := by exact rfl) (hk : ajp (cx fn w0 H0 pin Φ).tt T = some kk := by exact rfl) (hm : m = (j : Int) := by exact rfl)  : DX (cx fn w0 H0 pin Φ) ops tl s bs G0 (fuel + 1) listed env L R Γ := DX.idx (i := i) (ℓ := ℓ) (j := j) (ht := ht) (h0 := h0) (hb := hb) (hi := hi) (hg := hg) (hd := hd) (hlt := hlt) (ho := ho) (hx := hx) (hy := hy) (hk := hk) (hℓ := hℓ) (hq := hq) (hm := hm) (hj := hj) (k := k)
theorem zDL [GoT α] {j : Nat} {l : List α} {val : GoT.X α → Value} {Γ' : GoT.X α → Facts} (i : Nat) (ℓ : Nat) (m : Nat) (a : α) (h0 : AllK (cx fn w0 H0 pin Φ).M G0 Γ0) (ha : l[j]? = some a) (k : ∀ x, DX (cx fn w0 H0 pin Φ) ops tl s bs G0 fuel (listed.setIfInBounds i true) ((d, .v (val x)) :: env) L R (Γ' x)) (ht : aek (cx fn w0 H0 pin Φ).P (cx fn w0 H0 pin Φ).tt := by exact ttOk) (hℓ : Go.Stp.look Γ0 ℓ = some (MF.rs kd (some ad) c l) := by exact rfl) (hb : mayB ops tl listed i = true := by kernel_rfl) (hi : getO ops.toList i = some o := by exact rfl) (hg : gd ops env o = some true := by exact rfl) (hd : o.dst = some d := by exact rfl) (hlt : Nat.blt d (cx fn w0 H0 pin Φ).fn.ntmps = true := by exact rfl) (ho : o.op = .load T x := by exact rfl) (hx : ev env x = some (.e (some ad) j (GoT.k α) off) := by exact rfl) (hT : Go.Stp.look (cx fn w0 H0 pin Φ).tt T = some ti := by exact rfl) (hv : ∀ x, asm ti (GoT.sh a x) off = some (val x) := by exact fun _ => rfl) (hf : ∀ x, addF m (GoT.fa .der a x) Γ = some (Γ' x) := by exact fun _ => rfl)  : DX (cx fn w0 H0 pin Φ) ops tl s bs G0 (fuel + 1) listed env L R Γ := DX.ldE (i := i) (ℓ := ℓ) (m := m) (a := a) (ht := ht) (h0 := h0) (hb := hb) (hi := hi) (hg := hg) (hd := hd) (hlt := hlt) (ho := ho) (hx := hx) (hT := hT) (hℓ := hℓ) (ha := ha) (hv := hv) (hf := hf) (k := k)
theorem zO [GoT α] {l : List α} {e : α} {cs : GoT.X α → List Value} {R' : List Value → List Value → GoT.X α → Go.Stp.Rows} {Γ' : List Value → List Value → GoT.X α → Facts} (ρ : Nat) (ℓ : Nat) (n : Nat) (i : Nat) (hi : l[i]? = some e) (k : ∀ A B x, A.length = i * GoT.k α → B.length = (l.length - (i + 1)) * GoT.k α → WX C s env L (R' A B x) (Γ' A B x)) (hρ : Go.Stp.look R ρ = some row := by exact rfl) (hℓ : agt [ℓ] Γ = some ([MF.ol row.xs l], Γ1) := by exact rfl) (hk : row.k = GoT.k α := by exact rfl) (hcs : ∀ x, aq0 (GoT.sh e x) = some (cs x) := by exact fun _ => rfl) (hR : ∀ A B x, ajm R ρ ⟨row.k, row.p, row.n, row.c, A ++ cs x ++ B⟩ = some (R' A B x) := by exact fun _ _ _ => rfl) (hΓ' : ∀ A B x, addF n (GoT.fa .der e x ++ (GoT.oa e x ++ [MF.ol A (l.take i), MF.ol B (l.drop (i + 1))])) Γ1 = some (Γ' A B x) := by exact fun _ _ _ => rfl)  : WX C s env L R Γ := WX.opnE (ρ := ρ) (ℓ := ℓ) (n := n) (i := i) (hρ := hρ) (hk := hk) (hℓ := hℓ) (hi := hi) (hcs := hcs) (hR := hR) (hΓ' := hΓ') (k := k)
theorem zA (ρ : Nat) (hA : A.length = i * kk) (hn : i < row.n) (k : WX (cx fn w0 H0 pin Φ) (.ops ops r :: s) ((d, .v v) :: env) L R Γ) (ht : aek (cx fn w0 H0 pin Φ).P (cx fn w0 H0 pin Φ).tt := by exact ttOk) (hρ : Go.Stp.look R ρ = some row := by exact rfl) (hg : gd ops env o = some true := by exact rfl) (hd : o.dst = some d := by exact rfl) (hlt : Nat.blt d (cx fn w0 H0 pin Φ).fn.ntmps = true := by exact rfl) (ho : o.op = .load T x := by exact rfl) (hx : ev env x = some (.e (some ad) i kk off) := by exact rfl) (hT : Go.Stp.look (cx fn w0 H0 pin Φ).tt T = some ti := by exact rfl) (hp : row.p = some ad := by exact rfl) (hk : row.k = kk := by exact rfl) (hxs : row.xs = A ++ cs ++ B := by exact rfl) (hv : asm ti cs off = some v := by exact rfl)  : WX (cx fn w0 H0 pin Φ) (.ops ops (o :: r) :: s) env L R Γ := WX.ldA (ρ := ρ) (ht := ht) (hg := hg) (hd := hd) (hlt := hlt) (ho := ho) (hx := hx) (hT := hT) (hρ := hρ) (hp := hp) (hk := hk) (hxs := hxs) (hA := hA) (hn := hn) (hv := hv) (k := k)
theorem zS (ρ : Nat) (hA : A.length = i * kk) (hi : i < row.n) (k : WX (cx fn w0 H0 pin Φ) (.ops ops r :: s) env L R' Γ) (ht : aek (cx fn w0 H0 pin Φ).P (cx fn w0 H0 pin Φ).tt := by exact ttOk) (hρ : Go.Stp.look R ρ = some row := by exact rfl) (hg : gd ops env o = some true := by exact rfl) (hd : o.dst = none := by exact rfl) (ho : o.op = .store T x y := by exact rfl) (hx : ev env x = some (.e (some ad) i kk off) := by exact rfl) (hy : ev env y = some sv := by exact rfl) (hv : valO sv = some v := by exact rfl) (hT : Go.Stp.look (cx fn w0 H0 pin Φ).tt T = some ti := by exact rfl) (hvs : ajq ti v = some vs := by exact rfl) (hlen : Nat.beq vs.length ti.size = true := by exact rfl) (hone : oneB vs = true := by exact rfl) (hp : row.p = some ad := by exact rfl) (hk : row.k = kk := by exact rfl) (hxs : row.xs = A ++ cs ++ B := by exact rfl) (hfit : Nat.ble (off + vs.length) kk = true := by exact rfl) (hck : Nat.beq cs.length kk = true := by exact rfl) (hfree : agm ρ env = true := by exact rfl) (hsp : agr cs off vs = some cs' := by exact rfl) (hR : ajm R ρ ⟨row.k, row.p, row.n, row.c, A ++ cs' ++ B⟩ = some R' := by exact rfl) (hne : vs ≠ [] := by simp) : WX (cx fn w0 H0 pin Φ) (.ops ops (o :: r) :: s) env L R Γ := WX.stA (ρ := ρ) (ht := ht) (hg := hg) (hd := hd) (ho := ho) (hx := hx) (hy := hy) (hv := hv) (hT := hT) (hvs := hvs) (hlen := hlen) (hone := hone) (hρ := hρ) (hp := hp) (hk := hk) (hxs := hxs) (hA := hA) (hi := hi) (hfit := hfit) (hck := hck) (hfree := hfree) (hsp := hsp) (hne := hne) (hR := hR) (k := k)
theorem zR (ρ : Nat) (i : Nat) (hi : i < row.n) (k : ∀ ad, row.p = some ad → WX (cx fn w0 H0 pin Φ) (.ops ops r :: s) ((d, .e (some ad) i kk 0) :: env) L R Γ) (ht : aek (cx fn w0 H0 pin Φ).P (cx fn w0 H0 pin Φ).tt := by exact ttOk) (hρ : Go.Stp.look R ρ = some row := by exact rfl) (hg : gd ops env o = some true := by exact rfl) (hd : o.dst = some d := by exact rfl) (hlt : Nat.blt d (cx fn w0 H0 pin Φ).fn.ntmps = true := by exact rfl) (ho : o.op = .indexAddr T x y := by exact rfl) (hx : ev env x = some (.v (.slice row.p row.n row.c)) := by exact rfl) (hy : ev env y = some (.v (.int .i64 m)) := by exact rfl) (hk : ajp (cx fn w0 H0 pin Φ).tt T = some kk := by exact rfl) (hm : m = (i : Int) := by exact rfl)  : WX (cx fn w0 H0 pin Φ) (.ops ops (o :: r) :: s) env L R Γ := WX.idxR (ρ := ρ) (i := i) (ht := ht) (hg := hg) (hd := hd) (hlt := hlt) (ho := ho) (hx := hx) (hy := hy) (hk := hk) (hρ := hρ) (hm := hm) (hi := hi) (k := k)
theorem zP {R' : Option Addr → Nat → Go.Stp.Rows} (ρ : Nat) (σ : Nat) (n' : Nat) (hone : ∀ u ∈ src.xs, u.oneCell' = true) (k : ∀ p' c', WX (cx fn w0 H0 pin Φ) (.ops ops r :: s) ((d, .v (.slice p' n' c')) :: env) L (R' p' c') Γ) (ht : aek (cx fn w0 H0 pin Φ).P (cx fn w0 H0 pin Φ).tt := by exact ttOk) (hρ : Go.Stp.look R ρ = some row := by exact rfl) (hσ : Go.Stp.look R σ = some src := by exact rfl) (hg : gd ops env o = some true := by exact rfl) (hd : o.dst = some d := by exact rfl) (hlt : Nat.blt d (cx fn w0 H0 pin Φ).fn.ntmps = true := by exact rfl) (ho : o.op = .call { callee := .builtin .append, args := #[x, y], argTypes := #[T, T] } := by exact rfl) (hx : ev env x = some (.v (.slice row.p row.n row.c)) := by exact rfl) (hy : ev env y = some (.v (.slice src.p src.n src.c)) := by exact rfl) (hap : appO (cx fn w0 H0 pin Φ).tt T = some (kk, by_, z) := by exact rfl) (hz : z.cells.size = kk := by exact rfl) (hkk : row.k = kk := by exact rfl) (hks : src.k = kk := by exact rfl) (hfree : agm ρ env = true := by exact rfl) (hR : ∀ p' c', ajm R ρ ⟨row.k, p', n', c', row.xs ++ src.xs⟩ = some (R' p' c') := by exact fun _ _ => rfl) (hn : row.n + src.n = n' := by first | (simp; done) | (rw [List.length_append]; rfl) | (simp; omega)) (hroom : n' * by_ ≤ 140737488355328 := by first | assumption | omega | (simp; omega)) (hmax : n' ≤ 9223372036854775807 := by first | assumption | omega | (simp; omega)) : WX (cx fn w0 H0 pin Φ) (.ops ops (o :: r) :: s) env L R Γ := WX.appR1 (ρ := ρ) (σ := σ) (n' := n') (ht := ht) (hg := hg) (hd := hd) (hlt := hlt) (ho := ho) (hx := hx) (hy := hy) (hap := hap) (hz := hz) (hρ := hρ) (hσ := hσ) (hkk := hkk) (hks := hks) (hfree := hfree) (hone := hone) (hn := hn) (hroom := hroom) (hmax := hmax) (hR := hR) (k := k)
theorem zG {q : Nat} [GoT α] {l : List α} {R' : List Value → Option Addr → Nat → Go.Stp.Rows} (ρ : Nat) (ℓ : Nat) (n : Nat) (n' : Nat) (hq : q = l.length) (k : ∀ xs p' c', WX (cx fn w0 H0 pin Φ) (.ops ops r :: s) ((d, .v (.slice p' n' c')) :: env) L (R' xs p' c') ((n, MF.rl .der xs l) :: Γ)) (ht : aek (cx fn w0 H0 pin Φ).P (cx fn w0 H0 pin Φ).tt := by exact ttOk) (hρ : Go.Stp.look R ρ = some row := by exact rfl) (hℓ : Go.Stp.look Γ ℓ = some (MF.rs kd p c l) := by exact rfl) (hg : gd ops env o = some true := by exact rfl) (hd : o.dst = some d := by exact rfl) (hlt : Nat.blt d (cx fn w0 H0 pin Φ).fn.ntmps = true := by exact rfl) (ho : o.op = .call { callee := .builtin .append, args := #[x, y], argTypes := #[T, T] } := by exact rfl) (hx : ev env x = some (.v (.slice row.p row.n row.c)) := by exact rfl) (hy : ev env y = some (.v (.slice p q c)) := by exact rfl) (hap : appO (cx fn w0 H0 pin Φ).tt T = some (GoT.k α, by_, z) := by exact rfl) (hz : z.cells.size = GoT.k α := by exact rfl) (hkk : row.k = GoT.k α := by exact rfl) (hfree : agm ρ env = true := by exact rfl) (hR : ∀ xs p' c', ajm R ρ ⟨row.k, p', n', c', row.xs ++ xs⟩ = some (R' xs p' c') := by exact fun _ _ _ => rfl) (hn : row.n + l.length = n' := by first | (simp; done) | (rw [List.length_append]; rfl) | (simp; omega)) (hroom : n' * by_ ≤ 140737488355328 := by first | assumption | omega | (simp; omega)) (hmax : n' ≤ 9223372036854775807 := by first | assumption | omega | (simp; omega)) : WX (cx fn w0 H0 pin Φ) (.ops ops (o :: r) :: s) env L R Γ := WX.appG1 (ρ := ρ) (ℓ := ℓ) (n := n) (n' := n') (ht := ht) (hg := hg) (hd := hd) (hlt := hlt) (ho := ho) (hx := hx) (hy := hy) (hq := hq) (hap := hap) (hz := hz) (hρ := hρ) (hkk := hkk) (hfree := hfree) (hℓ := hℓ) (hn := hn) (hroom := hroom) (hmax := hmax) (hR := hR) (k := k)
theorem zE [GoT α] {l : List α} (ρ : Nat) (ℓ : Nat) (n : Nat) (k : WX C s env L R' ((n, MF.rs .der row.p row.c l) :: (n + 1, MF.os row.p row.c l) :: Γ1)) (hρ : Go.Stp.look R ρ = some row := by exact rfl) (hℓ : agt [ℓ] Γ = some ([MF.ol row.xs l], Γ1) := by exact rfl) (hk : row.k = GoT.k α := by exact rfl) (hn : row.n = l.length := by exact rfl) (hR : apr R ρ = some R' := by exact rfl)  : WX C s env L R Γ := WX.seal (ρ := ρ) (ℓ := ℓ) (n := n) (hρ := hρ) (hk := hk) (hn := hn) (hℓ := hℓ) (hR := hR) (k := k)
theorem yE [GoT α] {l : List α} (ρ : Nat) (ℓ : Nat) (n : Nat) (k : WX (cx fn w0 H0 pin Φ) s env L R' ((n, MF.rs .der row.p row.c l) :: (n + 1, MF.os row.p row.c l) :: Γ1)) (h0 : exec tt fn.ntmps R 1000 s0 env0 L0 = (s, env, L) := by exact rfl) (hρ : Go.Stp.look R ρ = some row := by exact rfl) (hℓ : agt [ℓ] Γ = some ([MF.ol row.xs l], Γ1) := by exact rfl) (hk : row.k = GoT.k α := by exact rfl) (hn : row.n = l.length := by exact rfl) (hR : apr R ρ = some R' := by exact rfl)  : WX (cx fn w0 H0 pin Φ) s0 env0 L0 R Γ := WX.run ttOk h0 (WX.seal (ρ := ρ) (ℓ := ℓ) (n := n) (hρ := hρ) (hk := hk) (hn := hn) (hℓ := hℓ) (hR := hR) (k := k))
theorem zB (k : ∀ p, WX (cx fn w0 H0 pin Φ) (.ops ops r :: s) ((d, .v (.slice p len len)) :: env) L ((d, ⟨kk, p, len, len, cs⟩) :: R) Γ) (ht : aek (cx fn w0 H0 pin Φ).P (cx fn w0 H0 pin Φ).tt := by exact ttOk) (hg : gd ops env o = some true := by exact rfl) (hd : o.dst = some d := by exact rfl) (hlt : Nat.blt d (cx fn w0 H0 pin Φ).fn.ntmps = true := by exact rfl) (ho : o.op = .buildSlice T len parts := by exact rfl) (hb : bldO (cx fn w0 H0 pin Φ).tt env T len parts.toList = some (kk, cs) := by exact rfl) (hlen : Nat.ble len 16777216 = true := by exact rfl) (hnl : agp d env L R = false := by exact rfl)  : WX (cx fn w0 H0 pin Φ) (.ops ops (o :: r) :: s) env L R Γ := WX.bld (ht := ht) (hg := hg) (hd := hd) (hlt := hlt) (ho := ho) (hb := hb) (hlen := hlen) (hnl := hnl) (k := k)
theorem yB (k : ∀ p, WX (cx fn w0 H0 pin Φ) (.ops ops r :: s) ((d, .v (.slice p len len)) :: env) L ((d, ⟨kk, p, len, len, cs⟩) :: R) Γ) (h0 : exec tt fn.ntmps R 1000 s0 env0 L0 = ((.ops ops (o :: r) :: s), env, L) := by exact rfl) (ht : aek (cx fn w0 H0 pin Φ).P (cx fn w0 H0 pin Φ).tt := by exact ttOk) (hg : gd ops env o = some true := by exact rfl) (hd : o.dst = some d := by exact rfl) (hlt : Nat.blt d (cx fn w0 H0 pin Φ).fn.ntmps = true := by exact rfl) (ho : o.op = .buildSlice T len parts := by exact rfl) (hb : bldO (cx fn w0 H0 pin Φ).tt env T len parts.toList = some (kk, cs) := by exact rfl) (hlen : Nat.ble len 16777216 = true := by exact rfl) (hnl : agp d env L R = false := by exact rfl)  : WX (cx fn w0 H0 pin Φ) s0 env0 L0 R Γ := WX.run ttOk h0 (WX.bld (ht := ht) (hg := hg) (hd := hd) (hlt := hlt) (ho := ho) (hb := hb) (hlen := hlen) (hnl := hnl) (k := k))
theorem zN [GoT α] {l : List α} (ρ : Nat) (ℓ : Nat) (n : Nat) (k : ∀ xs, xs.length = l.length * kk → WX C s env L ((ρ, ⟨kk, p, l.length, c, xs⟩) :: R) ((n, MF.ol xs l) :: Γ1)) (hℓ : agt [ℓ] Γ = some ([MF.os p c l], Γ1) := by exact rfl) (hkk : kk = GoT.k α := by exact rfl) (hnl : agp ρ env L R = false := by exact rfl)  : WX C s env L R Γ := WX.opn (ρ := ρ) (ℓ := ℓ) (n := n) (hkk := hkk) (hℓ := hℓ) (hnl := hnl) (k := k)
theorem zU (ks : List Nat) (n : Nat) (k : WX C s env L R Γ2) (hk : agt ks Γ = some (fs, Γ1) := by exact rfl) (ha : addF n fs Γ1 = some Γ2 := by exact rfl)  : WX C s env L R Γ := RL (ks := ks) (n := n) (hk := hk) (ha := ha) (k := k)
theorem zT [GoT α] (ks : List Nat) (n : Nat) (a : α) (x : GoT.X α) (k : (∀ u ∈ GoT.sh a x, u.oneCell' = true) → WX C s env L R ((n, MF.ol (GoT.sh a x) [a]) :: Γ1)) (hk : agt ks Γ = some (GoT.oa a x, Γ1) := by exact rfl)  : WX C s env L R Γ := T1 (ks := ks) (n := n) (a := a) (x := x) (hk := hk) (k := k)
theorem zV [GoT α] {l m : List α} (ks : List Nat) (n : Nat) (k : WX C s env L R ((n, MF.ol (xs ++ ys) (l ++ m)) :: Γ1)) (hk : agt ks Γ = some ([MF.ol xs l, MF.ol ys m], Γ1) := by exact rfl)  : WX C s env L R Γ := T2 (ks := ks) (n := n) (hk := hk) (k := k)
theorem zW [GoT α] {l : List α} (n : Nat) (i : Nat) (k : WX C s env L R ((n, MF.rs .der p c l) :: Γ)) (h : Go.Stp.look Γ i = some (MF.os p c l) := by exact rfl)  : WX C s env L R Γ := D0 (n := n) (i := i) (h := h) (k := k)
theorem zX {val : ι → Value} {gs : ι → List MF} (ks : List Nat) (i : ι) (hq : Q) (hk : agt ks Γ = some (fs, Γ1) := by exact rfl) (h : resV tt env L fn.results.toList = some vs := by exact rfl) (hv : tup vs = val i := by exact rfl) (hf : gs i = fs := by exact rfl)  : WX ⟨Tryz.prog, fn, tt, w0, H, pin, Post w0 H val gs Q⟩ (.code .ret :: s) env L R Γ := R8 (h := h) (ks := ks) (i := i) (hk := hk) (hv := hv) (hf := hf) (hq := hq)
theorem yX {val : ι → Value} {gs : ι → List MF} (ks : List Nat) (i : ι) (hq : Q) (h0 : exec tt fn.ntmps R 1000 s0 env0 L0 = ((.code .ret :: s), env, L) := by exact rfl) (hk : agt ks Γ = some (fs, Γ1) := by exact rfl) (h : resV tt env L fn.results.toList = some vs := by exact rfl) (hv : tup vs = val i := by exact rfl) (hf : gs i = fs := by exact rfl)  : WX ⟨Tryz.prog, fn, tt, w0, H, pin, Post w0 H val gs Q⟩ s0 env0 L0 R Γ := WX.run ttOk h0 (R8 (h := h) (ks := ks) (i := i) (hk := hk) (hv := hv) (hf := hf) (hq := hq))
theorem yKD {p : Prop} [Decidable p] (d : Nat) (kt : (decide p) = true → p → WX (cx fn w0 H0 pin Φ) s ((d, .T) :: env) L R Γ) (kf : (decide p) = false → ¬p → WX (cx fn w0 H0 pin Φ) s ((d, .F) :: env) L R Γ) (h0 : exec tt fn.ntmps R 1000 s0 env0 L0 = (s, env, L) := by exact rfl) (h : Go.Stp.look env d = some (.v (.bool (decide p))) := by exact rfl)  : WX (cx fn w0 H0 pin Φ) s0 env0 L0 R Γ := WX.run ttOk h0 (KD0 (d := d) (h := h) (kt := kt) (kf := kf))
theorem yKN (d : Nat) (kt : (!b) = true → b = false → WX (cx fn w0 H0 pin Φ) s ((d, .T) :: env) L R Γ) (kf : (!b) = false → b = true → WX (cx fn w0 H0 pin Φ) s ((d, .F) :: env) L R Γ) (h0 : exec tt fn.ntmps R 1000 s0 env0 L0 = (s, env, L) := by exact rfl) (h : Go.Stp.look env d = some (.v (.bool (!b))) := by exact rfl)  : WX (cx fn w0 H0 pin Φ) s0 env0 L0 R Γ := WX.run ttOk h0 (KN0 (d := d) (h := h) (kt := kt) (kf := kf))
theorem yKE [BEq α] [LawfulBEq α] {a b : α} (d : Nat) (kt : (a == b) = true → a = b → WX (cx fn w0 H0 pin Φ) s ((d, .T) :: env) L R Γ) (kf : (a == b) = false → ¬a = b → WX (cx fn w0 H0 pin Φ) s ((d, .F) :: env) L R Γ) (h0 : exec tt fn.ntmps R 1000 s0 env0 L0 = (s, env, L) := by exact rfl) (h : Go.Stp.look env d = some (.v (.bool (a == b))) := by exact rfl)  : WX (cx fn w0 H0 pin Φ) s0 env0 L0 R Γ := WX.run ttOk h0 (KE0 (d := d) (h := h) (kt := kt) (kf := kf))
theorem yKM [BEq α] [LawfulBEq α] {a b : α} (d : Nat) (kt : (a != b) = true → ¬a = b → WX (cx fn w0 H0 pin Φ) s ((d, .T) :: env) L R Γ) (kf : (a != b) = false → a = b → WX (cx fn w0 H0 pin Φ) s ((d, .F) :: env) L R Γ) (h0 : exec tt fn.ntmps R 1000 s0 env0 L0 = (s, env, L) := by exact rfl) (h : Go.Stp.look env d = some (.v (.bool (a != b))) := by exact rfl)  : WX (cx fn w0 H0 pin Φ) s0 env0 L0 R Γ := WX.run ttOk h0 (KM0 (d := d) (h := h) (kt := kt) (kf := kf))
theorem yKX [BEq α] [LawfulBEq α] {a b : α} (d : Nat) (kt : (!(a == b)) = true → ¬a = b → WX (cx fn w0 H0 pin Φ) s ((d, .T) :: env) L R Γ) (kf : (!(a == b)) = false → a = b → WX (cx fn w0 H0 pin Φ) s ((d, .F) :: env) L R Γ) (h0 : exec tt fn.ntmps R 1000 s0 env0 L0 = (s, env, L) := by exact rfl) (h : Go.Stp.look env d = some (.v (.bool (!(a == b)))) := by exact rfl)  : WX (cx fn w0 H0 pin Φ) s0 env0 L0 R Γ := WX.run ttOk h0 (KX0 (d := d) (h := h) (kt := kt) (kf := kf))
theorem zKA (d : Nat) (kt : b = true → WX C s ((d, .T) :: env) L R Γ) (kf : b = false → WX C s ((d, .F) :: env) L R Γ) (h : Go.Stp.look env d = some (.v (.bool b)) := by exact rfl)  : WX C s env L R Γ := WX.cases (d := d) (h := h) (kt := kt) (kf := kf)
theorem yKA (d : Nat) (kt : b = true → WX (cx fn w0 H0 pin Φ) s ((d, .T) :: env) L R Γ) (kf : b = false → WX (cx fn w0 H0 pin Φ) s ((d, .F) :: env) L R Γ) (h0 : exec tt fn.ntmps R 1000 s0 env0 L0 = (s, env, L) := by exact rfl) (h : Go.Stp.look env d = some (.v (.bool b)) := by exact rfl)  : WX (cx fn w0 H0 pin Φ) s0 env0 L0 R Γ := WX.run ttOk h0 (WX.cases (d := d) (h := h) (kt := kt) (kf := kf))
theorem zDC (d : Nat) (kt : b = true → DX C ops tl s bs G0 fuel listed ((d, .T) :: env) L R Γ) (kf : b = false → DX C ops tl s bs G0 fuel listed ((d, .F) :: env) L R Γ) (h : Go.Stp.look env d = some (.v (.bool b)) := by exact rfl)  : DX C ops tl s bs G0 fuel listed env L R Γ := DX.cases (d := d) (h := h) (kt := kt) (kf := kf)
theorem SA0 {b : BinOp} {n q : Int} (k : WX (cx fn w0 H0 pin Φ) (.ops ops r :: s) ((d, .v (.int .i64 q)) :: env) L R Γ) (hg : gd ops env o = some true := by exact rfl) (hd : o.dst = some d := by exact rfl) (hlt : Nat.blt d fn.ntmps = true := by exact rfl) (ho : o.op = .binOp b T x y T' := by exact rfl) (hx : ev env x = some (.v (.int .i64 m)) := by exact rfl) (hy : ev env y = some (.v (.int .i64 n)) := by exact rfl) (hq : ahz b m n = some q := by exact rfl) (hr : I64 q := by unfold I64; first | omega | (simp only [List.length_take] at *; omega) | (dsimp only; omega)) : WX (cx fn w0 H0 pin Φ) (.ops ops (o :: r) :: s) env L R Γ := WX.see hg hd hlt (fun _ _ => aih ho hx hy hq hr) k
theorem SA {b : BinOp} {n q : Int} (k : WX (cx fn w0 H0 pin Φ) (.ops ops r :: s) ((d, .v (.int .i64 q)) :: env) L R Γ) (h0 : exec tt fn.ntmps R 1000 s0 env0 L0 = (.ops ops (o :: r) :: s, env, L) := by exact rfl) (hg : gd ops env o = some true := by exact rfl) (hd : o.dst = some d := by exact rfl) (hlt : Nat.blt d fn.ntmps = true := by exact rfl) (ho : o.op = .binOp b T x y T' := by exact rfl) (hx : ev env x = some (.v (.int .i64 m)) := by exact rfl) (hy : ev env y = some (.v (.int .i64 n)) := by exact rfl) (hq : ahz b m n = some q := by exact rfl) (hr : I64 q := by unfold I64; first | omega | (simp only [List.length_take] at *; omega) | (dsimp only; omega)) : WX (cx fn w0 H0 pin Φ) s0 env0 L0 R Γ := WX.run ttOk h0 (SA0 k hg hd hlt ho hx hy hq hr)
theorem SW0 {b : BinOp} {n q : Int} (k : WX (cx fn w0 H0 pin Φ) (.ops ops r :: s) ((d, .v (.int .i64 (i64.wrap q))) :: env) L R Γ) (hg : gd ops env o = some true := by exact rfl) (hd : o.dst = some d := by exact rfl) (hlt : Nat.blt d fn.ntmps = true := by exact rfl) (ho : o.op = .binOp b T x y T' := by exact rfl) (hx : ev env x = some (.v (.int .i64 m)) := by exact rfl) (hy : ev env y = some (.v (.int .i64 n)) := by exact rfl) (hq : ahz b m n = some q := by exact rfl) : WX (cx fn w0 H0 pin Φ) (.ops ops (o :: r) :: s) env L R Γ := WX.see hg hd hlt (fun _ _ => ap4 ho hx hy hq) k
theorem SW {b : BinOp} {n q : Int} (k : WX (cx fn w0 H0 pin Φ) (.ops ops r :: s) ((d, .v (.int .i64 (i64.wrap q))) :: env) L R Γ) (h0 : exec tt fn.ntmps R 1000 s0 env0 L0 = (.ops ops (o :: r) :: s, env, L) := by exact rfl) (hg : gd ops env o = some true := by exact rfl) (hd : o.dst = some d := by exact rfl) (hlt : Nat.blt d fn.ntmps = true := by exact rfl) (ho : o.op = .binOp b T x y T' := by exact rfl) (hx : ev env x = some (.v (.int .i64 m)) := by exact rfl) (hy : ev env y = some (.v (.int .i64 n)) := by exact rfl) (hq : ahz b m n = some q := by exact rfl) : WX (cx fn w0 H0 pin Φ) s0 env0 L0 R Γ := WX.run ttOk h0 (SW0 k hg hd hlt ho hx hy hq)
theorem SL (d m : Nat) (k : WX C s ((d, .v (.slice p m c)) :: env) L R Γ) (h : Go.Stp.look env d = some (.v (.slice p n c)) := by exact rfl) (e : n = m := by omega) : WX C s env L R Γ := WX.slot d h (fun _ => by rw [e]) k
theorem F1 (n : Nat) (α : Type) [GoT α] (k : WX C s env L R ((n, MF.os none 0 ([] : List α)) :: Γ)) : WX C s env L R Γ := WX.free n _ (aeo _ _) k
theorem CN {val val' : ι → Value} {gs ds : ι → List MF} {Γ' : ι → Facts} (ks : List Nat) (n : Nat) (hks : agt ks Γ = some (fs, Γ1)) (hg : gd ops env o = some true) (hd : o.dst = some d) (hlt : Nat.blt d C.fn.ntmps = true) (ho : o.op = .call { callee := .value f, args := args.toArray, argTypes := ats }) (hf : ev env f = some sf) (hsf : ∀ bs, conc bs sf = .func (.func g) #[] (caps bs).toArray) (hargs : evs env args = some svs) (hc : ∀ w (bs : Nat → Nat) H, Le H (hp w) → Sep H fs → AllK C.M (cut (hp w) H) Γ1 → Does C.P g (svs.map (conc bs) ++ caps bs).toArray w H (Post w H val gs Q)) (k : ∀ i, Q → WX C (.ops ops r :: s) ((d, .v (val' i)) :: env) L R (Γ' i)) (hds : ∀ i h, Sep h (gs i) → All h (ds i) := by exact fun _ _ h => GoT.ow_rd (kd := .der) h) (hdk : ∀ i, ∀ f ∈ ds i, f.k = .der := by exact fun _ f hf => GoT.fak f hf) (hv : ∀ i, aio (val i) = some (val' i) := by exact fun _ => rfl) (hΓ' : ∀ i, addF n (ds i ++ gs i) Γ1 = some (Γ' i) := by exact fun _ => rfl) : WX C (.ops ops (o :: r) :: s) env L R Γ := WX.callM ks n hks hds hdk hg hd hlt ho hf hsf hargs (fun w _ bs H _ a b c => hc w bs H a b c) hv hΓ' k
theorem CU [GoT α] {val val' : GoT.X α → Value} {Γ' : GoT.X α → Facts} {cs' : GoT.X α → List Value} (a : α) (lab : Nat) (ks : List Nat) (n : Nat) (hl : Go.Stp.look L lab = some ⟨T, cs⟩) (hks : agt ks Γ = some (fs, Γ1)) (hg : gd ops env o = some true) (hd : o.dst = some d) (hlt : Nat.blt d C.fn.ntmps = true) (ho : o.op = .call { callee := .value f, args := args.toArray, argTypes := ats }) (hf : ev env f = some sf) (hsf : ∀ bs, conc bs sf = .func (.func g) #[] (caps bs).toArray) (hargs : evs env args = some svs) (hc : ∀ w (bs : Nat → Nat) H, Le H (hp w) → Sep H (MF.bx (bs lab) T cs :: fs) → AllK C.M (cut (hp w) H) Γ1 → Does C.P g (svs.map (conc bs) ++ caps bs).toArray w H (Post w H val (fun i => MF.bx (bs lab) T (GoT.sh a i) :: GoT.oa a i) Q)) (hn : ∀ i, aq0 (GoT.sh a i) = some (cs' i)) (k : ∀ i, Q → WX C (.ops ops r :: s) ((d, .v (val' i)) :: env) (setL L lab (cs' i)) R (Γ' i)) (hv : ∀ i, aio (val i) = some (val' i) := by exact fun _ => rfl) (hΓ' : ∀ i, addF n (GoT.fa .der a i ++ GoT.oa a i) Γ1 = some (Γ' i) := by exact fun _ => rfl) : WX C (.ops ops (o :: r) :: s) env L R Γ := WX.callPM lab ks n hl hks (ds := fun i => GoT.fa .der a i) (fun _ _ h => GoT.ow_rd h) (fun _ f hf => GoT.fak f hf) hg hd hlt ho hf hsf hargs (fun w _ bs H _ x y z => by have q := hc w bs H x y z; rw [show (fun i => MF.bx (bs lab) T (GoT.sh a i) :: GoT.oa a i) = (fun i => MF.bx (bs lab) T (cs' i) :: GoT.oa a i) from funext fun i => by rw [ajg (hn i)]] at q; exact q) hv hΓ' k
theorem SI {a : Int} (d : Nat) (k : WX C s ((d, .v (.int .i64 ((a.toNat : Nat) : Int))) :: env) L R Γ) (h : Go.Stp.look env d = some (.v (.int .i64 a)) := by exact rfl) (e : a = ((a.toNat : Nat) : Int) := by omega) : WX C s env L R Γ := WX.slot (y := .v (.int .i64 ((a.toNat : Nat) : Int))) d h (fun _ => congrArg (Value.int .i64) e) k
theorem FZ [GoT α] {l : List α} (n : Nat) (h : OwL emp xs l) (k : WX C s env L R ((n, MF.ol xs l) :: Γ)) : WX C s env L R Γ := WX.free n (MF.ol xs l) h k
def tkL : List Nat → List (Nat × Bool) | [] => [] | n :: r => (n / 2, Nat.beq (n % 2) 1) :: tkL r
theorem dT (fuel : Nat) (js : List Nat) {f0 : Nat} (k : DX (cx fn w0 H0 pin Φ) ops tl s bs G0 fuel (apc listed (tkL js)) env' L R Γ) (hf : fuel + (tkL js).length = f0 := by exact rfl) (hb : ajy ops tl listed (tkL js) = true := by kernel_rfl) (he : ahf tt fn.ntmps ops L env (tkL js) = some env' := by exact rfl) : DX (cx fn w0 H0 pin Φ) ops tl s bs G0 f0 listed env L R Γ := hf ▸ DX.takes ttOk (tkL js) hb he k
theorem An {a b : Prop} (x : a) (y : b) : a ∧ b := ⟨x, y⟩
theorem nA {p : α → Prop} (a : α) (h : a ∈ ([] : List α)) : p a := by cases h
theorem dn {l : List α} (h : l.length ≤ i) : l.drop i = [] := List.drop_eq_nil_of_le h
theorem zl : 0 ≤ n := Nat.zero_le n
abbrev pI (n : Nat) (x : Int) : Value → World → Prop := fun rv _ => rv = .int .i64 x ∧ GoT.ok n x
abbrev pT (n : Nat) (x : Str) : Value → World → Prop := fun rv _ => rv = .string x ∧ GoT.ok n x
abbrev pS {α : Type} [GoT α] (w : World) (n : Nat) (a : α) : Value → World → Prop := Post w emp (fun x => (GoT.sh a x).headD undef) (fun x => GoT.oa a x) (GoT.ok n a)
abbrev pA {α : Type} [GoT α] (w : World) (n : Nat) (a : α) : Value → World → Prop := Post w emp (fun x => .agg ⟨GoT.sh a x⟩) (fun x => GoT.oa a x) (GoT.ok n a)
abbrev pSB {α : Type} [GoT α] (w : World) (n : Nat) (a : α × Bool) : Value → World → Prop := Post w emp (fun x => .tuple #[(GoT.sh a.1 x).headD undef, .bool a.2]) (fun x => GoT.oa a.1 x) (GoT.ok n a.1)
abbrev pAB {α : Type} [GoT α] (w : World) (n : Nat) (a : α × Bool) : Value → World → Prop := Post w emp (fun x => .tuple #[.agg ⟨GoT.sh a.1 x⟩, .bool a.2]) (fun x => GoT.oa a.1 x) (GoT.ok n a.1)
abbrev DP (g : FuncId) (a : Array Value) (w : World) (p : Value → World → Prop) : Prop := Does Tryz.prog g a w emp p
abbrev Rd {α : Type} [GoT α] (w : World) (p : Option Addr) (c : Nat) (l : List α) : Prop := RdSl (hp w) p c l
abbrev vI (x : Int) : Value := .int .i64 x
abbrev vS {α : Type} (p : Option Addr) (l : List α) (c : Nat) : Value := .slice p l.length c
abbrev al6 (x : DataP) (k0 : Option Addr) (k1 : Nat) (k2 : Option Addr) (k3 : Nat) (k4 : Option Addr) (k5 : Nat) : Value := .agg #[vS k0 x.name.parts k1, vS k2 x.content k3, vS k4 x.keyName.parts k5, vI x.freshUntil, vI x.signature]
abbrev ahx (x : Consumer) (k0 : Option Addr) (k1 : Nat) (k2 : Option Addr) (k3 : Nat) (k4 : Option Addr) (k5 : Nat) (k6 : Option Addr) (k7 : Nat) : Value := .agg #[vI x.node, vI x.index, vS k0 x.name.parts k1, vI x.attempts, vI x.wait, .bool x.satisfied, vS k2 x.data.name.parts k3, vS k4 x.data.content k5, vS k6 x.data.keyName.parts k7, vI x.data.freshUntil, vI x.data.signature]
abbrev aeq (x : Topology) (k0 : Option Addr) (k1 : Nat) : Value := .agg #[vI x.size, vS k0 x.links k1]
abbrev arv (x : Rule) (k0 : Option Addr) (k1 : Nat) (k2 : Option Addr) (k3 : Nat) : Value := .agg #[vS k0 x.dataPattern.parts k1, vS k2 x.keyPattern.parts k3]
abbrev af4 (x : TrustPolicy) (k0 : Option Addr) (k1 : Nat) (k2 : Option Addr) (k3 : Nat) (k4 : Option Addr) (k5 : Nat) (k6 : Option Addr) (k7 : Nat) : Value := .agg #[vS k0 x.keys k1, vS k2 x.rules k3, vS k4 x.anchors k5, vS k6 x.certificates k7]
abbrev aha (x : CacheEntry) (k0 : Option Addr) (k1 : Nat) (k2 : Option Addr) (k3 : Nat) (k4 : Option Addr) (k5 : Nat) : Value := .agg #[vS k0 x.data.name.parts k1, vS k2 x.data.content k3, vS k4 x.data.keyName.parts k5, vI x.data.freshUntil, vI x.data.signature, vI x.lastUsed]
abbrev agc (x : PendingInterest) (k0 : Option Addr) (k1 : Nat) (k2 : Option Addr) (k3 : Nat) : Value := .agg #[vS k0 x.name.parts k1, vS k2 x.requesters k3, vI x.lastSent]
abbrev an6 (x : Route) (k0 : Option Addr) (k1 : Nat) : Value := .agg #[vS k0 x.pfx.parts k1, vI x.face, vI x.cost]
abbrev apk (x : NodeP) (k0 : Option Addr) (k1 : Nat) (k2 : Option Addr) (k3 : Nat) (k4 : Option Addr) (k5 : Nat) (k6 : Option Addr) (k7 : Nat) (k8 : Option Addr) (k9 : Nat) (k10 : Option Addr) (k11 : Nat) : Value := .agg #[vS k0 x.locl k1, vI x.cache.capacity, vS k2 x.cache.entries k3, vS k4 x.pending k5, vS k6 x.seen k7, vS k8 x.routes k9, vS k10 x.measurements k11, vI x.dropped]
abbrev ai1 (x : Interest) (k0 : Option Addr) (k1 : Nat) : Value := .agg #[vS k0 x.name.parts k1, vI x.nonce, vI x.hopLimit, vI x.lifetime]
abbrev afm (x : PacketInFlight) (k0 : Option Addr) (k1 : Nat) (k2 : Option Addr) (k3 : Nat) (k4 : Option Addr) (k5 : Nat) (k6 : Option Addr) (k7 : Nat) : Value := .agg #[vI x.to, vI x.face, .bool x.isInterest, vS k0 x.interest.name.parts k1, vI x.interest.nonce, vI x.interest.hopLimit, vI x.interest.lifetime, vS k2 x.data.name.parts k3, vS k4 x.data.content k5, vS k6 x.data.keyName.parts k7, vI x.data.freshUntil, vI x.data.signature]
abbrev afp (x : Network) (k0 : Option Addr) (k1 : Nat) (k2 : Option Addr) (k3 : Nat) (k4 : Option Addr) (k5 : Nat) (k6 : Option Addr) (k7 : Nat) (k8 : Option Addr) (k9 : Nat) (k10 : Option Addr) (k11 : Nat) (k12 : Option Addr) (k13 : Nat) (k14 : Option Addr) (k15 : Nat) (k16 : Option Addr) (k17 : Nat) (k18 : Option Addr) (k19 : Nat) : Value := .agg #[vI x.topology.size, vS k0 x.topology.links k1, vS k2 x.trust.keys k3, vS k4 x.trust.rules k5, vS k6 x.trust.anchors k7, vS k8 x.trust.certificates k9, vS k10 x.producers k11, vS k12 x.nodes k13, vI x.downNodes, vS k14 x.failedLinks k15, vS k16 x.inFlight k17, vS k18 x.consumers k19, vI x.now, vI x.dropped]
theorem τ0 {p : Prop} (h : p := by omega) : p := h
theorem τ1 {p : Prop} (h : p := by first | (dsimp only; omega) | omega) : p := h
theorem τ2 {p : Prop} (h : p := by first | assumption | omega | (simp; omega)) : p := h
theorem τ3 {p : Prop} (h : p := by first | assumption | omega) : p := h
theorem τ5 {p : Prop} (h : p := by first | omega | (simp; done) | (simp; omega)) : p := h
theorem τ6 {p : Prop} (h : p := by first | omega | (simp; omega)) : p := h
theorem τ7 {p : Prop} (h : p := by simp) : p := h
theorem τ8 {p : Prop} (h : p := by decide) : p := h
theorem τ9 {p : Prop} (h : p := by unfold I64; first | omega | (simp only [List.length_take] at *; omega)) : p := h
end Go.Proofs.YtpmejlbgjkiobaaGreat
namespace Go.Stp
def a0u (n_ : Int) (a : Int) (b : Int) : Bool := bif decide (a ≤ n_) then (decide (n_ ≤ b)) else false
def a0j (x_ : Int) (least : Int) (most : Int) : Bool := bif decide (x_ ≥ least) then (decide (x_ ≤ most)) else false
end Go.Stp
namespace Go.Proofs.YtpmejlbgjkiobaaGreat
open Go.Stp
open Go.Stp.GoT (ok)
variable {w : World} (n : Nat)
theorem f54 (hn : n + 0 ≤ 9) {n_ : Int} {a : Int} {b : Int} (a0 : ok n n_) (a1 : ok n a) (a2 : ok n b) :
 DP 54 #[vI n_, vI a, vI b] w (pB (a0u n_ a b)) := by
 refine EN Tryz.func54 Z adc ?_
 refine yKD 10 ?_ ?_ <;> intro h1 a3
 exact R4r Z Z (by simp only [a0u, h1, cT, cF])
 exact R4r Z Z (by simp only [a0u, h1, cT, cF])
theorem f171 (hn : n + 0 ≤ 9) {x_ : Int} {least : Int} {most : Int} (a2 : ok n x_) (a0 : ok n least) (a1 : ok n most) :
 DP 171 #[vI x_, vI least, vI most] w (pB (a0j x_ least most)) := by
 refine EN Tryz.func171 Z adc ?_
 refine yKD 10 ?_ ?_ <;> intro h1 a3
 exact R4r Z Z (by simp only [a0j, h1, cT, cF])
 exact R4r Z Z (by simp only [a0j, h1, cT, cF])
theorem agk {n a b : Int} (h : a0u n a b = true) : a ≤ n ∧ n ≤ b := by
 unfold a0u at h
 cases hd : decide (a ≤ n)
 ·exact absurd (show false = true by rw [show decide (a ≤ n) = false from hd] at h; exact h) Bool.false_ne_true
 ·rw [show decide (a ≤ n) = true from hd] at h
  exact ⟨of_decide_eq_true hd, of_decide_eq_true (show decide (n ≤ b) = true from h)⟩
theorem afy {n a b : Int} (h : a0j n a b = true) : a ≤ n ∧ n ≤ b := by
 unfold a0j at h
 cases hd : decide (a ≤ n)
 ·exact absurd (show false = true by rw [show decide (a ≤ n) = false from hd] at h; exact h) Bool.false_ne_true
 ·rw [show decide (a ≤ n) = true from hd] at h
  exact ⟨of_decide_eq_true hd, of_decide_eq_true (show decide (n ≤ b) = true from h)⟩
end Go.Proofs.YtpmejlbgjkiobaaGreat
namespace Go.Stp
def a0f (n_ : Name) : Name := n_
def a0g (n_ : Name) : Name := n_
def a2z (x_ : DataP) : DataP := (DataP.mk (a0f x_.name) x_.content (a0f x_.keyName) x_.freshUntil x_.signature)
def a30 (x_ : DataP) : DataP := (DataP.mk (a0g x_.name) x_.content (a0g x_.keyName) x_.freshUntil x_.signature)
def a9r (a : Consumer) : Consumer := (Consumer.mk a.node a.index (a0f a.name) a.attempts a.wait a.satisfied (a2z a.data))
def a9s (a : Consumer) : Consumer := (Consumer.mk a.node a.index (a0g a.name) a.attempts a.wait a.satisfied (a30 a.data))
end Go.Stp
namespace Go.Proofs.YtpmejlbgjkiobaaGreat
open Go.Stp
open Go.Stp.GoT (ok)
variable {w : World} (n : Nat) {K0 K1 K2 K3 : Option Addr} {M0 M1 M2 M3 : Nat}
theorem f149 (hn : n + 0 ≤ 9) {s : List Str} (N0 : Rd w K0 M0 s) (a0 : ok n s) :
 DP 149 #[vS K0 s M0] w (pS w n s) := by
 have hb := bS0 hn
 refine EN Tryz.func149 Z (aS1 N0) ?_
 refine KS Z Z Z Z (fun _ hΓ => ajb ttOk Z Z Z Z) ?_
 refine zKA 4 (fun a1 => ?_) (fun a1 => ?_)
 obtain rfl : K0 = none := by simpa using a1
 refine WX.know (fun G hΓ => ai6 (hΓ.get 0 Z)) fun a2 => ?_
 subst a2
 refine F1 1 Str ?_
 exact yX [1] (none, 0) (by assumption)
 refine yB fun p1 => ?_
 refine F0 2 Str ?_
 have r1 := (okl a0).1
 refine R0 ?_
 refine zG 5 0 3 (s : List Str).length Z fun a4 p2 c1 => ?_
 refine WX.know (fun G hΓ => (hΓ.get 3 Z : RdL _ _ _).flat) fun a3 => ?_
 refine WX.turn [2] 4 Z (fun h hs => afx hs a3) Z ?_
 refine yE 5 4 5 ?_
 exact zX [6] (p2, c1) (by assumption)
theorem f321 (hn : n + 0 ≤ 9) {s : List UInt8} (N0 : Rd w K0 M0 s) (a0 : ok n s) :
 DP 321 #[vS K0 s M0] w (pS w n s) := by
 have hb := bS0 hn
 refine EN Tryz.func321 Z (aS1 N0) ?_
 refine KS Z Z Z Z (fun _ hΓ => ajb ttOk Z Z Z Z) ?_
 refine zKA 4 (fun a1 => ?_) (fun a1 => ?_)
 obtain rfl : K0 = none := by simpa using a1
 refine WX.know (fun G hΓ => ai6 (hΓ.get 0 Z)) fun a2 => ?_
 subst a2
 refine F1 1 UInt8 ?_
 exact yX [1] (none, 0) (by assumption)
 refine yB fun p1 => ?_
 refine F0 2 UInt8 ?_
 have r1 := (okl a0).1
 refine R0 ?_
 refine zG 5 0 3 (s : List UInt8).length Z fun a4 p2 c1 => ?_
 refine WX.know (fun G hΓ => (hΓ.get 3 Z : RdL _ _ _).flat) fun a3 => ?_
 refine WX.turn [2] 4 Z (fun h hs => afx hs a3) Z ?_
 refine yE 5 4 5 ?_
 exact zX [6] (p2, c1) (by assumption)
theorem f56 (hn : n + 0 ≤ 9) (n_ : Name) (N0 : Rd w K0 M0 n_.parts) (a0 : ok n n_) :
 DP 56 #[.agg #[vS K0 n_.parts M0]] w (pA w n (a0f n_)) := by
 have hb := bS0 hn
 refine EN Tryz.func56 Z (aS1 N0) ?_
 refine KF Z 1 Z Z Z Z Z O Z (fun w γ => f149 n τ0 (γ.q 0 Z) (ae4 a0)) ?_
 rintro ⟨p1, c1⟩ a1
 rw [show a0f n_ = n_ by simp only [a0f, cT, cF]]
 exact yX [2] (p1, c1) a1
theorem f246 (hn : n + 0 ≤ 9) (n_ : Name) (N0 : Rd w K0 M0 n_.parts) (a0 : ok n n_) :
 DP 246 #[.agg #[vS K0 n_.parts M0]] w (pA w n (a0g n_)) := by
 have hb := bS0 hn
 refine EN Tryz.func246 Z (aS1 N0) ?_
 refine yB fun p1 => ?_
 refine F0 1 Str ?_
 have r1 := (okl (ae4 a0)).1
 refine R0 ?_
 refine zG 3 0 2 (n_.parts : List Str).length Z fun a2 p2 c1 => ?_
 refine WX.know (fun G hΓ => (hΓ.get 2 Z : RdL _ _ _).flat) fun a1 => ?_
 refine WX.turn [1] 3 Z (fun h hs => afx hs a1) Z ?_
 refine yE 3 3 4 ?_
 rw [show a0g n_ = n_ by simp only [a0g, cT, cF]]
 exact zX [5] (p2, c1) (ada τ0 (okl (ae4 a0)).2 : ok n (n_.parts : List Str))
theorem f239 (hn : n + 0 ≤ 9) (x_ : DataP) (N0 : Rd w K0 M0 x_.name.parts) (N1 : Rd w K1 M1 x_.content) (N2 : Rd w K2 M2 x_.keyName.parts) (a0 : ok n x_) :
 DP 239 #[al6 x_ K0 M0 K1 M1 K2 M2] w (pA w n (a2z x_)) := by
 have hb := bS0 hn
 refine EN Tryz.func239 Z (aS3 N0 N1 N2) ?_
 refine KF Z 3 Z Z Z Z Z O Z (fun w γ => f56 n τ0 x_.name (γ.q 0 Z) ((ado a0).1)) ?_
 rintro ⟨p1, c1⟩ a1
 refine KF Z 5 Z Z Z Z Z O Z (fun w γ => f321 n τ0 (γ.q 1 Z) ((ado a0).2.1)) ?_
 rintro ⟨p2, c2⟩ a3
 refine KF Z 7 Z Z Z Z Z O Z (fun w γ => f56 n τ0 x_.keyName (γ.q 2 Z) ((ado a0).2.2.1)) ?_
 rintro ⟨p3, c3⟩ a2
 rw [show a2z x_ = (DataP.mk (a0f x_.name) x_.content (a0f x_.keyName) x_.freshUntil x_.signature) by simp only [a2z, cT, cF]]
 exact yX [4, 6, 8] ((p1, c1), (p2, c2), (p3, c3), (), ()) (An a1 (An a3 (An a2 (An (ado a0).2.2.2.1 (ado a0).2.2.2.2))))
theorem f254 (hn : n + 0 ≤ 9) (x_ : DataP) (N0 : Rd w K0 M0 x_.name.parts) (N1 : Rd w K1 M1 x_.content) (N2 : Rd w K2 M2 x_.keyName.parts) (a0 : ok n x_) :
 DP 254 #[al6 x_ K0 M0 K1 M1 K2 M2] w (pA w n (a30 x_)) := by
 have hb := bS0 hn
 refine EN Tryz.func254 Z (aS3 N0 N1 N2) ?_
 refine KF Z 3 Z Z Z Z Z O Z (fun w γ => f246 n τ0 x_.name (γ.q 0 Z) ((ado a0).1)) ?_
 rintro ⟨p1, c1⟩ a1
 refine yB fun p2 => ?_
 refine F0 5 UInt8 ?_
 have r1 := (okl (ado a0).2.1).1
 refine R0 ?_
 refine zG 9 1 6 (x_.content : List UInt8).length Z fun a4 p3 c2 => ?_
 refine WX.know (fun G hΓ => (hΓ.get 6 Z : RdL _ _ _).flat) fun a3 => ?_
 refine WX.turn [5] 7 Z (fun h hs => afx hs a3) Z ?_
 refine KF Z 8 Z Z Z Z Z O Z (fun w γ => f246 n τ0 x_.keyName (γ.q 2 Z) ((ado a0).2.2.1)) ?_
 rintro ⟨p4, c3⟩ a2
 refine yE 9 7 10 ?_
 rw [show a30 x_ = (DataP.mk (a0g x_.name) x_.content (a0g x_.keyName) x_.freshUntil x_.signature) by simp only [a30, cT, cF]]
 exact zX [4, 11, 9] ((p1, c1), (p3, c2), (p4, c3), (), ()) (An a1 (An (ada τ0 (fun _ _ => trivial) : ok n (x_.content : List UInt8)) (An a2 (An (ado a0).2.2.2.1 (ado a0).2.2.2.2))))
theorem f126 (hn : n + 0 ≤ 9) (a : Consumer) (N0 : Rd w K0 M0 a.name.parts) (N1 : Rd w K1 M1 a.data.name.parts) (N2 : Rd w K2 M2 a.data.content) (N3 : Rd w K3 M3 a.data.keyName.parts) (a0 : ok n a) :
 DP 126 #[ahx a K0 M0 K1 M1 K2 M2 K3 M3] w (pA w n (a9r a)) := by
 have hb := bS0 hn
 refine EN Tryz.func126 Z (aS4 N0 N1 N2 N3) ?_
 refine KF Z 4 Z Z Z Z Z O Z (fun w γ => f56 n τ0 a.name (γ.q 0 Z) ((adp a0).2.2.1)) ?_
 rintro ⟨p1, c1⟩ a1
 refine KF Z 6 Z Z Z Z Z O Z (fun w γ => f239 n τ0 a.data (γ.q 1 Z) (γ.q 2 Z) (γ.q 3 Z) ((adp a0).2.2.2.2.2.2)) ?_
 rintro ⟨⟨p2, c2⟩, ⟨p3, c3⟩, ⟨p4, c4⟩, ⟨⟩, ⟨⟩⟩ a2
 rw [show a9r a = (Consumer.mk a.node a.index (a0f a.name) a.attempts a.wait a.satisfied (a2z a.data)) by simp only [a9r, cT, cF]]
 exact yX [5, 9, 10, 11] ((), (), (p1, c1), (), (), (), ((p2, c2), (p3, c3), (p4, c4), (), ())) (An (adp a0).1 (An (adp a0).2.1 (An a1 (An (adp a0).2.2.2.1 (An (adp a0).2.2.2.2.1 (An trivial a2))))))
theorem f143 (hn : n + 0 ≤ 9) (a : Consumer) (N0 : Rd w K0 M0 a.name.parts) (N1 : Rd w K1 M1 a.data.name.parts) (N2 : Rd w K2 M2 a.data.content) (N3 : Rd w K3 M3 a.data.keyName.parts) (a0 : ok n a) :
 DP 143 #[ahx a K0 M0 K1 M1 K2 M2 K3 M3] w (pA w n (a9s a)) := by
 have hb := bS0 hn
 refine EN Tryz.func143 Z (aS4 N0 N1 N2 N3) ?_
 refine KF Z 4 Z Z Z Z Z O Z (fun w γ => f246 n τ0 a.name (γ.q 0 Z) ((adp a0).2.2.1)) ?_
 rintro ⟨p1, c1⟩ a1
 refine KF Z 6 Z Z Z Z Z O Z (fun w γ => f254 n τ0 a.data (γ.q 1 Z) (γ.q 2 Z) (γ.q 3 Z) ((adp a0).2.2.2.2.2.2)) ?_
 rintro ⟨⟨p2, c2⟩, ⟨p3, c3⟩, ⟨p4, c4⟩, ⟨⟩, ⟨⟩⟩ a2
 rw [show a9s a = (Consumer.mk a.node a.index (a0g a.name) a.attempts a.wait a.satisfied (a30 a.data)) by simp only [a9s, cT, cF]]
 exact yX [5, 9, 10, 11] ((), (), (p1, c1), (), (), (), ((p2, c2), (p3, c3), (p4, c4), (), ())) (An (adp a0).1 (An (adp a0).2.1 (An a1 (An (adp a0).2.2.2.1 (An (adp a0).2.2.2.2.1 (An trivial a2))))))
end Go.Proofs.YtpmejlbgjkiobaaGreat
namespace Go.Stp
def a5m (a : (List Link)) (left : Int) : Int := bif decide (i64.wrap (left - (((a).length : Nat) : Int)) < 0) then (-1) else (i64.wrap (left - (((a).length : Nat) : Int)))
def a0w (a : Topology) (left : Int) : Int := bif decide ((a5m a.links left) < 0) then (-1) else (a5m a.links left)
def a5n : List Str → Int → Ctl (Int) (Int) | [], left2 => (Ctl.nxt left2) | e1 :: rest_, left2 => bif decide (i64.wrap (left2 - (((e1).size : Nat) : Int)) < 0) then (Ctl.ret (-1)) else a5n rest_ (i64.wrap (left2 - (((e1).size : Nat) : Int)))
def a31 (a : (List Str)) (left : Int) : Int := bif decide (i64.wrap (left - (((a).length : Nat) : Int)) < 0) then (-1) else match a5n a (i64.wrap (left - (((a).length : Nat) : Int))) with | .ret r_ => r_ | .nxt left2 => left2
def a0k (a : Name) (left : Int) : Int := bif decide ((a31 a.parts left) < 0) then (-1) else (a31 a.parts left)
def a5o (a : Key) (left : Int) : Int := bif decide ((a0k a.name left) < 0) then (-1) else (a0k a.name left)
def a5p : List Key → Int → Ctl (Int) (Int) | [], left2 => (Ctl.nxt left2) | e1 :: rest_, left2 => bif decide ((a5o e1 left2) < 0) then (Ctl.ret (-1)) else a5p rest_ (a5o e1 left2)
def a32 (a : (List Key)) (left : Int) : Int := bif decide (i64.wrap (left - (((a).length : Nat) : Int)) < 0) then (-1) else match a5p a (i64.wrap (left - (((a).length : Nat) : Int))) with | .ret r_ => r_ | .nxt left2 => left2
def a3l (a : Pattern) (left : Int) : Int := bif decide ((a31 a.parts left) < 0) then (-1) else (a31 a.parts left)
def a4e (a : Rule) (left : Int) : Int := bif decide ((a3l a.dataPattern left) < 0) then (-1) else bif decide ((a3l a.keyPattern (a3l a.dataPattern left)) < 0) then (-1) else (a3l a.keyPattern (a3l a.dataPattern left))
def a5q : List Rule → Int → Ctl (Int) (Int) | [], left2 => (Ctl.nxt left2) | e1 :: rest_, left2 => bif decide ((a4e e1 left2) < 0) then (Ctl.ret (-1)) else a5q rest_ (a4e e1 left2)
def a3m (a : (List Rule)) (left : Int) : Int := bif decide (i64.wrap (left - (((a).length : Nat) : Int)) < 0) then (-1) else match a5q a (i64.wrap (left - (((a).length : Nat) : Int))) with | .ret r_ => r_ | .nxt left2 => left2
def a5r : List Name → Int → Ctl (Int) (Int) | [], left2 => (Ctl.nxt left2) | e1 :: rest_, left2 => bif decide ((a0k e1 left2) < 0) then (Ctl.ret (-1)) else a5r rest_ (a0k e1 left2)
def a41 (a : (List Name)) (left : Int) : Int := bif decide (i64.wrap (left - (((a).length : Nat) : Int)) < 0) then (-1) else match a5r a (i64.wrap (left - (((a).length : Nat) : Int))) with | .ret r_ => r_ | .nxt left2 => left2
def a50 (a : (List UInt8)) (left : Int) : Int := bif decide (i64.wrap (left - (((a).length : Nat) : Int)) < 0) then (-1) else (i64.wrap (left - (((a).length : Nat) : Int)))
def a1i (a : DataP) (left : Int) : Int := bif decide ((a0k a.name left) < 0) then (-1) else bif decide ((a50 a.content (a0k a.name left)) < 0) then (-1) else bif decide ((a0k a.keyName (a50 a.content (a0k a.name left))) < 0) then (-1) else (a0k a.keyName (a50 a.content (a0k a.name left)))
def a5s : List DataP → Int → Ctl (Int) (Int) | [], left2 => (Ctl.nxt left2) | e1 :: rest_, left2 => bif decide ((a1i e1 left2) < 0) then (Ctl.ret (-1)) else a5s rest_ (a1i e1 left2)
def a1v (a : (List DataP)) (left : Int) : Int := bif decide (i64.wrap (left - (((a).length : Nat) : Int)) < 0) then (-1) else match a5s a (i64.wrap (left - (((a).length : Nat) : Int))) with | .ret r_ => r_ | .nxt left2 => left2
def a0x (a : TrustPolicy) (left : Int) : Int := bif decide ((a32 a.keys left) < 0) then (-1) else bif decide ((a3m a.rules (a32 a.keys left)) < 0) then (-1) else bif decide ((a41 a.anchors (a3m a.rules (a32 a.keys left))) < 0) then (-1) else bif decide ((a1v a.certificates (a41 a.anchors (a3m a.rules (a32 a.keys left)))) < 0) then (-1) else (a1v a.certificates (a41 a.anchors (a3m a.rules (a32 a.keys left))))
def a5t (a : TableEntry) (left : Int) : Int := bif decide ((a0k a.name left) < 0) then (-1) else (a0k a.name left)
def a5u : List TableEntry → Int → Ctl (Int) (Int) | [], left2 => (Ctl.nxt left2) | e1 :: rest_, left2 => bif decide ((a5t e1 left2) < 0) then (Ctl.ret (-1)) else a5u rest_ (a5t e1 left2)
def a23 (a : (List TableEntry)) (left : Int) : Int := bif decide (i64.wrap (left - (((a).length : Nat) : Int)) < 0) then (-1) else match a5u a (i64.wrap (left - (((a).length : Nat) : Int))) with | .ret r_ => r_ | .nxt left2 => left2
def a5v (a : CacheEntry) (left : Int) : Int := bif decide ((a1i a.data left) < 0) then (-1) else (a1i a.data left)
def a5w : List CacheEntry → Int → Ctl (Int) (Int) | [], left2 => (Ctl.nxt left2) | e1 :: rest_, left2 => bif decide ((a5v e1 left2) < 0) then (Ctl.ret (-1)) else a5w rest_ (a5v e1 left2)
def a4f (a : (List CacheEntry)) (left : Int) : Int := bif decide (i64.wrap (left - (((a).length : Nat) : Int)) < 0) then (-1) else match a5w a (i64.wrap (left - (((a).length : Nat) : Int))) with | .ret r_ => r_ | .nxt left2 => left2
def a3n (a : ContentStore) (left : Int) : Int := bif decide ((a4f a.entries left) < 0) then (-1) else (a4f a.entries left)
def a5x (a : (List Requester)) (left : Int) : Int := bif decide (i64.wrap (left - (((a).length : Nat) : Int)) < 0) then (-1) else (i64.wrap (left - (((a).length : Nat) : Int)))
def a4g (a : PendingInterest) (left : Int) : Int := bif decide ((a0k a.name left) < 0) then (-1) else bif decide ((a5x a.requesters (a0k a.name left)) < 0) then (-1) else (a5x a.requesters (a0k a.name left))
def a5y : List PendingInterest → Int → Ctl (Int) (Int) | [], left2 => (Ctl.nxt left2) | e1 :: rest_, left2 => bif decide ((a4g e1 left2) < 0) then (Ctl.ret (-1)) else a5y rest_ (a4g e1 left2)
def a33 (a : (List PendingInterest)) (left : Int) : Int := bif decide (i64.wrap (left - (((a).length : Nat) : Int)) < 0) then (-1) else match a5y a (i64.wrap (left - (((a).length : Nat) : Int))) with | .ret r_ => r_ | .nxt left2 => left2
def a5z (a : SeenNonce) (left : Int) : Int := bif decide ((a0k a.name left) < 0) then (-1) else (a0k a.name left)
def a60 : List SeenNonce → Int → Ctl (Int) (Int) | [], left2 => (Ctl.nxt left2) | e1 :: rest_, left2 => bif decide ((a5z e1 left2) < 0) then (Ctl.ret (-1)) else a60 rest_ (a5z e1 left2)
def a3o (a : (List SeenNonce)) (left : Int) : Int := bif decide (i64.wrap (left - (((a).length : Nat) : Int)) < 0) then (-1) else match a60 a (i64.wrap (left - (((a).length : Nat) : Int))) with | .ret r_ => r_ | .nxt left2 => left2
def a61 (a : Route) (left : Int) : Int := bif decide ((a0k a.pfx left) < 0) then (-1) else (a0k a.pfx left)
def a62 : List Route → Int → Ctl (Int) (Int) | [], left2 => (Ctl.nxt left2) | e1 :: rest_, left2 => bif decide ((a61 e1 left2) < 0) then (Ctl.ret (-1)) else a62 rest_ (a61 e1 left2)
def a42 (a : (List Route)) (left : Int) : Int := bif decide (i64.wrap (left - (((a).length : Nat) : Int)) < 0) then (-1) else match a62 a (i64.wrap (left - (((a).length : Nat) : Int))) with | .ret r_ => r_ | .nxt left2 => left2
def a63 (a : Measurement) (left : Int) : Int := bif decide ((a0k a.pfx left) < 0) then (-1) else (a0k a.pfx left)
def a64 : List Measurement → Int → Ctl (Int) (Int) | [], left2 => (Ctl.nxt left2) | e1 :: rest_, left2 => bif decide ((a63 e1 left2) < 0) then (Ctl.ret (-1)) else a64 rest_ (a63 e1 left2)
def a4h (a : (List Measurement)) (left : Int) : Int := bif decide (i64.wrap (left - (((a).length : Nat) : Int)) < 0) then (-1) else match a64 a (i64.wrap (left - (((a).length : Nat) : Int))) with | .ret r_ => r_ | .nxt left2 => left2
def a1w (a : NodeP) (left : Int) : Int := bif decide ((a1v a.locl left) < 0) then (-1) else bif decide ((a3n a.cache (a1v a.locl left)) < 0) then (-1) else bif decide ((a33 a.pending (a3n a.cache (a1v a.locl left))) < 0) then (-1) else bif decide ((a3o a.seen (a33 a.pending (a3n a.cache (a1v a.locl left)))) < 0) then (-1) else bif decide ((a42 a.routes (a3o a.seen (a33 a.pending (a3n a.cache (a1v a.locl left))))) < 0) then (-1) else bif decide ((a4h a.measurements (a42 a.routes (a3o a.seen (a33 a.pending (a3n a.cache (a1v a.locl left)))))) < 0) then (-1) else (a4h a.measurements (a42 a.routes (a3o a.seen (a33 a.pending (a3n a.cache (a1v a.locl left))))))
def a65 : List NodeP → Int → Ctl (Int) (Int) | [], left2 => (Ctl.nxt left2) | e1 :: rest_, left2 => bif decide ((a1w e1 left2) < 0) then (Ctl.ret (-1)) else a65 rest_ (a1w e1 left2)
def a34 (a : (List NodeP)) (left : Int) : Int := bif decide (i64.wrap (left - (((a).length : Nat) : Int)) < 0) then (-1) else match a65 a (i64.wrap (left - (((a).length : Nat) : Int))) with | .ret r_ => r_ | .nxt left2 => left2
def a4i (a : (List Int)) (left : Int) : Int := bif decide (i64.wrap (left - (((a).length : Nat) : Int)) < 0) then (-1) else (i64.wrap (left - (((a).length : Nat) : Int)))
def a51 (a : Interest) (left : Int) : Int := bif decide ((a0k a.name left) < 0) then (-1) else (a0k a.name left)
def a4j (a : PacketInFlight) (left : Int) : Int := bif decide ((a51 a.interest left) < 0) then (-1) else bif decide ((a1i a.data (a51 a.interest left)) < 0) then (-1) else (a1i a.data (a51 a.interest left))
def a66 : List PacketInFlight → Int → Ctl (Int) (Int) | [], left2 => (Ctl.nxt left2) | e1 :: rest_, left2 => bif decide ((a4j e1 left2) < 0) then (Ctl.ret (-1)) else a66 rest_ (a4j e1 left2)
def a43 (a : (List PacketInFlight)) (left : Int) : Int := bif decide (i64.wrap (left - (((a).length : Nat) : Int)) < 0) then (-1) else match a66 a (i64.wrap (left - (((a).length : Nat) : Int))) with | .ret r_ => r_ | .nxt left2 => left2
def a4k (a : Consumer) (left : Int) : Int := bif decide ((a0k a.name left) < 0) then (-1) else bif decide ((a1i a.data (a0k a.name left)) < 0) then (-1) else (a1i a.data (a0k a.name left))
def a67 : List Consumer → Int → Ctl (Int) (Int) | [], left2 => (Ctl.nxt left2) | e1 :: rest_, left2 => bif decide ((a4k e1 left2) < 0) then (Ctl.ret (-1)) else a67 rest_ (a4k e1 left2)
def a4l (a : (List Consumer)) (left : Int) : Int := bif decide (i64.wrap (left - (((a).length : Nat) : Int)) < 0) then (-1) else match a67 a (i64.wrap (left - (((a).length : Nat) : Int))) with | .ret r_ => r_ | .nxt left2 => left2
def a1x (a : Network) (left : Int) : Int := bif decide ((a0w a.topology left) < 0) then (-1) else bif decide ((a0x a.trust (a0w a.topology left)) < 0) then (-1) else bif decide ((a23 a.producers (a0x a.trust (a0w a.topology left))) < 0) then (-1) else bif decide ((a34 a.nodes (a23 a.producers (a0x a.trust (a0w a.topology left)))) < 0) then (-1) else bif decide ((a4i a.failedLinks (a34 a.nodes (a23 a.producers (a0x a.trust (a0w a.topology left))))) < 0) then (-1) else bif decide ((a43 a.inFlight (a4i a.failedLinks (a34 a.nodes (a23 a.producers (a0x a.trust (a0w a.topology left)))))) < 0) then (-1) else bif decide ((a4l a.consumers (a43 a.inFlight (a4i a.failedLinks (a34 a.nodes (a23 a.producers (a0x a.trust (a0w a.topology left))))))) < 0) then (-1) else (a4l a.consumers (a43 a.inFlight (a4i a.failedLinks (a34 a.nodes (a23 a.producers (a0x a.trust (a0w a.topology left)))))))
end Go.Stp
namespace Go.Proofs.YtpmejlbgjkiobaaGreat
open Go.Stp
open Go.Stp.GoT (ok)
variable {w : World} (n : Nat) {K0 K1 K2 K3 K4 K5 K6 K7 K8 K9 : Option Addr} {M0 M1 M2 M3 M4 M5 M6 M7 M8 M9 : Nat}
theorem f66 {a : List Link} (N0 : Rd w K0 M0 a) {left : Int} (a1 : ok n a) (a0 : ok n left) :
 DP 66 #[vS K0 a M0, vI left] w (pI n (a5m a left)) := by
 refine EN Tryz.func66 Z (aS1 N0) ?_
 refine SW ?_
 refine yKD 10 ?_ ?_ <;> intro h1 a2
 rw [show a5m a left = (-1) by simp only [a5m, h1, cT, cF]]
 exact R6r Z Z (i6 (-1))
 rw [show a5m a left = (i64.wrap (left - ((a.length : Nat) : Int))) by simp only [a5m, h1, cT, cF]]
 exact R6r Z Z (ad3 _)
theorem f19 (a : Topology) (N0 : Rd w K0 M0 a.links) {left : Int} (a1 : ok n a) (a0 : ok n left) :
 DP 19 #[aeq a K0 M0, vI left] w (pI n (a0w a left)) := by
 refine EN Tryz.func19 Z (aS1 N0) ?_
 refine KV Z Z Z Z Z Z O Z (fun w γ => f66 n (γ.q 0 Z) ((ad0 a1).2) a0) fun a2 => ?_
 refine yKD 10 ?_ ?_ <;> intro h1 a3
 rw [show a0w a left = (-1) by simp only [a0w, h1, cT, cF]]
 exact R6r Z Z (i6 (-1))
 rw [show a0w a left = (a5m a.links left) by simp only [a0w, h1, cT, cF]]
 exact R6r Z Z a2
theorem f276 {a : List Str} (N0 : Rd w K0 M0 a) {left : Int} (a1 : ok n a) (a2 : ok n left) :
 DP 276 #[vS K0 a M0, vI left] w (pI n (a31 a left)) := by
 refine EN Tryz.func276 Z (aS1 N0) ?_
 refine SW ?_
 refine yKD 11 ?_ ?_ <;> intro h1 ab
 rw [show a31 a left = (-1) by simp only [a31, h1, cT, cF]]
 exact R6r Z Z (i6 (-1))
 have r1 := (okl a1).1
 have r2 : a.length ≤ 9223372036854775807 := N0.2.1
 refine LM Z (i64.wrap (left - ((a.length : Nat) : Int)), 0) (fun | (a0, i) => ((i ≤ a.length) ∧ J6 a0 ∧ (a5n a (i64.wrap (left - ((a.length : Nat) : Int))) = a5n (a.drop i) a0), a.length - i, [(1, .v (vI a0)), (5, .v (vI i))], [], [], [])) ⟨zl, (ad3 _), Z⟩ [0] [] [0] [0] ?_
 rintro ⟨a0, i⟩ ⟨v1, v2, v3⟩
 refine yKD 15 ?_ ?_ <;> intro h2 aa
 have a4 : i < a.length := τ0
 obtain ⟨e1, a3⟩ := gE a4
 have a8 := okE a1 a3
 refine yI 0 i a4 ?_
 rintro a7 rfl
 refine zL 0 1 e1 a3 ?_
 rintro ⟨⟩
 refine SW ?_
 refine yKD 26 ?_ ?_ <;> intro h3 a9
 have a6 := v3.trans (show _ = (Ctl.ret (-1)) by rw [acx a3]; simp only [a5n, h3, cT, cF])
 rw [show a31 a left = (-1) by simp only [a31, h1, a6, cT, cF]]
 exact R6r Z Z (i6 (-1))
 refine SA ?_
 exact ITr Z (i64.wrap (a0 - ((e1.size : Nat) : Int)), i + 1) ⟨τ0, (ad3 _), (by rw [v3, acx a3]; simp only [a5n, h3, cT, cF])⟩ τ1 [0]
 have a5 := v3.trans (show _ = (Ctl.nxt a0) by rw [dn (show a.length ≤ i by omega)]; simp only [a5n, cT, cF])
 rw [show a31 a left = a0 by simp only [a31, h1, a5, cT, cF]]
 exact R6r Z Z v2
theorem f169 (a : Name) (N0 : Rd w K0 M0 a.parts) {left : Int} (a1 : ok n a) (a0 : ok n left) :
 DP 169 #[.agg #[vS K0 a.parts M0], vI left] w (pI n (a0k a left)) := by
 refine EN Tryz.func169 Z (aS1 N0) ?_
 refine KV Z Z Z Z Z Z O Z (fun w γ => f276 n (γ.q 0 Z) (ae4 a1) a0) fun a2 => ?_
 refine yKD 10 ?_ ?_ <;> intro h1 a3
 rw [show a0k a left = (-1) by simp only [a0k, h1, cT, cF]]
 exact R6r Z Z (i6 (-1))
 rw [show a0k a left = (a31 a.parts left) by simp only [a0k, h1, cT, cF]]
 exact R6r Z Z a2
theorem f167 (a : Key) (N0 : Rd w K0 M0 a.name.parts) {left : Int} (a1 : ok n a) (a0 : ok n left) :
 DP 167 #[.agg #[vS K0 a.name.parts M0, vI a.secret], vI left] w (pI n (a5o a left)) := by
 refine EN Tryz.func167 Z (aS1 N0) ?_
 refine KV Z Z Z Z Z Z O Z (fun w γ => f169 n a.name (γ.q 0 Z) ((ag3 a1).1) a0) fun a2 => ?_
 refine yKD 10 ?_ ?_ <;> intro h1 a3
 rw [show a5o a left = (-1) by simp only [a5o, h1, cT, cF]]
 exact R6r Z Z (i6 (-1))
 rw [show a5o a left = (a0k a.name left) by simp only [a5o, h1, cT, cF]]
 exact R6r Z Z a2
theorem f67 {a : List Key} (N0 : Rd w K0 M0 a) {left : Int} (a1 : ok n a) (a2 : ok n left) :
 DP 67 #[vS K0 a M0, vI left] w (pI n (a32 a left)) := by
 refine EN Tryz.func67 Z (aS1 N0) ?_
 refine SW ?_
 refine yKD 11 ?_ ?_ <;> intro h1 ac
 rw [show a32 a left = (-1) by simp only [a32, h1, cT, cF]]
 exact R6r Z Z (i6 (-1))
 have r1 := (okl a1).1
 have r2 : a.length ≤ 9223372036854775807 := N0.2.1
 refine LM Z (i64.wrap (left - ((a.length : Nat) : Int)), 0) (fun | (a0, i) => ((i ≤ a.length) ∧ J6 a0 ∧ (a5p a (i64.wrap (left - ((a.length : Nat) : Int))) = a5p (a.drop i) a0), a.length - i, [(1, .v (vI a0)), (5, .v (vI i))], [], [], [])) ⟨zl, (ad3 _), Z⟩ [0] [] [0] [0] ?_
 rintro ⟨a0, i⟩ ⟨v1, v2, v3⟩
 refine yKD 15 ?_ ?_ <;> intro h2 ab
 have a4 : i < a.length := τ0
 obtain ⟨e1, a3⟩ := gE a4
 have a7 := okE a1 a3
 refine yI 0 i a4 ?_
 rintro a9 rfl
 refine zL 0 1 e1 a3 ?_
 rintro ⟨⟨p1, c1⟩, ⟨⟩⟩
 refine KV Z Z Z Z Z Z O Z (fun w γ => f167 n e1 (γ.q 1 Z) a7 v2) fun a6 => ?_
 refine yKD 25 ?_ ?_ <;> intro h3 aa
 have a8 := v3.trans (show _ = (Ctl.ret (-1)) by rw [acx a3]; simp only [a5p, h3, cT, cF])
 rw [show a32 a left = (-1) by simp only [a32, h1, a8, cT, cF]]
 exact R6r Z Z (i6 (-1))
 refine SA ?_
 exact ITr Z ((a5o e1 a0), i + 1) ⟨τ0, a6, (by rw [v3, acx a3]; simp only [a5p, h3, cT, cF])⟩ τ1 [0]
 have a5 := v3.trans (show _ = (Ctl.nxt a0) by rw [dn (show a.length ≤ i by omega)]; simp only [a5p, cT, cF])
 rw [show a32 a left = a0 by simp only [a32, h1, a5, cT, cF]]
 exact R6r Z Z v2
theorem f275 (a : Pattern) (N0 : Rd w K0 M0 a.parts) {left : Int} (a1 : ok n a) (a0 : ok n left) :
 DP 275 #[.agg #[vS K0 a.parts M0], vI left] w (pI n (a3l a left)) := by
 refine EN Tryz.func275 Z (aS1 N0) ?_
 refine KV Z Z Z Z Z Z O Z (fun w γ => f276 n (γ.q 0 Z) (ad9 a1) a0) fun a2 => ?_
 refine yKD 10 ?_ ?_ <;> intro h1 a3
 rw [show a3l a left = (-1) by simp only [a3l, h1, cT, cF]]
 exact R6r Z Z (i6 (-1))
 rw [show a3l a left = (a31 a.parts left) by simp only [a3l, h1, cT, cF]]
 exact R6r Z Z a2
theorem f168 (a : Rule) (N0 : Rd w K0 M0 a.dataPattern.parts) (N1 : Rd w K1 M1 a.keyPattern.parts) {left : Int} (a1 : ok n a) (a0 : ok n left) :
 DP 168 #[arv a K0 M0 K1 M1, vI left] w (pI n (a4e a left)) := by
 refine EN Tryz.func168 Z (aS2 N0 N1) ?_
 refine KV Z Z Z Z Z Z O Z (fun w γ => f275 n a.dataPattern (γ.q 0 Z) ((adx a1).1) a0) fun a2 => ?_
 refine yKD 10 ?_ ?_ <;> intro h1 a5
 rw [show a4e a left = (-1) by simp only [a4e, h1, cT, cF]]
 exact R6r Z Z (i6 (-1))
 refine KV Z Z Z Z Z Z O Z (fun w γ => f275 n a.keyPattern (γ.q 1 Z) ((adx a1).2) a2) fun a3 => ?_
 refine yKD 16 ?_ ?_ <;> intro h2 a4
 rw [show a4e a left = (-1) by simp only [a4e, h1, h2, cT, cF]]
 exact R6r Z Z (i6 (-1))
 rw [show a4e a left = (a3l a.keyPattern (a3l a.dataPattern left)) by simp only [a4e, h1, h2, cT, cF]]
 exact R6r Z Z a3
theorem f68 {a : List Rule} (N0 : Rd w K0 M0 a) {left : Int} (a1 : ok n a) (a2 : ok n left) :
 DP 68 #[vS K0 a M0, vI left] w (pI n (a3m a left)) := by
 refine EN Tryz.func68 Z (aS1 N0) ?_
 refine SW ?_
 refine yKD 11 ?_ ?_ <;> intro h1 ac
 rw [show a3m a left = (-1) by simp only [a3m, h1, cT, cF]]
 exact R6r Z Z (i6 (-1))
 have r1 := (okl a1).1
 have r2 : a.length ≤ 9223372036854775807 := N0.2.1
 refine LM Z (i64.wrap (left - ((a.length : Nat) : Int)), 0) (fun | (a0, i) => ((i ≤ a.length) ∧ J6 a0 ∧ (a5q a (i64.wrap (left - ((a.length : Nat) : Int))) = a5q (a.drop i) a0), a.length - i, [(1, .v (vI a0)), (5, .v (vI i))], [], [], [])) ⟨zl, (ad3 _), Z⟩ [0] [] [0] [0] ?_
 rintro ⟨a0, i⟩ ⟨v1, v2, v3⟩
 refine yKD 15 ?_ ?_ <;> intro h2 ab
 have a4 : i < a.length := τ0
 obtain ⟨e1, a3⟩ := gE a4
 have a7 := okE a1 a3
 refine yI 0 i a4 ?_
 rintro a9 rfl
 refine zL 0 1 e1 a3 ?_
 rintro ⟨⟨p1, c1⟩, ⟨p2, c2⟩⟩
 refine KV Z Z Z Z Z Z O Z (fun w γ => f168 n e1 (γ.q 1 Z) (γ.q 2 Z) a7 v2) fun a6 => ?_
 refine yKD 25 ?_ ?_ <;> intro h3 aa
 have a8 := v3.trans (show _ = (Ctl.ret (-1)) by rw [acx a3]; simp only [a5q, h3, cT, cF])
 rw [show a3m a left = (-1) by simp only [a3m, h1, a8, cT, cF]]
 exact R6r Z Z (i6 (-1))
 refine SA ?_
 exact ITr Z ((a4e e1 a0), i + 1) ⟨τ0, a6, (by rw [v3, acx a3]; simp only [a5q, h3, cT, cF])⟩ τ1 [0]
 have a5 := v3.trans (show _ = (Ctl.nxt a0) by rw [dn (show a.length ≤ i by omega)]; simp only [a5q, cT, cF])
 rw [show a3m a left = a0 by simp only [a3m, h1, a5, cT, cF]]
 exact R6r Z Z v2
theorem f69 {a : List Name} (N0 : Rd w K0 M0 a) {left : Int} (a1 : ok n a) (a2 : ok n left) :
 DP 69 #[vS K0 a M0, vI left] w (pI n (a41 a left)) := by
 refine EN Tryz.func69 Z (aS1 N0) ?_
 refine SW ?_
 refine yKD 11 ?_ ?_ <;> intro h1 ac
 rw [show a41 a left = (-1) by simp only [a41, h1, cT, cF]]
 exact R6r Z Z (i6 (-1))
 have r1 := (okl a1).1
 have r2 : a.length ≤ 9223372036854775807 := N0.2.1
 refine LM Z (i64.wrap (left - ((a.length : Nat) : Int)), 0) (fun | (a0, i) => ((i ≤ a.length) ∧ J6 a0 ∧ (a5r a (i64.wrap (left - ((a.length : Nat) : Int))) = a5r (a.drop i) a0), a.length - i, [(1, .v (vI a0)), (5, .v (vI i))], [], [], [])) ⟨zl, (ad3 _), Z⟩ [0] [] [0] [0] ?_
 rintro ⟨a0, i⟩ ⟨v1, v2, v3⟩
 refine yKD 15 ?_ ?_ <;> intro h2 ab
 have a4 : i < a.length := τ0
 obtain ⟨e1, a3⟩ := gE a4
 have a7 := okE a1 a3
 refine yI 0 i a4 ?_
 rintro a9 rfl
 refine zL 0 1 e1 a3 ?_
 rintro ⟨p1, c1⟩
 refine KV Z Z Z Z Z Z O Z (fun w γ => f169 n e1 (γ.q 1 Z) a7 v2) fun a6 => ?_
 refine yKD 25 ?_ ?_ <;> intro h3 aa
 have a8 := v3.trans (show _ = (Ctl.ret (-1)) by rw [acx a3]; simp only [a5r, h3, cT, cF])
 rw [show a41 a left = (-1) by simp only [a41, h1, a8, cT, cF]]
 exact R6r Z Z (i6 (-1))
 refine SA ?_
 exact ITr Z ((a0k e1 a0), i + 1) ⟨τ0, a6, (by rw [v3, acx a3]; simp only [a5r, h3, cT, cF])⟩ τ1 [0]
 have a5 := v3.trans (show _ = (Ctl.nxt a0) by rw [dn (show a.length ≤ i by omega)]; simp only [a5r, cT, cF])
 rw [show a41 a left = a0 by simp only [a41, h1, a5, cT, cF]]
 exact R6r Z Z v2
theorem f277 {a : List UInt8} (N0 : Rd w K0 M0 a) {left : Int} (a1 : ok n a) (a0 : ok n left) :
 DP 277 #[vS K0 a M0, vI left] w (pI n (a50 a left)) := by
 refine EN Tryz.func277 Z (aS1 N0) ?_
 refine SW ?_
 refine yKD 10 ?_ ?_ <;> intro h1 a2
 rw [show a50 a left = (-1) by simp only [a50, h1, cT, cF]]
 exact R6r Z Z (i6 (-1))
 rw [show a50 a left = (i64.wrap (left - ((a.length : Nat) : Int))) by simp only [a50, h1, cT, cF]]
 exact R6r Z Z (ad3 _)
theorem f170 (a : DataP) (N0 : Rd w K0 M0 a.name.parts) (N1 : Rd w K1 M1 a.content) (N2 : Rd w K2 M2 a.keyName.parts) {left : Int} (a1 : ok n a) (a0 : ok n left) :
 DP 170 #[al6 a K0 M0 K1 M1 K2 M2, vI left] w (pI n (a1i a left)) := by
 refine EN Tryz.func170 Z (aS3 N0 N1 N2) ?_
 refine KV Z Z Z Z Z Z O Z (fun w γ => f169 n a.name (γ.q 0 Z) ((ado a1).1) a0) fun a2 => ?_
 refine yKD 10 ?_ ?_ <;> intro h1 a7
 rw [show a1i a left = (-1) by simp only [a1i, h1, cT, cF]]
 exact R6r Z Z (i6 (-1))
 refine KV Z Z Z Z Z Z O Z (fun w γ => f277 n (γ.q 1 Z) ((ado a1).2.1) a2) fun a4 => ?_
 refine yKD 16 ?_ ?_ <;> intro h2 a5
 rw [show a1i a left = (-1) by simp only [a1i, h1, h2, cT, cF]]
 exact R6r Z Z (i6 (-1))
 refine KV Z Z Z Z Z Z O Z (fun w γ => f169 n a.keyName (γ.q 2 Z) ((ado a1).2.2.1) a4) fun a3 => ?_
 refine yKD 22 ?_ ?_ <;> intro h3 a6
 rw [show a1i a left = (-1) by simp only [a1i, h1, h2, h3, cT, cF]]
 exact R6r Z Z (i6 (-1))
 rw [show a1i a left = (a0k a.keyName (a50 a.content (a0k a.name left))) by simp only [a1i, h1, h2, h3, cT, cF]]
 exact R6r Z Z a3
theorem f70 {a : List DataP} (N0 : Rd w K0 M0 a) {left : Int} (a1 : ok n a) (a2 : ok n left) :
 DP 70 #[vS K0 a M0, vI left] w (pI n (a1v a left)) := by
 refine EN Tryz.func70 Z (aS1 N0) ?_
 refine SW ?_
 refine yKD 11 ?_ ?_ <;> intro h1 ac
 rw [show a1v a left = (-1) by simp only [a1v, h1, cT, cF]]
 exact R6r Z Z (i6 (-1))
 have r1 := (okl a1).1
 have r2 : a.length ≤ 9223372036854775807 := N0.2.1
 refine LM Z (i64.wrap (left - ((a.length : Nat) : Int)), 0) (fun | (a0, i) => ((i ≤ a.length) ∧ J6 a0 ∧ (a5s a (i64.wrap (left - ((a.length : Nat) : Int))) = a5s (a.drop i) a0), a.length - i, [(1, .v (vI a0)), (5, .v (vI i))], [], [], [])) ⟨zl, (ad3 _), Z⟩ [0] [] [0] [0] ?_
 rintro ⟨a0, i⟩ ⟨v1, v2, v3⟩
 refine yKD 15 ?_ ?_ <;> intro h2 ab
 have a4 : i < a.length := τ0
 obtain ⟨e1, a3⟩ := gE a4
 have a7 := okE a1 a3
 refine yI 0 i a4 ?_
 rintro a9 rfl
 refine zL 0 1 e1 a3 ?_
 rintro ⟨⟨p1, c1⟩, ⟨p2, c2⟩, ⟨p3, c3⟩, ⟨⟩, ⟨⟩⟩
 refine KV Z Z Z Z Z Z O Z (fun w γ => f170 n e1 (γ.q 1 Z) (γ.q 2 Z) (γ.q 3 Z) a7 v2) fun a6 => ?_
 refine yKD 25 ?_ ?_ <;> intro h3 aa
 have a8 := v3.trans (show _ = (Ctl.ret (-1)) by rw [acx a3]; simp only [a5s, h3, cT, cF])
 rw [show a1v a left = (-1) by simp only [a1v, h1, a8, cT, cF]]
 exact R6r Z Z (i6 (-1))
 refine SA ?_
 exact ITr Z ((a1i e1 a0), i + 1) ⟨τ0, a6, (by rw [v3, acx a3]; simp only [a5s, h3, cT, cF])⟩ τ1 [0]
 have a5 := v3.trans (show _ = (Ctl.nxt a0) by rw [dn (show a.length ≤ i by omega)]; simp only [a5s, cT, cF])
 rw [show a1v a left = a0 by simp only [a1v, h1, a5, cT, cF]]
 exact R6r Z Z v2
theorem f20 (a : TrustPolicy) (N0 : Rd w K0 M0 a.keys) (N1 : Rd w K1 M1 a.rules) (N2 : Rd w K2 M2 a.anchors) (N3 : Rd w K3 M3 a.certificates) {left : Int} (a1 : ok n a) (a0 : ok n left) :
 DP 20 #[af4 a K0 M0 K1 M1 K2 M2 K3 M3, vI left] w (pI n (a0x a left)) := by
 refine EN Tryz.func20 Z (aS4 N0 N1 N2 N3) ?_
 refine KV Z Z Z Z Z Z O Z (fun w γ => f67 n (γ.q 0 Z) ((acz a1).1) a0) fun a2 => ?_
 refine yKD 10 ?_ ?_ <;> intro h1 a9
 rw [show a0x a left = (-1) by simp only [a0x, h1, cT, cF]]
 exact R6r Z Z (i6 (-1))
 refine KV Z Z Z Z Z Z O Z (fun w γ => f68 n (γ.q 1 Z) ((acz a1).2.1) a2) fun a5 => ?_
 refine yKD 16 ?_ ?_ <;> intro h2 a6
 rw [show a0x a left = (-1) by simp only [a0x, h1, h2, cT, cF]]
 exact R6r Z Z (i6 (-1))
 refine KV Z Z Z Z Z Z O Z (fun w γ => f69 n (γ.q 2 Z) ((acz a1).2.2.1) a5) fun a3 => ?_
 refine yKD 22 ?_ ?_ <;> intro h3 a7
 rw [show a0x a left = (-1) by simp only [a0x, h1, h2, h3, cT, cF]]
 exact R6r Z Z (i6 (-1))
 refine KV Z Z Z Z Z Z O Z (fun w γ => f70 n (γ.q 3 Z) ((acz a1).2.2.2) a3) fun a4 => ?_
 refine yKD 28 ?_ ?_ <;> intro h4 a8
 rw [show a0x a left = (-1) by simp only [a0x, h1, h2, h3, h4, cT, cF]]
 exact R6r Z Z (i6 (-1))
 rw [show a0x a left = (a1v a.certificates (a41 a.anchors (a3m a.rules (a32 a.keys left)))) by simp only [a0x, h1, h2, h3, h4, cT, cF]]
 exact R6r Z Z a4
theorem f71 (a : TableEntry) (N0 : Rd w K0 M0 a.name.parts) {left : Int} (a1 : ok n a) (a0 : ok n left) :
 DP 71 #[.agg #[vS K0 a.name.parts M0, vI a.value], vI left] w (pI n (a5t a left)) := by
 refine EN Tryz.func71 Z (aS1 N0) ?_
 refine KV Z Z Z Z Z Z O Z (fun w γ => f169 n a.name (γ.q 0 Z) ((adv a1).1) a0) fun a2 => ?_
 refine yKD 10 ?_ ?_ <;> intro h1 a3
 rw [show a5t a left = (-1) by simp only [a5t, h1, cT, cF]]
 exact R6r Z Z (i6 (-1))
 rw [show a5t a left = (a0k a.name left) by simp only [a5t, h1, cT, cF]]
 exact R6r Z Z a2
theorem f21 {a : List TableEntry} (N0 : Rd w K0 M0 a) {left : Int} (a1 : ok n a) (a2 : ok n left) :
 DP 21 #[vS K0 a M0, vI left] w (pI n (a23 a left)) := by
 refine EN Tryz.func21 Z (aS1 N0) ?_
 refine SW ?_
 refine yKD 11 ?_ ?_ <;> intro h1 ac
 rw [show a23 a left = (-1) by simp only [a23, h1, cT, cF]]
 exact R6r Z Z (i6 (-1))
 have r1 := (okl a1).1
 have r2 : a.length ≤ 9223372036854775807 := N0.2.1
 refine LM Z (i64.wrap (left - ((a.length : Nat) : Int)), 0) (fun | (a0, i) => ((i ≤ a.length) ∧ J6 a0 ∧ (a5u a (i64.wrap (left - ((a.length : Nat) : Int))) = a5u (a.drop i) a0), a.length - i, [(1, .v (vI a0)), (5, .v (vI i))], [], [], [])) ⟨zl, (ad3 _), Z⟩ [0] [] [0] [0] ?_
 rintro ⟨a0, i⟩ ⟨v1, v2, v3⟩
 refine yKD 15 ?_ ?_ <;> intro h2 ab
 have a4 : i < a.length := τ0
 obtain ⟨e1, a3⟩ := gE a4
 have a7 := okE a1 a3
 refine yI 0 i a4 ?_
 rintro a9 rfl
 refine zL 0 1 e1 a3 ?_
 rintro ⟨⟨p1, c1⟩, ⟨⟩⟩
 refine KV Z Z Z Z Z Z O Z (fun w γ => f71 n e1 (γ.q 1 Z) a7 v2) fun a6 => ?_
 refine yKD 25 ?_ ?_ <;> intro h3 aa
 have a8 := v3.trans (show _ = (Ctl.ret (-1)) by rw [acx a3]; simp only [a5u, h3, cT, cF])
 rw [show a23 a left = (-1) by simp only [a23, h1, a8, cT, cF]]
 exact R6r Z Z (i6 (-1))
 refine SA ?_
 exact ITr Z ((a5t e1 a0), i + 1) ⟨τ0, a6, (by rw [v3, acx a3]; simp only [a5u, h3, cT, cF])⟩ τ1 [0]
 have a5 := v3.trans (show _ = (Ctl.nxt a0) by rw [dn (show a.length ≤ i by omega)]; simp only [a5u, cT, cF])
 rw [show a23 a left = a0 by simp only [a23, h1, a5, cT, cF]]
 exact R6r Z Z v2
theorem f404 (a : CacheEntry) (N0 : Rd w K0 M0 a.data.name.parts) (N1 : Rd w K1 M1 a.data.content) (N2 : Rd w K2 M2 a.data.keyName.parts) {left : Int} (a1 : ok n a) (a0 : ok n left) :
 DP 404 #[aha a K0 M0 K1 M1 K2 M2, vI left] w (pI n (a5v a left)) := by
 refine EN Tryz.func404 Z (aS3 N0 N1 N2) ?_
 refine KV Z Z Z Z Z Z O Z (fun w γ => f170 n a.data (γ.q 0 Z) (γ.q 1 Z) (γ.q 2 Z) ((aec a1).1) a0) fun a2 => ?_
 refine yKD 10 ?_ ?_ <;> intro h1 a3
 rw [show a5v a left = (-1) by simp only [a5v, h1, cT, cF]]
 exact R6r Z Z (i6 (-1))
 rw [show a5v a left = (a1i a.data left) by simp only [a5v, h1, cT, cF]]
 exact R6r Z Z a2
theorem f371 {a : List CacheEntry} (N0 : Rd w K0 M0 a) {left : Int} (a1 : ok n a) (a2 : ok n left) :
 DP 371 #[vS K0 a M0, vI left] w (pI n (a4f a left)) := by
 refine EN Tryz.func371 Z (aS1 N0) ?_
 refine SW ?_
 refine yKD 11 ?_ ?_ <;> intro h1 ac
 rw [show a4f a left = (-1) by simp only [a4f, h1, cT, cF]]
 exact R6r Z Z (i6 (-1))
 have r1 := (okl a1).1
 have r2 : a.length ≤ 9223372036854775807 := N0.2.1
 refine LM Z (i64.wrap (left - ((a.length : Nat) : Int)), 0) (fun | (a0, i) => ((i ≤ a.length) ∧ J6 a0 ∧ (a5w a (i64.wrap (left - ((a.length : Nat) : Int))) = a5w (a.drop i) a0), a.length - i, [(1, .v (vI a0)), (5, .v (vI i))], [], [], [])) ⟨zl, (ad3 _), Z⟩ [0] [] [0] [0] ?_
 rintro ⟨a0, i⟩ ⟨v1, v2, v3⟩
 refine yKD 15 ?_ ?_ <;> intro h2 ab
 have a4 : i < a.length := τ0
 obtain ⟨e1, a3⟩ := gE a4
 have a7 := okE a1 a3
 refine yI 0 i a4 ?_
 rintro a9 rfl
 refine zL 0 1 e1 a3 ?_
 rintro ⟨⟨⟨p1, c1⟩, ⟨p2, c2⟩, ⟨p3, c3⟩, ⟨⟩, ⟨⟩⟩, ⟨⟩⟩
 refine KV Z Z Z Z Z Z O Z (fun w γ => f404 n e1 (γ.q 1 Z) (γ.q 2 Z) (γ.q 3 Z) a7 v2) fun a6 => ?_
 refine yKD 25 ?_ ?_ <;> intro h3 aa
 have a8 := v3.trans (show _ = (Ctl.ret (-1)) by rw [acx a3]; simp only [a5w, h3, cT, cF])
 rw [show a4f a left = (-1) by simp only [a4f, h1, a8, cT, cF]]
 exact R6r Z Z (i6 (-1))
 refine SA ?_
 exact ITr Z ((a5v e1 a0), i + 1) ⟨τ0, a6, (by rw [v3, acx a3]; simp only [a5w, h3, cT, cF])⟩ τ1 [0]
 have a5 := v3.trans (show _ = (Ctl.nxt a0) by rw [dn (show a.length ≤ i by omega)]; simp only [a5w, cT, cF])
 rw [show a4f a left = a0 by simp only [a4f, h1, a5, cT, cF]]
 exact R6r Z Z v2
theorem f306 (a : ContentStore) (N0 : Rd w K0 M0 a.entries) {left : Int} (a1 : ok n a) (a0 : ok n left) :
 DP 306 #[.agg #[vI a.capacity, vS K0 a.entries M0], vI left] w (pI n (a3n a left)) := by
 refine EN Tryz.func306 Z (aS1 N0) ?_
 refine KV Z Z Z Z Z Z O Z (fun w γ => f371 n (γ.q 0 Z) ((aei a1).2) a0) fun a2 => ?_
 refine yKD 10 ?_ ?_ <;> intro h1 a3
 rw [show a3n a left = (-1) by simp only [a3n, h1, cT, cF]]
 exact R6r Z Z (i6 (-1))
 rw [show a3n a left = (a4f a.entries left) by simp only [a3n, h1, cT, cF]]
 exact R6r Z Z a2
theorem f405 {a : List Requester} (N0 : Rd w K0 M0 a) {left : Int} (a1 : ok n a) (a0 : ok n left) :
 DP 405 #[vS K0 a M0, vI left] w (pI n (a5x a left)) := by
 refine EN Tryz.func405 Z (aS1 N0) ?_
 refine SW ?_
 refine yKD 10 ?_ ?_ <;> intro h1 a2
 rw [show a5x a left = (-1) by simp only [a5x, h1, cT, cF]]
 exact R6r Z Z (i6 (-1))
 rw [show a5x a left = (i64.wrap (left - ((a.length : Nat) : Int))) by simp only [a5x, h1, cT, cF]]
 exact R6r Z Z (ad3 _)
theorem f372 (a : PendingInterest) (N0 : Rd w K0 M0 a.name.parts) (N1 : Rd w K1 M1 a.requesters) {left : Int} (a1 : ok n a) (a0 : ok n left) :
 DP 372 #[agc a K0 M0 K1 M1, vI left] w (pI n (a4g a left)) := by
 refine EN Tryz.func372 Z (aS2 N0 N1) ?_
 refine KV Z Z Z Z Z Z O Z (fun w γ => f169 n a.name (γ.q 0 Z) ((ad8 a1).1) a0) fun a2 => ?_
 refine yKD 10 ?_ ?_ <;> intro h1 a5
 rw [show a4g a left = (-1) by simp only [a4g, h1, cT, cF]]
 exact R6r Z Z (i6 (-1))
 refine KV Z Z Z Z Z Z O Z (fun w γ => f405 n (γ.q 1 Z) ((ad8 a1).2.1) a2) fun a3 => ?_
 refine yKD 16 ?_ ?_ <;> intro h2 a4
 rw [show a4g a left = (-1) by simp only [a4g, h1, h2, cT, cF]]
 exact R6r Z Z (i6 (-1))
 rw [show a4g a left = (a5x a.requesters (a0k a.name left)) by simp only [a4g, h1, h2, cT, cF]]
 exact R6r Z Z a3
theorem f307 {a : List PendingInterest} (N0 : Rd w K0 M0 a) {left : Int} (a1 : ok n a) (a2 : ok n left) :
 DP 307 #[vS K0 a M0, vI left] w (pI n (a33 a left)) := by
 refine EN Tryz.func307 Z (aS1 N0) ?_
 refine SW ?_
 refine yKD 11 ?_ ?_ <;> intro h1 ac
 rw [show a33 a left = (-1) by simp only [a33, h1, cT, cF]]
 exact R6r Z Z (i6 (-1))
 have r1 := (okl a1).1
 have r2 : a.length ≤ 9223372036854775807 := N0.2.1
 refine LM Z (i64.wrap (left - ((a.length : Nat) : Int)), 0) (fun | (a0, i) => ((i ≤ a.length) ∧ J6 a0 ∧ (a5y a (i64.wrap (left - ((a.length : Nat) : Int))) = a5y (a.drop i) a0), a.length - i, [(1, .v (vI a0)), (5, .v (vI i))], [], [], [])) ⟨zl, (ad3 _), Z⟩ [0] [] [0] [0] ?_
 rintro ⟨a0, i⟩ ⟨v1, v2, v3⟩
 refine yKD 15 ?_ ?_ <;> intro h2 ab
 have a4 : i < a.length := τ0
 obtain ⟨e1, a3⟩ := gE a4
 have a7 := okE a1 a3
 refine yI 0 i a4 ?_
 rintro a9 rfl
 refine zL 0 1 e1 a3 ?_
 rintro ⟨⟨p1, c1⟩, ⟨p2, c2⟩, ⟨⟩⟩
 refine KV Z Z Z Z Z Z O Z (fun w γ => f372 n e1 (γ.q 1 Z) (γ.q 2 Z) a7 v2) fun a6 => ?_
 refine yKD 25 ?_ ?_ <;> intro h3 aa
 have a8 := v3.trans (show _ = (Ctl.ret (-1)) by rw [acx a3]; simp only [a5y, h3, cT, cF])
 rw [show a33 a left = (-1) by simp only [a33, h1, a8, cT, cF]]
 exact R6r Z Z (i6 (-1))
 refine SA ?_
 exact ITr Z ((a4g e1 a0), i + 1) ⟨τ0, a6, (by rw [v3, acx a3]; simp only [a5y, h3, cT, cF])⟩ τ1 [0]
 have a5 := v3.trans (show _ = (Ctl.nxt a0) by rw [dn (show a.length ≤ i by omega)]; simp only [a5y, cT, cF])
 rw [show a33 a left = a0 by simp only [a33, h1, a5, cT, cF]]
 exact R6r Z Z v2
theorem f373 (a : SeenNonce) (N0 : Rd w K0 M0 a.name.parts) {left : Int} (a1 : ok n a) (a0 : ok n left) :
 DP 373 #[.agg #[vS K0 a.name.parts M0, vI a.nonce], vI left] w (pI n (a5z a left)) := by
 refine EN Tryz.func373 Z (aS1 N0) ?_
 refine KV Z Z Z Z Z Z O Z (fun w γ => f169 n a.name (γ.q 0 Z) ((aew a1).1) a0) fun a2 => ?_
 refine yKD 10 ?_ ?_ <;> intro h1 a3
 rw [show a5z a left = (-1) by simp only [a5z, h1, cT, cF]]
 exact R6r Z Z (i6 (-1))
 rw [show a5z a left = (a0k a.name left) by simp only [a5z, h1, cT, cF]]
 exact R6r Z Z a2
theorem f308 {a : List SeenNonce} (N0 : Rd w K0 M0 a) {left : Int} (a1 : ok n a) (a2 : ok n left) :
 DP 308 #[vS K0 a M0, vI left] w (pI n (a3o a left)) := by
 refine EN Tryz.func308 Z (aS1 N0) ?_
 refine SW ?_
 refine yKD 11 ?_ ?_ <;> intro h1 ac
 rw [show a3o a left = (-1) by simp only [a3o, h1, cT, cF]]
 exact R6r Z Z (i6 (-1))
 have r1 := (okl a1).1
 have r2 : a.length ≤ 9223372036854775807 := N0.2.1
 refine LM Z (i64.wrap (left - ((a.length : Nat) : Int)), 0) (fun | (a0, i) => ((i ≤ a.length) ∧ J6 a0 ∧ (a60 a (i64.wrap (left - ((a.length : Nat) : Int))) = a60 (a.drop i) a0), a.length - i, [(1, .v (vI a0)), (5, .v (vI i))], [], [], [])) ⟨zl, (ad3 _), Z⟩ [0] [] [0] [0] ?_
 rintro ⟨a0, i⟩ ⟨v1, v2, v3⟩
 refine yKD 15 ?_ ?_ <;> intro h2 ab
 have a4 : i < a.length := τ0
 obtain ⟨e1, a3⟩ := gE a4
 have a7 := okE a1 a3
 refine yI 0 i a4 ?_
 rintro a9 rfl
 refine zL 0 1 e1 a3 ?_
 rintro ⟨⟨p1, c1⟩, ⟨⟩⟩
 refine KV Z Z Z Z Z Z O Z (fun w γ => f373 n e1 (γ.q 1 Z) a7 v2) fun a6 => ?_
 refine yKD 25 ?_ ?_ <;> intro h3 aa
 have a8 := v3.trans (show _ = (Ctl.ret (-1)) by rw [acx a3]; simp only [a60, h3, cT, cF])
 rw [show a3o a left = (-1) by simp only [a3o, h1, a8, cT, cF]]
 exact R6r Z Z (i6 (-1))
 refine SA ?_
 exact ITr Z ((a5z e1 a0), i + 1) ⟨τ0, a6, (by rw [v3, acx a3]; simp only [a60, h3, cT, cF])⟩ τ1 [0]
 have a5 := v3.trans (show _ = (Ctl.nxt a0) by rw [dn (show a.length ≤ i by omega)]; simp only [a60, cT, cF])
 rw [show a3o a left = a0 by simp only [a3o, h1, a5, cT, cF]]
 exact R6r Z Z v2
theorem f374 (a : Route) (N0 : Rd w K0 M0 a.pfx.parts) {left : Int} (a1 : ok n a) (a0 : ok n left) :
 DP 374 #[an6 a K0 M0, vI left] w (pI n (a61 a left)) := by
 refine EN Tryz.func374 Z (aS1 N0) ?_
 refine KV Z Z Z Z Z Z O Z (fun w γ => f169 n a.pfx (γ.q 0 Z) ((adn a1).1) a0) fun a2 => ?_
 refine yKD 10 ?_ ?_ <;> intro h1 a3
 rw [show a61 a left = (-1) by simp only [a61, h1, cT, cF]]
 exact R6r Z Z (i6 (-1))
 rw [show a61 a left = (a0k a.pfx left) by simp only [a61, h1, cT, cF]]
 exact R6r Z Z a2
theorem f309 {a : List Route} (N0 : Rd w K0 M0 a) {left : Int} (a1 : ok n a) (a2 : ok n left) :
 DP 309 #[vS K0 a M0, vI left] w (pI n (a42 a left)) := by
 refine EN Tryz.func309 Z (aS1 N0) ?_
 refine SW ?_
 refine yKD 11 ?_ ?_ <;> intro h1 ac
 rw [show a42 a left = (-1) by simp only [a42, h1, cT, cF]]
 exact R6r Z Z (i6 (-1))
 have r1 := (okl a1).1
 have r2 : a.length ≤ 9223372036854775807 := N0.2.1
 refine LM Z (i64.wrap (left - ((a.length : Nat) : Int)), 0) (fun | (a0, i) => ((i ≤ a.length) ∧ J6 a0 ∧ (a62 a (i64.wrap (left - ((a.length : Nat) : Int))) = a62 (a.drop i) a0), a.length - i, [(1, .v (vI a0)), (5, .v (vI i))], [], [], [])) ⟨zl, (ad3 _), Z⟩ [0] [] [0] [0] ?_
 rintro ⟨a0, i⟩ ⟨v1, v2, v3⟩
 refine yKD 15 ?_ ?_ <;> intro h2 ab
 have a4 : i < a.length := τ0
 obtain ⟨e1, a3⟩ := gE a4
 have a7 := okE a1 a3
 refine yI 0 i a4 ?_
 rintro a9 rfl
 refine zL 0 1 e1 a3 ?_
 rintro ⟨⟨p1, c1⟩, ⟨⟩, ⟨⟩⟩
 refine KV Z Z Z Z Z Z O Z (fun w γ => f374 n e1 (γ.q 1 Z) a7 v2) fun a6 => ?_
 refine yKD 25 ?_ ?_ <;> intro h3 aa
 have a8 := v3.trans (show _ = (Ctl.ret (-1)) by rw [acx a3]; simp only [a62, h3, cT, cF])
 rw [show a42 a left = (-1) by simp only [a42, h1, a8, cT, cF]]
 exact R6r Z Z (i6 (-1))
 refine SA ?_
 exact ITr Z ((a61 e1 a0), i + 1) ⟨τ0, a6, (by rw [v3, acx a3]; simp only [a62, h3, cT, cF])⟩ τ1 [0]
 have a5 := v3.trans (show _ = (Ctl.nxt a0) by rw [dn (show a.length ≤ i by omega)]; simp only [a62, cT, cF])
 rw [show a42 a left = a0 by simp only [a42, h1, a5, cT, cF]]
 exact R6r Z Z v2
theorem f375 (a : Measurement) (N0 : Rd w K0 M0 a.pfx.parts) {left : Int} (a1 : ok n a) (a0 : ok n left) :
 DP 375 #[.agg #[vS K0 a.pfx.parts M0, vI a.face, vI a.failures], vI left] w (pI n (a63 a left)) := by
 refine EN Tryz.func375 Z (aS1 N0) ?_
 refine KV Z Z Z Z Z Z O Z (fun w γ => f169 n a.pfx (γ.q 0 Z) ((ae3 a1).1) a0) fun a2 => ?_
 refine yKD 10 ?_ ?_ <;> intro h1 a3
 rw [show a63 a left = (-1) by simp only [a63, h1, cT, cF]]
 exact R6r Z Z (i6 (-1))
 rw [show a63 a left = (a0k a.pfx left) by simp only [a63, h1, cT, cF]]
 exact R6r Z Z a2
theorem f310 {a : List Measurement} (N0 : Rd w K0 M0 a) {left : Int} (a1 : ok n a) (a2 : ok n left) :
 DP 310 #[vS K0 a M0, vI left] w (pI n (a4h a left)) := by
 refine EN Tryz.func310 Z (aS1 N0) ?_
 refine SW ?_
 refine yKD 11 ?_ ?_ <;> intro h1 ac
 rw [show a4h a left = (-1) by simp only [a4h, h1, cT, cF]]
 exact R6r Z Z (i6 (-1))
 have r1 := (okl a1).1
 have r2 : a.length ≤ 9223372036854775807 := N0.2.1
 refine LM Z (i64.wrap (left - ((a.length : Nat) : Int)), 0) (fun | (a0, i) => ((i ≤ a.length) ∧ J6 a0 ∧ (a64 a (i64.wrap (left - ((a.length : Nat) : Int))) = a64 (a.drop i) a0), a.length - i, [(1, .v (vI a0)), (5, .v (vI i))], [], [], [])) ⟨zl, (ad3 _), Z⟩ [0] [] [0] [0] ?_
 rintro ⟨a0, i⟩ ⟨v1, v2, v3⟩
 refine yKD 15 ?_ ?_ <;> intro h2 ab
 have a4 : i < a.length := τ0
 obtain ⟨e1, a3⟩ := gE a4
 have a7 := okE a1 a3
 refine yI 0 i a4 ?_
 rintro a9 rfl
 refine zL 0 1 e1 a3 ?_
 rintro ⟨⟨p1, c1⟩, ⟨⟩, ⟨⟩⟩
 refine KV Z Z Z Z Z Z O Z (fun w γ => f375 n e1 (γ.q 1 Z) a7 v2) fun a6 => ?_
 refine yKD 25 ?_ ?_ <;> intro h3 aa
 have a8 := v3.trans (show _ = (Ctl.ret (-1)) by rw [acx a3]; simp only [a64, h3, cT, cF])
 rw [show a4h a left = (-1) by simp only [a4h, h1, a8, cT, cF]]
 exact R6r Z Z (i6 (-1))
 refine SA ?_
 exact ITr Z ((a63 e1 a0), i + 1) ⟨τ0, a6, (by rw [v3, acx a3]; simp only [a64, h3, cT, cF])⟩ τ1 [0]
 have a5 := v3.trans (show _ = (Ctl.nxt a0) by rw [dn (show a.length ≤ i by omega)]; simp only [a64, cT, cF])
 rw [show a4h a left = a0 by simp only [a4h, h1, a5, cT, cF]]
 exact R6r Z Z v2
theorem f228 (a : NodeP) (N0 : Rd w K0 M0 a.locl) (N1 : Rd w K1 M1 a.cache.entries) (N2 : Rd w K2 M2 a.pending) (N3 : Rd w K3 M3 a.seen) (N4 : Rd w K4 M4 a.routes) (N5 : Rd w K5 M5 a.measurements) {left : Int} (a0 : ok n a) (a1 : ok n left) :
 DP 228 #[apk a K0 M0 K1 M1 K2 M2 K3 M3 K4 M4 K5 M5, vI left] w (pI n (a1w a left)) := by
 refine EN Tryz.func228 Z (aS6 N0 N1 N2 N3 N4 N5) ?_
 refine KV Z Z Z Z Z Z O Z (fun w γ => f70 n (γ.q 0 Z) ((ad6 a0).1) a1) fun a3 => ?_
 refine yKD 10 ?_ ?_ <;> intro h1 ad
 rw [show a1w a left = (-1) by simp only [a1w, h1, cT, cF]]
 exact R6r Z Z (i6 (-1))
 refine KV Z Z Z Z Z Z O Z (fun w γ => f306 n a.cache (γ.q 1 Z) ((ad6 a0).2.1) a3) fun a4 => ?_
 refine yKD 16 ?_ ?_ <;> intro h2 ac
 rw [show a1w a left = (-1) by simp only [a1w, h1, h2, cT, cF]]
 exact R6r Z Z (i6 (-1))
 refine KV Z Z Z Z Z Z O Z (fun w γ => f307 n (γ.q 2 Z) ((ad6 a0).2.2.1) a4) fun a7 => ?_
 refine yKD 22 ?_ ?_ <;> intro h3 a9
 rw [show a1w a left = (-1) by simp only [a1w, h1, h2, h3, cT, cF]]
 exact R6r Z Z (i6 (-1))
 refine KV Z Z Z Z Z Z O Z (fun w γ => f308 n (γ.q 3 Z) ((ad6 a0).2.2.2.1) a7) fun a5 => ?_
 refine yKD 28 ?_ ?_ <;> intro h4 aa
 rw [show a1w a left = (-1) by simp only [a1w, h1, h2, h3, h4, cT, cF]]
 exact R6r Z Z (i6 (-1))
 refine KV Z Z Z Z Z Z O Z (fun w γ => f309 n (γ.q 4 Z) ((ad6 a0).2.2.2.2.1) a5) fun a2 => ?_
 refine yKD 34 ?_ ?_ <;> intro h5 ab
 rw [show a1w a left = (-1) by simp only [a1w, h1, h2, h3, h4, h5, cT, cF]]
 exact R6r Z Z (i6 (-1))
 refine KV Z Z Z Z Z Z O Z (fun w γ => f310 n (γ.q 5 Z) ((ad6 a0).2.2.2.2.2.1) a2) fun a6 => ?_
 refine yKD 40 ?_ ?_ <;> intro h6 a8
 rw [show a1w a left = (-1) by simp only [a1w, h1, h2, h3, h4, h5, h6, cT, cF]]
 exact R6r Z Z (i6 (-1))
 rw [show a1w a left = (a4h a.measurements (a42 a.routes (a3o a.seen (a33 a.pending (a3n a.cache (a1v a.locl left)))))) by simp only [a1w, h1, h2, h3, h4, h5, h6, cT, cF]]
 exact R6r Z Z a6
theorem f115 {a : List NodeP} (N0 : Rd w K0 M0 a) {left : Int} (a1 : ok n a) (a2 : ok n left) :
 DP 115 #[vS K0 a M0, vI left] w (pI n (a34 a left)) := by
 refine EN Tryz.func115 Z (aS1 N0) ?_
 refine SW ?_
 refine yKD 11 ?_ ?_ <;> intro h1 ac
 rw [show a34 a left = (-1) by simp only [a34, h1, cT, cF]]
 exact R6r Z Z (i6 (-1))
 have r1 := (okl a1).1
 have r2 : a.length ≤ 9223372036854775807 := N0.2.1
 refine LM Z (i64.wrap (left - ((a.length : Nat) : Int)), 0) (fun | (a0, i) => ((i ≤ a.length) ∧ J6 a0 ∧ (a65 a (i64.wrap (left - ((a.length : Nat) : Int))) = a65 (a.drop i) a0), a.length - i, [(1, .v (vI a0)), (5, .v (vI i))], [], [], [])) ⟨zl, (ad3 _), Z⟩ [0] [] [0] [0] ?_
 rintro ⟨a0, i⟩ ⟨v1, v2, v3⟩
 refine yKD 15 ?_ ?_ <;> intro h2 ab
 have a4 : i < a.length := τ0
 obtain ⟨e1, a3⟩ := gE a4
 have a7 := okE a1 a3
 refine yI 0 i a4 ?_
 rintro a9 rfl
 refine zL 0 1 e1 a3 ?_
 rintro ⟨⟨p1, c1⟩, ⟨⟨⟩, ⟨p2, c2⟩⟩, ⟨p3, c3⟩, ⟨p4, c4⟩, ⟨p5, c5⟩, ⟨p6, c6⟩, ⟨⟩⟩
 refine KV Z Z Z Z Z Z O Z (fun w γ => f228 n e1 (γ.q 1 Z) (γ.q 2 Z) (γ.q 3 Z) (γ.q 4 Z) (γ.q 5 Z) (γ.q 6 Z) a7 v2) fun a6 => ?_
 refine yKD 25 ?_ ?_ <;> intro h3 aa
 have a8 := v3.trans (show _ = (Ctl.ret (-1)) by rw [acx a3]; simp only [a65, h3, cT, cF])
 rw [show a34 a left = (-1) by simp only [a34, h1, a8, cT, cF]]
 exact R6r Z Z (i6 (-1))
 refine SA ?_
 exact ITr Z ((a1w e1 a0), i + 1) ⟨τ0, a6, (by rw [v3, acx a3]; simp only [a65, h3, cT, cF])⟩ τ1 [0]
 have a5 := v3.trans (show _ = (Ctl.nxt a0) by rw [dn (show a.length ≤ i by omega)]; simp only [a65, cT, cF])
 rw [show a34 a left = a0 by simp only [a34, h1, a5, cT, cF]]
 exact R6r Z Z v2
theorem f116 {a : List Int} (N0 : Rd w K0 M0 a) {left : Int} (a1 : ok n a) (a0 : ok n left) :
 DP 116 #[vS K0 a M0, vI left] w (pI n (a4i a left)) := by
 refine EN Tryz.func116 Z (aS1 N0) ?_
 refine SW ?_
 refine yKD 10 ?_ ?_ <;> intro h1 a2
 rw [show a4i a left = (-1) by simp only [a4i, h1, cT, cF]]
 exact R6r Z Z (i6 (-1))
 rw [show a4i a left = (i64.wrap (left - ((a.length : Nat) : Int))) by simp only [a4i, h1, cT, cF]]
 exact R6r Z Z (ad3 _)
theorem f311 (a : Interest) (N0 : Rd w K0 M0 a.name.parts) {left : Int} (a1 : ok n a) (a0 : ok n left) :
 DP 311 #[ai1 a K0 M0, vI left] w (pI n (a51 a left)) := by
 refine EN Tryz.func311 Z (aS1 N0) ?_
 refine KV Z Z Z Z Z Z O Z (fun w γ => f169 n a.name (γ.q 0 Z) ((aep a1).1) a0) fun a2 => ?_
 refine yKD 10 ?_ ?_ <;> intro h1 a3
 rw [show a51 a left = (-1) by simp only [a51, h1, cT, cF]]
 exact R6r Z Z (i6 (-1))
 rw [show a51 a left = (a0k a.name left) by simp only [a51, h1, cT, cF]]
 exact R6r Z Z a2
theorem f229 (a : PacketInFlight) (N0 : Rd w K0 M0 a.interest.name.parts) (N1 : Rd w K1 M1 a.data.name.parts) (N2 : Rd w K2 M2 a.data.content) (N3 : Rd w K3 M3 a.data.keyName.parts) {left : Int} (a1 : ok n a) (a0 : ok n left) :
 DP 229 #[afm a K0 M0 K1 M1 K2 M2 K3 M3, vI left] w (pI n (a4j a left)) := by
 refine EN Tryz.func229 Z (aS4 N0 N1 N2 N3) ?_
 refine KV Z Z Z Z Z Z O Z (fun w γ => f311 n a.interest (γ.q 0 Z) ((ad5 a1).2.2.2.1) a0) fun a2 => ?_
 refine yKD 10 ?_ ?_ <;> intro h1 a5
 rw [show a4j a left = (-1) by simp only [a4j, h1, cT, cF]]
 exact R6r Z Z (i6 (-1))
 refine KV Z Z Z Z Z Z O Z (fun w γ => f170 n a.data (γ.q 1 Z) (γ.q 2 Z) (γ.q 3 Z) ((ad5 a1).2.2.2.2) a2) fun a3 => ?_
 refine yKD 16 ?_ ?_ <;> intro h2 a4
 rw [show a4j a left = (-1) by simp only [a4j, h1, h2, cT, cF]]
 exact R6r Z Z (i6 (-1))
 rw [show a4j a left = (a1i a.data (a51 a.interest left)) by simp only [a4j, h1, h2, cT, cF]]
 exact R6r Z Z a3
theorem f117 {a : List PacketInFlight} (N0 : Rd w K0 M0 a) {left : Int} (a1 : ok n a) (a2 : ok n left) :
 DP 117 #[vS K0 a M0, vI left] w (pI n (a43 a left)) := by
 refine EN Tryz.func117 Z (aS1 N0) ?_
 refine SW ?_
 refine yKD 11 ?_ ?_ <;> intro h1 ac
 rw [show a43 a left = (-1) by simp only [a43, h1, cT, cF]]
 exact R6r Z Z (i6 (-1))
 have r1 := (okl a1).1
 have r2 : a.length ≤ 9223372036854775807 := N0.2.1
 refine LM Z (i64.wrap (left - ((a.length : Nat) : Int)), 0) (fun | (a0, i) => ((i ≤ a.length) ∧ J6 a0 ∧ (a66 a (i64.wrap (left - ((a.length : Nat) : Int))) = a66 (a.drop i) a0), a.length - i, [(1, .v (vI a0)), (5, .v (vI i))], [], [], [])) ⟨zl, (ad3 _), Z⟩ [0] [] [0] [0] ?_
 rintro ⟨a0, i⟩ ⟨v1, v2, v3⟩
 refine yKD 15 ?_ ?_ <;> intro h2 ab
 have a4 : i < a.length := τ0
 obtain ⟨e1, a3⟩ := gE a4
 have a7 := okE a1 a3
 refine yI 0 i a4 ?_
 rintro a9 rfl
 refine zL 0 1 e1 a3 ?_
 rintro ⟨⟨⟩, ⟨⟩, ⟨⟩, ⟨⟨p1, c1⟩, ⟨⟩, ⟨⟩, ⟨⟩⟩, ⟨⟨p2, c2⟩, ⟨p3, c3⟩, ⟨p4, c4⟩, ⟨⟩, ⟨⟩⟩⟩
 refine KV Z Z Z Z Z Z O Z (fun w γ => f229 n e1 (γ.q 1 Z) (γ.q 2 Z) (γ.q 3 Z) (γ.q 4 Z) a7 v2) fun a6 => ?_
 refine yKD 25 ?_ ?_ <;> intro h3 aa
 have a8 := v3.trans (show _ = (Ctl.ret (-1)) by rw [acx a3]; simp only [a66, h3, cT, cF])
 rw [show a43 a left = (-1) by simp only [a43, h1, a8, cT, cF]]
 exact R6r Z Z (i6 (-1))
 refine SA ?_
 exact ITr Z ((a4j e1 a0), i + 1) ⟨τ0, a6, (by rw [v3, acx a3]; simp only [a66, h3, cT, cF])⟩ τ1 [0]
 have a5 := v3.trans (show _ = (Ctl.nxt a0) by rw [dn (show a.length ≤ i by omega)]; simp only [a66, cT, cF])
 rw [show a43 a left = a0 by simp only [a43, h1, a5, cT, cF]]
 exact R6r Z Z v2
theorem f230 (a : Consumer) (N0 : Rd w K0 M0 a.name.parts) (N1 : Rd w K1 M1 a.data.name.parts) (N2 : Rd w K2 M2 a.data.content) (N3 : Rd w K3 M3 a.data.keyName.parts) {left : Int} (a1 : ok n a) (a0 : ok n left) :
 DP 230 #[ahx a K0 M0 K1 M1 K2 M2 K3 M3, vI left] w (pI n (a4k a left)) := by
 refine EN Tryz.func230 Z (aS4 N0 N1 N2 N3) ?_
 refine KV Z Z Z Z Z Z O Z (fun w γ => f169 n a.name (γ.q 0 Z) ((adp a1).2.2.1) a0) fun a2 => ?_
 refine yKD 10 ?_ ?_ <;> intro h1 a5
 rw [show a4k a left = (-1) by simp only [a4k, h1, cT, cF]]
 exact R6r Z Z (i6 (-1))
 refine KV Z Z Z Z Z Z O Z (fun w γ => f170 n a.data (γ.q 1 Z) (γ.q 2 Z) (γ.q 3 Z) ((adp a1).2.2.2.2.2.2) a2) fun a3 => ?_
 refine yKD 16 ?_ ?_ <;> intro h2 a4
 rw [show a4k a left = (-1) by simp only [a4k, h1, h2, cT, cF]]
 exact R6r Z Z (i6 (-1))
 rw [show a4k a left = (a1i a.data (a0k a.name left)) by simp only [a4k, h1, h2, cT, cF]]
 exact R6r Z Z a3
theorem f118 {a : List Consumer} (N0 : Rd w K0 M0 a) {left : Int} (a1 : ok n a) (a2 : ok n left) :
 DP 118 #[vS K0 a M0, vI left] w (pI n (a4l a left)) := by
 refine EN Tryz.func118 Z (aS1 N0) ?_
 refine SW ?_
 refine yKD 11 ?_ ?_ <;> intro h1 ac
 rw [show a4l a left = (-1) by simp only [a4l, h1, cT, cF]]
 exact R6r Z Z (i6 (-1))
 have r1 := (okl a1).1
 have r2 : a.length ≤ 9223372036854775807 := N0.2.1
 refine LM Z (i64.wrap (left - ((a.length : Nat) : Int)), 0) (fun | (a0, i) => ((i ≤ a.length) ∧ J6 a0 ∧ (a67 a (i64.wrap (left - ((a.length : Nat) : Int))) = a67 (a.drop i) a0), a.length - i, [(1, .v (vI a0)), (5, .v (vI i))], [], [], [])) ⟨zl, (ad3 _), Z⟩ [0] [] [0] [0] ?_
 rintro ⟨a0, i⟩ ⟨v1, v2, v3⟩
 refine yKD 15 ?_ ?_ <;> intro h2 ab
 have a4 : i < a.length := τ0
 obtain ⟨e1, a3⟩ := gE a4
 have a7 := okE a1 a3
 refine yI 0 i a4 ?_
 rintro a9 rfl
 refine zL 0 1 e1 a3 ?_
 rintro ⟨⟨⟩, ⟨⟩, ⟨p1, c1⟩, ⟨⟩, ⟨⟩, ⟨⟩, ⟨⟨p2, c2⟩, ⟨p3, c3⟩, ⟨p4, c4⟩, ⟨⟩, ⟨⟩⟩⟩
 refine KV Z Z Z Z Z Z O Z (fun w γ => f230 n e1 (γ.q 1 Z) (γ.q 2 Z) (γ.q 3 Z) (γ.q 4 Z) a7 v2) fun a6 => ?_
 refine yKD 25 ?_ ?_ <;> intro h3 aa
 have a8 := v3.trans (show _ = (Ctl.ret (-1)) by rw [acx a3]; simp only [a67, h3, cT, cF])
 rw [show a4l a left = (-1) by simp only [a4l, h1, a8, cT, cF]]
 exact R6r Z Z (i6 (-1))
 refine SA ?_
 exact ITr Z ((a4k e1 a0), i + 1) ⟨τ0, a6, (by rw [v3, acx a3]; simp only [a67, h3, cT, cF])⟩ τ1 [0]
 have a5 := v3.trans (show _ = (Ctl.nxt a0) by rw [dn (show a.length ≤ i by omega)]; simp only [a67, cT, cF])
 rw [show a4l a left = a0 by simp only [a4l, h1, a5, cT, cF]]
 exact R6r Z Z v2
theorem f36 (a : Network) (N0 : Rd w K0 M0 a.topology.links) (N1 : Rd w K1 M1 a.trust.keys) (N2 : Rd w K2 M2 a.trust.rules) (N3 : Rd w K3 M3 a.trust.anchors) (N4 : Rd w K4 M4 a.trust.certificates) (N5 : Rd w K5 M5 a.producers) (N6 : Rd w K6 M6 a.nodes) (N7 : Rd w K7 M7 a.failedLinks) (N8 : Rd w K8 M8 a.inFlight) (N9 : Rd w K9 M9 a.consumers) {left : Int} (a0 : ok n a) (a1 : ok n left) :
 DP 36 #[afp a K0 M0 K1 M1 K2 M2 K3 M3 K4 M4 K5 M5 K6 M6 K7 M7 K8 M8 K9 M9, vI left] w (pI n (a1x a left)) := by
 refine EN Tryz.func36 Z (aC 0 N0 (aC 1 N1 (aC 2 N2 (aC 3 N3 (aC 4 N4 (aC 5 N5 (aC 6 N6 (aC 7 N7 (aC 8 N8 (aC 9 N9 adc)))))))))) ?_
 refine KV Z Z Z Z Z Z O Z (fun w γ => f19 n a.topology (γ.q 0 Z) ((acy a0).1) a1) fun a3 => ?_
 refine yKD 10 ?_ ?_ <;> intro h1 af
 rw [show a1x a left = (-1) by simp only [a1x, h1, cT, cF]]
 exact R6r Z Z (i6 (-1))
 refine KV Z Z Z Z Z Z O Z (fun w γ => f20 n a.trust (γ.q 1 Z) (γ.q 2 Z) (γ.q 3 Z) (γ.q 4 Z) ((acy a0).2.1) a3) fun a4 => ?_
 refine yKD 16 ?_ ?_ <;> intro h2 ae
 rw [show a1x a left = (-1) by simp only [a1x, h1, h2, cT, cF]]
 exact R6r Z Z (i6 (-1))
 refine KV Z Z Z Z Z Z O Z (fun w γ => f21 n (γ.q 5 Z) ((acy a0).2.2.1) a4) fun a8 => ?_
 refine yKD 22 ?_ ?_ <;> intro h3 aa
 rw [show a1x a left = (-1) by simp only [a1x, h1, h2, h3, cT, cF]]
 exact R6r Z Z (i6 (-1))
 refine KV Z Z Z Z Z Z O Z (fun w γ => f115 n (γ.q 6 Z) ((acy a0).2.2.2.1) a8) fun a6 => ?_
 refine yKD 28 ?_ ?_ <;> intro h4 ab
 rw [show a1x a left = (-1) by simp only [a1x, h1, h2, h3, h4, cT, cF]]
 exact R6r Z Z (i6 (-1))
 refine KV Z Z Z Z Z Z O Z (fun w γ => f116 n (γ.q 7 Z) ((acy a0).2.2.2.2.2.1) a6) fun a2 => ?_
 refine yKD 34 ?_ ?_ <;> intro h5 ad
 rw [show a1x a left = (-1) by simp only [a1x, h1, h2, h3, h4, h5, cT, cF]]
 exact R6r Z Z (i6 (-1))
 refine KV Z Z Z Z Z Z O Z (fun w γ => f117 n (γ.q 8 Z) ((acy a0).2.2.2.2.2.2.1) a2) fun a7 => ?_
 refine yKD 40 ?_ ?_ <;> intro h6 a9
 rw [show a1x a left = (-1) by simp only [a1x, h1, h2, h3, h4, h5, h6, cT, cF]]
 exact R6r Z Z (i6 (-1))
 refine KV Z Z Z Z Z Z O Z (fun w γ => f118 n (γ.q 9 Z) ((acy a0).2.2.2.2.2.2.2.1) a7) fun a5 => ?_
 refine yKD 46 ?_ ?_ <;> intro h7 ac
 rw [show a1x a left = (-1) by simp only [a1x, h1, h2, h3, h4, h5, h6, h7, cT, cF]]
 exact R6r Z Z (i6 (-1))
 rw [show a1x a left = (a4l a.consumers (a43 a.inFlight (a4i a.failedLinks (a34 a.nodes (a23 a.producers (a0x a.trust (a0w a.topology left))))))) by simp only [a1x, h1, h2, h3, h4, h5, h6, h7, cT, cF]]
 exact R6r Z Z a5
end Go.Proofs.YtpmejlbgjkiobaaGreat
