/-
  What the proof of one law needs: rules of the program logic, functions as Lean functions, contracts. No condition but what each says. Written by a program (pack.py) out of my own texts.
-/
import Derived.Carry
import Derived.ChangeArms
import Derived.ProofKit
import Derived.OpenShut
import Derived.JoinedCond
import Derived.Test.YthdgpfbldbabmaaGreatDoorKFnAsks2
namespace Go.Stp
open GoT (X k ok sh fa oa)
structure PI where
 j : Nat
 d : Nat
 obj : Obj
 val : Nat → Value
 env : Env := []
def PIok (C : Cx) (ops : Array Oper) (it : PI) : Prop :=
 ∃ o, ops[it.j]? = some o ∧ gd ops [] o = some true ∧ o.dst = some it.d ∧ it.d < C.fn.ntmps ∧ ∀ (a : Act) (w : World) (bs : Nat → Nat), At C.fn.ntmps it.env bs a → (execOp a.eval o).run C.P w = .ok (.value (it.val w.heap.size)) (w.alloc it.obj)
structure POk (C : Cx) (ops : Array Oper) (listed : Array Bool) (env : Env) (P : List PI) : Prop where
 ok : ∀ it ∈ P, PIok C ops it
 free : ∀ it ∈ P, look env it.d = none
 sub : ∀ it ∈ P, Sub it.env env
 rdy : ∀ it ∈ P, readyAt ops listed it.j = true
 dis : P.Pairwise (fun x y => x.j ≠ y.j ∧ x.d ≠ y.d)
def doneL (listed : Array Bool) (D : Nat → Option Nat) : List PI → Array Bool
 | [] => listed
 | it :: P => match D it.j with
  | some _ => (doneL listed D P).setIfInBounds it.j true
  | none => doneL listed D P
def left (D : Nat → Option Nat) : List PI → Nat
 | [] => 0
 | it :: P => match D it.j with
  | some _ => left D P
  | none => left D P + 1
def upd (D : Nat → Option Nat) (j b : Nat) : Nat → Option Nat := fun i => if i = j then some b else D i
theorem set_getD_true {l : Array Bool} {i : Nat} : (l.setIfInBounds i true).getD i true = true := by
 rw [Array.getD_eq_getD_getElem?]
 by_cases h : i < l.size
 ·simp [h]
 ·rw [Array.getElem?_eq_none (by simp; omega)]; rfl
theorem doneL_un {listed : Array Bool} {D : Nat → Option Nat} {i : Nat} : ∀ {P : List PI}, (doneL listed D P).getD i true = false → listed.getD i true = false ∧ ∀ it ∈ P, it.j = i → D i = none
 | [], h => ⟨h, fun _ h => by cases h⟩
 | it :: P, h => by
  unfold doneL at h
  split at h
  ·rename_i b hb
   by_cases hi : it.j = i
   ·subst hi; rw [set_getD_true] at h; cases h
   ·rw [getD_set_ne true hi] at h
    obtain ⟨h1, h2⟩ := doneL_un h
    exact ⟨h1, fun x hx he => (List.mem_cons.1 hx).elim (fun e => by subst e; exact absurd he hi) (fun hx => h2 x hx he)⟩
  ·rename_i hb
   obtain ⟨h1, h2⟩ := doneL_un h
   exact ⟨h1, fun x hx he => (List.mem_cons.1 hx).elim (fun e => by subst e; rw [← he]; exact hb) (fun hx => h2 x hx he)⟩
theorem doneL_mono {listed : Array Bool} {D : Nat → Option Nat} {i : Nat} (h : listed.getD i false = true) : ∀ {P : List PI}, (doneL listed D P).getD i false = true
 | [] => h
 | it :: P => by
  unfold doneL
  split
  ·exact getD_set_true (doneL_mono h)
  ·exact doneL_mono h
theorem doneL_ne {listed : Array Bool} {D : Nat → Option Nat} {i : Nat} (x : Bool) : ∀ {P : List PI}, (∀ it ∈ P, it.j ≠ i) → (doneL listed D P).getD i x = listed.getD i x
 | [], _ => rfl
 | it :: P, h => by
  unfold doneL
  split
  ·rw [getD_set_ne x (h it List.mem_cons_self)]; exact doneL_ne x fun y hy => h y (List.mem_cons_of_mem _ hy)
  ·exact doneL_ne x fun y hy => h y (List.mem_cons_of_mem _ hy)
theorem doneL_set {listed : Array Bool} {D : Nat → Option Nat} {y : Nat} : ∀ {P : List PI}, (∀ it ∈ P, it.j ≠ y) → doneL (listed.setIfInBounds y true) D P = (doneL listed D P).setIfInBounds y true
 | [], _ => rfl
 | it :: P, h => by
  unfold doneL
  split
  ·rw [doneL_set fun x hx => h x (List.mem_cons_of_mem _ hx)]; exact Array.setIfInBounds_comm _ _ (Ne.symm (h it List.mem_cons_self))
  ·exact doneL_set fun x hx => h x (List.mem_cons_of_mem _ hx)
theorem doneL_congr {listed : Array Bool} {D D' : Nat → Option Nat} : ∀ {P : List PI}, (∀ it ∈ P, D' it.j = D it.j) → doneL listed D' P = doneL listed D P ∧ left D' P = left D P
 | [], _ => ⟨rfl, rfl⟩
 | it :: P, h => by
  obtain ⟨h1, h2⟩ := doneL_congr (listed := listed) (P := P) fun x hx => h x (List.mem_cons_of_mem _ hx)
  unfold doneL left
  rw [h it List.mem_cons_self, h1, h2]
  exact ⟨rfl, rfl⟩
theorem doneL_upd {listed : Array Bool} {D : Nat → Option Nat} {it : PI} {b : Nat} (hD : D it.j = none) : ∀ {P : List PI}, P.Pairwise (fun x y => x.j ≠ y.j ∧ x.d ≠ y.d) → it ∈ P → doneL listed (upd D it.j b) P = (doneL listed D P).setIfInBounds it.j true ∧ left D P = left (upd D it.j b) P + 1
 | [], _, h => by cases h
 | x :: P, hd, h => by
  rw [List.pairwise_cons] at hd
  rcases List.mem_cons.1 h with rfl | h
  ·obtain ⟨h1, h2⟩ := doneL_congr (listed := listed) (D := D) (D' := upd D it.j b) (P := P) fun y hy => if_neg (Ne.symm (hd.1 y hy).1)
   unfold doneL left
   have h3 : upd D it.j b it.j = some b := if_pos rfl
   rw [h3, hD, h1, h2]
   exact ⟨rfl, rfl⟩
  ·obtain ⟨h1, h2⟩ := doneL_upd (listed := listed) hD hd.2 h
   have h3 : upd D it.j b x.j = D x.j := if_neg (hd.1 it h).1
   unfold doneL left
   rw [h3, h1]
   cases D x.j with
   | none => dsimp only; exact ⟨rfl, by omega⟩
   | some q => dsimp only; exact ⟨Array.setIfInBounds_comm _ _ (Ne.symm (hd.1 it h).1), h2⟩
def blockB (ops : Array Oper) (listed : Array Bool) (P : List PI) (i : Nat) : Bool :=
 match ops[i]? with
 | some o => o.after.any fun e => Region.binds .any e && !listed.getD e.on false && P.all fun it => !Nat.beq it.j e.on
 | none => true
def nextB (ops : Array Oper) (listed : Array Bool) (P P' : List PI) (y : Nat) : Bool :=
 (List.range ops.size).all fun i => Nat.beq i y || listed.getD i true || (P.any fun it => Nat.beq it.j i) || blockB ops listed P' i
theorem next_spec {ops : Array Oper} {listed : Array Bool} {D : Nat → Option Nat} {P P' : List PI} {y i : Nat} (hn : nextB ops listed P P' y = true) (hD : doneL listed D P = doneL listed D P') (hr : i ∈ Region.ready .any ops (doneL listed D P)) : i = y ∨ ∃ it ∈ P, it.j = i ∧ D it.j = none := by
 obtain ⟨hun, o, ho, hall⟩ := mem_ready.1 hr
 obtain ⟨u1, u2⟩ := doneL_un hun
 have h1 := List.all_eq_true.1 hn i (List.mem_range.2 (Array.getElem?_eq_some_iff.1 ho).1)
 simp only [Bool.or_eq_true] at h1
 rcases h1 with ((h1 | h1) | h1) | h1
 ·exact .inl (Nat.eq_of_beq_eq_true h1)
 ·rw [u1] at h1; cases h1
 ·obtain ⟨it, hit, he⟩ := List.any_eq_true.1 h1
  have he' := Nat.eq_of_beq_eq_true he
  exact .inr ⟨it, hit, he', by rw [he']; exact u2 it hit he'⟩
 ·exfalso
  unfold blockB at h1
  rw [ho] at h1
  obtain ⟨e, he, hb⟩ := Array.any_eq_true'.1 h1
  simp only [Bool.and_eq_true, Bool.not_eq_true', List.all_eq_true] at hb
  have h2 := hall e he hb.1.1
  rw [hD, doneL_ne false fun it hit h => by have := hb.2 it hit; rw [h] at this; simp at this] at h2
  rw [hb.1.2] at h2; cases h2
theorem ready_mem {ops : Array Oper} {listed : Array Bool} {D : Nat → Option Nat} {P : List PI} {y : Nat} (hy : readyAt ops listed y = true) (hP : ∀ it ∈ P, it.j = y → D it.j = none) : y ∈ Region.ready .any ops (doneL listed D P) := by
 have h := hy
 unfold readyAt at h
 cases ho : ops[y]? with
 | none => simp [ho] at h
 | some o =>
  simp only [ho, Bool.and_eq_true, Bool.not_eq_true'] at h
  refine mem_ready.2 ⟨?_, o, ho, fun e he hb => ?_⟩
  ·have key : ∀ {P : List PI}, (∀ it ∈ P, it.j = y → D it.j = none) → (doneL listed D P).getD y true = listed.getD y true := by
    intro P
    induction P with
    | nil => exact fun _ => rfl
    | cons it P ih =>
     intro hP
     have ih := ih fun x hx => hP x (List.mem_cons_of_mem _ hx)
     unfold doneL
     split
     ·rename_i b hb
      by_cases he : it.j = y
      ·rw [hP it List.mem_cons_self he] at hb; cases hb
      ·rw [getD_set_ne true he]; exact ih
     ·exact ih
   rw [key hP]; exact h.1
  ·have h2 := Array.all_eq_true_iff_forall_mem.1 h.2 e he
   simp only [hb, Bool.not_true, Bool.false_or] at h2
   exact doneL_mono h2
theorem pw_uniq {α : Type} {R : α → α → Prop} (hs : ∀ x y, R x y → R y x) : ∀ {l : List α}, l.Pairwise R → ∀ x ∈ l, ∀ y ∈ l, x = y ∨ R x y
 | [], _, x, hx, _, _ => by cases hx
 | z :: l, h, x, hx, y, hy => by
  rw [List.pairwise_cons] at h
  rcases List.mem_cons.1 hx with e1 | h1 <;> rcases List.mem_cons.1 hy with e2 | h2
  ·exact .inl (e1.trans e2.symm)
  ·exact .inr (e1 ▸ h.1 y h2)
  ·exact .inr (hs _ _ (e2 ▸ h.1 x h1))
  ·exact pw_uniq hs h.2 x h1 y h2
theorem setV_ne {l : Array Value} {i j : Nat} {v x : Value} (h : i ≠ j) : (l.setIfInBounds i v).getD j x = l.getD j x := by simp [Array.getD_eq_getD_getElem?, h]
def Fr (C : Cx) (w : World) (G : GH) (bs : Nat → Nat) (L : Locs) (R : Rows) (a : Act) (D : Nat → Option Nat) (P : List PI) : Prop :=
 ∀ it ∈ P, ∀ b, D it.j = some b → a.tmps.getD it.d undef = it.val b ∧ w.heap[b]? = some it.obj ∧ C.w0.heap.size ≤ b ∧ G b = none ∧ (∀ i, Acts L R i → bs i ≠ b) ∧ (∀ it' ∈ P, ∀ b', D it'.j = some b' → it'.j ≠ it.j → b' ≠ b)
def SatD (C : Cx) (env : Env) (L : Locs) (R : Rows) (Γ : Facts) (a : Act) (w : World) (D : Nat → Option Nat) (P : List PI) : Prop :=
 ∃ G bs, At C.fn.ntmps env bs a ∧ HInv C w G bs L R ∧ AllK C.M G Γ ∧ Fr C w G bs L R a D P
def TXP (C : Cx) (ops : Array Oper) (tl : List Nat) (s : List It) (S : World → Prop) (P : List PI) (fuel : Nat) (listed : Array Bool) (env : Env) (L : Locs) (R : Rows) (Γ : Facts) : Prop :=
 (∀ w w', Kp emp w w' → S w → S w') → POk C ops listed env P → ∀ D a w, SatD C env L R Γ a w D P → wpAnyT C.P ops (cont C s) S tl (fuel + left D P) (doneL listed D P) a w
theorem Fr.keep {C : Cx} {w w' : World} {G G' Hc : GH} {bs : Nat → Nat} {L L' : Locs} {R : Rows} {a : Act} {D : Nat → Option Nat} {P : List PI} {d : Nat} {v : Value} (h : Fr C w G bs L R a D P) (hb : Kp Hc w w') (hc : ∀ b, G b = none → (∀ i, Acts L R i → bs i ≠ b) → Hc b = none) (hG : ∀ b, G b = none → b < w.heap.size → (∀ i, Acts L R i → bs i ≠ b) → G' b = none) (hL : ∀ i, Acts L' R i → Acts L R i) (hd : ∀ it ∈ P, it.d ≠ d) : Fr C w' G' bs L' R (a.put (some d) v) D P := by
 intro it hit b hD
 obtain ⟨h1, h2, h3, h4, h5, h6⟩ := h it hit b hD
 have hlt : b < w.heap.size := (Array.getElem?_eq_some_iff.1 h2).1
 refine ⟨?_, ?_, h3, hG b h4 hlt h5, fun i hi => h5 i (hL i hi), h6⟩
 ·show (a.tmps.setIfInBounds d v).getD it.d undef = _
  rw [setV_ne (Ne.symm (hd it hit))]; exact h1
 ·rw [hb.block b hlt (hc b h4 h5)]; exact h2
theorem it_step {C : Cx} {ops : Array Oper} {listed : Array Bool} {env : Env} {L : Locs} {R : Rows} {Γ : Facts} {P : List PI} {it : PI} {D : Nat → Option Nat} {Q : Exit → Act → World → Prop} {a : Act} {w : World} (hP : POk C ops listed env P) (hit : it ∈ P) (hS : SatD C env L R Γ a w D P) :
  wpOp C.P ops Q it.j (fun a' w' => Kp emp w w' ∧ ∃ b, SatD C env L R Γ a' w' (upd D it.j b) P) a w := by
 obtain ⟨G, bs, hA, hI, hΓ, hF⟩ := hS
 obtain ⟨o, ho, hg, hd, hlt, hx⟩ := hP.ok it hit
 unfold wpOp
 simp only [ho]
 rw [if_pos (gd_sound (env := []) (bs := bs) ⟨hA.size, hA.dfr, fun _ _ h => by simp [look] at h⟩ hg)]
 refine .inl ?_
 unfold Oper.wp
 rw [hx a w bs ⟨hA.size, hA.dfr, fun d s h => hA.slot d s (hP.sub it hit d s h)⟩]
 simp only [Oper.upon, hd]
 have hk : Kp emp w (w.alloc it.obj) := (Kp.refl emp w).alloc _
 refine ⟨hk, w.heap.size, join (cut G emp) emp, bs, ⟨?_, hA.dfr, fun e x hex => ?_⟩, (hI.called (emp_le _) (fun _ _ h => by cases h) hk (emp_le _) (fun _ _ h => by cases h)).1, hΓ.mono (le_join_l (cut G emp) emp), ?_⟩
 ·show (a.tmps.setIfInBounds _ _).size = _
  rw [Array.size_setIfInBounds]; exact hA.size
 ·show (a.tmps.setIfInBounds it.d _).getD e undef = _
  have hne : it.d ≠ e := fun h => by subst h; rw [hP.free it hit] at hex; cases hex
  rw [setV_ne hne]; exact hA.slot e x hex
 ·have hGn : ∀ b, G b = none → join (cut G emp) emp b = none := fun b h => by unfold join; rw [cut_none' h]; rfl
  have hlt' : ∀ i, Acts L R i → bs i < w.heap.size := by
   intro i h
   rcases h with ⟨x, hx⟩ | ⟨r, hr, hc⟩
   ·exact (Array.getElem?_eq_some_iff.1 (hI.loc i x hx).1).1
   ·rcases (hI.row i r hr).2 with ⟨h0, _⟩ | ⟨_, _, _, _, _, _, cur, T, hh, _⟩
    ·exact absurd h0 hc
    ·exact (Array.getElem?_eq_some_iff.1 hh).1
  have hGs : G w.heap.size = none := by
   cases hg' : G w.heap.size with
   | none => rfl
   | some q => have := hI.le.lt hg'; omega
  intro x hx b hb
  by_cases hj : x.j = it.j
  ·have hxi : x = it := (pw_uniq (fun _ _ h => ⟨Ne.symm h.1, Ne.symm h.2⟩) hP.dis x hx it hit).resolve_right fun h => h.1 hj
   subst hxi
   have hb' : w.heap.size = b := by
    have : upd D x.j w.heap.size x.j = some w.heap.size := if_pos rfl
    rw [this] at hb; injection hb
   subst hb'
   refine ⟨?_, heap_alloc_new w _, hI.keep.size, hGn _ hGs, fun i hi => Nat.ne_of_lt (hlt' i hi), fun y hy b' hb' hne => ?_⟩
   ·show (a.tmps.setIfInBounds x.d _).getD x.d undef = _
    rw [Array.getD_eq_getD_getElem?]
    simp [hA.size, hlt]
   ·have h2 : upd D x.j w.heap.size y.j = D y.j := if_neg hne
    rw [h2] at hb'
    have := (Array.getElem?_eq_some_iff.1 (hF y hy b' hb').2.1).1
    omega
  ·have h2 : upd D it.j w.heap.size x.j = D x.j := if_neg hj
   rw [h2] at hb
   obtain ⟨q1, q2, q3, q4, q5, q6⟩ := hF x hx b hb
   have hlt2 : b < w.heap.size := (Array.getElem?_eq_some_iff.1 q2).1
   have hxd : it.d ≠ x.d := fun h => (pw_uniq (fun _ _ h => ⟨Ne.symm h.1, Ne.symm h.2⟩) hP.dis x hx it hit).elim (fun e => hj (by rw [e])) (fun e => e.2 h.symm)
   refine ⟨?_, by rw [hk.block b hlt2 rfl]; exact q2, q3, hGn _ q4, q5, fun y hy b' hb' hne => ?_⟩
   ·show (a.tmps.setIfInBounds it.d _).getD x.d undef = _
    rw [setV_ne hxd]; exact q1
   ·by_cases hyj : y.j = it.j
    ·have : upd D it.j w.heap.size y.j = some w.heap.size := if_pos hyj
     rw [this] at hb'
     injection hb' with hb'
     omega
    ·have h3 : upd D it.j w.heap.size y.j = D y.j := if_neg hyj
     rw [h3] at hb'
     exact q6 y hy b' hb' hne
theorem TXP.core {C : Cx} {ops : Array Oper} {tl : List Nat} {s : List It} {S : World → Prop} {P : List PI} {fuel y : Nat} {listed : Array Bool} {env : Env} {L : Locs} {R : Rows} {Γ : Facts} (hS : ∀ w w', Kp emp w w' → S w → S w') (hP : POk C ops listed env P) (ok : (Nat → Option Nat) → Prop)
  (hn : ∀ D, ok D → ∀ i ∈ Region.ready .any ops (doneL listed D P), i = y ∨ ∃ it ∈ P, it.j = i ∧ D it.j = none) (hne : ∀ D, ok D → Region.ready .any ops (doneL listed D P) ≠ [])
  (stop : ∀ D a w, ¬ ok D → SatD C env L R Γ a w D P → wpAnyT C.P ops (cont C s) S tl (fuel + left D P) (doneL listed D P) a w)
  (step : ∀ D a w, ok D → SatD C env L R Γ a w D P → y ∈ Region.ready .any ops (doneL listed D P) → ∃ f, fuel + left D P = f + 1 ∧ wpOp C.P ops (cont C s) y (fun a' w' => (tl.contains y = false → S w → S w') ∧ wpAnyT C.P ops (cont C s) S tl f ((doneL listed D P).setIfInBounds y true) a' w') a w) :
  ∀ n D a w, left D P = n → SatD C env L R Γ a w D P → wpAnyT C.P ops (cont C s) S tl (fuel + left D P) (doneL listed D P) a w := by
 intro n
 induction n with
 | zero =>
  intro D a w hn0 hSat
  by_cases hok : ok D
  ·have hnone : ∀ it ∈ P, D it.j ≠ none := fun it hit h => by have := (doneL_upd (listed := listed) (b := 0) h hP.dis hit).2; omega
   have hy : y ∈ Region.ready .any ops (doneL listed D P) := by
    cases hr : Region.ready .any ops (doneL listed D P) with
    | nil => exact absurd hr (hne D hok)
    | cons i r =>
     rcases hn D hok i (by rw [hr]; exact List.mem_cons_self) with rfl | ⟨it, hit, _, h⟩
     ·exact List.mem_cons_self
     ·exact absurd h (hnone it hit)
   obtain ⟨f, hf, hs⟩ := step D a w hok hSat hy
   rw [hf]
   refine ⟨fun h => absurd h (hne D hok), fun i hi => ?_⟩
   rcases hn D hok i hi with rfl | ⟨it, hit, _, h⟩
   ·exact hs
   ·exact absurd h (hnone it hit)
  ·exact stop D a w hok hSat
 | succ n ih =>
  intro D a w hn0 hSat
  by_cases hok : ok D
  ·have hf : fuel + left D P = (fuel + n) + 1 := by omega
   rw [hf]
   refine ⟨fun h => absurd h (hne D hok), fun i hi => ?_⟩
   rcases hn D hok i hi with rfl | ⟨it, hit, rfl, h⟩
   ·obtain ⟨f, hf', hs⟩ := step D a w hok hSat hi
    have : f = fuel + n := by omega
    subst this
    exact hs
   ·refine wpOp_mono (fun a' w' ⟨hk, b, hSat'⟩ => ⟨fun _ h => hS _ _ hk h, ?_⟩) (it_step (Q := cont C s) hP hit hSat)
    obtain ⟨e1, e2⟩ := doneL_upd (listed := listed) (b := b) h hP.dis hit
    have hl : left (upd D it.j b) P = n := by omega
    have := ih (upd D it.j b) a' w' hl hSat'
    rw [e1, hl] at this
    exact this
  ·exact stop D a w hok hSat
theorem TX.toP {C : Cx} {ops : Array Oper} {tl : List Nat} {s : List It} {S : World → Prop} {fuel : Nat} {listed : Array Bool} {env : Env} {L : Locs} {R : Rows} {Γ : Facts} (k : TXP C ops tl s S [] fuel listed env L R Γ) : TX C ops tl s S fuel listed env L R Γ := fun hS a w ⟨G, bs, hA, hI, hΓ⟩ =>
 k hS ⟨(fun _ h => by cases h), (fun _ h => by cases h), (fun _ h => by cases h), (fun _ h => by cases h), .nil⟩ (fun _ => none) a w ⟨G, bs, hA, hI, hΓ, fun _ h => by cases h⟩
theorem TXP.done {C : Cx} {ops : Array Oper} {tl : List Nat} {s : List It} {S : World → Prop} {fuel : Nat} {listed : Array Bool} {env : Env} {L : Locs} {R : Rows} {Γ : Facts} (k : TX C ops tl s S fuel listed env L R Γ) : TXP C ops tl s S [] fuel listed env L R Γ := fun hS _ _ a w ⟨G, bs, hA, hI, hΓ, _⟩ => k hS a w ⟨G, bs, hA, hI, hΓ⟩
def envNo (d : Nat) (e : Env) : Bool := e.all fun x => !Nat.beq x.1 d
def apartB (P : List PI) (j d : Nat) : Bool := P.all fun it => !Nat.beq it.j j && !Nat.beq it.d d && envNo d it.env
theorem apartB_spec {P : List PI} {j d : Nat} (h : apartB P j d = true) : ∀ it ∈ P, it.j ≠ j ∧ it.d ≠ d := fun it hit => by
 have := List.all_eq_true.1 h it hit
 simp only [Bool.and_eq_true, Bool.not_eq_true'] at this
 exact ⟨Nat.ne_of_beq_eq_false this.1.1, Nat.ne_of_beq_eq_false this.1.2⟩
theorem apartB_env {P : List PI} {j d : Nat} (h : apartB P j d = true) : ∀ it ∈ P, envNo d it.env = true := fun it hit => by
 have := List.all_eq_true.1 h it hit
 simp only [Bool.and_eq_true, Bool.not_eq_true'] at this
 exact this.2
theorem envNo_sub {d : Nat} {e env : Env} {sv : SV} (h : envNo d e = true) (hs : Sub e env) : Sub e ((d, sv) :: env) := fun i x hx => by
 have h1 := List.all_eq_true.1 h (i, x) (look_mem hx)
 simp only [Bool.not_eq_true'] at h1
 rw [look_cons, if_neg (Ne.symm (Nat.ne_of_beq_eq_false h1))]
 exact hs i x hx
theorem TXP.pend {C : Cx} {ops : Array Oper} {tl : List Nat} {s : List It} {S : World → Prop} {P : List PI} {fuel : Nat} {listed : Array Bool} {env : Env} {L : Locs} {R : Rows} {Γ : Facts} (it : PI) (hok : PIok C ops it) (hsb : Sub it.env env) (hf : look env it.d = none) (hr : readyAt ops listed it.j = true) (hd : apartB P it.j it.d = true)
  (k : TXP C ops tl s S (it :: P) fuel listed env L R Γ) : TXP C ops tl s S P (fuel + 1) listed env L R Γ := by
 intro hS hP D a w ⟨G, bs, hA, hI, hΓ, hF⟩
 have hdd := apartB_spec hd
 let D' : Nat → Option Nat := fun i => if i = it.j then none else D i
 have hD0 : D' it.j = none := if_pos rfl
 have hD1 : ∀ x ∈ P, D' x.j = D x.j := fun x hx => if_neg (hdd x hx).1
 obtain ⟨e1, e2⟩ := doneL_congr (listed := listed) hD1
 have key := k hS ⟨fun x hx => (List.mem_cons.1 hx).elim (fun e => e ▸ hok) (hP.ok x), fun x hx => (List.mem_cons.1 hx).elim (fun e => e ▸ hf) (hP.free x), fun x hx => (List.mem_cons.1 hx).elim (fun e => e ▸ hsb) (hP.sub x), fun x hx => (List.mem_cons.1 hx).elim (fun e => e ▸ hr) (hP.rdy x), List.pairwise_cons.2 ⟨fun x hx => ⟨Ne.symm (hdd x hx).1, Ne.symm (hdd x hx).2⟩, hP.dis⟩⟩ D' a w ⟨G, bs, hA, hI, hΓ, fun x hx b hb => ?_⟩
 ·unfold doneL left at key
  rw [hD0] at key
  dsimp only at key
  rw [e1, e2] at key
  rw [show fuel + 1 + left D P = fuel + (left D P + 1) by omega]
  exact key
 ·rcases List.mem_cons.1 hx with e | hx
  ·subst e; rw [hD0] at hb; cases hb
  ·rw [hD1 x hx] at hb
   obtain ⟨q1, q2, q3, q4, q5, q6⟩ := hF x hx b hb
   refine ⟨q1, q2, q3, q4, q5, fun y hy b' hb' hne => ?_⟩
   rcases List.mem_cons.1 hy with e | hy
   ·subst e; rw [hD0] at hb'; cases hb'
   ·rw [hD1 y hy] at hb'; exact q6 y hy b' hb' hne
theorem readyAt_set {ops : Array Oper} {listed : Array Bool} {i j : Nat} (h : readyAt ops listed j = true) (hij : j ≠ i) : readyAt ops (listed.setIfInBounds i true) j = true := by
 unfold readyAt at h ⊢
 rw [getD_set_ne true (Ne.symm hij)]
 cases ho : ops[j]? with
 | none => simp [ho] at h
 | some o =>
  simp only [ho, Bool.and_eq_true] at h ⊢
  refine ⟨h.1, Array.all_eq_true_iff_forall_mem.2 fun e he => ?_⟩
  have := Array.all_eq_true_iff_forall_mem.1 h.2 e he
  simp only [Bool.or_eq_true] at this ⊢
  exact this.imp id getD_set_true
theorem ready_doneL {ops : Array Oper} {listed : Array Bool} {D : Nat → Option Nat} {P : List PI} {i : Nat} (h : i ∈ Region.ready .any ops listed) (hP : ∀ it ∈ P, it.j ≠ i) : i ∈ Region.ready .any ops (doneL listed D P) := by
 obtain ⟨hun, o, ho, hall⟩ := mem_ready.1 h
 exact mem_ready.2 ⟨by rw [doneL_ne true hP]; exact hun, o, ho, fun e he hb => doneL_mono (hall e he hb)⟩
theorem POk.step {C : Cx} {ops : Array Oper} {listed : Array Bool} {env : Env} {P : List PI} {i d : Nat} {sv : SV} (hP : POk C ops listed env P) (ha : apartB P i d = true) : POk C ops (listed.setIfInBounds i true) ((d, sv) :: env) P :=
 have h := apartB_spec ha
 ⟨hP.ok, fun x hx => by rw [look_cons, if_neg (Ne.symm (h x hx).2)]; exact hP.free x hx, fun x hx => envNo_sub (apartB_env ha x hx) (hP.sub x hx), fun x hx => readyAt_set (hP.rdy x hx) (h x hx).1, hP.dis⟩
theorem TXP.takeP {C : Cx} {ops : Array Oper} {tl : List Nat} {s : List It} {S : World → Prop} {P : List PI} {fuel : Nat} {listed : Array Bool} {env : Env} {L : Locs} {R : Rows} {Γ : Facts} {i d : Nat} {o : Oper} {sv : SV} {b : Bool} (hb : mayP ops listed i = true) (hi : ops[i]? = some o) (hd : o.dst = some d) (hlt : d < C.fn.ntmps) (ha : apartB P i d = true)
  (hg : gd ops env o = some b) (hl : b = true → ∀ a w bs, At C.fn.ntmps env bs a → (execOp a.eval o).run C.P w = .ok (.value (conc bs sv)) w) (hu : b = false → sv = .v undef)
  (k : TXP C ops tl s S P fuel (listed.setIfInBounds i true) ((d, sv) :: env) L R Γ) : TXP C ops tl s S P (fuel + 1) listed env L R Γ := by
 intro hS hP D a w ⟨G, bs, hA, hI, hΓ, hF⟩
 have hap := apartB_spec ha
 simp only [mayP, Bool.and_eq_true] at hb
 obtain ⟨⟨h1, h4⟩, h5⟩ := hb
 have hr : i ∈ Region.ready .any ops (doneL listed D P) := ready_doneL (by simpa using h5) fun it hit => (hap it hit).1
 rw [show fuel + 1 + left D P = (fuel + left D P) + 1 by omega]
 refine wpAnyT_firstP hi (Region.noSelect_spec h1) (fun c a w h => (cont_panic C s c _ _ h).elim) (fuel + left D P) (doneL listed D P) a w (fun j oj hj hne hun hno => Region.free_spec hi h4 j oj hj hne (doneL_un hun).1 hno) hr (v := conc bs sv) ?_ ?_
 ·cases b with
  | true => exact .inl ⟨gd_sound hA hg, fun w' _ => hl rfl a w' bs hA⟩
  | false => exact .inr ⟨gd_sound hA hg, by rw [hu rfl]; rfl⟩
 ·rw [hd, ← doneL_set fun it hit => (hap it hit).1]
  refine k hS (hP.step ha) D _ _ ⟨G, bs, hA.put hlt sv, hI, hΓ, fun x hx b hb => ?_⟩
  obtain ⟨q1, q⟩ := hF x hx b hb
  exact ⟨by rw [← q1]; exact setV_ne (Ne.symm (hap x hx).2), q⟩
def apartL (ops : Array Oper) (P : List PI) (is : List Nat) : Bool := is.all fun i => match getO ops.toList i with | some o => (match o.dst with | some d => apartB P i d | none => false) | none => false
theorem TXP.takes {C : Cx} {ops : Array Oper} {tl : List Nat} {s : List It} {S : World → Prop} {P : List PI} {L : Locs} {R : Rows} {Γ : Facts} (ht : TabOk C.P C.tt) : ∀ (is : List Nat) {fuel : Nat} {listed : Array Bool} {env env' : Env}, apartL ops P is = true → takesB ops tl listed (is.map fun i => (i, true)) = true →
  takesE C.tt C.fn.ntmps ops [] env (is.map fun i => (i, true)) = some env' → TXP C ops tl s S P fuel (setAll listed (is.map fun i => (i, true))) env' L R Γ → TXP C ops tl s S P (fuel + is.length) listed env L R Γ
 | [], _, _, _, _, _, _, h, k => by simp [takesE] at h; subst h; exact k
 | i :: r, fuel, listed, env, env', ha, hb, h, k => by
  simp only [apartL, List.all_cons, Bool.and_eq_true] at ha
  simp only [List.map_cons, takesB, Bool.and_eq_true] at hb
  simp only [List.map_cons, takesE] at h
  split at h
  ·rename_i o ho
   simp only [ho] at ha
   rw [getO_eq] at ho
   have ho' : ops[i]? = some o := by simpa using ho
   split at h
   ·rename_i d hd
    simp only [hd] at ha
    split at h
    ·rename_i hlt
     have hlt' : d < C.fn.ntmps := by simpa [Nat.blt_eq] using hlt
     split at h
     ·rename_i hg
      split at h
      ·rename_i sv hsv
       exact TXP.takeP hb.1 ho' hd hlt' ha.1 hg (fun _ a w bs' hA => pureS_any ht w hA hsv) (fun h => by cases h) (TXP.takes ht r ha.2 hb.2 h k)
      ·cases h
     ·rename_i hg
      exact TXP.takeP hb.1 ho' hd hlt' ha.1 hg (fun h => by cases h) (fun _ => rfl) (TXP.takes ht r ha.2 hb.2 h k)
     ·cases h
    ·cases h
   ·cases h
  ·cases h
theorem TXP.seeP {C : Cx} {ops : Array Oper} {tl : List Nat} {s : List It} {S : World → Prop} {P : List PI} {fuel : Nat} {listed : Array Bool} {env : Env} {L : Locs} {R : Rows} {Γ : Facts} {d : Nat} {o : Oper} {sv : SV} (i : Nat) (hb : mayP ops listed i = true) (hi : getO ops.toList i = some o) (hg : gd ops env o = some true) (hd : o.dst = some d) (hlt : Nat.blt d C.fn.ntmps = true) (ha : apartB P i d = true)
  (hl : LooksP C env o sv) (k : TXP C ops tl s S P fuel (listed.setIfInBounds i true) ((d, sv) :: env) L R Γ) : TXP C ops tl s S P (fuel + 1) listed env L R Γ := by
 rw [getO_eq] at hi
 exact TXP.takeP hb (by simpa using hi) hd (by simpa [Nat.blt_eq] using hlt) ha hg (fun _ a w bs hA => hl a w bs hA) (fun h => by cases h) k
theorem TXP.next {C : Cx} {ops : Array Oper} {tl : List Nat} {s : List It} {S : World → Prop} {P : List PI} {fuel i d : Nat} {listed : Array Bool} {env : Env} {L : Locs} {R : Rows} {Γ : Facts} (hn : nextB ops listed P P i = true) (hr : readyAt ops listed i = true) (ha : apartB P i d = true)
  (step : (∀ w w', Kp emp w w' → S w → S w') → POk C ops listed env P → ∀ D a w, SatD C env L R Γ a w D P → wpOp C.P ops (cont C s) i (fun a' w' => (tl.contains i = false → S w → S w') ∧ wpAnyT C.P ops (cont C s) S tl (fuel + left D P) (doneL (listed.setIfInBounds i true) D P) a' w') a w) : TXP C ops tl s S P (fuel + 1) listed env L R Γ := by
 intro hS hP D a w hSat
 have hap := apartB_spec ha
 have hin : ∀ D, i ∈ Region.ready .any ops (doneL listed D P) := fun D => ready_mem hr fun it hit h => absurd h (hap it hit).1
 refine TXP.core (y := i) hS hP (fun _ => True) (fun D _ j hj => next_spec hn rfl hj) (fun D _ h => by have := hin D; rw [h] at this; cases this) (fun _ _ _ h => absurd trivial h) (fun D a w _ hSat _ => ⟨fuel + left D P, by omega, ?_⟩) _ D a w rfl hSat
 have := step hS hP D a w hSat
 rw [doneL_set fun it hit => (hap it hit).1] at this
 exact this
theorem TXP.callG {C : Cx} {ops : Array Oper} {tl : List Nat} {st : List It} {S : World → Prop} {P : List PI} {fuel : Nat} {listed : Array Bool} {env : Env} {L : Locs} {R : Rows} {Γ : Facts} {o : Oper} (i : Nat) {f : Operand} {args : List Operand} {ats : Array TypeId} {g : FuncId} {sf : SV} {svs : List SV} {caps : (Nat → Nat) → List Value}
  {Ψ : World → Value → World → Prop} {d : Nat} (hn : nextB ops listed P P i = true) (hr : readyAt ops listed i = true) (ha : apartB P i d = true) (hi : getO ops.toList i = some o) (hg : gd ops env o = some true) (hd : o.dst = some d) (ho : o.op = .call { callee := .value f, args := args.toArray, argTypes := ats })
  (hf : ev env f = some sf) (hsf : ∀ bs, conc bs sf = .func (.func g) #[] (caps bs).toArray) (hargs : evs env args = some svs)
  (hc : ∀ w G bs, HInv C w G bs L R → AllK C.M (hp w) Γ → Does C.P g (svs.map (conc bs) ++ caps bs).toArray w emp (Ψ w))
  (k : ∀ a w w' G bs v D, (∀ w w', Kp emp w w' → S w → S w') → POk C ops listed env P → At C.fn.ntmps env bs a → HInv C w G bs L R → AllK C.M G Γ → Fr C w G bs L R a D P → Kp emp w w' → Ψ w v w' → wpAnyT C.P ops (cont C st) S tl (fuel + left D P) (doneL (listed.setIfInBounds i true) D P) (a.put (some d) v) w') : TXP C ops tl st S P (fuel + 1) listed env L R Γ := by
 refine TXP.next (d := d) hn hr ha fun hS hP D a w ⟨G, bs, hA, hI, hΓ, hF⟩ => ?_
 rw [getO_eq] at hi
 have hi' : ops[i]? = some o := by simpa using hi
 unfold wpOp
 simp only [hi']
 rw [if_pos (gd_sound hA hg)]
 refine .inl ?_
 unfold Oper.wp
 obtain ⟨he, hcalls⟩ := hc w G bs hI (hΓ.mono hI.le)
 rw [exec_call he ho (by rw [ev_conc hA hf, hsf]) (evs_sound hA args svs hargs)]
 simp only [Oper.upon]
 refine hcalls.mono fun e w' ⟨v, hv, hb, hψ⟩ => ?_
 subst hv
 rw [hd]
 exact ⟨fun _ hs => hS _ _ hb hs, k a w w' G bs v D hS hP hA hI hΓ hF hb hψ⟩
theorem join_none {G h : GH} {b : Nat} (h1 : G b = none) (h2 : h b = none) : join G h b = none := by unfold join; rw [h1]; exact h2
theorem TXP.callV {C : Cx} {ops : Array Oper} {tl : List Nat} {st : List It} {S : World → Prop} {P : List PI} {fuel : Nat} {listed : Array Bool} {env : Env} {L : Locs} {R : Rows} {Γ : Facts} {o : Oper} (i : Nat) {f : Operand} {args : List Operand} {ats : Array TypeId} {g : FuncId} {sf : SV} {svs : List SV} {caps : (Nat → Nat) → List Value}
  {c : Value} {Q : Prop} {d : Nat} (hn : nextB ops listed P P i = true) (hr : readyAt ops listed i = true) (hi : getO ops.toList i = some o) (hg : gd ops env o = some true) (hd : o.dst = some d) (ha : apartB P i d = true) (hlt : Nat.blt d C.fn.ntmps = true) (ho : o.op = .call { callee := .value f, args := args.toArray, argTypes := ats })
  (hf : ev env f = some sf) (hsf : ∀ bs, conc bs sf = .func (.func g) #[] (caps bs).toArray) (hargs : evs env args = some svs)
  (hc : ∀ w G bs, HInv C w G bs L R → AllK C.M (hp w) Γ → Does C.P g (svs.map (conc bs) ++ caps bs).toArray w emp fun v _ => v = c ∧ Q)
  (k : Q → TXP C ops tl st S P fuel (listed.setIfInBounds i true) ((d, .v c) :: env) L R Γ) : TXP C ops tl st S P (fuel + 1) listed env L R Γ :=
 TXP.callG (Ψ := fun _ v _ => v = c ∧ Q) i hn hr ha hi hg hd ho hf hsf hargs hc fun a w w' G bs v D hS hP hA hI hΓ hF hb ⟨hv, hq⟩ => by
  subst hv
  have hI' := (hI.called (emp_le _) (fun _ _ h => by cases h) hb (emp_le _) (fun _ _ h => by cases h)).1
  exact k hq hS (hP.step ha) D _ _ ⟨_, bs, hA.put (by simpa [Nat.blt_eq] using hlt) (.v v), hI', hΓ.mono (le_join_l (cut G emp) emp), hF.keep hb (fun _ _ _ => rfl) (fun b h _ _ => join_none (cut_none' h) rfl) (fun _ h => h) fun it hit => (apartB_spec ha it hit).2⟩
theorem TXP.callF {C : Cx} {ops : Array Oper} {tl : List Nat} {st : List It} {S : World → Prop} {P : List PI} {fuel : Nat} {listed : Array Bool} {env : Env} {L : Locs} {R : Rows} {Γ : Facts} {o : Oper} (i m : Nat) {f : Operand} {args : List Operand} {ats : Array TypeId} {g : FuncId} {sf : SV} {svs : List SV} {caps : (Nat → Nat) → List Value}
    {ι : Type} {val val' : ι → Value} {gs ds : ι → List MF} {Q : Prop} {d : Nat} {Γ' : ι → Facts} (hds : ∀ i h, Sep h (gs i) → All h (ds i)) (hdk : ∀ i, ∀ f ∈ ds i, f.k = .der) (hn : nextB ops listed P P i = true) (hr : readyAt ops listed i = true) (hi : getO ops.toList i = some o) (hg : gd ops env o = some true) (hd : o.dst = some d) (ha : apartB P i d = true) (hlt : Nat.blt d C.fn.ntmps = true) (ho : o.op = .call { callee := .value f, args := args.toArray, argTypes := ats })
    (hf : ev env f = some sf) (hsf : ∀ bs, conc bs sf = .func (.func g) #[] (caps bs).toArray) (hargs : evs env args = some svs)
    (hc : ∀ w G bs, HInv C w G bs L R → AllK C.M (hp w) Γ → Does C.P g (svs.map (conc bs) ++ caps bs).toArray w emp (Post w emp val gs Q))
    (hv : ∀ i, normV (val i) = some (val' i)) (hΓ' : ∀ i, addF m (ds i ++ gs i) Γ = some (Γ' i))
    (k : ∀ j, Q → TXP C ops tl st S P fuel (listed.setIfInBounds i true) ((d, .v (val' j)) :: env) L R (Γ' j)) : TXP C ops tl st S P (fuel + 1) listed env L R Γ :=
  TXP.callG (Ψ := fun w v w' => Post w emp val gs Q v w') i hn hr ha hi hg hd ho hf hsf hargs hc fun a w w' G bs v D hS hP hA hI hΓ hF hb hv' => by
    obtain ⟨j, h, rfl, hq, hle1, hdom, hs⟩ := hv'
    rw [← normV_eq (hv j)]
    obtain ⟨hI', hdj⟩ := hI.called (emp_le _) (fun _ _ h => by cases h) hb hle1 hdom
    refine k j hq hS (hP.step ha) D _ _ ⟨_, bs, hA.put (by simpa [Nat.blt_eq] using hlt) (.v _), hI', hΓ.after hdj (fun b o hb' => .inl ((hdom b o hb').elim (Nat.le_trans hI.keep.size) (fun h => absurd rfl h))) hs (hdk j) (hds j h hs) (hΓ' j), hF.keep hb (fun _ _ _ => rfl) (fun b h1 h2 _ => join_none (cut_none' h1) ?_) (fun _ h => h) fun it hit => (apartB_spec ha it hit).2⟩
    cases hx : h b with
    | none => rfl
    | some q => rcases hdom b q hx with h3 | h3
                · omega
                · exact absurd rfl h3
theorem cur_post {C : Cx} {w w' : World} {G : GH} {bs : Nat → Nat} {L : Locs} {R : Rows} {Γ : Facts} {T : Nat} {cs : List Value} {ι : Type} {val val' : ι → Value} {cs' : ι → List Value} {gs ds : ι → List MF} {Q : Prop} {Γ' : ι → Facts} {v : Value} (n : Nat) (hI : HInv C w G bs L R) (hΓ : AllK C.M G Γ) (hl : look L 999 = some ⟨T, cs⟩) (hds : ∀ i h, Sep h (gs i) → All h (ds i)) (hdk : ∀ i, ∀ f ∈ ds i, f.k = .der)
    (hv : ∀ i, normV (val i) = some (val' i)) (hΓ' : ∀ i, addF n (ds i ++ gs i) Γ = some (Γ' i)) (hb : Kp (sgl (bs 999) (lobj ⟨T, cs⟩)) w w') (hψ : Post w (sgl (bs 999) (lobj ⟨T, cs⟩)) val (fun i => MF.bx (bs 999) T (cs' i) :: gs i) Q v w') :
    ∃ j G2, Q ∧ v = val' j ∧ HInv C w' G2 bs (setL L 999 (cs' j)) R ∧ AllK C.M G2 (Γ' j) ∧ ∀ b, G b = none → b < w.heap.size → bs 999 ≠ b → G2 b = none := by
  obtain ⟨h1, h2, h3⟩ := hI.loc 999 _ hl
  obtain ⟨j, h, rfl, hq, hle, hdom, ha, hr, a1, a2, a3, a4, a5⟩ := hψ
  have a4' : ha (bs 999) = some (lobj ⟨T, cs' j⟩) := a4
  obtain ⟨hI', hdj⟩ := (hI.drop hl).called (Hc := sgl (bs 999) (lobj ⟨T, cs⟩)) (le_join_r (sgl_dj h3).symm) (fun b q hx => by
    by_cases hbb : b = bs 999
    · subst hbb; exact h2
    · rw [sgl_ne _ hbb] at hx; cases hx) hb hle hdom
  have hG1 : Le G (cut (join G (sgl (bs 999) (lobj ⟨T, cs⟩))) (sgl (bs 999) (lobj ⟨T, cs⟩))) := le_cut (le_join_l _ _) (sgl_dj h3).symm
  have hlab : h (bs 999) = some (lobj ⟨T, cs' j⟩) := a1 _ _ a4'
  have hG2 : join (cut (join G (sgl (bs 999) (lobj ⟨T, cs⟩))) (sgl (bs 999) (lobj ⟨T, cs⟩))) h (bs 999) = some (lobj ⟨T, cs' j⟩) := le_join_r hdj.symm _ _ hlab
  have hI2 := hI'.take (i := 999) (l := ⟨T, cs' j⟩) (L' := setL L 999 (cs' j)) (fun x => by
    rw [look_setL, look_delL]
    by_cases hij : 999 = x
    · subst hij; simp [hl]
    · simp [hij]) (fun r hr' => hI.dis 999 _ r hl hr') hG2 h2
  have hdr : Dj hr G := hdj.mono a2 hG1
  have hΓ2 := hΓ.after (h := hr) (n := n) (ds := ds j) hdr (fun b q hx => by
    rcases hdom b q (a2 b q hx) with h4 | h4
    · exact .inl (Nat.le_trans hI.keep.size h4)
    · by_cases hbb : b = bs 999
      · subst hbb; exact h2
      · exact absurd (sgl_ne _ hbb) h4) a5 (hdk j) (hds j hr a5) (hΓ' j)
  refine ⟨j, _, hq, (normV_eq (hv j)).symm, hI2, hΓ2.mono (join_le ?_ ?_), fun b hgb hlt hne => ?_⟩
  · exact le_cut (hG1.trans (le_join_l _ _)) (sgl_dj h3).symm
  · refine le_cut (a2.trans (le_join_r hdj.symm)) (sgl_dj ?_).symm
    cases hx : hr (bs 999) with
    | none => rfl
    | some q => rcases a3 (bs 999) with h5 | h5
                · rw [a4'] at h5; cases h5
                · rw [hx] at h5; cases h5
  · refine cut_none' (join_none (cut_none' (join_none hgb (sgl_ne _ (Ne.symm hne)))) ?_)
    cases hx : h b with
    | none => rfl
    | some q => rcases hdom b q hx with h4 | h4
                · omega
                · exact absurd (sgl_ne _ (Ne.symm hne)) h4
theorem TXP.callP {C : Cx} {ops : Array Oper} {tl : List Nat} {st : List It} {S : World → Prop} {P : List PI} {fuel : Nat} {listed : Array Bool} {env : Env} {L : Locs} {R : Rows} {Γ : Facts} {o : Oper} (hcur : CurK C S) (i : Nat) {f : Operand} {args : List Operand} {ats : Array TypeId} {g : FuncId} {sf : SV} {svs : List SV} {caps : (Nat → Nat) → List Value} {T : Nat} {cs : List Value}
  {ι : Type} {val val' : ι → Value} {cs' : ι → List Value} {gs ds : ι → List MF} {Q : Prop} {d : Nat} {Γ' : ι → Facts} (n : Nat) (hpin : ∃ b, C.pin = some b) (hl : look L 999 = some ⟨T, cs⟩) (hds : ∀ i h, Sep h (gs i) → All h (ds i)) (hdk : ∀ i, ∀ f ∈ ds i, f.k = .der) (hn : nextB ops listed P P i = true) (hr : readyAt ops listed i = true) (hi : getO ops.toList i = some o) (hg : gd ops env o = some true) (hd : o.dst = some d) (ha : apartB P i d = true) (hlt : Nat.blt d C.fn.ntmps = true) (ho : o.op = .call { callee := .value f, args := args.toArray, argTypes := ats })
  (hf : ev env f = some sf) (hsf : ∀ bs, conc bs sf = .func (.func g) #[] (caps bs).toArray) (hargs : evs env args = some svs)
  (hc : ∀ w G bs H, HInv C w G bs L R → Le H (hp w) → Sep H [MF.bx (bs 999) T cs] → AllK C.M (cut (hp w) H) Γ → Does C.P g (svs.map (conc bs) ++ caps bs).toArray w H (Post w H val (fun i => MF.bx (bs 999) T (cs' i) :: gs i) Q))
  (hv : ∀ i, normV (val i) = some (val' i)) (hΓ' : ∀ i, addF n (ds i ++ gs i) Γ = some (Γ' i))
  (k : ∀ j, Q → TXP C ops tl st S P fuel (listed.setIfInBounds i true) ((d, .v (val' j)) :: env) (setL L 999 (cs' j)) R (Γ' j)) : TXP C ops tl st S P (fuel + 1) listed env L R Γ := by
 refine TXP.next (d := d) hn hr ha fun hS hP D a w ⟨G, bs, hA, hI, hΓ, hF⟩ => ?_
 rw [getO_eq] at hi
 have hi' : ops[i]? = some o := by simpa using hi
 unfold wpOp
 simp only [hi']
 rw [if_pos (gd_sound hA hg)]
 refine .inl ?_
 unfold Oper.wp
 obtain ⟨h1, h2, h3⟩ := hI.loc 999 _ hl
 have hGH : Le G (cut (hp w) (sgl (bs 999) (lobj ⟨T, cs⟩))) := le_cut hI.le (sgl_dj h3).symm
 obtain ⟨he, hcalls⟩ := hc w G bs (sgl (bs 999) (lobj ⟨T, cs⟩)) hI (sgl_le h1) ⟨_, emp, Le.refl _, emp_le _, (emp_dj _).symm, sgl_self _ _, trivial⟩ (hΓ.mono hGH)
 rw [exec_call he ho (by rw [ev_conc hA hf, hsf]) (evs_sound hA args svs hargs)]
 simp only [Oper.upon]
 refine hcalls.mono fun e w' ⟨v, hve, hb, hψ⟩ => ?_
 subst hve
 rw [hd]
 refine ⟨fun _ hs => ?_, ?_⟩
 ·obtain ⟨b, hpb⟩ := hpin
  have := hI.pin b hpb
  subst this
  exact hcur _ _ _ _ hpb h2 h1 hb hs
 obtain ⟨j, G2, hq, rfl, hI2, hΓ2, hGn⟩ := cur_post n hI hΓ hl hds hdk hv hΓ' hb hψ
 have hact : Acts L R 999 := .inl ⟨_, hl⟩
 refine k j hq hS (hP.step ha) D _ _ ⟨G2, bs, hA.put (by simpa [Nat.blt_eq] using hlt) (.v _), hI2, hΓ2, hF.keep hb (fun b hgb hx => sgl_ne _ (Ne.symm (hx 999 hact))) (fun b hgb hlt hx => hGn b hgb hlt (hx 999 hact)) (fun x hx => ?_) fun it hit => (apartB_spec ha it hit).2⟩
 rcases hx with ⟨y, hy⟩ | hx
 ·rw [look_setL] at hy
  by_cases h9 : 999 = x
  ·subst h9; exact hact
  ·rw [if_neg h9] at hy; exact .inl ⟨y, hy⟩
 ·exact .inr hx
def getP : List PI → Nat → Option PI
 | [], _ => none
 | it :: _, 0 => some it
 | _ :: P, k + 1 => getP P k
def rmP : List PI → Nat → List PI
 | [], _ => []
 | _ :: P, 0 => P
 | it :: P, k + 1 => it :: rmP P k
theorem rmP_mem {it x : PI} : ∀ {P : List PI} {k : Nat}, x ∈ rmP P k → x ∈ P
 | [], _, h => h
 | _ :: P, 0, h => List.mem_cons_of_mem _ h
 | y :: P, k + 1, h => (List.mem_cons.1 h).elim (fun e => e ▸ List.mem_cons_self) fun h => List.mem_cons_of_mem _ (rmP_mem (it := it) h)
theorem getP_mem {it : PI} : ∀ {P : List PI} {k : Nat}, getP P k = some it → it ∈ P
 | [], _, h => by cases h
 | _ :: P, 0, h => by cases h; exact List.mem_cons_self
 | y :: P, k + 1, h => List.mem_cons_of_mem _ (getP_mem h)
theorem rmP_pw {P : List PI} (h : P.Pairwise (fun x y => x.j ≠ y.j ∧ x.d ≠ y.d)) : ∀ {k : Nat} {it : PI}, getP P k = some it → (rmP P k).Pairwise (fun x y => x.j ≠ y.j ∧ x.d ≠ y.d) ∧ ∀ x ∈ rmP P k, x.j ≠ it.j ∧ x.d ≠ it.d := by
 induction P with
 | nil => exact fun h => by cases h
 | cons y P ih =>
  intro k it hk
  rw [List.pairwise_cons] at h
  cases k with
  | zero => cases hk; exact ⟨h.2, fun x hx => ⟨Ne.symm (h.1 x hx).1, Ne.symm (h.1 x hx).2⟩⟩
  | succ k =>
   obtain ⟨i1, i2⟩ := ih h.2 hk
   refine ⟨List.pairwise_cons.2 ⟨fun x hx => h.1 x (rmP_mem (it := it) hx), i1⟩, fun x hx => ?_⟩
   rcases List.mem_cons.1 hx with rfl | hx
   ·exact h.1 it (getP_mem hk)
   ·exact i2 x hx
theorem rmP_doneL {listed : Array Bool} {D : Nat → Option Nat} {it : PI} : ∀ {P : List PI} {k : Nat}, P.Pairwise (fun x y => x.j ≠ y.j ∧ x.d ≠ y.d) → getP P k = some it → (D it.j = none → doneL listed D P = doneL listed D (rmP P k)) ∧ (∀ b, D it.j = some b → doneL listed D P = doneL (listed.setIfInBounds it.j true) D (rmP P k) ∧ left D P = left D (rmP P k))
 | [], _, _, h => by cases h
 | y :: P, 0, hd, h => by
  cases h
  rw [List.pairwise_cons] at hd
  refine ⟨fun h => ?_, fun b h => ?_⟩
  ·show doneL listed D (_ :: P) = doneL listed D P
   conv => lhs; unfold doneL
   rw [h]
  ·show doneL listed D (_ :: P) = doneL _ D P ∧ left D (_ :: P) = left D P
   rw [doneL_set fun x hx => Ne.symm (hd.1 x hx).1]
   constructor
   ·conv => lhs; unfold doneL
    rw [h]
   ·conv => lhs; unfold left
    rw [h]
 | y :: P, k + 1, hd, h => by
  rw [List.pairwise_cons] at hd
  obtain ⟨i1, i2⟩ := rmP_doneL (listed := listed) (D := D) hd.2 (show getP P k = some it from h)
  refine ⟨fun h => ?_, fun b h => ?_⟩
  ·show doneL listed D (y :: P) = doneL listed D (y :: rmP P k)
   unfold doneL; rw [i1 h]
  ·obtain ⟨j1, j2⟩ := i2 b h
   show doneL listed D (y :: P) = doneL _ D (y :: rmP P k) ∧ left D (y :: P) = left D (y :: rmP P k)
   unfold doneL left; rw [j1, j2]; exact ⟨rfl, rfl⟩
def Stop (C : Cx) (ops : Array Oper) (tl : List Nat) (s : List It) (S : World → Prop) (P : List PI) (fuel : Nat) (listed : Array Bool) (env : Env) (L : Locs) (R : Rows) (Γ : Facts) (it : PI) (k : Nat) : Prop :=
 (∀ w w', Kp emp w w' → S w → S w') → POk C ops listed env P → ∀ D a w b, D it.j = some b → SatD C env L R Γ a w D P → wpAnyT C.P ops (cont C s) S tl (fuel + left D (rmP P k)) (doneL (listed.setIfInBounds it.j true) D (rmP P k)) a w
theorem TXP.settle {C : Cx} {ops : Array Oper} {tl : List Nat} {s : List It} {S : World → Prop} {P : List PI} {fuel : Nat} {listed : Array Bool} {env : Env} {L : Locs} {R : Rows} {Γ : Facts} {it : PI} (k : Nat) (hk : getP P k = some it) (hn : nextB ops listed P (rmP P k) ops.size = true)
  (stop : Stop C ops tl s S P fuel listed env L R Γ it k) : TXP C ops tl s S P fuel listed env L R Γ := by
 intro hS hP D a w hSat
 have hit := getP_mem hk
 refine TXP.core (y := ops.size) hS hP (fun D => D it.j = none) (fun D hD i hi => next_spec hn ((rmP_doneL hP.dis hk).1 hD) hi) (fun D hD h => by
  have := ready_mem (D := D) (P := P) (hP.rdy it hit) fun x hx he => by rw [he]; exact hD
  rw [h] at this; cases this) (fun D a w hD hSat => ?_) (fun D a w _ _ hy => by
  obtain ⟨_, o, ho, _⟩ := mem_ready.1 hy
  have := (Array.getElem?_eq_some_iff.1 ho).1
  omega) _ D a w rfl hSat
 cases hb : D it.j with
 | none => exact absurd hb hD
 | some b =>
  obtain ⟨e1, e2⟩ := (rmP_doneL (listed := listed) (D := D) hP.dis hk).2 b hb
  rw [e1, e2]
  exact stop hS hP D a w b hb hSat
theorem rmP_left {D : Nat → Option Nat} {it : PI} (hD : D it.j = none) : ∀ {P : List PI} {k : Nat}, getP P k = some it → left D P = left D (rmP P k) + 1
 | [], _, h => by cases h
 | y :: P, 0, h => by
  cases h
  show left D (_ :: P) = left D P + 1
  conv => lhs; unfold left
  rw [hD]
 | y :: P, k + 1, h => by
  have ih := rmP_left hD (show getP P k = some it from h)
  show left D (y :: P) = left D (y :: rmP P k) + 1
  unfold left
  cases D y.j <;> dsimp only <;> omega
theorem TXP.split {C : Cx} {ops : Array Oper} {tl : List Nat} {s : List It} {S : World → Prop} {P : List PI} {fuel : Nat} {listed : Array Bool} {env : Env} {L : Locs} {R : Rows} {Γ : Facts} {it : PI} (k : Nat) (hk : getP P k = some it) (no : TXP C ops tl s S (rmP P k) (fuel + 1) listed env L R Γ)
  (stop : Stop C ops tl s S P fuel listed env L R Γ it k) : TXP C ops tl s S P fuel listed env L R Γ := by
 intro hS hP D a w hSat
 cases hb : D it.j with
 | none =>
  obtain ⟨G, bs, hA, hI, hΓ, hF⟩ := hSat
  have := no hS ⟨fun x hx => hP.ok x (rmP_mem (it := it) hx), fun x hx => hP.free x (rmP_mem (it := it) hx), fun x hx => hP.sub x (rmP_mem (it := it) hx), fun x hx => hP.rdy x (rmP_mem (it := it) hx), (rmP_pw hP.dis hk).1⟩ D a w ⟨G, bs, hA, hI, hΓ, fun x hx b hb => by
   obtain ⟨q1, q2, q3, q4, q5, q6⟩ := hF x (rmP_mem (it := it) hx) b hb
   exact ⟨q1, q2, q3, q4, q5, fun y hy => q6 y (rmP_mem (it := it) hy)⟩⟩
  rw [rmP_left hb hk, (rmP_doneL hP.dis hk).1 hb, show fuel + (left D (rmP P k) + 1) = fuel + 1 + left D (rmP P k) by omega]
  exact this
 | some b =>
  obtain ⟨e1, e2⟩ := (rmP_doneL (listed := listed) (D := D) hP.dis hk).2 b hb
  rw [e1, e2]
  exact stop hS hP D a w b hb hSat
theorem POk.rm {C : Cx} {ops : Array Oper} {listed : Array Bool} {env : Env} {P : List PI} {k : Nat} {it : PI} {sv : SV} (hP : POk C ops listed env P) (hk : getP P k = some it) (hz : ((rmP P k).all fun x => envNo it.d x.env) = true) : POk C ops (listed.setIfInBounds it.j true) ((it.d, sv) :: env) (rmP P k) := by
 obtain ⟨p1, p2⟩ := rmP_pw hP.dis hk
 exact ⟨fun x hx => hP.ok x (rmP_mem (it := it) hx), fun x hx => by rw [look_cons, if_neg (Ne.symm (p2 x hx).2)]; exact hP.free x (rmP_mem (it := it) hx), fun x hx => envNo_sub (List.all_eq_true.1 hz x hx) (hP.sub x (rmP_mem (it := it) hx)), fun x hx => readyAt_set (hP.rdy x (rmP_mem (it := it) hx)) (p2 x hx).1, p1⟩
def PI.loc (j d : Nat) (l : Loc) : PI := ⟨j, d, lobj l, fun b => .pointer (some ⟨b, 0, none⟩), []⟩
def PI.lit (j d c T : Nat) (cs : List Value) (env : Env) : PI := ⟨j, d, .cells cs.toArray T (0, 0), fun b => .slice (some ⟨b, 0, none⟩) c c, env⟩
theorem loc_ok {C : Cx} {ops : Array Oper} {o : Oper} {j d : Nat} {l : Loc} (ht : TabOk C.P C.tt) (hi : getO ops.toList j = some o) (hg : gd ops [] o = some true) (hd : o.dst = some d) (hlt : Nat.blt d C.fn.ntmps = true) (hl : ladd C.tt [] o.op = some l) : PIok C ops (PI.loc j d l) := by
 rw [getO_eq] at hi
 exact ⟨o, show ops[j]? = some o by simpa using hi, hg, hd, show d < C.fn.ntmps by simpa [Nat.blt_eq] using hlt, fun a w bs hA => ladd_sound (bs := bs) (env := []) ht hA hl⟩
theorem stopL {C : Cx} {ops : Array Oper} {tl : List Nat} {s : List It} {S : World → Prop} {P : List PI} {fuel j d : Nat} {l : Loc} {listed : Array Bool} {env : Env} {L : Locs} {R : Rows} {Γ : Facts} (k : Nat) (hk : getP P k = some (PI.loc j d l)) (hl : labHas d env L R = false) (hz : ((rmP P k).all fun x => envNo d x.env) = true)
  (kk : TXP C ops tl s S (rmP P k) fuel (listed.setIfInBounds j true) ((d, .p d 0) :: env) ((d, l) :: L) R Γ) : Stop C ops tl s S P fuel listed env L R Γ (PI.loc j d l) k := by
 refine fun hS hP D a w b hb ⟨G, bs, hA, hI, hΓ, hF⟩ => ?_
 have hit := getP_mem hk
 obtain ⟨q1, q2, q3, q4, q5, q6⟩ := hF _ hit b hb
 obtain ⟨n1, n2, n3, n4⟩ := labHas_not hl
 have hnL : ∀ {i : Nat} {x : Loc}, look L i = some x → i ≠ d := fun h => keyHas_not n2 h
 have hnR : ∀ {i : Nat} {x : Row}, look R i = some x → i ≠ d := fun h => keyHas_not n3 h
 have act : ∀ {i : Nat}, i ≠ d → Acts ((d, l) :: L) R i → Acts L R i := fun {i} hne h => by
  rcases h with ⟨x, hx⟩ | h
  ·rw [look_cons, if_neg (Ne.symm hne)] at hx; exact .inl ⟨x, hx⟩
  ·exact .inr h
 refine kk hS (hP.rm hk hz) D a w ⟨G, fun i => if i = d then b else bs i, ?_, ⟨hI.keep, hI.le, fun i x hx => ?_, fun i r hr => ?_, fun i j hij hi hj => ?_, fun i x r hx hr => ?_, fun b' hb' => by simp only [if_neg (Ne.symm n4)]; exact hI.pin b' hb', hI.nr⟩, hΓ, fun x hx b' hb' => ?_⟩
 ·have hA' := hA.notH (d := d) (bs' := fun j => if j = d then b else bs j) n1 (fun i hi => if_neg hi)
  refine ⟨hA'.size, hA'.dfr, fun e x hx => ?_⟩
  rw [look_cons] at hx
  split at hx
  ·rename_i he; subst he
   cases hx
   simp only [conc, if_true]
   exact q1
  ·exact hA'.slot e x hx
 ·rw [look_cons] at hx
  split at hx
  ·rename_i he; subst he
   cases hx
   simp only [if_true]
   exact ⟨q2, .inl q3, q4⟩
  ·rename_i he
   simp only [if_neg (Ne.symm he)]
   exact hI.loc i x hx
 ·simp only [if_neg (hnR hr)]
  exact hI.row i r hr
 ·by_cases hid : i = d
  ·subst hid
   simp only [if_true, if_neg (Ne.symm hij)]
   exact Ne.symm (q5 j (act (Ne.symm hij) hj))
  ·by_cases hjd : j = d
   ·subst hjd
    simp only [if_true, if_neg hid]
    exact q5 i (act hid hi)
   ·simp only [if_neg hid, if_neg hjd]
    exact hI.inj i j hij (act hid hi) (act hjd hj)
 ·rw [look_cons, if_neg (Ne.symm (hnR hr))] at hx
  exact hI.dis i x r hx hr
 ·obtain ⟨r1, r2, r3, r4, r5, r6⟩ := hF x (rmP_mem (it := x) hx) b' hb'
  have hne := (rmP_pw hP.dis hk).2 x hx
  refine ⟨r1, r2, r3, r4, fun i hi => ?_, fun y hy => r6 y (rmP_mem (it := y) hy)⟩
  by_cases hid : i = d
  ·subst hid
   simp only [if_true]
   exact fun e => q6 x (rmP_mem (it := x) hx) b' hb' hne.1 e.symm
  ·simp only [if_neg hid]
   exact r5 i (act hid hi)
theorem TXP.settleL {C : Cx} {ops : Array Oper} {tl : List Nat} {s : List It} {S : World → Prop} {P : List PI} {fuel j d : Nat} {l : Loc} {listed : Array Bool} {env : Env} {L : Locs} {R : Rows} {Γ : Facts} (k : Nat) (hk : getP P k = some (PI.loc j d l)) (hl : labHas d env L R = false) (hn : nextB ops listed P (rmP P k) ops.size = true) (hz : ((rmP P k).all fun x => envNo d x.env) = true)
  (kk : TXP C ops tl s S (rmP P k) fuel (listed.setIfInBounds j true) ((d, .p d 0) :: env) ((d, l) :: L) R Γ) : TXP C ops tl s S P fuel listed env L R Γ :=
 TXP.settle k hk hn (stopL k hk hl hz kk)
def elT (tt : TT) (T : Nat) : Option Nat := match elO tt T with | some (e, _) => some e | none => none
theorem run_bld2 {P : Program} {tt : TT} (ht : TabOk P tt) {n : Nat} {env : Env} {bs : Nat → Nat} {a : Act} (hA : At n env bs a) {T len kk e : Nat} {parts : Array (Nat × Operand)} {cs : List Value} (h : bldO tt env T len parts.toList = some (kk, cs)) (he : elT tt T = some e) (w : World) :
  (Instr.buildSlice T len (parts.map fun x => (x.1, a.eval x.2))).run P w = .ok (.slice (some ⟨w.heap.size, 0, none⟩) len len) (w.alloc (.cells cs.toArray e)) := by
 unfold bldO at h
 unfold elT at he
 split at h
 ·rename_i e' kk' by_ z hel
  rw [hel] at he
  cases he
  split at h
  ·rename_i hle
   split at h
   ·rename_i q hq
    split at h
    ·rename_i cs' hcs
     simp only [Option.some.injEq, Prod.mk.injEq] at h
     obtain ⟨rfl, rfl⟩ := h
     obtain ⟨hu, i, v, te, hE, hte, hi, h0, hs, _, hv, hzl, hpos⟩ := elO_some ht hel
     have hq' := zrepO_eq hq
     have hle' : len * kk' ≤ 16777216 := Nat.le_of_ble_eq_true hle
     have hfill := fillO_sound ht hA (place := fun i => some (i * kk', e)) (place' := fun i => some (i * kk', kk')) (fun j off T' ti' h1 h2 => by
      simp only [Option.some.injEq, Prod.mk.injEq] at h1
      obtain ⟨rfl, rfl⟩ := h1
      rw [hE] at h2; simp at h2; subst h2; rw [hte]) _ _ _ hcs
     have hvs : v.cells.size = kk' := by rw [← hzl, ← hv]; simp
     by_cases hl0 : len = 0
     ·subst hl0
      have : q = [] := by rw [hq']; rfl
      subst this
      have hf' : Instr.fill (fun i => some (i * kk', kk')) #[] (List.map (fun x => (x.1, a.eval x.2)) parts.toList) = some cs'.toArray := hfill
      simp [Instr.buildSlice, run_underlying hu, sizeOf, typeInfo, zeroValue, hi, newRow, hs, Array.range_zero', hf']
     ·have hne : ¬ (len * kk' = 0) := by
       intro h; rcases Nat.mul_eq_zero.1 h with h | h <;> omega
      have hr := zrep_range v.cells (by omega) len
      rw [hvs, hv, ← hq'] at hr
      have hq2 : (Array.range (len * kk')).map (fun i => v.cells[i % v.cells.size]!) = q.toArray := Array.ext' (by simpa [hvs] using hr)
      have hsm : ¬ (16777216 < len * kk') := by omega
      have hf' : Instr.fill (fun i => some (i * kk', kk')) ((Array.range (len * kk')).map (fun i => v.cells[i % v.cells.size]!)) (List.map (fun x => (x.1, a.eval x.2)) parts.toList) = some cs'.toArray := by rw [hq2]; exact hfill
      simp only [Instr.buildSlice, Sem.run_bind, run_underlying hu, Result.andThen_ok, run_sizeOf hi, hs, newRow]
      simp [hsm, hne, zeroValue, typeInfo, hi, h0, hf']
    ·cases h
   ·cases h
  ·cases h
 ·cases h
theorem lit_ok {C : Cx} {ops : Array Oper} {o : Oper} {j d T0 c kk T : Nat} {parts : Array (Nat × Operand)} {cs : List Value} {env : Env} (ht : TabOk C.P C.tt) (hi : getO ops.toList j = some o) (hg : gd ops [] o = some true) (hd : o.dst = some d) (hlt : Nat.blt d C.fn.ntmps = true) (ho : o.op = .buildSlice T0 c parts) (hb : bldO C.tt env T0 c parts.toList = some (kk, cs)) (he : elT C.tt T0 = some T) : PIok C ops (PI.lit j d c T cs env) := by
 rw [getO_eq] at hi
 refine ⟨o, show ops[j]? = some o by simpa using hi, hg, hd, show d < C.fn.ntmps by simpa [Nat.blt_eq] using hlt, fun a w bs hA => ?_⟩
 have hrun := run_bld2 (bs := bs) ht hA hb he w
 unfold execOp
 simp only [ho, Sem.run_bind, hrun, Result.andThen_ok, Sem.run_pure]
 rfl
theorem stopS {C : Cx} {ops : Array Oper} {tl : List Nat} {s : List It} {S : World → Prop} {P : List PI} {fuel j d c T : Nat} {cs : List Value} {e0 : Env} {listed : Array Bool} {env : Env} {L : Locs} {R : Rows} {Γ : Facts} {α : Type} [GoT α] {l : List α} (k m : Nat) (hk : getP P k = some (PI.lit j d c T cs e0)) (hlen : l.length = c) (hmax : Nat.ble c 1048576 = true) (hw : OwL emp cs l) (hz : ((rmP P k).all fun x => envNo d x.env) = true)
  (kk : ∀ p, TXP C ops tl s S (rmP P k) fuel (listed.setIfInBounds j true) ((d, .v (.slice p c c)) :: env) L R ((m, MF.rs .stb p c l) :: Γ)) : Stop C ops tl s S P fuel listed env L R Γ (PI.lit j d c T cs e0) k := by
 refine fun hS hP D a w b hb ⟨G, bs, hA, hI, hΓ, hF⟩ => ?_
 have hit := getP_mem hk
 obtain ⟨q1, q2, q3, q4, q5, q6⟩ := hF _ hit b hb
 have q2' : w.heap[b]? = some (.cells cs.toArray T (0, 0)) := q2
 refine kk (some ⟨b, 0, none⟩) hS (hP.rm hk hz) D a w ⟨join G (sgl b (.cells cs.toArray T (0, 0))), bs, ⟨hA.size, hA.dfr, fun e x hx => ?_⟩, hI.more q2' q5, ?_, fun x hx b' hb' => ?_⟩
 ·rw [look_cons] at hx
  split at hx
  ·rename_i he
   cases he
   cases hx
   exact q1
  ·exact hA.slot e x hx
 ·refine hΓ.new m _ (h := sgl b (.cells cs.toArray T (0, 0))) (le_join_l _ _) (le_join_r (sgl_dj q4).symm) (fun _ => sgl_dj q4) (fun h => by cases h) ?_
  have hc := Nat.le_of_ble_eq_true hmax
  have hx := cellsAt_row (G := sgl b (.cells cs.toArray T (0, 0))) (o := 0) (sgl_self b _) cs.length
  simp only [List.drop_zero, List.take_length] at hx
  exact (⟨by omega, by omega, cs, hx, hw.rd.mono (emp_le _)⟩ : RdSl _ (some ⟨b, 0, none⟩) c l)
 ·obtain ⟨r1, r2, r3, r4, r5, r6⟩ := hF x (rmP_mem (it := x) hx) b' hb'
  have hne := (rmP_pw hP.dis hk).2 x hx
  exact ⟨r1, r2, r3, join_none r4 (sgl_ne _ (q6 x (rmP_mem (it := x) hx) b' hb' hne.1)), r5, fun y hy => r6 y (rmP_mem (it := y) hy)⟩
theorem TXP.settleS {C : Cx} {ops : Array Oper} {tl : List Nat} {s : List It} {S : World → Prop} {P : List PI} {fuel j d c T : Nat} {cs : List Value} {e0 : Env} {listed : Array Bool} {env : Env} {L : Locs} {R : Rows} {Γ : Facts} {α : Type} [GoT α] {l : List α} (k m : Nat) (hk : getP P k = some (PI.lit j d c T cs e0)) (hlen : l.length = c) (hmax : Nat.ble c 1048576 = true) (hw : OwL emp cs l) (hn : nextB ops listed P (rmP P k) ops.size = true) (hz : ((rmP P k).all fun x => envNo d x.env) = true)
  (kk : ∀ p, TXP C ops tl s S (rmP P k) fuel (listed.setIfInBounds j true) ((d, .v (.slice p c c)) :: env) L R ((m, MF.rs .stb p c l) :: Γ)) : TXP C ops tl s S P fuel listed env L R Γ :=
 TXP.settle k hk hn (stopS k m hk hlen hmax hw hz kk)
theorem TXP.splitS {C : Cx} {ops : Array Oper} {tl : List Nat} {s : List It} {S : World → Prop} {P : List PI} {fuel j d c T : Nat} {cs : List Value} {e0 : Env} {listed : Array Bool} {env : Env} {L : Locs} {R : Rows} {Γ : Facts} {α : Type} [GoT α] {l : List α} (k m : Nat) (hk : getP P k = some (PI.lit j d c T cs e0)) (hlen : l.length = c) (hmax : Nat.ble c 1048576 = true) (hw : OwL emp cs l) (hz : ((rmP P k).all fun x => envNo d x.env) = true)
  (no : TXP C ops tl s S (rmP P k) (fuel + 1) listed env L R Γ) (kk : ∀ p, TXP C ops tl s S (rmP P k) fuel (listed.setIfInBounds j true) ((d, .v (.slice p c c)) :: env) L R ((m, MF.rs .stb p c l) :: Γ)) : TXP C ops tl s S P fuel listed env L R Γ :=
 TXP.split k hk no (stopS k m hk hlen hmax hw hz kk)
theorem TXP.der {C : Cx} {ops : Array Oper} {tl : List Nat} {s : List It} {S : World → Prop} {P : List PI} {fuel : Nat} {listed : Array Bool} {env : Env} {L : Locs} {R : Rows} {Γ : Facts} (m : Nat) (f : MF) (hk : f.k = .der) (h : ∀ G, AllK C.M G Γ → f.p G)
  (k : TXP C ops tl s S P fuel listed env L R ((m, f) :: Γ)) : TXP C ops tl s S P fuel listed env L R Γ := fun hS hP D a w ⟨G, bs, hA, hI, hΓ, hF⟩ => k hS hP D a w ⟨G, bs, hA, hI, hΓ.der m f hk (h G hΓ), hF⟩
theorem TX.slot {C : Cx} {ops : Array Oper} {tl : List Nat} {s : List It} {S : World → Prop} {fuel : Nat} {listed : Array Bool} {env : Env} {L : Locs} {R : Rows} {Γ : Facts} (d : Nat) {x y : SV} (h : look env d = some x) (e : ∀ bs, conc bs x = conc bs y) (k : TX C ops tl s S fuel listed ((d, y) :: env) L R Γ) : TX C ops tl s S fuel listed env L R Γ := by
 intro hS a w ⟨G, bs, hA, hI, hΓ⟩
 refine k hS a w ⟨G, bs, ⟨hA.size, hA.dfr, fun i x' hx => ?_⟩, hI, hΓ⟩
 rw [look_cons] at hx
 split at hx
 ·rename_i hi; subst hi; simp at hx; subst hx; rw [← e bs]; exact hA.slot d x h
 ·exact hA.slot i x' hx
theorem TS.slot {C : Cx} {ops : Array Oper} {tl : List Nat} {s : List It} {S : World → Prop} {fuel : Nat} {listed : Array Bool} {env : Env} {L : Locs} {R : Rows} {Γ : Facts} {i : Nat} (d : Nat) {x y : SV} (h : look env d = some x) (e : ∀ bs, conc bs x = conc bs y) (k : TS C ops tl s S fuel listed ((d, y) :: env) L R Γ i) : TS C ops tl s S fuel listed env L R Γ i := by
 intro hS a w ⟨G, bs, hA, hI, hΓ⟩
 refine k hS a w ⟨G, bs, ⟨hA.size, hA.dfr, fun i x' hx => ?_⟩, hI, hΓ⟩
 rw [look_cons] at hx
 split at hx
 ·rename_i hi; subst hi; simp at hx; subst hx; rw [← e bs]; exact hA.slot d x h
 ·exact hA.slot i x' hx
theorem TS.idx {C : Cx} {ops : Array Oper} {tl : List Nat} {s : List It} {S : World → Prop} {fuel : Nat} {listed : Array Bool} {env : Env} {L : Locs} {R : Rows} {Γ : Facts} {o : Oper} {α : Type} [GoT α] {d : Nat} {x y : Operand} {T kk q c : Nat} {m : Int} {kd : Kd} {p : Option Addr} {l : List α} (i ℓ j : Nat) (ht : TabOk C.P C.tt)
  (hi : getO ops.toList i = some o) (hg : gd ops env o = some true) (hd : o.dst = some d) (hlt : Nat.blt d C.fn.ntmps = true) (ho : o.op = .indexAddr T x y)
  (hx : ev env x = some (.v (.slice p q c))) (hy : ev env y = some (.v (.int .i64 m))) (hk : elemO C.tt T = some kk) (hℓ : look Γ ℓ = some (MF.rs kd p c l)) (hq : q = l.length) (hm : m = (j : Int)) (hj : j < l.length)
  (k : ∀ ad, p = some ad → TX C ops tl s S fuel (listed.setIfInBounds i true) ((d, .e (some ad) j kk 0) :: env) L R Γ) : TS C ops tl s S fuel listed env L R Γ i :=
 TS.peek i hi hg hd hlt fun G hΓ => by
  obtain ⟨x', ad, rfl, _⟩ := RdSl.get (i := j) (hΓ.get ℓ hℓ : RdSl G p c l) (List.getElem?_eq_getElem hj)
  exact ⟨_, Γ, looks_idx ht ho hx hy hk hm (by omega), fun h => h, k ad rfl⟩
theorem TS.ldE {C : Cx} {ops : Array Oper} {tl : List Nat} {s : List It} {S : World → Prop} {fuel : Nat} {listed : Array Bool} {env : Env} {L : Locs} {R : Rows} {Γ : Facts} {o : Oper} {α : Type} [GoT α] {d : Nat} {x : Operand} {T c j off : Nat} {ti : TI} {ad : Addr} {kd : Kd} {l : List α} (i ℓ m : Nat) (a : α) {val : X α → Value} {Γ' : X α → Facts} (ht : TabOk C.P C.tt)
  (hi : getO ops.toList i = some o) (hg : gd ops env o = some true) (hd : o.dst = some d) (hlt : Nat.blt d C.fn.ntmps = true) (ho : o.op = .load T x)
  (hx : ev env x = some (.e (some ad) j (GoT.k α) off)) (hT : look C.tt T = some ti) (hℓ : look Γ ℓ = some (MF.rs kd (some ad) c l)) (ha : l[j]? = some a)
  (hv : ∀ x, asm ti (sh a x) off = some (val x)) (hf : ∀ x, addF m (fa .der a x) Γ = some (Γ' x))
  (k : ∀ x, TX C ops tl s S fuel (listed.setIfInBounds i true) ((d, .v (val x)) :: env) L R (Γ' x)) : TS C ops tl s S fuel listed env L R Γ i :=
 TS.peek i hi hg hd hlt fun G hΓ => by
  obtain ⟨x', ad', had, hfa, hc⟩ := RdSl.get (i := j) (hΓ.get ℓ hℓ : RdSl G (some ad) c l) ha
  simp at had; subst had
  exact ⟨_, Γ' x', looks_ldE ht ho hx hT hc (hv x'), fun h => AllK.ders (hf x') (fun f hf => GoT.fak f hf) hfa h, k x'⟩
end Go.Stp

namespace Go.Stp
set_option linter.unusedVariables false
set_option linter.unusedSimpArgs false
open GoT (X k ok sh fa oa)
def resX (tt : TT) (env : Env) (L : Locs) : List ResultVar → Option (List SV)
 | [] => some []
 | .tmp t :: r => (match look env t with
  | some sv => (match resX tt env L r with | some q => some (sv :: q) | none => none)
  | none => none)
 | .cell t T :: r => (match look env t with
  | some (.p i off) => (match look tt T with
   | some ti => (match look L i with
    | some l => (match asm ti l.cs off with
     | some v => (match resX tt env L r with | some q => some (.v v :: q) | none => none)
     | none => none)
    | none => none)
   | none => none)
  | _ => none)
theorem resX_sound {C : Cx} (ht : TabOk C.P C.tt) {env : Env} {L : Locs} {R : Rows} {G : GH} {bs : Nat → Nat} {a : Act} {w : World} (hA : At C.fn.ntmps env bs a) (hI : HInv C w G bs L R) :
  ∀ (rs : List ResultVar) (ss : List SV), resX C.tt env L rs = some ss →
   (rs.mapM (m := Sem) fun | .tmp t => pure (a.tmps.getD t undef) | .cell x t => do loadVar t (← asAddr (a.tmps.getD x undef))).run C.P w = .ok (ss.map (conc bs)) w
 | [], ss, h => by simp [resX] at h; subst h; simp
 | .tmp t :: r, ss, h => by
  simp only [resX] at h
  split at h
  ·rename_i sv hsv
   split at h
   ·rename_i q hq
    simp only [Option.some.injEq] at h; subst h
    have ih := resX_sound ht hA hI r q hq
    have hs := hA.slot t _ hsv
    simp only [List.mapM_cons, Sem.run_bind, Sem.run_pure, Result.andThen_ok, ih, hs, List.map_cons]
   ·cases h
  ·cases h
 | .cell t T :: r, ss, h => by
  simp only [resX] at h
  split at h
  ·rename_i i off hv
   split at h
   ·rename_i ti hT
    split at h
    ·rename_i l hl
     split at h
     ·rename_i v hasm
      split at h
      ·rename_i q hq
       simp only [Option.some.injEq] at h; subst h
       have ih := resX_sound ht hA hI r q hq
       have hs := hA.slot t _ hv
       simp only [conc] at hs
       obtain ⟨hb, _⟩ := hI.loc i l hl
       have hrun := run_loadVar (P := C.P) ht hT (w := w) (a := ⟨bs i, 0, none⟩) (cs := l.cs) (off := off) (v := v) (fun j u hj => by
        rw [Addr.add_lit, cell_of_row w _ _ _ _ _ hb]; simpa using hj) hasm
       rw [Addr.add_lit, Nat.zero_add] at hrun
       simp only [List.mapM_cons, Sem.run_bind, Sem.run_pure, Result.andThen_ok, ih, hs, run_asAddr, hrun, List.map_cons, conc]
      ·cases h
     ·cases h
    ·cases h
   ·cases h
  ·cases h
theorem WX.retX {C : Cx} {s : List It} {env : Env} {L : Locs} {R : Rows} {Γ : Facts} {ss : List SV} (ht : TabOk C.P C.tt) (hv : resX C.tt env L C.fn.results.toList = some ss)
  (k : ∀ w G bs, HInv C w G bs L R → AllK C.M G Γ → C.Φ (tup (ss.map (conc bs))) w) : WX C (.code .ret :: s) env L R Γ := by
 rintro a w ⟨G, bs, hA, hI, hΓ⟩
 show Code.ret.wp C.P (cont C s) a w
 refine wp_ret ?_
 have key : ∀ s : List It, bodyPost C.P C.fn (Ret C.w0 C.H C.Φ) .ret a w → cont C s .ret a w := by
  intro s h
  induction s with
  | nil => exact h
  | cons x s ih => cases x <;> exact ih
 exact key s ⟨hA.dfr, tup (ss.map (conc bs)), results_run (resX_sound ht hA hI _ _ hv), tup (ss.map (conc bs)), rfl, hI.keep, k w G bs hI hΓ⟩
theorem WX.runN {C : Cx} {s s' : List It} {env env' : Env} {L L' : Locs} {R : Rows} {Γ : Facts} (n : Nat) (ht : TabOk C.P C.tt)
  (h : exec C.tt C.fn.ntmps R n s env L = (s', env', L')) (k : WX C s' env' L' R Γ) : WX C s env L R Γ := exec_sound ht n s env L s' env' L' h k
theorem bx_rd {α : Type} [GoT α] {h : GH} {b T : Nat} {cs : List Value} {a : α} {x : X α} (hs : Sep h (MF.bx b T cs :: oa a x)) : All h (fa .der a x) := by
 obtain ⟨h1, h2, _, a2, _, _, a5⟩ := hs
 exact (GoT.ow_rd a5).mono a2
end Go.Stp

namespace Go.Stp
theorem mid {α : Type} (p : List α) (e : α) (l : List α) : (p ++ e :: l)[p.length]? = some e := by simp
theorem mid_app {α : Type} (p : List α) (e : α) (l : List α) : (p ++ [e]) ++ l = p ++ e :: l := by simp
theorem mid_len {α : Type} (p : List α) (e : α) : (p ++ [e]).length = p.length + 1 := by simp
def SzR (r left : Int) (s : Nat) : Prop := r = -1 ∨ ((s : Int) ≤ left ∧ r = left - s)
theorem SzR.pos {r left : Int} {s : Nat} (h : SzR r left s) (hr : 0 ≤ r) : (s : Int) ≤ left ∧ r = left - s := by
 rcases h with h | h
 ·omega
 ·exact h
theorem bne_self_F {α : Type} [BEq α] [LawfulBEq α] (a : α) : (a != a) = false := by simp
theorem bytesLess_self : ∀ l : List UInt8, Op.bytesLess l l = false
 | [] => rfl
 | a :: l => by simp [Op.bytesLess, bytesLess_self l]
theorem l4_zero (a b : List UInt8) : ((bif Op.bytesLess a b then (-1) else bif (!(Op.bytesLess a b || a == b)) then 1 else 0 : Int) = 0) ↔ a = b := by
 cases h : Op.bytesLess a b
 ·by_cases e : a = b
  ·simp [e]
  ·have : (a == b) = false := by simpa using e
   simp [this, e]
 ·constructor
  ·intro x; simp at x
  ·intro e; rw [e, bytesLess_self] at h; cases h
end Go.Stp

namespace Go.Stp
open Go.RowKit (Below)
open GoT (X k ok sh fa oa)
def Opens (P : Program) (T : TypeId) (α : Type) [GoT α] : Prop :=
 P.cellsOf T = k α ∧ ∀ {H : Type} {enc : TypeId × Value → H} {w : World} {spare : Nat → Bool} {held : Bool} {fuel : Nat} {cs : List Value} {x : DataW H × List MemPlace}, DataW.trod enc P w 0 spare held fuel T cs = some x →
  ∃ (a : α) (y : X α), cs = sh a y ∧ ok 10 a ∧ All (hp w) (fa .der a y)
theorem opens_byte {P : Program} {T : TypeId} (h : P.underlying T = some (.int .u8)) (hc : P.cellsOf T = 1) : Opens P T UInt8 := ⟨hc, fun h' => by
 obtain ⟨n, rfl, _, hw⟩ := DataW.trod_int h h'
 have hn : 0 ≤ n ∧ n ≤ 255 := by simpa [Lit.wf, IntKind.min, IntKind.max, IntKind.signed, IntKind.bits] using hw
 refine ⟨UInt8.ofNat n.toNat, (), ?_, trivial, (fun _ h_ => by cases h_)⟩
 have : ((UInt8.ofNat n.toNat).toNat : Int) = n := by
  rw [UInt8.toNat_ofNat', Nat.mod_eq_of_lt (by omega)]; omega
 simp only [sh]
 rw [this]⟩
theorem cells?_each {w : World} {a : Addr} {n : Nat} {cs : List Value} (h : w.cells? 0 a n = some cs) : ∀ j u, cs[j]? = some u → w.cell? (a.add j) = some u := by
 intro j u hj
 obtain ⟨_, h1, h2⟩ := World.cells?_some h
 rw [h2 j (by rw [← h1]; exact (List.getElem?_eq_some_iff.1 hj).1)]; exact hj
theorem opens_slice {P : Program} {T E : TypeId} {α : Type} [GoT α] (h : P.underlying T = some (.slice E)) (hc : P.cellsOf T = 1) (he : Opens P E α) : Opens P T (List α) := ⟨hc, fun {H enc w spare held fuel cs x} h' => by
 rcases DataW.trod_slice h h' with ⟨rfl, _⟩ | ⟨a, len, cap, elems, rest, n, _, rfl, _, _, hl, hm, hlen, hel, _, _⟩
 ·exact ⟨[], (none, 0), rfl, ⟨Nat.zero_le _, fun _ h_ => by cases h_⟩, fun f hf => by
   obtain rfl := List.mem_singleton.1 hf
   exact ⟨Nat.zero_le _, Nat.zero_le _, [], fun j u h => by simp at h, rfl⟩⟩
 ·have key : ∀ m, m ≤ len → ∃ (l : List α) (xs : List Value), l.length = m ∧ xs.length = m * k α ∧ RdL (hp w) xs l ∧ (∀ b ∈ l, ok 10 b) ∧ CellsAt (hp w) (some a) xs := by
   intro m
   induction m with
   | zero => exact fun _ => ⟨[], [], rfl, by simp, rfl, by simp, fun j u h => by simp at h⟩
   | succ m ih =>
    intro hmle
    obtain ⟨l, xs, h1, h2, h3, h4, h5⟩ := ih (by omega)
    have hm' := hel m (by omega)
    rw [he.1] at hm'
    obtain ⟨y, hy⟩ : ∃ y, elems[m]? = some y := ⟨_, List.getElem?_eq_getElem (by omega)⟩
    rw [hy, Option.bind_eq_some_iff] at hm'
    obtain ⟨cs', hcs, htr⟩ := hm'
    obtain ⟨b, yb, rfl, hok, hfa⟩ := he.2 htr
    refine ⟨l ++ [b], xs ++ sh b yb, by simp [h1], by rw [List.length_append, h2, GoT.len, Nat.add_mul]; omega, h3.snoc hfa, ?_, ?_⟩
    ·intro c hc
     rcases List.mem_append.1 hc with hc | hc
     ·exact h4 c hc
     ·simp at hc; subst hc; exact hok
    ·intro j u hj
     refine ⟨a, rfl, ?_⟩
     by_cases hlt : j < xs.length
     ·rw [List.getElem?_append_left hlt] at hj
      obtain ⟨a', ha', hg⟩ := h5 j u hj
      simp at ha'; subst ha'; exact hg
     ·rw [List.getElem?_append_right (by omega)] at hj
      have := cells?_each hcs _ _ hj
      rw [addr_add_add, h2, show m * k α + (j - m * k α) = j by omega] at this
      exact this
  obtain ⟨l, xs, h1, h2, h3, h4, h5⟩ := key len (Nat.le_refl _)
  have hm' : len ≤ 9223372036854775807 := by simp only [maxLen] at hm; omega
  refine ⟨l, (some a, cap), by simp [sh, h1], ⟨by show l.length ≤ 9223372036854775807; omega, h4⟩, fun f hf => ?_⟩
  obtain rfl := List.mem_singleton.1 hf
  exact ⟨by omega, by omega, xs, h5, h3⟩⟩
def Arg (P : Program) (T : TypeId) (α : Type) [GoT α] (mk : List Value → Value) : Prop :=
 ∀ {H : Type} {enc : TypeId × Value → H} {W : World} {b0 : Nat} {spare : Nat → Bool} {held : Bool} {v : Value} {d : DataW H} {ps : List MemPlace}, Value.okWide P W .any b0 T v → DataW.Trod enc P W 0 spare held T v d ps →
  ∃ (a : α) (y : X α), v = mk (sh a y) ∧ ok 10 a ∧ All (hp W) (fa .der a y)
theorem arg_slice {P : Program} {T E : TypeId} {α : Type} [GoT α] (h : P.underlying T = some (.slice E)) (ho : Opens P T (List α)) : Arg P T (List α) (fun cs => cs.headD undef) := by
 intro H enc W b0 spare held v d ps hval ⟨fuel, hf⟩
 obtain ⟨a, y, h1, h2, h3⟩ := ho.2 hf
 refine ⟨a, y, ?_, h2, h3⟩
 cases v with
 | agg cs => simp [Value.okWide, h, Cell.okWide, Cell.ok] at hval
 | _ => first | (simp [Value.cells, sh] at h1; done) | (simp [Value.cells, sh] at h1; simp [sh, h1])
theorem trodAll_stays {H : Type} {enc : TypeId × Value → H} {P : Program} (hl : laidOutB P = true) {W W' : World} {sp : Nat → Bool} : ∀ {ts : List TypeId} {vs : List Value} {ds : List (DataW H)} {ps : List MemPlace},
  ts.all (fun t => P.readableRec t && decide (t < P.types.size)) = true → DataW.TrodAll enc P W 0 (fun _ => true) true ts vs ds ps → (∀ p ∈ ps, W.sameAt W' p) → (∀ p ∈ ps, sp p.block = true) → DataW.TrodAll enc P W' 0 sp true ts vs ds ps
 | [], [], [], _, _, h, _, _ => h
 | t :: ts, v :: vs, d :: ds, ps, ha, ⟨p, q, h1, h2, e⟩, hs, hsp => by
  simp only [List.all_cons, Bool.and_eq_true, decide_eq_true_eq] at ha
  subst e
  exact ⟨p, q, WideElems.Trod_stays hl ha.1.1 ha.1.2 h1 (fun x hx => hs x (List.mem_append_left _ hx)) (fun x hx => hsp x (List.mem_append_left _ hx)),
   trodAll_stays hl ha.2 h2 (fun x hx => hs x (List.mem_append_right _ hx)) (fun x hx => hsp x (List.mem_append_right _ hx)), rfl⟩
theorem trodAll_len {H : Type} {enc : TypeId × Value → H} {P : Program} {W : World} {b : Nat} {sp : Nat → Bool} {hd : Bool} : ∀ {ts : List TypeId} {vs : List Value} {ds : List (DataW H)} {ps : List MemPlace}, DataW.TrodAll enc P W b sp hd ts vs ds ps → ds.length = ts.length
 | [], [], [], _, _ => rfl
 | _ :: _, _ :: _, _ :: _, _, ⟨_, _, _, h2, _⟩ => by simp [trodAll_len h2]
theorem law_post {H : Type} {enc : TypeId × Value → H} {P : Program} {f : Func} {s : ChangeSpec} {W W' : World} {args : Array Value} {ds gs : List (DataW H)} {before : List MemPlace} {B : TypeId}
  (hl : laidOutB P = true) (hpar : f.params.toList.all (fun t => P.readableRec t && decide (t < P.types.size)) = true) (hvars : s.vars = []) (hB : f.resultTypes = #[B]) (hu : P.underlying B = some .bool)
  (hfn : ∀ ds : List (DataW H), ds.length = f.params.size → s.fn H ds = { results := [.lit (.bool true)], args := ds })
  (hW : DataW.Whole enc P f.params.toList s.vars false W args.toList ds gs before) (hb : Below W.heap.size W W') : s.post enc P f false true false false W args (.bool true) W' := by
 have hW' := hW
 have hlt : ∀ p ∈ before, p.block < W.heap.size := fun p hp => hW.lt p hp
 obtain ⟨p, q, hA, hV, rfl, hfz, hnd⟩ := hW'
 rw [hvars] at hV
 obtain ⟨rfl, rfl⟩ := ChangeShapes.trodVars_none hV
 have hlen : ds.length = f.params.size := by simpa using trodAll_len hA
 have hdd : s.fn H (ds ++ []) = { results := [.lit (.bool true)], args := ds } := by rw [List.append_nil]; exact hfn ds hlen
 have hres : ∀ (b : Nat) (sp : Nat → Bool) (hd : Bool), DataW.TrodAll enc P W' b sp hd f.resultTypes.toList ((Value.bool true).resultList f.resultTypes.size) (s.fn H (ds ++ [])).results [] := by
  intro b sp hd
  rw [hdd, hB]
  exact trodAll_cons_mk (RowKit.shut_bool hu _) ChangeShapes.trodAll_mk0
 have hargs : ∀ sp : Nat → Bool, (∀ x ∈ p ++ [], sp x.block = true) → DataW.TrodAll enc P W' 0 sp true f.params.toList args.toList (s.fn H (ds ++ [])).args p := by
  intro sp hsp
  rw [hdd]
  exact trodAll_stays hl hpar hA (fun x hx => hb.same (hlt x (by simpa using hx))) (fun x hx => hsp x (by simpa using hx))
 have hvars' : ∀ sp : Nat → Bool, DataW.TrodVars enc P W' sp s.vars (s.fn H (ds ++ [])).vars [] := by
  intro sp; rw [hvars, hdd]; rfl
 have hold : ∀ x ∈ p ++ [], (fun b => decide (b < W.heap.size)) x.block = true := fun x hx => by simpa using hlt x hx
 refine ⟨ds, [], p ++ [], [], p, [], hW, hres _ _ _, hargs _ hold, hvars' _, World.keptBut_mono (fun x hx => ⟨hx, Or.inr (by simpa using hx)⟩) (hb.frame (· ∈ p ++ [])), fun h => (by cases h)⟩
end Go.Stp

namespace Go.Proofs.YthdgpfbldbabmaaGreatDoor
open Go.Stp
theorem R0 {fn : Func} {w0 : World} {H : GH} {pin : Option Nat} {Φ : Value → World → Prop} {s s' : List It} {env env' : Env} {L L' : Locs} {R : Go.Stp.Rows} {Γ : Facts} (k : WX ⟨Tryz.prog, fn, tt, w0, H, pin, Φ⟩ s' env' L' R Γ) (h : exec tt fn.ntmps R 1000 s env L = (s', env', L') := by exact rfl) : WX ⟨Tryz.prog, fn, tt, w0, H, pin, Φ⟩ s env L R Γ := WX.run ttOk h k
theorem R1 {fn : Func} {w0 : World} {H : GH} {pin : Option Nat} {Φ : Value → World → Prop} {s : List It} {env : Env} {L : Locs} {R : Go.Stp.Rows} {Γ : Facts} {vs : List Value} (k : ∀ w G bs, HInv ⟨Tryz.prog, fn, tt, w0, H, pin, Φ⟩ w G bs L R → AllK (Cx.M ⟨Tryz.prog, fn, tt, w0, H, pin, Φ⟩) G Γ → Φ (tup vs) w) (h : resV tt env L fn.results.toList = some vs := by exact rfl) : WX ⟨Tryz.prog, fn, tt, w0, H, pin, Φ⟩ (.code .ret :: s) env L R Γ := WX.ret ttOk h k
theorem Z {α : Sort _} {a : α} : a = a := rfl
theorem J {α : Sort _} {a b : α} (h : a = b := by kernel_rfl) : a = b := h
theorem O {α : Sort _} {β : Sort _} {f : α → β} (x : α) : f x = f x := rfl
theorem cT {α : Type} (a b : α) : cond true a b = a := rfl
theorem cF {α : Type} (a b : α) : cond false a b = b := rfl
theorem aS1 {G : GH} {α0 : Type} [GoT α0] {p0 : Option Addr} {c0 : Nat} {l0 : List α0} (a0 : RdSl G p0 c0 l0) : AllS G [(0, MF.rs .stb p0 c0 l0)] := allS_cons rfl a0 allS_nil
theorem aS2 {G : GH} {α0 : Type} [GoT α0] {p0 : Option Addr} {c0 : Nat} {l0 : List α0} {α1 : Type} [GoT α1] {p1 : Option Addr} {c1 : Nat} {l1 : List α1} (a0 : RdSl G p0 c0 l0) (a1 : RdSl G p1 c1 l1) : AllS G [(0, MF.rs .stb p0 c0 l0), (1, MF.rs .stb p1 c1 l1)] := allS_cons rfl a0 (allS_cons rfl a1 allS_nil)
theorem aS3 {G : GH} {α0 : Type} [GoT α0] {p0 : Option Addr} {c0 : Nat} {l0 : List α0} {α1 : Type} [GoT α1] {p1 : Option Addr} {c1 : Nat} {l1 : List α1} {α2 : Type} [GoT α2] {p2 : Option Addr} {c2 : Nat} {l2 : List α2} (a0 : RdSl G p0 c0 l0) (a1 : RdSl G p1 c1 l1) (a2 : RdSl G p2 c2 l2) : AllS G [(0, MF.rs .stb p0 c0 l0), (1, MF.rs .stb p1 c1 l1), (2, MF.rs .stb p2 c2 l2)] := allS_cons rfl a0 (allS_cons rfl a1 (allS_cons rfl a2 allS_nil))
theorem aS4 {G : GH} {α0 : Type} [GoT α0] {p0 : Option Addr} {c0 : Nat} {l0 : List α0} {α1 : Type} [GoT α1] {p1 : Option Addr} {c1 : Nat} {l1 : List α1} {α2 : Type} [GoT α2] {p2 : Option Addr} {c2 : Nat} {l2 : List α2} {α3 : Type} [GoT α3] {p3 : Option Addr} {c3 : Nat} {l3 : List α3} (a0 : RdSl G p0 c0 l0) (a1 : RdSl G p1 c1 l1) (a2 : RdSl G p2 c2 l2) (a3 : RdSl G p3 c3 l3) : AllS G [(0, MF.rs .stb p0 c0 l0), (1, MF.rs .stb p1 c1 l1), (2, MF.rs .stb p2 c2 l2), (3, MF.rs .stb p3 c3 l3)] := allS_cons rfl a0 (allS_cons rfl a1 (allS_cons rfl a2 (allS_cons rfl a3 allS_nil)))
theorem aS5 {G : GH} {α0 : Type} [GoT α0] {p0 : Option Addr} {c0 : Nat} {l0 : List α0} {α1 : Type} [GoT α1] {p1 : Option Addr} {c1 : Nat} {l1 : List α1} {α2 : Type} [GoT α2] {p2 : Option Addr} {c2 : Nat} {l2 : List α2} {α3 : Type} [GoT α3] {p3 : Option Addr} {c3 : Nat} {l3 : List α3} {α4 : Type} [GoT α4] {p4 : Option Addr} {c4 : Nat} {l4 : List α4} (a0 : RdSl G p0 c0 l0) (a1 : RdSl G p1 c1 l1) (a2 : RdSl G p2 c2 l2) (a3 : RdSl G p3 c3 l3) (a4 : RdSl G p4 c4 l4) : AllS G [(0, MF.rs .stb p0 c0 l0), (1, MF.rs .stb p1 c1 l1), (2, MF.rs .stb p2 c2 l2), (3, MF.rs .stb p3 c3 l3), (4, MF.rs .stb p4 c4 l4)] := allS_cons rfl a0 (allS_cons rfl a1 (allS_cons rfl a2 (allS_cons rfl a3 (allS_cons rfl a4 allS_nil))))
theorem aS6 {G : GH} {α0 : Type} [GoT α0] {p0 : Option Addr} {c0 : Nat} {l0 : List α0} {α1 : Type} [GoT α1] {p1 : Option Addr} {c1 : Nat} {l1 : List α1} {α2 : Type} [GoT α2] {p2 : Option Addr} {c2 : Nat} {l2 : List α2} {α3 : Type} [GoT α3] {p3 : Option Addr} {c3 : Nat} {l3 : List α3} {α4 : Type} [GoT α4] {p4 : Option Addr} {c4 : Nat} {l4 : List α4} {α5 : Type} [GoT α5] {p5 : Option Addr} {c5 : Nat} {l5 : List α5} (a0 : RdSl G p0 c0 l0) (a1 : RdSl G p1 c1 l1) (a2 : RdSl G p2 c2 l2) (a3 : RdSl G p3 c3 l3) (a4 : RdSl G p4 c4 l4) (a5 : RdSl G p5 c5 l5) : AllS G [(0, MF.rs .stb p0 c0 l0), (1, MF.rs .stb p1 c1 l1), (2, MF.rs .stb p2 c2 l2), (3, MF.rs .stb p3 c3 l3), (4, MF.rs .stb p4 c4 l4), (5, MF.rs .stb p5 c5 l5)] := allS_cons rfl a0 (allS_cons rfl a1 (allS_cons rfl a2 (allS_cons rfl a3 (allS_cons rfl a4 (allS_cons rfl a5 allS_nil)))))
theorem aC {G : GH} {α : Type} [GoT α] {p : Option Addr} {c : Nat} {l : List α} {Γ : Facts} (k : Nat) (a : RdSl G p c l) (h : AllS G Γ) : AllS G ((k, MF.rs .stb p c l) :: Γ) := allS_cons rfl a h
theorem bS0 {n : Nat} (hn : n + 0 ≤ 9) : 1048576 ≤ bd n ∧ bd n ≤ 274877906944 := ⟨bd_pos n, bd_big (by omega)⟩
theorem bS1 {n : Nat} (hn : n + 1 ≤ 9) : 1048576 ≤ bd n ∧ bd (n + 1) = 4 * bd (n) ∧ bd (n + 1) ≤ 274877906944 := ⟨bd_pos n, bd_succ (by omega), bd_big (by omega)⟩
theorem bS2 {n : Nat} (hn : n + 2 ≤ 9) : 1048576 ≤ bd n ∧ bd (n + 1) = 4 * bd (n) ∧ bd (n + 2) = 4 * bd (n + 1) ∧ bd (n + 2) ≤ 274877906944 := ⟨bd_pos n, bd_succ (by omega), bd_succ (by omega), bd_big (by omega)⟩
theorem bS3 {n : Nat} (hn : n + 3 ≤ 9) : 1048576 ≤ bd n ∧ bd (n + 1) = 4 * bd (n) ∧ bd (n + 2) = 4 * bd (n + 1) ∧ bd (n + 3) = 4 * bd (n + 2) ∧ bd (n + 3) ≤ 274877906944 := ⟨bd_pos n, bd_succ (by omega), bd_succ (by omega), bd_succ (by omega), bd_big (by omega)⟩
theorem bS5 {n : Nat} (hn : n + 5 ≤ 9) : 1048576 ≤ bd n ∧ bd (n + 1) = 4 * bd (n) ∧ bd (n + 2) = 4 * bd (n + 1) ∧ bd (n + 3) = 4 * bd (n + 2) ∧ bd (n + 4) = 4 * bd (n + 3) ∧ bd (n + 5) = 4 * bd (n + 4) ∧ bd (n + 5) ≤ 274877906944 := ⟨bd_pos n, bd_succ (by omega), bd_succ (by omega), bd_succ (by omega), bd_succ (by omega), bd_succ (by omega), bd_big (by omega)⟩
theorem bS6 {n : Nat} (hn : n + 6 ≤ 9) : 1048576 ≤ bd n ∧ bd (n + 1) = 4 * bd (n) ∧ bd (n + 2) = 4 * bd (n + 1) ∧ bd (n + 3) = 4 * bd (n + 2) ∧ bd (n + 4) = 4 * bd (n + 3) ∧ bd (n + 5) = 4 * bd (n + 4) ∧ bd (n + 6) = 4 * bd (n + 5) ∧ bd (n + 6) ≤ 274877906944 := ⟨bd_pos n, bd_succ (by omega), bd_succ (by omega), bd_succ (by omega), bd_succ (by omega), bd_succ (by omega), bd_succ (by omega), bd_big (by omega)⟩
theorem bS7 {n : Nat} (hn : n + 7 ≤ 9) : 1048576 ≤ bd n ∧ bd (n + 1) = 4 * bd (n) ∧ bd (n + 2) = 4 * bd (n + 1) ∧ bd (n + 3) = 4 * bd (n + 2) ∧ bd (n + 4) = 4 * bd (n + 3) ∧ bd (n + 5) = 4 * bd (n + 4) ∧ bd (n + 6) = 4 * bd (n + 5) ∧ bd (n + 7) = 4 * bd (n + 6) ∧ bd (n + 7) ≤ 274877906944 := ⟨bd_pos n, bd_succ (by omega), bd_succ (by omega), bd_succ (by omega), bd_succ (by omega), bd_succ (by omega), bd_succ (by omega), bd_succ (by omega), bd_big (by omega)⟩
theorem bS8 {n : Nat} (hn : n + 8 ≤ 9) : 1048576 ≤ bd n ∧ bd (n + 1) = 4 * bd (n) ∧ bd (n + 2) = 4 * bd (n + 1) ∧ bd (n + 3) = 4 * bd (n + 2) ∧ bd (n + 4) = 4 * bd (n + 3) ∧ bd (n + 5) = 4 * bd (n + 4) ∧ bd (n + 6) = 4 * bd (n + 5) ∧ bd (n + 7) = 4 * bd (n + 6) ∧ bd (n + 8) = 4 * bd (n + 7) ∧ bd (n + 8) ≤ 274877906944 := ⟨bd_pos n, bd_succ (by omega), bd_succ (by omega), bd_succ (by omega), bd_succ (by omega), bd_succ (by omega), bd_succ (by omega), bd_succ (by omega), bd_succ (by omega), bd_big (by omega)⟩
theorem bS9 {n : Nat} (hn : n + 9 ≤ 9) : 1048576 ≤ bd n ∧ bd (n + 1) = 4 * bd (n) ∧ bd (n + 2) = 4 * bd (n + 1) ∧ bd (n + 3) = 4 * bd (n + 2) ∧ bd (n + 4) = 4 * bd (n + 3) ∧ bd (n + 5) = 4 * bd (n + 4) ∧ bd (n + 6) = 4 * bd (n + 5) ∧ bd (n + 7) = 4 * bd (n + 6) ∧ bd (n + 8) = 4 * bd (n + 7) ∧ bd (n + 9) = 4 * bd (n + 8) ∧ bd (n + 9) ≤ 274877906944 := ⟨bd_pos n, bd_succ (by omega), bd_succ (by omega), bd_succ (by omega), bd_succ (by omega), bd_succ (by omega), bd_succ (by omega), bd_succ (by omega), bd_succ (by omega), bd_succ (by omega), bd_big (by omega)⟩
theorem xE {α : Type} (a : α) : ∃ r, a = r := ⟨a, rfl⟩
theorem i6 (x : Int) (h : I64 x := by unfold I64; omega) : I64 x := h
abbrev pB (b : Bool) : Value → World → Prop := fun rv _ => rv = .bool b ∧ True
theorem _root_.Go.Stp.AllK.q {M : Nat → Prop} {G : GH} {Γ : Facts} (h : AllK M G Γ) (i : Nat) {f : MF} (hf : Go.Stp.look Γ i = some f) : f.p G := h.get i hf
theorem EN {g : FuncId} {fn : Func} {c : Code} {args : List Value} {w : World} {Φ : Value → World → Prop} {Γ : Facts}
    (hf : Tryz.prog.funcs[g]? = some fn) (hb : fn.body = some c) (h0 : AllS (hp w) Γ)
    (k : WX ⟨Tryz.prog, fn, tt, w, emp, none, Φ⟩ [.code c] (envOf 0 args) [] [] Γ) (hn : (fn.name == "runtime.NumGoroutine") = false := by kernel_rfl) (hs : Nat.ble args.length fn.ntmps = true := by exact rfl) : Does Tryz.prog g args.toArray w emp Φ := WX.enter hf hb hn hs h0 k
theorem R4 {fn : Func} {w0 : World} {H : GH} {pin : Option Nat} {s : List It} {env : Env} {L : Locs} {R : Go.Stp.Rows} {Γ : Facts} {e b : Bool} (h : resV tt env L fn.results.toList = some [.bool b]) (k : e = b) : WX ⟨Tryz.prog, fn, tt, w0, H, pin, fun rv _ => rv = .bool e ∧ True⟩ (.code .ret :: s) env L R Γ := WX.ret ttOk h (fun _ _ _ _ _ => by rw [k]; exact ⟨rfl, trivial⟩)
theorem CV {C : Cx} {ops : Array Oper} {o : Oper} {r : List Oper} {s : List It} {env : Env} {L : Locs} {R : Go.Stp.Rows} {Γ : Facts} {f : Operand} {args : List Operand} {ats : Array TypeId} {g : FuncId} {sf : SV} {svs : List SV} {caps : (Nat → Nat) → List Value} {c : Value} {Q : Prop} {d : Nat} (hg : gd ops env o = some true) (hd : o.dst = some d) (hlt : Nat.blt d C.fn.ntmps = true) (ho : o.op = .call { callee := .value f, args := args.toArray, argTypes := ats }) (hf : ev env f = some sf) (hsf : ∀ bs, conc bs sf = .func (.func g) #[] (caps bs).toArray) (hargs : evs env args = some svs) (hc : ∀ {bs : Nat → Nat} w, AllK C.M (hp w) Γ → Does C.P g (svs.map (conc bs) ++ caps bs).toArray w emp fun v _ => v = c ∧ Q) (k : Q → WX C (.ops ops r :: s) ((d, .v c) :: env) L R Γ) : WX C (.ops ops (o :: r) :: s) env L R Γ := WX.callV hg hd hlt ho hf hsf hargs (fun w _ bs _ h => hc (bs := bs) w h) k
theorem CF {C : Cx} {ops : Array Oper} {o : Oper} {r : List Oper} {s : List It} {env : Env} {L : Locs} {R : Go.Stp.Rows} {Γ : Facts} {f : Operand} {args : List Operand} {ats : Array TypeId} {g : FuncId} {sf : SV} {svs : List SV} {caps : (Nat → Nat) → List Value} {α : Type} [GoT α] {a : α} {val val' : GoT.X α → Value} {Q : Prop} {d : Nat} {Γ' : GoT.X α → Facts} (n : Nat) (hg : gd ops env o = some true) (hd : o.dst = some d) (hlt : Nat.blt d C.fn.ntmps = true) (ho : o.op = .call { callee := .value f, args := args.toArray, argTypes := ats }) (hf : ev env f = some sf) (hsf : ∀ bs, conc bs sf = .func (.func g) #[] (caps bs).toArray) (hargs : evs env args = some svs) (hc : ∀ {bs : Nat → Nat} w, AllK C.M (hp w) Γ → Does C.P g (svs.map (conc bs) ++ caps bs).toArray w emp (Post w emp val (fun x => GoT.oa a x) Q)) (k : ∀ i, Q → WX C (.ops ops r :: s) ((d, .v (val' i)) :: env) L R (Γ' i)) (hv : ∀ i, normV (val i) = some (val' i) := by exact fun _ => rfl) (hΓ' : ∀ i, addF n (GoT.fa .der a i ++ GoT.oa a i) Γ = some (Γ' i) := by exact fun _ => rfl) : WX C (.ops ops (o :: r) :: s) env L R Γ := WX.callF n (fun _ _ h => GoT.ow_rd h) (fun _ f hf => GoT.fak f hf) hg hd hlt ho hf hsf hargs (fun w _ bs _ h => hc (bs := bs) w h) hv hΓ' k
theorem CP {C : Cx} {ops : Array Oper} {o : Oper} {r : List Oper} {s : List It} {env : Env} {L : Locs} {R : Go.Stp.Rows} {Γ : Facts} {f : Operand} {args : List Operand} {ats : Array TypeId} {g : FuncId} {sf : SV} {svs : List SV} {caps : (Nat → Nat) → List Value} {T : Nat} {cs : List Value} {ι : Type} {val val' : ι → Value} {cs' : ι → List Value} {Q : Prop} {d : Nat} {Γ' : ι → Facts} (lab n : Nat) (hl : Go.Stp.look L lab = some ⟨T, cs⟩) (hg : gd ops env o = some true) (hd : o.dst = some d) (hlt : Nat.blt d C.fn.ntmps = true) (ho : o.op = .call { callee := .value f, args := args.toArray, argTypes := ats }) (hf : ev env f = some sf) (hsf : ∀ bs, conc bs sf = .func (.func g) #[] (caps bs).toArray) (hargs : evs env args = some svs) (hc : ∀ w (bs : Nat → Nat) H, Le H (hp w) → Sep H [MF.bx (bs lab) T cs] → AllK C.M (cut (hp w) H) Γ → Does C.P g (svs.map (conc bs) ++ caps bs).toArray w H (Post w H val (fun i => MF.bx (bs lab) T (cs' i) :: []) Q)) (k : ∀ i, Q → WX C (.ops ops r :: s) ((d, .v (val' i)) :: env) (setL L lab (cs' i)) R (Γ' i)) (hv : ∀ i, normV (val i) = some (val' i) := by exact fun _ => rfl) (hΓ' : ∀ i, addF n (([] : List MF) ++ []) Γ = some (Γ' i) := by exact fun _ => rfl) : WX C (.ops ops (o :: r) :: s) env L R Γ := WX.callP (ds := fun _ => []) lab n hl (fun _ _ _ => All.nil) (fun _ f hf => by cases hf) hg hd hlt ho hf hsf hargs (fun w _ bs H _ a b c => hc w bs H a b c) hv hΓ' k
theorem CQ {C : Cx} {ops : Array Oper} {o : Oper} {r : List Oper} {s : List It} {env : Env} {L : Locs} {R : Go.Stp.Rows} {Γ : Facts} {f : Operand} {args : List Operand} {ats : Array TypeId} {g : FuncId} {sf : SV} {svs : List SV} {caps : (Nat → Nat) → List Value} {T : Nat} {cs : List Value} {α : Type} [GoT α] {a : α} {val val' : GoT.X α → Value} {Q : Prop} {d : Nat} {Γ' : GoT.X α → Facts} {cs' : GoT.X α → List Value} (lab n : Nat) (hl : Go.Stp.look L lab = some ⟨T, cs⟩) (hg : gd ops env o = some true) (hd : o.dst = some d) (hlt : Nat.blt d C.fn.ntmps = true) (ho : o.op = .call { callee := .value f, args := args.toArray, argTypes := ats }) (hf : ev env f = some sf) (hsf : ∀ bs, conc bs sf = .func (.func g) #[] (caps bs).toArray) (hargs : evs env args = some svs) (hc : ∀ w (bs : Nat → Nat) H, Le H (hp w) → Sep H [MF.bx (bs lab) T cs] → AllK C.M (cut (hp w) H) Γ → Does C.P g (svs.map (conc bs) ++ caps bs).toArray w H (Post w H val (fun i => MF.bx (bs lab) T (cs' i) :: GoT.oa a i) Q)) (k : ∀ i, Q → WX C (.ops ops r :: s) ((d, .v (val' i)) :: env) (setL L lab (cs' i)) R (Γ' i)) (hv : ∀ i, normV (val i) = some (val' i) := by exact fun _ => rfl) (hΓ' : ∀ i, addF n (GoT.fa .der a i ++ GoT.oa a i) Γ = some (Γ' i) := by exact fun _ => rfl) : WX C (.ops ops (o :: r) :: s) env L R Γ := WX.callP lab n hl (fun _ _ h => GoT.ow_rd h) (fun _ f hf => GoT.fak f hf) hg hd hlt ho hf hsf hargs (fun w _ bs H _ a b c => hc w bs H a b c) hv hΓ' k
theorem DXV {C : Cx} {ops : Array Oper} {tl : List Nat} {st : List It} {bs : Nat → Nat} {G0 : GH} {fuel : Nat} {listed : Array Bool} {env : Env} {L : Locs} {R : Go.Stp.Rows} {Γ : Facts} {o : Oper} (i : Nat) {f : Operand} {args : List Operand} {ats : Array TypeId} {g : FuncId} {sf : SV} {svs : List SV} {caps : (Nat → Nat) → List Value} {c : Value} {Q : Prop} {d : Nat} (hit : tl.contains i = false) (hr : Region.ready .any ops listed = [i]) (hi : getO ops.toList i = some o) (hg : gd ops env o = some true) (hd : o.dst = some d) (hlt : Nat.blt d C.fn.ntmps = true) (ho : o.op = .call { callee := .value f, args := args.toArray, argTypes := ats }) (hf : ev env f = some sf) (hsf : ∀ bs, conc bs sf = .func (.func g) #[] (caps bs).toArray) (hargs : evs env args = some svs) (hc : ∀ {bs : Nat → Nat} w, AllK C.M (hp w) Γ → Does C.P g (svs.map (conc bs) ++ caps bs).toArray w emp fun v _ => v = c ∧ Q) (k : Q → DX C ops tl st bs G0 fuel (listed.setIfInBounds i true) ((d, .v c) :: env) L R Γ) : DX C ops tl st bs G0 (fuel + 1) listed env L R Γ := DX.callV i hit hr hi hg hd hlt ho hf hsf hargs (fun w _ bs _ h => hc (bs := bs) w h) k
theorem DXF {C : Cx} {ops : Array Oper} {tl : List Nat} {st : List It} {bs : Nat → Nat} {G0 : GH} {fuel : Nat} {listed : Array Bool} {env : Env} {L : Locs} {R : Go.Stp.Rows} {Γ : Facts} {o : Oper} (i m : Nat) {f : Operand} {args : List Operand} {ats : Array TypeId} {g : FuncId} {sf : SV} {svs : List SV} {caps : (Nat → Nat) → List Value} {α : Type} [GoT α] {a : α} {val val' : GoT.X α → Value} {Q : Prop} {d : Nat} {Γ' : GoT.X α → Facts} (hit : tl.contains i = false) (hr : Region.ready .any ops listed = [i]) (hi : getO ops.toList i = some o) (hg : gd ops env o = some true) (hd : o.dst = some d) (hlt : Nat.blt d C.fn.ntmps = true) (ho : o.op = .call { callee := .value f, args := args.toArray, argTypes := ats }) (hf : ev env f = some sf) (hsf : ∀ bs, conc bs sf = .func (.func g) #[] (caps bs).toArray) (hargs : evs env args = some svs) (hc : ∀ {bs : Nat → Nat} w, AllK C.M (hp w) Γ → Does C.P g (svs.map (conc bs) ++ caps bs).toArray w emp (Post w emp val (fun x => GoT.oa a x) Q)) (k : ∀ j, Q → DX C ops tl st bs G0 fuel (listed.setIfInBounds i true) ((d, .v (val' j)) :: env) L R (Γ' j)) (hv : ∀ i, normV (val i) = some (val' i) := by exact fun _ => rfl) (hΓ' : ∀ i, addF m (GoT.fa .der a i ++ GoT.oa a i) Γ = some (Γ' i) := by exact fun _ => rfl) : DX C ops tl st bs G0 (fuel + 1) listed env L R Γ := DX.callF i m (fun _ _ h => GoT.ow_rd h) (fun _ f hf => GoT.fak f hf) hit hr hi hg hd hlt ho hf hsf hargs (fun w _ bs _ h => hc (bs := bs) w h) hv hΓ' k
theorem TSF {C : Cx} {ops : Array Oper} {tl : List Nat} {st : List It} {S : World → Prop} {fuel : Nat} {listed : Array Bool} {env : Env} {L : Locs} {R : Go.Stp.Rows} {Γ : Facts} {o : Oper} (i m : Nat) {f : Operand} {args : List Operand} {ats : Array TypeId} {g : FuncId} {sf : SV} {svs : List SV} {caps : (Nat → Nat) → List Value} {α : Type} [GoT α] {a : α} {val val' : GoT.X α → Value} {Q : Prop} {d : Nat} {Γ' : GoT.X α → Facts} (hi : getO ops.toList i = some o) (hg : gd ops env o = some true) (hd : o.dst = some d) (hlt : Nat.blt d C.fn.ntmps = true) (ho : o.op = .call { callee := .value f, args := args.toArray, argTypes := ats }) (hf : ev env f = some sf) (hsf : ∀ bs, conc bs sf = .func (.func g) #[] (caps bs).toArray) (hargs : evs env args = some svs) (hc : ∀ {bs : Nat → Nat} w, AllK C.M (hp w) Γ → Does C.P g (svs.map (conc bs) ++ caps bs).toArray w emp (Post w emp val (fun x => GoT.oa a x) Q)) (k : ∀ j, Q → TX C ops tl st S fuel (listed.setIfInBounds i true) ((d, .v (val' j)) :: env) L R (Γ' j)) (hv : ∀ i, normV (val i) = some (val' i) := by exact fun _ => rfl) (hΓ' : ∀ i, addF m (GoT.fa .der a i ++ GoT.oa a i) Γ = some (Γ' i) := by exact fun _ => rfl) : TS C ops tl st S fuel listed env L R Γ i := TS.callF i m (fun _ _ h => GoT.ow_rd h) (fun _ f hf => GoT.fak f hf) hi hg hd hlt ho hf hsf hargs (fun w _ bs _ h => hc (bs := bs) w h) hv hΓ' k
theorem TPF {C : Cx} {ops : Array Oper} {tl : List Nat} {st : List It} {S : World → Prop} {P : List PI} {fuel : Nat} {listed : Array Bool} {env : Env} {L : Locs} {R : Go.Stp.Rows} {Γ : Facts} {o : Oper} (i m : Nat) {f : Operand} {args : List Operand} {ats : Array TypeId} {g : FuncId} {sf : SV} {svs : List SV} {caps : (Nat → Nat) → List Value} {α : Type} [GoT α] {a : α} {val val' : GoT.X α → Value} {Q : Prop} {d : Nat} {Γ' : GoT.X α → Facts} (hn : nextB ops listed P P i = true) (hr : readyAt ops listed i = true) (hi : getO ops.toList i = some o) (hg : gd ops env o = some true) (hd : o.dst = some d) (ha : apartB P i d = true) (hlt : Nat.blt d C.fn.ntmps = true) (ho : o.op = .call { callee := .value f, args := args.toArray, argTypes := ats }) (hf : ev env f = some sf) (hsf : ∀ bs, conc bs sf = .func (.func g) #[] (caps bs).toArray) (hargs : evs env args = some svs) (hc : ∀ {bs : Nat → Nat} w, AllK C.M (hp w) Γ → Does C.P g (svs.map (conc bs) ++ caps bs).toArray w emp (Post w emp val (fun x => GoT.oa a x) Q)) (k : ∀ j, Q → TXP C ops tl st S P fuel (listed.setIfInBounds i true) ((d, .v (val' j)) :: env) L R (Γ' j)) (hv : ∀ i, normV (val i) = some (val' i) := by exact fun _ => rfl) (hΓ' : ∀ i, addF m (GoT.fa .der a i ++ GoT.oa a i) Γ = some (Γ' i) := by exact fun _ => rfl) : TXP C ops tl st S P (fuel + 1) listed env L R Γ := TXP.callF i m (fun _ _ h => GoT.ow_rd h) (fun _ f hf => GoT.fak f hf) hn hr hi hg hd ha hlt ho hf hsf hargs (fun w _ bs _ h => hc (bs := bs) w h) hv hΓ' k
theorem TPP {C : Cx} {ops : Array Oper} {tl : List Nat} {st : List It} {S : World → Prop} {P : List PI} {fuel : Nat} {listed : Array Bool} {env : Env} {L : Locs} {R : Go.Stp.Rows} {Γ : Facts} {o : Oper} (hcur : CurK C S) (i n : Nat) {f : Operand} {args : List Operand} {ats : Array TypeId} {g : FuncId} {sf : SV} {svs : List SV} {caps : (Nat → Nat) → List Value} {T : Nat} {cs : List Value} {ι : Type} {val val' : ι → Value} {cs' : ι → List Value} {Q : Prop} {d : Nat} {Γ' : ι → Facts} (hl : Go.Stp.look L 999 = some ⟨T, cs⟩) (hn : nextB ops listed P P i = true) (hr : readyAt ops listed i = true) (hi : getO ops.toList i = some o) (hg : gd ops env o = some true) (hd : o.dst = some d) (ha : apartB P i d = true) (hlt : Nat.blt d C.fn.ntmps = true) (ho : o.op = .call { callee := .value f, args := args.toArray, argTypes := ats }) (hf : ev env f = some sf) (hsf : ∀ bs, conc bs sf = .func (.func g) #[] (caps bs).toArray) (hargs : evs env args = some svs) (hc : ∀ w (bs : Nat → Nat) H, Le H (hp w) → Sep H [MF.bx (bs 999) T cs] → AllK C.M (cut (hp w) H) Γ → Does C.P g (svs.map (conc bs) ++ caps bs).toArray w H (Post w H val (fun i => MF.bx (bs 999) T (cs' i) :: []) Q)) (k : ∀ j, Q → TXP C ops tl st S P fuel (listed.setIfInBounds i true) ((d, .v (val' j)) :: env) (setL L 999 (cs' j)) R (Γ' j)) (hv : ∀ i, normV (val i) = some (val' i) := by exact fun _ => rfl) (hΓ' : ∀ i, addF n (([] : List MF) ++ []) Γ = some (Γ' i) := by exact fun _ => rfl) (hpin : ∃ b, C.pin = some b := by exact ⟨_, rfl⟩) : TXP C ops tl st S P (fuel + 1) listed env L R Γ := TXP.callP (ds := fun _ => []) hcur i n hpin hl (fun _ _ _ => All.nil) (fun _ f hf => by cases hf) hn hr hi hg hd ha hlt ho hf hsf hargs (fun w _ bs H _ a b c => hc w bs H a b c) hv hΓ' k
theorem TPQ {C : Cx} {ops : Array Oper} {tl : List Nat} {st : List It} {S : World → Prop} {P : List PI} {fuel : Nat} {listed : Array Bool} {env : Env} {L : Locs} {R : Go.Stp.Rows} {Γ : Facts} {o : Oper} (hcur : CurK C S) (i n : Nat) {f : Operand} {args : List Operand} {ats : Array TypeId} {g : FuncId} {sf : SV} {svs : List SV} {caps : (Nat → Nat) → List Value} {T : Nat} {cs : List Value} {α : Type} [GoT α] {a : α} {val val' : GoT.X α → Value} {Q : Prop} {d : Nat} {Γ' : GoT.X α → Facts} {cs' : GoT.X α → List Value} (hl : Go.Stp.look L 999 = some ⟨T, cs⟩) (hn : nextB ops listed P P i = true) (hr : readyAt ops listed i = true) (hi : getO ops.toList i = some o) (hg : gd ops env o = some true) (hd : o.dst = some d) (ha : apartB P i d = true) (hlt : Nat.blt d C.fn.ntmps = true) (ho : o.op = .call { callee := .value f, args := args.toArray, argTypes := ats }) (hf : ev env f = some sf) (hsf : ∀ bs, conc bs sf = .func (.func g) #[] (caps bs).toArray) (hargs : evs env args = some svs) (hc : ∀ w (bs : Nat → Nat) H, Le H (hp w) → Sep H [MF.bx (bs 999) T cs] → AllK C.M (cut (hp w) H) Γ → Does C.P g (svs.map (conc bs) ++ caps bs).toArray w H (Post w H val (fun i => MF.bx (bs 999) T (cs' i) :: GoT.oa a i) Q)) (k : ∀ j, Q → TXP C ops tl st S P fuel (listed.setIfInBounds i true) ((d, .v (val' j)) :: env) (setL L 999 (cs' j)) R (Γ' j)) (hv : ∀ i, normV (val i) = some (val' i) := by exact fun _ => rfl) (hΓ' : ∀ i, addF n (GoT.fa .der a i ++ GoT.oa a i) Γ = some (Γ' i) := by exact fun _ => rfl) (hpin : ∃ b, C.pin = some b := by exact ⟨_, rfl⟩) : TXP C ops tl st S P (fuel + 1) listed env L R Γ := TXP.callP hcur i n hpin hl (fun _ _ h => GoT.ow_rd h) (fun _ f hf => GoT.fak f hf) hn hr hi hg hd ha hlt ho hf hsf hargs (fun w _ bs H _ a b c => hc w bs H a b c) hv hΓ' k
theorem τ0 {p : Prop} (h : p := by first | (rw [List.length_append]; (try simp only [List.length_cons, List.length_nil]); omega) | (simp; omega) | (simp only [List.length_append, List.length_cons, List.length_nil] at *; omega)) : p := h
theorem τ1 {p : Prop} (h : p := by omega) : p := h
theorem τ2 {p : Prop} (h : p := by unfold I64; first | omega | (simp only [List.length_take] at *; omega)) : p := h
theorem τ3 {p : Prop} (h : p := by first | omega | (simp; omega)) : p := h
theorem τ4 {p : Prop} (h : p := by first | (dsimp only; omega) | omega) : p := h
theorem τ5 {p : Prop} (h : p := by first | assumption | omega | (simp; omega)) : p := h
theorem τ6 {p : Prop} (h : p := by first | assumption | omega) : p := h
theorem τ7 {p : Prop} (h : p := by first | (simp; done) | (simp; omega)) : p := h
theorem τ8 {p : Prop} (h : p := by first | assumption | omega | (simp; done) | (simp; omega)) : p := h
theorem τ9 {p : Prop} (h : p := by decide) : p := h
theorem τ10 {p : Prop} (h : p := by dsimp only; simp only [List.length_append, List.length_cons, List.length_nil]; omega) : p := h
theorem τ11 {p : Prop} (h : p := by simp) : p := h
end Go.Proofs.YthdgpfbldbabmaaGreatDoor

namespace Go.Stp
set_option linter.unusedVariables false
set_option linter.unusedSimpArgs false
def a0r (n_ : Int) (a : Int) (b : Int) : Bool :=
 bif decide (a ≤ n_) then
  (decide (n_ ≤ b))
 else
  false
def a0m (x_ : Int) (least : Int) (most : Int) : Bool :=
 bif decide (x_ ≥ least) then
  (decide (x_ ≤ most))
 else
  false
def a1z (node : Int) (i : Int) (try_ : Int) : Int :=
 (IntKind.i64.wrap ((IntKind.i64.wrap ((IntKind.i64.wrap (100000 * node)) + (IntKind.i64.wrap (1000 * i)))) + try_))
def a44 (node : Int) (i : Int) (try_ : Int) : Int :=
 (IntKind.i64.wrap ((IntKind.i64.wrap ((IntKind.i64.wrap (100000 * node)) + (IntKind.i64.wrap (1000 * i)))) + try_))
end Go.Stp

namespace Go.Proofs.YthdgpfbldbabmaaGreatDoor
open Go.Stp
set_option linter.unusedVariables false
set_option linter.unusedSimpArgs false
theorem f52 (w : World) (n : Nat) (hn : n + 0 ≤ 9) (n_ : Int) (a : Int) (b : Int) (hokn_ : GoT.ok n n_) (hoka : GoT.ok n a) (hokb : GoT.ok n b) :
 Does Tryz.prog 52 #[.int .i64 (n_), .int .i64 (a), .int .i64 (b)] w emp (pB (a0r n_ a b)) := by
 refine EN Tryz.func52 Z allS_nil ?_
 refine R0 ?_
 refine WX.cases 10 Z ?_ ?_ <;> intro h1
 ·skip
  have h1d := B.dt h1
  refine R0 ?_
  exact R4 Z (by simp only [a0r, h1, cT, cF])
 have h1d := B.df h1
 refine R0 ?_
 exact R4 Z (by simp only [a0r, h1, cT, cF])
theorem f55 (w : World) (n : Nat) (hn : n + 0 ≤ 9) (x_ : Int) (least : Int) (most : Int) (hokx_ : GoT.ok n x_) (hokleast : GoT.ok n least) (hokmost : GoT.ok n most) :
 Does Tryz.prog 55 #[.int .i64 (x_), .int .i64 (least), .int .i64 (most)] w emp (pB (a0m x_ least most)) := by
 refine EN Tryz.func55 Z allS_nil ?_
 refine R0 ?_
 refine WX.cases 10 Z ?_ ?_ <;> intro h1
 ·skip
  have h1d := B.dt h1
  refine R0 ?_
  exact R4 Z (by simp only [a0m, h1, cT, cF])
 have h1d := B.df h1
 refine R0 ?_
 exact R4 Z (by simp only [a0m, h1, cT, cF])
theorem inR_impl {n a b : Int} (h : a0r n a b = true) : a ≤ n ∧ n ≤ b := by
 unfold a0r at h
 cases hd : decide (a ≤ n)
 ·exact absurd (show false = true by rw [show decide (a ≤ n) = false from hd] at h; exact h) Bool.false_ne_true
 ·rw [show decide (a ≤ n) = true from hd] at h
  exact ⟨of_decide_eq_true hd, of_decide_eq_true (show decide (n ≤ b) = true from h)⟩
theorem inR_spec {n a b : Int} (h : a0m n a b = true) : a ≤ n ∧ n ≤ b := by
 unfold a0m at h
 cases hd : decide (a ≤ n)
 ·exact absurd (show false = true by rw [show decide (a ≤ n) = false from hd] at h; exact h) Bool.false_ne_true
 ·rw [show decide (a ≤ n) = true from hd] at h
  exact ⟨of_decide_eq_true hd, of_decide_eq_true (show decide (n ≤ b) = true from h)⟩
theorem f18 (w : World) (n : Nat) (hn : n + 0 ≤ 9) (node : Int) (i : Int) (try_ : Int) (hoknode : GoT.ok n node) (hoki : GoT.ok n i) (hoktry_ : GoT.ok n try_) :
 Does Tryz.prog 18 #[.int .i64 (node), .int .i64 (i), .int .i64 (try_)] w emp (fun (rv : Value) (_ : World) => rv = .int .i64 ((a1z node i try_)) ∧ GoT.ok n ((a1z node i try_) : Int)) := by
 refine EN Tryz.func18 Z allS_nil ?_
 refine R0 ?_
 refine WX.see Z Z Z (fun _ hΓ => looks_wrap Z Z Z Z) ?_
 refine R0 ?_
 refine WX.see Z Z Z (fun _ hΓ => looks_wrap Z Z Z Z) ?_
 refine WX.see Z Z Z (fun _ hΓ => looks_wrap Z Z Z Z) ?_
 refine R0 ?_
 refine WX.see Z Z Z (fun _ hΓ => looks_wrap Z Z Z Z) ?_
 refine R0 ?_
 have hP1 : a1z node i try_ = (IntKind.i64.wrap ((IntKind.i64.wrap ((IntKind.i64.wrap (100000 * node)) + (IntKind.i64.wrap (1000 * i)))) + try_)) := by simp only [a1z, cT, cF]
 refine R1 ?_
 intro w1 G bs hI hΓ
 rw [hP1]
 exact ⟨Z, (i64_wrap _)⟩
theorem f19 (w : World) (n : Nat) (hn : n + 0 ≤ 9) (node : Int) (i : Int) (try_ : Int) (hoknode : GoT.ok n node) (hoki : GoT.ok n i) (hoktry_ : GoT.ok n try_) :
 Does Tryz.prog 19 #[.int .i64 (node), .int .i64 (i), .int .i64 (try_)] w emp (fun (rv : Value) (_ : World) => rv = .int .i64 ((a44 node i try_)) ∧ GoT.ok n ((a44 node i try_) : Int)) := by
 refine EN Tryz.func19 Z allS_nil ?_
 refine R0 ?_
 refine WX.see Z Z Z (fun _ hΓ => looks_wrap Z Z Z Z) ?_
 refine R0 ?_
 refine WX.see Z Z Z (fun _ hΓ => looks_wrap Z Z Z Z) ?_
 refine WX.see Z Z Z (fun _ hΓ => looks_wrap Z Z Z Z) ?_
 refine R0 ?_
 refine WX.see Z Z Z (fun _ hΓ => looks_wrap Z Z Z Z) ?_
 refine R0 ?_
 have hP1 : a44 node i try_ = (IntKind.i64.wrap ((IntKind.i64.wrap ((IntKind.i64.wrap (100000 * node)) + (IntKind.i64.wrap (1000 * i)))) + try_)) := by simp only [a44, cT, cF]
 refine R1 ?_
 intro w1 G bs hI hΓ
 rw [hP1]
 exact ⟨Z, (i64_wrap _)⟩
end Go.Proofs.YthdgpfbldbabmaaGreatDoor

namespace Go.Stp
set_option linter.unusedVariables false
set_option linter.unusedSimpArgs false
def a4x (code : (List UInt8)) : Bool :=
 (decide ((((code).length : Nat) : Int) > 1048576))
theorem bitAnd255 (x : Int) : 0 ≤ bitO .and x 255 ∧ bitO .and x 255 ≤ 255 := by
 have h : (BitVec.ofInt 64 x).toNat &&& 255 ≤ 255 := Nat.and_le_right
 have h2 : (BitVec.ofInt 64 (255 : Int)).toNat = 255 := by decide
 simp only [bitO, BitVec.toNat_and, h2]
 rw [wrap_i64 (by unfold I64; omega)]
 omega
theorem tmod_below {x n : Int} (h : 0 ≤ x) (hn : 0 < n) : 0 ≤ Int.tmod x n ∧ (Int.tmod x n < n ∨ (Int.tmod x n = 0 ∧ n ≤ 0)) :=
 ⟨Int.tmod_nonneg n h, .inl (Int.tmod_lt_of_pos x hn)⟩
set_option maxRecDepth 100000 in
def a3a : List UInt8 → Nat → Int → Int
 | [], i, h_ => h_
 | e1 :: rest_, i, h_ =>
  bif decide (((i : Nat) : Int) < 4000) then
   a3a rest_ (i + 1) (bitO .and (IntKind.i64.wrap ((IntKind.i64.wrap ((IntKind.i64.wrap (h_ * 137)) + ((e1).toNat : Int))) + 11)) 1073741823)
  else
   h_
set_option maxRecDepth 100000 in
def a3b (code : (List UInt8)) : Int × Int :=
 match a3a code 0 (IntKind.i64.wrap (192917 + (((code).length : Nat) : Int))) with
  | h_ =>
   (0, h_)
set_option maxRecDepth 100000 in
theorem a4y : True := by
 have h1 := @a3a.eq_1
 have h2 := @a3a.eq_2
 trivial
def a18 (c_b : (List UInt8)) (c_i : Int) (c_h : Int) : Int × Int × Int :=
 bif decide (c_i < (((c_b).length : Nat) : Int)) then
  match (c_b)[(c_i).toNat]? with
   | none => default
   | some e1 =>
    ((bitO .and (IntKind.i64.wrap ((bitO .and (bitO .xor (Int.fdiv (IntKind.i64.wrap ((IntKind.i64.wrap (c_h * 6364136223846793005)) + 1442695040888963407)) (2 ^ (min (Int.toNat (33 : Int)) 64))) (Int.fdiv (IntKind.i64.wrap ((IntKind.i64.wrap (c_h * 6364136223846793005)) + 1442695040888963407)) (2 ^ (min (Int.toNat (47 : Int)) 64)))) 255) + ((e1).toNat : Int))) 255), c_i + 1, IntKind.i64.wrap ((IntKind.i64.wrap (c_h * 6364136223846793005)) + 1442695040888963407))
 else
  ((bitO .and (bitO .xor (Int.fdiv (IntKind.i64.wrap ((IntKind.i64.wrap (c_h * 6364136223846793005)) + 1442695040888963407)) (2 ^ (min (Int.toNat (33 : Int)) 64))) (Int.fdiv (IntKind.i64.wrap ((IntKind.i64.wrap (c_h * 6364136223846793005)) + 1442695040888963407)) (2 ^ (min (Int.toNat (47 : Int)) 64)))) 255), c_i, IntKind.i64.wrap ((IntKind.i64.wrap (c_h * 6364136223846793005)) + 1442695040888963407))
theorem l1Byte_rng (b : List UInt8) (i h : Int) : 0 ≤ (a18 b i h).1 ∧ (a18 b i h).1 ≤ 255 := by
 unfold a18
 cases decide (i < ((b.length : Nat) : Int))
 ·exact bitAnd255 _
 ·simp only [cond_true]
  cases b[i.toNat]? with
  | none => exact ⟨Int.le_refl (0 : Int), (by decide : (0 : Int) ≤ 255)⟩
  | some e => exact bitAnd255 _
def a0a (c_b : (List UInt8)) (c_i : Int) (c_h : Int) (n_ : Int) : Int × Int × Int :=
 bif decide (n_ ≤ 0) then
  (0, c_i, c_h)
 else
  bif decide (n_ ≤ 256) then
   match a18 c_b c_i c_h with
    | (u1, u2, u3) =>
     ((Int.tmod u1 n_), u2, u3)
  else
   match a18 c_b c_i c_h with
    | (u4, u5, u6) =>
     match a18 c_b u5 u6 with
      | (u7, u8, u9) =>
       match a18 c_b u8 u9 with
        | (u10, u11, u12) =>
         ((Int.tmod (((u4 * 65536) + (u7 * 256)) + u10) n_), u11, u12)
theorem l1Below_rng (b : List UInt8) (i h n : Int) : 0 ≤ (a0a b i h n).1 ∧ ((a0a b i h n).1 < n ∨ ((a0a b i h n).1 = 0 ∧ n ≤ 0)) := by
 unfold a0a
 cases hn : decide (n ≤ 0)
 ·have h0 := of_decide_eq_false hn
  simp only [cond_false]
  cases decide (n ≤ 256)
  ·simp only [cond_false]
   have q1 := l1Byte_rng b i h
   rcases e1 : a18 b i h with ⟨x1, i1, h1⟩
   have q2 := l1Byte_rng b i1 h1
   rcases e2 : a18 b i1 h1 with ⟨x2, i2, h2⟩
   have q3 := l1Byte_rng b i2 h2
   rcases e3 : a18 b i2 h2 with ⟨x3, i3, h3⟩
   rw [e1] at q1
   rw [e2] at q2
   rw [e3] at q3
   dsimp only at q1 q2 q3 ⊢
   exact tmod_below (by omega) (by omega)
  ·exact tmod_below (l1Byte_rng _ _ _).1 (by omega)
 ·have h0 := of_decide_eq_true hn
  exact ⟨Int.le_refl _, .inr ⟨rfl, h0⟩⟩
def a1e (code : (List UInt8)) : Int × Int × Int :=
 match a3b code with
  | (u1, u2) =>
   match a0a code u1 u2 6 with
    | (u3, u4, u5) =>
     match a0a code u4 u5 8 with
      | (u6, u7, u8) =>
       match a0a code u7 u8 900 with
        | (u9, u10, u11) =>
         (u3, u6, u9)
end Go.Stp

namespace Go.Proofs.YthdgpfbldbabmaaGreatDoor
open Go.Stp
set_option linter.unusedVariables false
set_option linter.unusedSimpArgs false
theorem f4 (w : World) (n : Nat) (code : (List UInt8)) (K0 M0) (N0 : RdSl (hp w) K0 M0 code) (hokcode : GoT.ok n code) :
 Does Tryz.prog 4 #[.slice K0 ((code).length) M0] w emp (pB (a4x code)) := by
 refine EN Tryz.func4 Z (aS1 N0) ?_
 refine R0 ?_
 exact R4 Z (by simp only [a4x, cT, cF])
theorem f40 (w : World) (n : Nat) (hn : n + 0 ≤ 9) (code : (List UInt8)) (K0 M0) (N0 : RdSl (hp w) K0 M0 code) (hokcode : GoT.ok n code) (o0_ : Int) (o1_ : Int) (hres : a3b code = (o0_, o1_)) :
 Does Tryz.prog 40 #[.slice K0 ((code).length) M0] w emp (Post w emp (fun b_ : Nat => .pointer (some ⟨b_, 0, none⟩)) (fun b_ => [MF.bx b_ 96 [.slice K0 ((code).length) M0, .int .i64 (o0_), .int .i64 (o1_)]]) (NN (o0_) ∧ I64 (o1_))) := by
 have hb := bS0 hn
 refine EN Tryz.func40 Z (aS1 N0) ?_
 refine R0 ?_
 refine WX.see Z Z Z (fun _ hΓ => looks_wrap Z Z Z Z) ?_
 refine R0 ?_
 have r1 : (code).length ≤ bd n := (okl hokcode).1
 refine WX.loop (ι := Int × Nat) ⟨fun | (h_, i) => (i ≤ (code).length) ∧ (-9223372036854775808 ≤ h_ ∧ h_ ≤ 9223372036854775807) ∧ (a3a code 0 (IntKind.i64.wrap (192917 + (((code).length : Nat) : Int))) = a3a ((code).drop i) i h_), fun | (h_, i) => (code).length - i, fun | (h_, i) => [(3, .v (.int .i64 (h_))), (4, .v (.int .i64 (((i : Nat) : Int)))), (0, .v (.slice K0 ((code).length) M0))], fun | (h_, i) => [], fun | (h_, i) => [], fun | (h_, i) => [(0, MF.rs .stb K0 M0 code)]⟩ (IntKind.i64.wrap (192917 + (((code).length : Nat) : Int)), 0) ⟨(Nat.zero_le _), (i64_wrap _), Z⟩
  (.cons Z (.cons Z (.cons Z (.nil)))) .nil .nil [0] Z ?_
 rintro ⟨h_, i⟩ ⟨v1, v2, v3⟩
 refine R0 ?_
 refine WX.cases 12 Z ?_ ?_ <;> intro h1
 ·skip
  have h1d := B.dt h1
  have e1i : i < (code).length := τ1
  obtain ⟨e1, e1h⟩ : ∃ e1, (code)[i]? = some e1 := ⟨_, List.getElem?_eq_getElem e1i⟩
  refine R0 ?_
  refine WX.cases 15 Z ?_ ?_ <;> intro h2
  ·skip
   have h2d := B.dt h2
   refine R0 ?_
   refine WX.see Z Z Z (fun _ hΓ => looks_wrap Z Z Z Z) ?_
   refine R0 ?_
   refine WX.idx 0 i ttOk Z Z Z Z Z Z Z Z Z Z e1i ?_
   rintro ad1 rfl
   refine WX.ldE 0 1 e1 ttOk Z Z Z Z Z Z Z Z e1h O O ?_
   rintro ⟨⟩
   refine WX.see Z Z Z (fun _ hΓ => looks_ofU8 ttOk Z Z Z Z Z Z) ?_
   refine WX.see Z Z Z (fun _ hΓ => looks_wrap Z Z Z Z) ?_
   refine WX.see Z Z Z (fun _ hΓ => looks_wrap Z Z Z Z) ?_
   refine WX.see Z Z Z (fun _ hΓ => looks_bits Z Z Z Z) ?_
   refine R0 ?_
   refine WX.see Z Z Z (fun _ hΓ => looks_arith Z Z Z Z τ2) ?_
   refine R0 ?_
   exact WX.iter (bitO .and (IntKind.i64.wrap ((IntKind.i64.wrap ((IntKind.i64.wrap (h_ * 137)) + ((e1).toNat : Int))) + 11)) 1073741823, i + 1) ⟨τ1, (bitO_I64 .and (IntKind.i64.wrap ((IntKind.i64.wrap ((IntKind.i64.wrap (h_ * 137)) + ((e1).toNat : Int))) + 11)) 1073741823), (by rw [v3, drop_get e1h]; simp only [a3a, h2, cT, cF])⟩ τ4 (.cons Z (.cons Z (.cons Z (.nil)))) .nil .nil [0] Z
  have h2d := B.df h2
  refine R0 ?_
  have hX1 : a3a code 0 (IntKind.i64.wrap (192917 + (((code).length : Nat) : Int))) = h_ := by rw [v3, drop_get e1h]; simp only [a3a, h2, cT, cF]
  have hP1 : a3b code = (0, h_) := by simp only [a3b, hX1, cT, cF]
  have hz1 := hP1.symm.trans hres
  obtain ⟨hz1, hz2⟩ := Prod.mk.inj hz1
  subst hz1
  subst hz2
  refine WX.retQ Z ?_
  intro w1 G bs hI hΓ
  exact Post.ofL 31 [] (bs 31) hI hΓ Z Z Z Z (⟨(show NN 0 from by unfold NN; omega), v2⟩)
 have h1d := B.df h1
 refine R0 ?_
 have hX2 : a3a code 0 (IntKind.i64.wrap (192917 + (((code).length : Nat) : Int))) = h_ := by rw [v3, List.drop_eq_nil_of_le (show (code).length ≤ i by omega)]; simp only [a3a, cT, cF]
 have hP2 : a3b code = (0, h_) := by simp only [a3b, hX2, cT, cF]
 have hz1 := hP2.symm.trans hres
 obtain ⟨hz1, hz2⟩ := Prod.mk.inj hz1
 subst hz1
 subst hz2
 refine WX.retQ Z ?_
 intro w1 G bs hI hΓ
 exact Post.ofL 31 [] (bs 31) hI hΓ Z Z Z Z (⟨(show NN 0 from by unfold NN; omega), v2⟩)
theorem f71 (w : World) (n : Nat) (hn : n + 0 ≤ 9) (H : GH) (hH : Le H (hp w)) (bc_ : Nat) (c_b : (List UInt8)) (K0 M0) (N0 : RdSl (cut (hp w) H) K0 M0 c_b) (c_i : Int) (c_h : Int) (hown : Sep H [MF.bx bc_ 96 [.slice K0 ((c_b).length) M0, .int .i64 (c_i), .int .i64 (c_h)]]) (hokc_b : GoT.ok n c_b) (hokc_i : NN c_i) (hokc_h : GoT.ok n c_h) (o0_ : Int) (o1_ : Int) (o2_ : Int) (hres : a18 c_b c_i c_h = (o0_, o1_, o2_)) :
 Does Tryz.prog 71 #[.pointer (some ⟨bc_, 0, none⟩)] w H (Post w H (fun _ : Unit => .int .i64 (o0_)) (fun _ => [MF.bx bc_ 96 [.slice K0 ((c_b).length) M0, .int .i64 (o1_), .int .i64 (o2_)]]) (GoT.ok n (o0_ : Int) ∧ NN (o1_) ∧ I64 (o2_))) := by
 have hb := bS0 hn
 have hc_bz : (c_b).length ≤ bd n := (okl hokc_b).1
 refine WX.enterP (tt := tt) (Γ := [(0, MF.rs .stb K0 M0 c_b)]) 1 Tryz.func71 Z J Z (allS_cons Z N0 allS_nil) hH hown (fun f hf => by cases hf) Z ?_
 refine R0 ?_
 refine WX.see Z Z Z (fun _ hΓ => looks_wrap Z Z Z Z) ?_
 refine WX.see Z Z Z (fun _ hΓ => looks_wrap Z Z Z Z) ?_
 refine R0 ?_
 refine WX.draw [] mixed ?_
 intro bs G0 hΓ0
 refine DX.takes (fuel := 9) ttOk [(0, true), (1, true), (2, true), (3, false)] J Z ?_
 refine DX.see 4 J Z Z Z Z (looks_shr Z Z Z τ9) ?_
 refine DX.takes (fuel := 4) ttOk [(5, true), (6, true), (7, true), (8, false)] J Z ?_
 refine DX.see 9 J Z Z Z Z (looks_shr Z Z Z τ9) ?_
 refine DX.see 10 J Z Z Z Z (looks_bits Z Z Z Z) ?_
 refine DX.see 11 J Z Z Z Z (looks_bits Z Z Z Z) ?_
 refine DX.takes (fuel := 0) ttOk [(12, true)] J Z ?_
 refine DX.tail2 [] Z Z J ?_
 refine R0 ?_
 refine WX.draw [] mixed ?_
 intro bs G0 hΓ0
 refine DX.takes (fuel := 0) ttOk [(0, true), (1, true), (2, true), (3, false), (4, true), (5, true), (6, true), (7, false), (8, true), (9, true)] J Z ?_
 refine DX.tail2 [] Z Z J ?_
 refine R0 ?_
 refine WX.cases 34 Z ?_ ?_ <;> intro h1
 ·skip
  have h1d := B.dt h1
  refine R0 ?_
  refine WX.draw [] mixed ?_
  intro bs G0 hΓ0
  refine DX.takes (fuel := 6) ttOk [(0, true), (1, true), (2, true), (3, true), (4, false), (5, true), (6, true), (7, true), (8, false)] J Z ?_
  have r1 : 0 ≤ c_i ∧ c_i ≤ 9223372036854775807 := hokc_i
  refine DX.slot 43 (y := .v (.int .i64 (((c_i).toNat : Nat) : Int))) Z (fun _ => congrArg (Value.int .i64) (show c_i = (((c_i).toNat : Nat) : Int) from by omega)) ?_
  have e1i : (c_i).toNat < (c_b).length := τ6
  obtain ⟨e1, e1h⟩ : ∃ e1, (c_b)[(c_i).toNat]? = some e1 := ⟨_, List.getElem?_eq_getElem e1i⟩
  refine DX.idx 9 0 ((c_i).toNat) ttOk hΓ0 J Z Z Z Z Z Z Z Z Z Z Z e1i ?_
  rintro ad1 rfl
  refine DX.ldE 10 0 2 e1 ttOk hΓ0 J Z Z Z Z Z Z Z Z e1h O O ?_
  rintro ⟨⟩
  refine DX.see 11 J Z Z Z Z (looks_ofU8 ttOk Z Z Z Z Z Z) ?_
  refine DX.seeP 12 J Z Z Z Z (looksP_wrap Z Z Z Z) ?_
  refine DX.see 13 J Z Z Z Z (looks_bits Z Z Z Z) ?_
  refine DX.takes (fuel := 0) ttOk [(14, true)] J Z ?_
  refine DX.tail2 [] Z Z J ?_
  refine R0 ?_
  refine WX.see Z Z Z (fun _ hΓ => looks_arith Z Z Z Z τ2) ?_
  refine R0 ?_
  have hP1 : a18 c_b c_i c_h = (bitO .and (IntKind.i64.wrap ((bitO .and (bitO .xor (Int.fdiv (IntKind.i64.wrap ((IntKind.i64.wrap (c_h * 6364136223846793005)) + 1442695040888963407)) (2 ^ (min (Int.toNat (33 : Int)) 64))) (Int.fdiv (IntKind.i64.wrap ((IntKind.i64.wrap (c_h * 6364136223846793005)) + 1442695040888963407)) (2 ^ (min (Int.toNat (47 : Int)) 64)))) 255) + ((e1).toNat : Int))) 255, c_i + 1, IntKind.i64.wrap ((IntKind.i64.wrap (c_h * 6364136223846793005)) + 1442695040888963407)) := by simp only [a18, h1, e1h, cT, cF]
  have hz1 := hP1.symm.trans hres
  obtain ⟨hz1, hz2⟩ := Prod.mk.inj hz1
  obtain ⟨hz2, hz3⟩ := Prod.mk.inj hz2
  subst hz1
  subst hz2
  subst hz3
  refine R1 ?_
  intro w1 G bs hI hΓ
  exact Post.ofL 999 [] () hI hΓ Z Z Z (by rw [hI.pin _ rfl]; first | done | rfl) (⟨(show I64 (bitO .and (IntKind.i64.wrap ((bitO .and (bitO .xor (Int.fdiv (IntKind.i64.wrap ((IntKind.i64.wrap (c_h * 6364136223846793005)) + 1442695040888963407)) (2 ^ (min (Int.toNat (33 : Int)) 64))) (Int.fdiv (IntKind.i64.wrap ((IntKind.i64.wrap (c_h * 6364136223846793005)) + 1442695040888963407)) (2 ^ (min (Int.toNat (47 : Int)) 64)))) 255) + ((e1).toNat : Int))) 255) from bitO_I64 _ _ _), ⟨(show NN (c_i + 1) from by unfold NN; omega), (i64_wrap _)⟩⟩)
 have h1d := B.df h1
 refine R0 ?_
 have hP2 : a18 c_b c_i c_h = (bitO .and (bitO .xor (Int.fdiv (IntKind.i64.wrap ((IntKind.i64.wrap (c_h * 6364136223846793005)) + 1442695040888963407)) (2 ^ (min (Int.toNat (33 : Int)) 64))) (Int.fdiv (IntKind.i64.wrap ((IntKind.i64.wrap (c_h * 6364136223846793005)) + 1442695040888963407)) (2 ^ (min (Int.toNat (47 : Int)) 64)))) 255, c_i, IntKind.i64.wrap ((IntKind.i64.wrap (c_h * 6364136223846793005)) + 1442695040888963407)) := by simp only [a18, h1, cT, cF]
 have hz1 := hP2.symm.trans hres
 obtain ⟨hz1, hz2⟩ := Prod.mk.inj hz1
 obtain ⟨hz2, hz3⟩ := Prod.mk.inj hz2
 subst hz1
 subst hz2
 subst hz3
 refine R1 ?_
 intro w1 G bs hI hΓ
 exact Post.ofL 999 [] () hI hΓ Z Z Z (by rw [hI.pin _ rfl]; first | done | rfl) (⟨(show I64 (bitO .and (bitO .xor (Int.fdiv (IntKind.i64.wrap ((IntKind.i64.wrap (c_h * 6364136223846793005)) + 1442695040888963407)) (2 ^ (min (Int.toNat (33 : Int)) 64))) (Int.fdiv (IntKind.i64.wrap ((IntKind.i64.wrap (c_h * 6364136223846793005)) + 1442695040888963407)) (2 ^ (min (Int.toNat (47 : Int)) 64)))) 255) from bitO_I64 _ _ _), ⟨hokc_i, (i64_wrap _)⟩⟩)
theorem f41 (w : World) (n : Nat) (hn : n + 0 ≤ 9) (H : GH) (hH : Le H (hp w)) (bc_ : Nat) (c_b : (List UInt8)) (K0 M0) (N0 : RdSl (cut (hp w) H) K0 M0 c_b) (c_i : Int) (c_h : Int) (n_ : Int) (hown : Sep H [MF.bx bc_ 96 [.slice K0 ((c_b).length) M0, .int .i64 (c_i), .int .i64 (c_h)]]) (hokc_b : GoT.ok n c_b) (hokc_i : NN c_i) (hokc_h : GoT.ok n c_h) (hokn_ : GoT.ok n n_) (o0_ : Int) (o1_ : Int) (o2_ : Int) (hres : a0a c_b c_i c_h n_ = (o0_, o1_, o2_)) :
 Does Tryz.prog 41 #[.pointer (some ⟨bc_, 0, none⟩), .int .i64 (n_)] w H (Post w H (fun _ : Unit => .int .i64 (o0_)) (fun _ => [MF.bx bc_ 96 [.slice K0 ((c_b).length) M0, .int .i64 (o1_), .int .i64 (o2_)]]) (GoT.ok n (o0_ : Int) ∧ NN (o1_) ∧ I64 (o2_))) := by
 have hb := bS0 hn
 have hc_bz : (c_b).length ≤ bd n := (okl hokc_b).1
 refine WX.enterP (tt := tt) (Γ := [(0, MF.rs .stb K0 M0 c_b)]) 1 Tryz.func41 Z J Z (allS_cons Z N0 allS_nil) hH hown (fun f hf => by cases hf) Z ?_
 refine R0 ?_
 refine WX.cases 9 Z ?_ ?_ <;> intro h1
 ·skip
  have h1d := B.dt h1
  refine R0 ?_
  have hP1 : a0a c_b c_i c_h n_ = (0, c_i, c_h) := by simp only [a0a, h1, cT, cF]
  have hz1 := hP1.symm.trans hres
  obtain ⟨hz1, hz2⟩ := Prod.mk.inj hz1
  obtain ⟨hz2, hz3⟩ := Prod.mk.inj hz2
  subst hz1
  subst hz2
  subst hz3
  refine R1 ?_
  intro w1 G bs hI hΓ
  exact Post.ofL 999 [] () hI hΓ Z Z Z (by rw [hI.pin _ rfl]; first | done | rfl) (⟨(i6 0), ⟨hokc_i, hokc_h⟩⟩)
 have h1d := B.df h1
 refine R0 ?_
 refine WX.cases 11 Z ?_ ?_ <;> intro h2
 ·skip
  have h2d := B.dt h2
  refine R0 ?_
  obtain ⟨⟨u1, u2, u3⟩, hu1⟩ := xE (a18 c_b c_i c_h)
  refine CP 999 2 Z Z Z Z Z Z O Z (fun w β H η σ γ => f71 w n τ1 H η (β 999) c_b K0 M0 (γ.q 0 Z) c_i c_h σ hokc_b hokc_i hokc_h u1 u2 u3 hu1) ?_
  rintro ⟨⟩ hq1
  have q1 := l1Byte_rng c_b c_i c_h
  rw [hu1] at q1
  try dsimp only at q1
  refine R0 ?_
  have r1 := tmod_rng u1 (show (0 : Int) < n_ by omega)
  refine WX.see Z Z Z (fun _ hΓ => looks_rem Z Z Z τ1) ?_
  refine R0 ?_
  have hP2 : a0a c_b c_i c_h n_ = (Int.tmod u1 n_, u2, u3) := by simp only [a0a, h1, h2, hu1, cT, cF]
  have r2 : -9223372036854775808 ≤ n_ ∧ n_ ≤ 9223372036854775807 := hokn_
  have r3 : -9223372036854775808 ≤ u1 ∧ u1 ≤ 9223372036854775807 := hq1.1
  have hz1 := hP2.symm.trans hres
  obtain ⟨hz1, hz2⟩ := Prod.mk.inj hz1
  obtain ⟨hz2, hz3⟩ := Prod.mk.inj hz2
  subst hz1
  subst hz2
  subst hz3
  refine R1 ?_
  intro w1 G bs hI hΓ
  exact Post.ofL 999 [] () hI hΓ Z Z Z (by rw [hI.pin _ rfl]; first | done | rfl) (⟨(i6 (Int.tmod u1 n_)), ⟨hq1.2.1, hq1.2.2⟩⟩)
 have h2d := B.df h2
 refine R0 ?_
 obtain ⟨⟨u4, u5, u6⟩, hu2⟩ := xE (a18 c_b c_i c_h)
 refine CP 999 3 Z Z Z Z Z Z O Z (fun w β H η σ γ => f71 w n τ1 H η (β 999) c_b K0 M0 (γ.q 0 Z) c_i c_h σ hokc_b hokc_i hokc_h u4 u5 u6 hu2) ?_
 rintro ⟨⟩ hq2
 have q2 := l1Byte_rng c_b c_i c_h
 rw [hu2] at q2
 try dsimp only at q2
 refine R0 ?_
 obtain ⟨⟨u7, u8, u9⟩, hu3⟩ := xE (a18 c_b u5 u6)
 refine CP 999 4 Z Z Z Z Z Z O Z (fun w β H η σ γ => f71 w n τ1 H η (β 999) c_b K0 M0 (γ.q 0 Z) u5 u6 σ hokc_b hq2.2.1 hq2.2.2 u7 u8 u9 hu3) ?_
 rintro ⟨⟩ hq3
 have q3 := l1Byte_rng c_b u5 u6
 rw [hu3] at q3
 try dsimp only at q3
 refine R0 ?_
 obtain ⟨⟨u10, u11, u12⟩, hu4⟩ := xE (a18 c_b u8 u9)
 refine CP 999 5 Z Z Z Z Z Z O Z (fun w β H η σ γ => f71 w n τ1 H η (β 999) c_b K0 M0 (γ.q 0 Z) u8 u9 σ hokc_b hq3.2.1 hq3.2.2 u10 u11 u12 hu4) ?_
 rintro ⟨⟩ hq4
 have q4 := l1Byte_rng c_b u8 u9
 rw [hu4] at q4
 try dsimp only at q4
 refine R0 ?_
 have r4 : -9223372036854775808 ≤ u4 ∧ u4 ≤ 9223372036854775807 := hq2.1
 refine WX.see Z Z Z (fun _ hΓ => looks_arith Z Z Z Z τ2) ?_
 refine R0 ?_
 have r5 : -9223372036854775808 ≤ u7 ∧ u7 ≤ 9223372036854775807 := hq3.1
 refine WX.see Z Z Z (fun _ hΓ => looks_arith Z Z Z Z τ2) ?_
 refine WX.see Z Z Z (fun _ hΓ => looks_arith Z Z Z Z τ2) ?_
 refine R0 ?_
 have r6 : -9223372036854775808 ≤ u10 ∧ u10 ≤ 9223372036854775807 := hq4.1
 refine WX.see Z Z Z (fun _ hΓ => looks_arith Z Z Z Z τ2) ?_
 refine R0 ?_
 have r7 := tmod_rng (((u4 * 65536) + (u7 * 256)) + u10) (show (0 : Int) < n_ by omega)
 refine WX.see Z Z Z (fun _ hΓ => looks_rem Z Z Z τ1) ?_
 refine R0 ?_
 have hP3 : a0a c_b c_i c_h n_ = (Int.tmod (((u4 * 65536) + (u7 * 256)) + u10) n_, u11, u12) := by simp only [a0a, h1, h2, hu2, hu3, hu4, cT, cF]
 have r8 : -9223372036854775808 ≤ n_ ∧ n_ ≤ 9223372036854775807 := hokn_
 have hz1 := hP3.symm.trans hres
 obtain ⟨hz1, hz2⟩ := Prod.mk.inj hz1
 obtain ⟨hz2, hz3⟩ := Prod.mk.inj hz2
 subst hz1
 subst hz2
 subst hz3
 refine R1 ?_
 intro w1 G bs hI hΓ
 exact Post.ofL 999 [] () hI hΓ Z Z Z (by rw [hI.pin _ rfl]; first | done | rfl) (⟨(i6 (Int.tmod (((u4 * 65536) + (u7 * 256)) + u10) n_)), ⟨hq4.2.1, hq4.2.2⟩⟩)
theorem f11 (w : World) (n : Nat) (hn : n + 0 ≤ 9) (code : (List UInt8)) (K0 M0) (N0 : RdSl (hp w) K0 M0 code) (hokcode : GoT.ok n code) :
 Does Tryz.prog 11 #[.slice K0 ((code).length) M0] w emp (fun (rv : Value) (_ : World) => rv = .tuple #[.int .i64 ((a1e code).1), .int .i64 ((a1e code).2.1), .int .i64 ((a1e code).2.2)] ∧ GoT.ok n ((a1e code).1 : Int) ∧ GoT.ok n ((a1e code).2.1 : Int) ∧ GoT.ok n ((a1e code).2.2 : Int)) := by
 have hb := bS0 hn
 refine EN Tryz.func11 Z (aS1 N0) ?_
 refine R0 ?_
 obtain ⟨⟨u1, u2⟩, hu1⟩ := xE (a3b code)
 refine WX.callF (ds := fun _ => []) 1 (fun _ _ _ => All.nil) (fun _ f hf => by cases hf) Z Z Z Z Z O Z (fun w G bs hI hΓ => f40 w n τ1 code K0 M0 (hΓ.get 0 Z) hokcode u1 u2 hu1) O O ?_
 rintro bn1 hq1
 refine WX.adopt 7 1 Z Z Z ?_
 refine R0 ?_
 obtain ⟨⟨u3, u4, u5⟩, hu2⟩ := xE (a0a code u1 u2 6)
 refine CP 7 2 Z Z Z Z Z Z O Z (fun w β H η σ γ => f41 w n τ1 H η (β 7) code K0 M0 (γ.q 0 Z) u1 u2 6 σ hokcode hq1.1 hq1.2 (i6 6) u3 u4 u5 hu2) ?_
 rintro ⟨⟩ hq2
 have q1 := l1Below_rng code u1 u2 6
 rw [hu2] at q1
 try dsimp only at q1
 refine R0 ?_
 obtain ⟨⟨u6, u7, u8⟩, hu3⟩ := xE (a0a code u4 u5 8)
 refine CP 7 3 Z Z Z Z Z Z O Z (fun w β H η σ γ => f41 w n τ1 H η (β 7) code K0 M0 (γ.q 0 Z) u4 u5 8 σ hokcode hq2.2.1 hq2.2.2 (i6 8) u6 u7 u8 hu3) ?_
 rintro ⟨⟩ hq3
 have q2 := l1Below_rng code u4 u5 8
 rw [hu3] at q2
 try dsimp only at q2
 refine R0 ?_
 obtain ⟨⟨u9, u10, u11⟩, hu4⟩ := xE (a0a code u7 u8 900)
 refine CP 7 4 Z Z Z Z Z Z O Z (fun w β H η σ γ => f41 w n τ1 H η (β 7) code K0 M0 (γ.q 0 Z) u7 u8 900 σ hokcode hq3.2.1 hq3.2.2 (i6 900) u9 u10 u11 hu4) ?_
 rintro ⟨⟩ hq4
 have q3 := l1Below_rng code u7 u8 900
 rw [hu4] at q3
 try dsimp only at q3
 refine R0 ?_
 have hP1 : a1e code = (u3, u6, u9) := by simp only [a1e, hu1, hu2, hu3, hu4, cT, cF]
 refine R1 ?_
 intro w1 G bs hI hΓ
 rw [hP1]
 exact ⟨Z, ⟨hq2.1, ⟨hq3.1, hq4.1⟩⟩⟩
end Go.Proofs.YthdgpfbldbabmaaGreatDoor

namespace Go.Stp
set_option linter.unusedVariables false
set_option linter.unusedSimpArgs false
def a0s (n_ : Name) : Name :=
 n_
def a0f (n_ : Name) : Name :=
 n_
def a3l (x_ : DataP) : DataP :=
 (DataP.mk (a0s x_.name) x_.content (a0s x_.keyName) x_.freshUntil x_.signature)
def a1t (x_ : DataP) : DataP :=
 (DataP.mk (a0f x_.name) x_.content (a0f x_.keyName) x_.freshUntil x_.signature)
def a0d (a : Consumer) : Consumer :=
 (Consumer.mk a.node a.index (a0s a.name) a.attempts a.wait a.satisfied (a3l a.data))
def a0g (a : Consumer) : Consumer :=
 (Consumer.mk a.node a.index (a0f a.name) a.attempts a.wait a.satisfied (a1t a.data))
def a3t (node : Int) (i : Int) (n_ : Name) : Consumer :=
 (Consumer.mk node i (a0s n_) 0 0 false (DataP.mk (Name.mk ([])) ([]) (Name.mk ([])) 0 0))
def a0e (node : Int) (i : Int) (n_ : Name) : Consumer :=
 (Consumer.mk node i (a0f n_) 0 0 false (DataP.mk (Name.mk ([])) ([]) (Name.mk ([])) 0 0))
def a06 (a : Consumer) : Consumer × Interest × Bool :=
 bif a.satisfied then
  ((a0d a), (Interest.mk (Name.mk ([])) 0 0 0), false)
 else
  bif (a.attempts == 900) then
   ((a0d a), (Interest.mk (Name.mk ([])) 0 0 0), false)
  else
   bif decide (a.wait > 0) then
    ((Consumer.mk ((a0d a).node) ((a0d a).index) ((a0d a).name) ((a0d a).attempts) (IntKind.i64.wrap (((a0d a).wait) - 1)) ((a0d a).satisfied) ((a0d a).data)), (Interest.mk (Name.mk ([])) 0 0 0), false)
   else
    ((Consumer.mk ((a0d a).node) ((a0d a).index) ((a0d a).name) (IntKind.i64.wrap (((a0d a).attempts) + 1)) 5 ((a0d a).satisfied) ((a0d a).data)), (Interest.mk (a0s a.name) (a1z a.node a.index (IntKind.i64.wrap (((a0d a).attempts) + 1))) 16 4), true)
def a09 (a : Consumer) : Consumer × Interest × Bool :=
 bif a.satisfied then
  ((a0g a), (Interest.mk (Name.mk ([])) 0 0 0), false)
 else
  bif (a.attempts == 900) then
   ((a0g a), (Interest.mk (Name.mk ([])) 0 0 0), false)
  else
   bif decide (a.wait > 0) then
    ((Consumer.mk ((a0g a).node) ((a0g a).index) ((a0g a).name) ((a0g a).attempts) (IntKind.i64.wrap (a.wait - 1)) ((a0g a).satisfied) ((a0g a).data)), (Interest.mk (Name.mk ([])) 0 0 0), false)
   else
    ((Consumer.mk ((a0g a).node) ((a0g a).index) ((a0g a).name) (IntKind.i64.wrap (a.attempts + 1)) 5 ((a0g a).satisfied) ((a0g a).data)), (Interest.mk (a0f a.name) (a44 a.node a.index (IntKind.i64.wrap (a.attempts + 1))) 16 4), true)
end Go.Stp

namespace Go.Proofs.YthdgpfbldbabmaaGreatDoor
open Go.Stp
set_option linter.unusedVariables false
set_option linter.unusedSimpArgs false
theorem f62 (w : World) (n : Nat) (hn : n + 0 ≤ 9) (s : (List Str)) (ps cs) (N0 : RdSl (hp w) ps cs s) (hoks : GoT.ok n s) :
 Does Tryz.prog 62 #[.slice ps ((s).length) cs] w emp (Post w emp (fun x : GoT.X ((List Str)) => (GoT.sh (s : (List Str)) x).headD undef) (fun x => GoT.oa (s : (List Str)) x) (GoT.ok n (s : (List Str)))) := by
 have hb := bS0 hn
 refine EN Tryz.func62 Z (aS1 N0) ?_
 refine R0 ?_
 refine WX.see Z Z Z (fun _ hΓ => looks_nil ttOk Z Z Z Z) ?_
 refine WX.cases 4 Z (fun hp1 => ?_) (fun hp1 => ?_)
 ·skip
  obtain rfl : ps = none := by simpa using hp1
  refine WX.know (fun G hΓ => rdSl_none (hΓ.get 0 Z)) ?_
  intro ln1
  refine R0 ?_
  subst ln1
  refine WX.free 1 (MF.os none 0 ([] : List Str)) (owSl_nil _ _) ?_
  refine R1 ?_
  intro w1 G bs hI hΓ
  exact Post.of [1] (none, 0) hI hΓ Z Z Z (by assumption)
 refine R0 ?_
 refine WX.bld ttOk Z Z Z Z Z Z Z ?_
 intro p1
 refine R0 ?_
 refine WX.free 2 (MF.ol [] ([] : List Str)) Z ?_
 have r1 : (s).length ≤ bd n := (okl hoks).1
 refine WX.appG1 5 0 3 (s : List Str).length ttOk Z Z Z Z Z Z Z Z Z Z Z Z Z τ7 τ1 τ1 (fun _ _ _ => Z) ?_
 intro ys1 p2 c1
 refine WX.know (fun G hΓ => (hΓ.get 3 Z : RdL _ _ _).flat) ?_
 intro hf1
 refine WX.turn [2] 4 Z (fun h hs => ol_flat hs hf1) (gs := [MF.ol ([] ++ ys1) (s : List Str)]) Z ?_
 refine R0 ?_
 refine WX.seal 5 4 5 Z Z Z Z Z ?_
 refine R1 ?_
 intro w1 G bs hI hΓ
 exact Post.of [6] (p2, c1) hI hΓ Z Z Z (by assumption)
theorem f70 (w : World) (n : Nat) (hn : n + 0 ≤ 9) (s : (List UInt8)) (ps cs) (N0 : RdSl (hp w) ps cs s) (hoks : GoT.ok n s) :
 Does Tryz.prog 70 #[.slice ps ((s).length) cs] w emp (Post w emp (fun x : GoT.X ((List UInt8)) => (GoT.sh (s : (List UInt8)) x).headD undef) (fun x => GoT.oa (s : (List UInt8)) x) (GoT.ok n (s : (List UInt8)))) := by
 have hb := bS0 hn
 refine EN Tryz.func70 Z (aS1 N0) ?_
 refine R0 ?_
 refine WX.see Z Z Z (fun _ hΓ => looks_nil ttOk Z Z Z Z) ?_
 refine WX.cases 4 Z (fun hp1 => ?_) (fun hp1 => ?_)
 ·skip
  obtain rfl : ps = none := by simpa using hp1
  refine WX.know (fun G hΓ => rdSl_none (hΓ.get 0 Z)) ?_
  intro ln1
  refine R0 ?_
  subst ln1
  refine WX.free 1 (MF.os none 0 ([] : List UInt8)) (owSl_nil _ _) ?_
  refine R1 ?_
  intro w1 G bs hI hΓ
  exact Post.of [1] (none, 0) hI hΓ Z Z Z (by assumption)
 refine R0 ?_
 refine WX.bld ttOk Z Z Z Z Z Z Z ?_
 intro p1
 refine R0 ?_
 refine WX.free 2 (MF.ol [] ([] : List UInt8)) Z ?_
 have r1 : (s).length ≤ bd n := (okl hoks).1
 refine WX.appG1 5 0 3 (s : List UInt8).length ttOk Z Z Z Z Z Z Z Z Z Z Z Z Z τ7 τ1 τ1 (fun _ _ _ => Z) ?_
 intro ys1 p2 c1
 refine WX.know (fun G hΓ => (hΓ.get 3 Z : RdL _ _ _).flat) ?_
 intro hf1
 refine WX.turn [2] 4 Z (fun h hs => ol_flat hs hf1) (gs := [MF.ol ([] ++ ys1) (s : List UInt8)]) Z ?_
 refine R0 ?_
 refine WX.seal 5 4 5 Z Z Z Z Z ?_
 refine R1 ?_
 intro w1 G bs hI hΓ
 exact Post.of [6] (p2, c1) hI hΓ Z Z Z (by assumption)
theorem f31 (w : World) (n : Nat) (hn : n + 0 ≤ 9) (n_ : Name) (K0 M0) (N0 : RdSl (hp w) K0 M0 n_.parts) (hokn_ : GoT.ok n n_) :
 Does Tryz.prog 31 #[.agg #[.slice K0 ((n_.parts).length) M0]] w emp (Post w emp (fun x : GoT.X (Name) => .agg ⟨GoT.sh ((a0s n_) : Name) x⟩) (fun x => GoT.oa ((a0s n_) : Name) x) (GoT.ok n ((a0s n_) : Name))) := by
 have hb := bS0 hn
 refine EN Tryz.func31 Z (aS1 N0) ?_
 refine R0 ?_
 refine CF 1 Z Z Z Z Z O Z (fun w γ => f62 w n τ1 n_.parts K0 M0 (γ.q 0 Z) (ok_Name hokn_)) ?_
 rintro ⟨p1, c1⟩ hq1
 refine R0 ?_
 have hP1 : a0s n_ = n_ := by simp only [a0s, cT, cF]
 refine R1 ?_
 intro w1 G bs hI hΓ
 rw [hP1]
 exact Post.of [2] (p1, c1) hI hΓ Z Z Z hq1
theorem f33 (w : World) (n : Nat) (hn : n + 0 ≤ 9) (n_ : Name) (K0 M0) (N0 : RdSl (hp w) K0 M0 n_.parts) (hokn_ : GoT.ok n n_) :
 Does Tryz.prog 33 #[.agg #[.slice K0 ((n_.parts).length) M0]] w emp (Post w emp (fun x : GoT.X (Name) => .agg ⟨GoT.sh ((a0f n_) : Name) x⟩) (fun x => GoT.oa ((a0f n_) : Name) x) (GoT.ok n ((a0f n_) : Name))) := by
 have hb := bS0 hn
 refine EN Tryz.func33 Z (aS1 N0) ?_
 refine R0 ?_
 refine WX.bld ttOk Z Z Z Z Z Z Z ?_
 intro p1
 refine R0 ?_
 refine WX.free 1 (MF.ol [] ([] : List Str)) Z ?_
 have r1 : (n_.parts).length ≤ bd n := (okl (ok_Name hokn_)).1
 refine WX.appG1 3 0 2 (n_.parts : List Str).length ttOk Z Z Z Z Z Z Z Z Z Z Z Z Z τ7 τ1 τ1 (fun _ _ _ => Z) ?_
 intro ys1 p2 c1
 refine WX.know (fun G hΓ => (hΓ.get 2 Z : RdL _ _ _).flat) ?_
 intro hf1
 refine WX.turn [1] 3 Z (fun h hs => ol_flat hs hf1) (gs := [MF.ol ([] ++ ys1) (n_.parts : List Str)]) Z ?_
 refine R0 ?_
 refine WX.seal 3 3 4 Z Z Z Z Z ?_
 have hP1 : a0f n_ = n_ := by simp only [a0f, cT, cF]
 refine R1 ?_
 intro w1 G bs hI hΓ
 rw [hP1]
 exact Post.of [5] (p2, c1) hI hΓ Z Z Z (okl_mk τ1 (okl (ok_Name hokn_)).2 : GoT.ok n (n_.parts : List Str))
theorem f39 (w : World) (n : Nat) (hn : n + 0 ≤ 9) (x_ : DataP) (K0 M0) (N0 : RdSl (hp w) K0 M0 x_.name.parts) (K1 M1) (N1 : RdSl (hp w) K1 M1 x_.content) (K2 M2) (N2 : RdSl (hp w) K2 M2 x_.keyName.parts) (hokx_ : GoT.ok n x_) :
 Does Tryz.prog 39 #[.agg #[.slice K0 ((x_.name.parts).length) M0, .slice K1 ((x_.content).length) M1, .slice K2 ((x_.keyName.parts).length) M2, .int .i64 (x_.freshUntil), .int .i64 (x_.signature)]] w emp (Post w emp (fun x : GoT.X (DataP) => .agg ⟨GoT.sh ((a3l x_) : DataP) x⟩) (fun x => GoT.oa ((a3l x_) : DataP) x) (GoT.ok n ((a3l x_) : DataP))) := by
 have hb := bS0 hn
 refine EN Tryz.func39 Z (aS3 N0 N1 N2) ?_
 refine R0 ?_
 refine CF 3 Z Z Z Z Z O Z (fun w γ => f31 w n τ1 x_.name K0 M0 (γ.q 0 Z) ((ok_DataP hokx_).1)) ?_
 rintro ⟨p1, c1⟩ hq1
 refine R0 ?_
 refine CF 5 Z Z Z Z Z O Z (fun w γ => f70 w n τ1 x_.content K1 M1 (γ.q 1 Z) ((ok_DataP hokx_).2.1)) ?_
 rintro ⟨p2, c2⟩ hq2
 refine R0 ?_
 refine CF 7 Z Z Z Z Z O Z (fun w γ => f31 w n τ1 x_.keyName K2 M2 (γ.q 2 Z) ((ok_DataP hokx_).2.2.1)) ?_
 rintro ⟨p3, c3⟩ hq3
 refine R0 ?_
 have hP1 : a3l x_ = (DataP.mk (a0s x_.name) x_.content (a0s x_.keyName) x_.freshUntil x_.signature) := by simp only [a3l, cT, cF]
 refine R1 ?_
 intro w1 G bs hI hΓ
 rw [hP1]
 exact Post.of [4, 6, 8] ((p1, c1), (p2, c2), (p3, c3), (), ()) hI hΓ Z Z Z (And.intro hq1 (And.intro hq2 (And.intro hq3 (And.intro (ok_DataP hokx_).2.2.2.1 (ok_DataP hokx_).2.2.2.2))))
theorem f46 (w : World) (n : Nat) (hn : n + 0 ≤ 9) (x_ : DataP) (K0 M0) (N0 : RdSl (hp w) K0 M0 x_.name.parts) (K1 M1) (N1 : RdSl (hp w) K1 M1 x_.content) (K2 M2) (N2 : RdSl (hp w) K2 M2 x_.keyName.parts) (hokx_ : GoT.ok n x_) :
 Does Tryz.prog 46 #[.agg #[.slice K0 ((x_.name.parts).length) M0, .slice K1 ((x_.content).length) M1, .slice K2 ((x_.keyName.parts).length) M2, .int .i64 (x_.freshUntil), .int .i64 (x_.signature)]] w emp (Post w emp (fun x : GoT.X (DataP) => .agg ⟨GoT.sh ((a1t x_) : DataP) x⟩) (fun x => GoT.oa ((a1t x_) : DataP) x) (GoT.ok n ((a1t x_) : DataP))) := by
 have hb := bS0 hn
 refine EN Tryz.func46 Z (aS3 N0 N1 N2) ?_
 refine R0 ?_
 refine CF 3 Z Z Z Z Z O Z (fun w γ => f33 w n τ1 x_.name K0 M0 (γ.q 0 Z) ((ok_DataP hokx_).1)) ?_
 rintro ⟨p1, c1⟩ hq1
 refine R0 ?_
 refine WX.bld ttOk Z Z Z Z Z Z Z ?_
 intro p2
 refine R0 ?_
 refine WX.free 5 (MF.ol [] ([] : List UInt8)) Z ?_
 have r1 : (x_.content).length ≤ bd n := (okl (ok_DataP hokx_).2.1).1
 refine WX.appG1 9 1 6 (x_.content : List UInt8).length ttOk Z Z Z Z Z Z Z Z Z Z Z Z Z τ7 τ1 τ1 (fun _ _ _ => Z) ?_
 intro ys1 p3 c2
 refine WX.know (fun G hΓ => (hΓ.get 6 Z : RdL _ _ _).flat) ?_
 intro hf1
 refine WX.turn [5] 7 Z (fun h hs => ol_flat hs hf1) (gs := [MF.ol ([] ++ ys1) (x_.content : List UInt8)]) Z ?_
 refine R0 ?_
 refine CF 8 Z Z Z Z Z O Z (fun w γ => f33 w n τ1 x_.keyName K2 M2 (γ.q 2 Z) ((ok_DataP hokx_).2.2.1)) ?_
 rintro ⟨p4, c3⟩ hq2
 refine R0 ?_
 refine WX.seal 9 7 10 Z Z Z Z Z ?_
 have hP1 : a1t x_ = (DataP.mk (a0f x_.name) x_.content (a0f x_.keyName) x_.freshUntil x_.signature) := by simp only [a1t, cT, cF]
 refine R1 ?_
 intro w1 G bs hI hΓ
 rw [hP1]
 exact Post.of [4, 11, 9] ((p1, c1), (p3, c2), (p4, c3), (), ()) hI hΓ Z Z Z (And.intro hq1 (And.intro (okl_mk τ1 (fun _ _ => trivial) : GoT.ok n (x_.content : List UInt8)) (And.intro hq2 (And.intro (ok_DataP hokx_).2.2.2.1 (ok_DataP hokx_).2.2.2.2))))
theorem f30 (w : World) (n : Nat) (hn : n + 0 ≤ 9) (a : Consumer) (K0 M0) (N0 : RdSl (hp w) K0 M0 a.name.parts) (K1 M1) (N1 : RdSl (hp w) K1 M1 a.data.name.parts) (K2 M2) (N2 : RdSl (hp w) K2 M2 a.data.content) (K3 M3) (N3 : RdSl (hp w) K3 M3 a.data.keyName.parts) (hoka : GoT.ok n a) :
 Does Tryz.prog 30 #[.agg #[.int .i64 (a.node), .int .i64 (a.index), .slice K0 ((a.name.parts).length) M0, .int .i64 (a.attempts), .int .i64 (a.wait), .bool a.satisfied, .slice K1 ((a.data.name.parts).length) M1, .slice K2 ((a.data.content).length) M2, .slice K3 ((a.data.keyName.parts).length) M3, .int .i64 (a.data.freshUntil), .int .i64 (a.data.signature)]] w emp (Post w emp (fun x : GoT.X (Consumer) => .agg ⟨GoT.sh ((a0d a) : Consumer) x⟩) (fun x => GoT.oa ((a0d a) : Consumer) x) (GoT.ok n ((a0d a) : Consumer))) := by
 have hb := bS0 hn
 refine EN Tryz.func30 Z (aS4 N0 N1 N2 N3) ?_
 refine R0 ?_
 refine CF 4 Z Z Z Z Z O Z (fun w γ => f31 w n τ1 a.name K0 M0 (γ.q 0 Z) ((ok_Consumer hoka).2.2.1)) ?_
 rintro ⟨p1, c1⟩ hq1
 refine R0 ?_
 refine CF 6 Z Z Z Z Z O Z (fun w γ => f39 w n τ1 a.data K1 M1 (γ.q 1 Z) K2 M2 (γ.q 2 Z) K3 M3 (γ.q 3 Z) ((ok_Consumer hoka).2.2.2.2.2.2)) ?_
 rintro ⟨⟨p2, c2⟩, ⟨p3, c3⟩, ⟨p4, c4⟩, ⟨⟩, ⟨⟩⟩ hq2
 refine R0 ?_
 have hP1 : a0d a = (Consumer.mk a.node a.index (a0s a.name) a.attempts a.wait a.satisfied (a3l a.data)) := by simp only [a0d, cT, cF]
 refine R1 ?_
 intro w1 G bs hI hΓ
 rw [hP1]
 exact Post.of [5, 9, 10, 11] ((), (), (p1, c1), (), (), (), ((p2, c2), (p3, c3), (p4, c4), (), ())) hI hΓ Z Z Z (And.intro (ok_Consumer hoka).1 (And.intro (ok_Consumer hoka).2.1 (And.intro hq1 (And.intro (ok_Consumer hoka).2.2.2.1 (And.intro (ok_Consumer hoka).2.2.2.2.1 (And.intro trivial hq2))))))
theorem f32 (w : World) (n : Nat) (hn : n + 0 ≤ 9) (a : Consumer) (K0 M0) (N0 : RdSl (hp w) K0 M0 a.name.parts) (K1 M1) (N1 : RdSl (hp w) K1 M1 a.data.name.parts) (K2 M2) (N2 : RdSl (hp w) K2 M2 a.data.content) (K3 M3) (N3 : RdSl (hp w) K3 M3 a.data.keyName.parts) (hoka : GoT.ok n a) :
 Does Tryz.prog 32 #[.agg #[.int .i64 (a.node), .int .i64 (a.index), .slice K0 ((a.name.parts).length) M0, .int .i64 (a.attempts), .int .i64 (a.wait), .bool a.satisfied, .slice K1 ((a.data.name.parts).length) M1, .slice K2 ((a.data.content).length) M2, .slice K3 ((a.data.keyName.parts).length) M3, .int .i64 (a.data.freshUntil), .int .i64 (a.data.signature)]] w emp (Post w emp (fun x : GoT.X (Consumer) => .agg ⟨GoT.sh ((a0g a) : Consumer) x⟩) (fun x => GoT.oa ((a0g a) : Consumer) x) (GoT.ok n ((a0g a) : Consumer))) := by
 have hb := bS0 hn
 refine EN Tryz.func32 Z (aS4 N0 N1 N2 N3) ?_
 refine R0 ?_
 refine CF 4 Z Z Z Z Z O Z (fun w γ => f33 w n τ1 a.name K0 M0 (γ.q 0 Z) ((ok_Consumer hoka).2.2.1)) ?_
 rintro ⟨p1, c1⟩ hq1
 refine R0 ?_
 refine CF 6 Z Z Z Z Z O Z (fun w γ => f46 w n τ1 a.data K1 M1 (γ.q 1 Z) K2 M2 (γ.q 2 Z) K3 M3 (γ.q 3 Z) ((ok_Consumer hoka).2.2.2.2.2.2)) ?_
 rintro ⟨⟨p2, c2⟩, ⟨p3, c3⟩, ⟨p4, c4⟩, ⟨⟩, ⟨⟩⟩ hq2
 refine R0 ?_
 have hP1 : a0g a = (Consumer.mk a.node a.index (a0f a.name) a.attempts a.wait a.satisfied (a1t a.data)) := by simp only [a0g, cT, cF]
 refine R1 ?_
 intro w1 G bs hI hΓ
 rw [hP1]
 exact Post.of [5, 9, 10, 11] ((), (), (p1, c1), (), (), (), ((p2, c2), (p3, c3), (p4, c4), (), ())) hI hΓ Z Z Z (And.intro (ok_Consumer hoka).1 (And.intro (ok_Consumer hoka).2.1 (And.intro hq1 (And.intro (ok_Consumer hoka).2.2.2.1 (And.intro (ok_Consumer hoka).2.2.2.2.1 (And.intro trivial hq2))))))
theorem f16 (w : World) (n : Nat) (hn : n + 0 ≤ 9) (node : Int) (i : Int) (n_ : Name) (K0 M0) (N0 : RdSl (hp w) K0 M0 n_.parts) (hoknode : GoT.ok n node) (hoki : GoT.ok n i) (hokn_ : GoT.ok n n_) :
 Does Tryz.prog 16 #[.int .i64 (node), .int .i64 (i), .agg #[.slice K0 ((n_.parts).length) M0]] w emp (Post w emp (fun x : GoT.X (Consumer) => .agg ⟨GoT.sh ((a3t node i n_) : Consumer) x⟩) (fun x => GoT.oa ((a3t node i n_) : Consumer) x) (GoT.ok n ((a3t node i n_) : Consumer))) := by
 have hb := bS0 hn
 refine EN Tryz.func16 Z (aS1 N0) ?_
 refine R0 ?_
 refine CF 1 Z Z Z Z Z O Z (fun w γ => f31 w n τ1 n_ K0 M0 (γ.q 0 Z) hokn_) ?_
 rintro ⟨p1, c1⟩ hq1
 refine R0 ?_
 refine WX.free 3 (MF.os none 0 ([] : List Str)) (owSl_nil _ _) ?_
 refine WX.free 4 (MF.os none 0 ([] : List UInt8)) (owSl_nil _ _) ?_
 refine WX.free 5 (MF.os none 0 ([] : List Str)) (owSl_nil _ _) ?_
 have hP1 : a3t node i n_ = (Consumer.mk node i (a0s n_) 0 0 false (DataP.mk (Name.mk ([])) ([]) (Name.mk ([])) 0 0)) := by simp only [a3t, cT, cF]
 refine R1 ?_
 intro w1 G bs hI hΓ
 rw [hP1]
 exact Post.of [2, 3, 4, 5] ((), (), (p1, c1), (), (), (), ((none, 0), (none, 0), (none, 0), (), ())) hI hΓ Z Z Z (And.intro hoknode (And.intro hoki (And.intro hq1 (And.intro (i6 0) (And.intro (i6 0) (And.intro trivial (And.intro (ok_nil (α := Str)) (And.intro (ok_nil (α := UInt8)) (And.intro (ok_nil (α := Str)) (And.intro (i6 0) (i6 0)))))))))))
theorem f17 (w : World) (n : Nat) (hn : n + 0 ≤ 9) (node : Int) (i : Int) (n_ : Name) (K0 M0) (N0 : RdSl (hp w) K0 M0 n_.parts) (hoknode : GoT.ok n node) (hoki : GoT.ok n i) (hokn_ : GoT.ok n n_) :
 Does Tryz.prog 17 #[.int .i64 (node), .int .i64 (i), .agg #[.slice K0 ((n_.parts).length) M0]] w emp (Post w emp (fun x : GoT.X (Consumer) => .agg ⟨GoT.sh ((a0e node i n_) : Consumer) x⟩) (fun x => GoT.oa ((a0e node i n_) : Consumer) x) (GoT.ok n ((a0e node i n_) : Consumer))) := by
 have hb := bS0 hn
 refine EN Tryz.func17 Z (aS1 N0) ?_
 refine R0 ?_
 refine CF 1 Z Z Z Z Z O Z (fun w γ => f33 w n τ1 n_ K0 M0 (γ.q 0 Z) hokn_) ?_
 rintro ⟨p1, c1⟩ hq1
 refine R0 ?_
 refine WX.free 3 (MF.os none 0 ([] : List Str)) (owSl_nil _ _) ?_
 refine WX.free 4 (MF.os none 0 ([] : List UInt8)) (owSl_nil _ _) ?_
 refine WX.free 5 (MF.os none 0 ([] : List Str)) (owSl_nil _ _) ?_
 have hP1 : a0e node i n_ = (Consumer.mk node i (a0f n_) 0 0 false (DataP.mk (Name.mk ([])) ([]) (Name.mk ([])) 0 0)) := by simp only [a0e, cT, cF]
 refine R1 ?_
 intro w1 G bs hI hΓ
 rw [hP1]
 exact Post.of [2, 3, 4, 5] ((), (), (p1, c1), (), (), (), ((none, 0), (none, 0), (none, 0), (), ())) hI hΓ Z Z Z (And.intro hoknode (And.intro hoki (And.intro hq1 (And.intro (i6 0) (And.intro (i6 0) (And.intro trivial (And.intro (ok_nil (α := Str)) (And.intro (ok_nil (α := UInt8)) (And.intro (ok_nil (α := Str)) (And.intro (i6 0) (i6 0)))))))))))
theorem f6 (w : World) (n : Nat) (hn : n + 0 ≤ 9) (a : Consumer) (K0 M0) (N0 : RdSl (hp w) K0 M0 a.name.parts) (K1 M1) (N1 : RdSl (hp w) K1 M1 a.data.name.parts) (K2 M2) (N2 : RdSl (hp w) K2 M2 a.data.content) (K3 M3) (N3 : RdSl (hp w) K3 M3 a.data.keyName.parts) (hoka : GoT.ok n a) :
 Does Tryz.prog 6 #[.agg #[.int .i64 (a.node), .int .i64 (a.index), .slice K0 ((a.name.parts).length) M0, .int .i64 (a.attempts), .int .i64 (a.wait), .bool a.satisfied, .slice K1 ((a.data.name.parts).length) M1, .slice K2 ((a.data.content).length) M2, .slice K3 ((a.data.keyName.parts).length) M3, .int .i64 (a.data.freshUntil), .int .i64 (a.data.signature)]] w emp (Post w emp (fun x : GoT.X (Consumer × Interest) => .tuple #[.agg ⟨GoT.sh ((a06 a).1 : Consumer) x.1⟩, .agg ⟨GoT.sh ((a06 a).2.1 : Interest) x.2⟩, .bool ((a06 a).2.2)]) (fun x => GoT.oa (((a06 a).1, (a06 a).2.1) : Consumer × Interest) x) (GoT.ok n ((a06 a).1 : Consumer) ∧ GoT.ok n ((a06 a).2.1 : Interest))) := by
 have hb := bS0 hn
 refine EN Tryz.func6 Z (aS4 N0 N1 N2 N3) ?_
 refine R0 ?_
 refine CF 4 Z Z Z Z Z O Z (fun w γ => f30 w n τ1 a K0 M0 (γ.q 0 Z) K1 M1 (γ.q 1 Z) K2 M2 (γ.q 2 Z) K3 M3 (γ.q 3 Z) hoka) ?_
 rintro ⟨⟨⟩, ⟨⟩, ⟨p1, c1⟩, ⟨⟩, ⟨⟩, ⟨⟩, ⟨⟨p2, c2⟩, ⟨p3, c3⟩, ⟨p4, c4⟩, ⟨⟩, ⟨⟩⟩⟩ hq1
 refine R0 ?_
 refine WX.cases 11 Z ?_ ?_ <;> intro h1
 ·skip
  replace h1 : a.satisfied = true := h1
  refine R0 ?_
  refine WX.free 12 (MF.os none 0 ([] : List Str)) (owSl_nil _ _) ?_
  have hP1 : a06 a = (a0d a, Interest.mk (Name.mk ([])) 0 0 0, false) := by simp only [a06, h1, cT, cF]
  refine R1 ?_
  intro w1 G bs hI hΓ
  rw [hP1]
  exact Post.of [8, 9, 10, 11, 12] (((), (), (p1, c1), (), (), (), ((p2, c2), (p3, c3), (p4, c4), (), ())), ((none, 0), (), (), ())) hI hΓ Z Z Z (⟨hq1, (And.intro (ok_nil (α := Str)) (And.intro (i6 0) (And.intro (i6 0) (i6 0))))⟩)
 replace h1 : a.satisfied = false := h1
 refine R0 ?_
 refine WX.cases 8 Z ?_ ?_ <;> intro h2
 ·skip
  have h2d := B.et h2
  refine R0 ?_
  refine WX.free 13 (MF.os none 0 ([] : List Str)) (owSl_nil _ _) ?_
  have hP2 : a06 a = (a0d a, Interest.mk (Name.mk ([])) 0 0 0, false) := by simp only [a06, h1, h2, cT, cF]
  refine R1 ?_
  intro w1 G bs hI hΓ
  rw [hP2]
  exact Post.of [8, 9, 10, 11, 13] (((), (), (p1, c1), (), (), (), ((p2, c2), (p3, c3), (p4, c4), (), ())), ((none, 0), (), (), ())) hI hΓ Z Z Z (⟨hq1, (And.intro (ok_nil (α := Str)) (And.intro (i6 0) (And.intro (i6 0) (i6 0))))⟩)
 have h2d := B.ef h2
 refine R0 ?_
 refine WX.cases 18 Z ?_ ?_ <;> intro h3
 ·skip
  have h3d := B.dt h3
  refine R0 ?_
  refine WX.see Z Z Z (fun _ hΓ => looks_wrap Z Z Z Z) ?_
  refine R0 ?_
  refine WX.free 14 (MF.os none 0 ([] : List Str)) (owSl_nil _ _) ?_
  have hP3 : a06 a = (Consumer.mk ((a0d a).node) ((a0d a).index) ((a0d a).name) ((a0d a).attempts) (IntKind.i64.wrap (((a0d a).wait) - 1)) ((a0d a).satisfied) ((a0d a).data), Interest.mk (Name.mk ([])) 0 0 0, false) := by simp only [a06, h1, h2, h3, cT, cF]
  refine R1 ?_
  intro w1 G bs hI hΓ
  rw [hP3]
  exact Post.of [8, 9, 10, 11, 14] (((), (), (p1, c1), (), (), (), ((p2, c2), (p3, c3), (p4, c4), (), ())), ((none, 0), (), (), ())) hI hΓ Z Z Z (⟨(And.intro (ok_Consumer hq1).1 (And.intro (ok_Consumer hq1).2.1 (And.intro (ok_Consumer hq1).2.2.1 (And.intro (ok_Consumer hq1).2.2.2.1 (And.intro (i64_wrap _) (And.intro trivial (ok_Consumer hq1).2.2.2.2.2.2)))))), (And.intro (ok_nil (α := Str)) (And.intro (i6 0) (And.intro (i6 0) (i6 0))))⟩)
 have h3d := B.df h3
 refine R0 ?_
 refine WX.see Z Z Z (fun _ hΓ => looks_wrap Z Z Z Z) ?_
 refine R0 ?_
 refine WX.draw [12, 13, 14] mixed ?_
 intro bs G0 hΓ0
 refine DX.takes (fuel := 6) ttOk [(0, false), (1, true), (2, false), (4, true), (5, false), (6, true), (7, false), (8, true), (9, false)] J Z ?_
 refine DXF 3 15 Z J Z Z Z Z Z Z O Z (fun w γ => f31 w n τ1 a.name K0 M0 (γ.q 0 Z) ((ok_Consumer hoka).2.2.1)) ?_
 rintro ⟨p5, c5⟩ hq2
 refine DXV 10 Z J Z Z Z Z Z Z O Z (fun w γ => f18 w n τ1 a.node a.index (IntKind.i64.wrap (((a0d a).attempts) + 1)) ((ok_Consumer hoka).1) ((ok_Consumer hoka).2.1) (i64_wrap _)) ?_
 intro hq3
 refine DX.takes (fuel := 3) ttOk [(11, true)] J Z ?_
 refine DX.tail2 [12, 13, 14] Z Z J ?_
 refine R0 ?_
 have hP4 : a06 a = (Consumer.mk ((a0d a).node) ((a0d a).index) ((a0d a).name) (IntKind.i64.wrap (((a0d a).attempts) + 1)) 5 ((a0d a).satisfied) ((a0d a).data), Interest.mk (a0s a.name) (a1z a.node a.index (IntKind.i64.wrap (((a0d a).attempts) + 1))) 16 4, true) := by simp only [a06, h1, h2, h3, cT, cF]
 refine R1 ?_
 intro w1 G bs hI hΓ
 rw [hP4]
 exact Post.of [8, 9, 10, 11, 16] (((), (), (p1, c1), (), (), (), ((p2, c2), (p3, c3), (p4, c4), (), ())), ((p5, c5), (), (), ())) hI hΓ Z Z Z (⟨(And.intro (ok_Consumer hq1).1 (And.intro (ok_Consumer hq1).2.1 (And.intro (ok_Consumer hq1).2.2.1 (And.intro (i64_wrap _) (And.intro (i6 5) (And.intro trivial (ok_Consumer hq1).2.2.2.2.2.2)))))), (And.intro hq2 (And.intro hq3 (And.intro (i6 16) (i6 4))))⟩)
theorem f7 (w : World) (n : Nat) (hn : n + 0 ≤ 9) (a : Consumer) (K0 M0) (N0 : RdSl (hp w) K0 M0 a.name.parts) (K1 M1) (N1 : RdSl (hp w) K1 M1 a.data.name.parts) (K2 M2) (N2 : RdSl (hp w) K2 M2 a.data.content) (K3 M3) (N3 : RdSl (hp w) K3 M3 a.data.keyName.parts) (hoka : GoT.ok n a) :
 Does Tryz.prog 7 #[.agg #[.int .i64 (a.node), .int .i64 (a.index), .slice K0 ((a.name.parts).length) M0, .int .i64 (a.attempts), .int .i64 (a.wait), .bool a.satisfied, .slice K1 ((a.data.name.parts).length) M1, .slice K2 ((a.data.content).length) M2, .slice K3 ((a.data.keyName.parts).length) M3, .int .i64 (a.data.freshUntil), .int .i64 (a.data.signature)]] w emp (Post w emp (fun x : GoT.X (Consumer × Interest) => .tuple #[.agg ⟨GoT.sh ((a09 a).1 : Consumer) x.1⟩, .agg ⟨GoT.sh ((a09 a).2.1 : Interest) x.2⟩, .bool ((a09 a).2.2)]) (fun x => GoT.oa (((a09 a).1, (a09 a).2.1) : Consumer × Interest) x) (GoT.ok n ((a09 a).1 : Consumer) ∧ GoT.ok n ((a09 a).2.1 : Interest))) := by
 have hb := bS0 hn
 refine EN Tryz.func7 Z (aS4 N0 N1 N2 N3) ?_
 refine R0 ?_
 refine CF 4 Z Z Z Z Z O Z (fun w γ => f32 w n τ1 a K0 M0 (γ.q 0 Z) K1 M1 (γ.q 1 Z) K2 M2 (γ.q 2 Z) K3 M3 (γ.q 3 Z) hoka) ?_
 rintro ⟨⟨⟩, ⟨⟩, ⟨p1, c1⟩, ⟨⟩, ⟨⟩, ⟨⟩, ⟨⟨p2, c2⟩, ⟨p3, c3⟩, ⟨p4, c4⟩, ⟨⟩, ⟨⟩⟩⟩ hq1
 refine R0 ?_
 refine WX.cases 11 Z ?_ ?_ <;> intro h1
 ·skip
  replace h1 : a.satisfied = true := h1
  refine R0 ?_
  refine WX.free 12 (MF.os none 0 ([] : List Str)) (owSl_nil _ _) ?_
  have hP1 : a09 a = (a0g a, Interest.mk (Name.mk ([])) 0 0 0, false) := by simp only [a09, h1, cT, cF]
  refine R1 ?_
  intro w1 G bs hI hΓ
  rw [hP1]
  exact Post.of [8, 9, 10, 11, 12] (((), (), (p1, c1), (), (), (), ((p2, c2), (p3, c3), (p4, c4), (), ())), ((none, 0), (), (), ())) hI hΓ Z Z Z (⟨hq1, (And.intro (ok_nil (α := Str)) (And.intro (i6 0) (And.intro (i6 0) (i6 0))))⟩)
 replace h1 : a.satisfied = false := h1
 refine R0 ?_
 refine WX.cases 8 Z ?_ ?_ <;> intro h2
 ·skip
  have h2d := B.et h2
  refine R0 ?_
  refine WX.free 13 (MF.os none 0 ([] : List Str)) (owSl_nil _ _) ?_
  have hP2 : a09 a = (a0g a, Interest.mk (Name.mk ([])) 0 0 0, false) := by simp only [a09, h1, h2, cT, cF]
  refine R1 ?_
  intro w1 G bs hI hΓ
  rw [hP2]
  exact Post.of [8, 9, 10, 11, 13] (((), (), (p1, c1), (), (), (), ((p2, c2), (p3, c3), (p4, c4), (), ())), ((none, 0), (), (), ())) hI hΓ Z Z Z (⟨hq1, (And.intro (ok_nil (α := Str)) (And.intro (i6 0) (And.intro (i6 0) (i6 0))))⟩)
 have h2d := B.ef h2
 refine R0 ?_
 refine WX.cases 18 Z ?_ ?_ <;> intro h3
 ·skip
  have h3d := B.dt h3
  refine R0 ?_
  refine WX.see Z Z Z (fun _ hΓ => looks_wrap Z Z Z Z) ?_
  refine R0 ?_
  refine WX.free 14 (MF.os none 0 ([] : List Str)) (owSl_nil _ _) ?_
  have hP3 : a09 a = (Consumer.mk ((a0g a).node) ((a0g a).index) ((a0g a).name) ((a0g a).attempts) (IntKind.i64.wrap (a.wait - 1)) ((a0g a).satisfied) ((a0g a).data), Interest.mk (Name.mk ([])) 0 0 0, false) := by simp only [a09, h1, h2, h3, cT, cF]
  refine R1 ?_
  intro w1 G bs hI hΓ
  rw [hP3]
  exact Post.of [8, 9, 10, 11, 14] (((), (), (p1, c1), (), (), (), ((p2, c2), (p3, c3), (p4, c4), (), ())), ((none, 0), (), (), ())) hI hΓ Z Z Z (⟨(And.intro (ok_Consumer hq1).1 (And.intro (ok_Consumer hq1).2.1 (And.intro (ok_Consumer hq1).2.2.1 (And.intro (ok_Consumer hq1).2.2.2.1 (And.intro (i64_wrap _) (And.intro trivial (ok_Consumer hq1).2.2.2.2.2.2)))))), (And.intro (ok_nil (α := Str)) (And.intro (i6 0) (And.intro (i6 0) (i6 0))))⟩)
 have h3d := B.df h3
 refine R0 ?_
 refine WX.see Z Z Z (fun _ hΓ => looks_wrap Z Z Z Z) ?_
 refine R0 ?_
 refine WX.draw [12, 13, 14] mixed ?_
 intro bs G0 hΓ0
 refine DX.takes (fuel := 6) ttOk [(0, false), (1, true), (2, false), (4, true), (5, false), (6, true), (7, false), (8, true), (9, false)] J Z ?_
 refine DXF 3 15 Z J Z Z Z Z Z Z O Z (fun w γ => f33 w n τ1 a.name K0 M0 (γ.q 0 Z) ((ok_Consumer hoka).2.2.1)) ?_
 rintro ⟨p5, c5⟩ hq2
 refine DXV 10 Z J Z Z Z Z Z Z O Z (fun w γ => f19 w n τ1 a.node a.index (IntKind.i64.wrap (a.attempts + 1)) ((ok_Consumer hoka).1) ((ok_Consumer hoka).2.1) (i64_wrap _)) ?_
 intro hq3
 refine DX.takes (fuel := 3) ttOk [(11, true)] J Z ?_
 refine DX.tail2 [12, 13, 14] Z Z J ?_
 refine R0 ?_
 have hP4 : a09 a = (Consumer.mk ((a0g a).node) ((a0g a).index) ((a0g a).name) (IntKind.i64.wrap (a.attempts + 1)) 5 ((a0g a).satisfied) ((a0g a).data), Interest.mk (a0f a.name) (a44 a.node a.index (IntKind.i64.wrap (a.attempts + 1))) 16 4, true) := by simp only [a09, h1, h2, h3, cT, cF]
 refine R1 ?_
 intro w1 G bs hI hΓ
 rw [hP4]
 exact Post.of [8, 9, 10, 11, 16] (((), (), (p1, c1), (), (), (), ((p2, c2), (p3, c3), (p4, c4), (), ())), ((p5, c5), (), (), ())) hI hΓ Z Z Z (⟨(And.intro (ok_Consumer hq1).1 (And.intro (ok_Consumer hq1).2.1 (And.intro (ok_Consumer hq1).2.2.1 (And.intro (i64_wrap _) (And.intro (i6 5) (And.intro trivial (ok_Consumer hq1).2.2.2.2.2.2)))))), (And.intro hq2 (And.intro hq3 (And.intro (i6 16) (i6 4))))⟩)
end Go.Proofs.YthdgpfbldbabmaaGreatDoor

namespace Go.Stp
set_option linter.unusedVariables false
set_option linter.unusedSimpArgs false
def slices_Equal_string_L1 (s2 : (List Str)) : List Str → Nat → Option (Bool)
 | [], i => none
 | e1 :: rest_, i =>
  match (s2)[i]? with
   | none => default
   | some e2 =>
    bif (!((e1).toList == (e2).toList)) then
     (some false)
    else
     slices_Equal_string_L1 s2 rest_ (i + 1)
def slices_Equal_string (s1 : (List Str)) (s2 : (List Str)) : Bool :=
 bif ((((s1).length : Nat) : Int) != (((s2).length : Nat) : Int)) then
  false
 else
  match slices_Equal_string_L1 s2 s1 0 with
   | some r_ => r_
   | none =>
    true
def slices_Equal_byte_L1 (s2 : (List UInt8)) : List UInt8 → Nat → Option (Bool)
 | [], i => none
 | e1 :: rest_, i =>
  match (s2)[i]? with
   | none => default
   | some e2 =>
    bif (((e1).toNat : Int) != ((e2).toNat : Int)) then
     (some false)
    else
     slices_Equal_byte_L1 s2 rest_ (i + 1)
def slices_Equal_byte (s1 : (List UInt8)) (s2 : (List UInt8)) : Bool :=
 bif ((((s1).length : Nat) : Int) != (((s2).length : Nat) : Int)) then
  false
 else
  match slices_Equal_byte_L1 s2 s1 0 with
   | some r_ => r_
   | none =>
    true
def a2d (a : Name) (b : Name) : Bool :=
 (slices_Equal_string a.parts b.parts)
def a21 (a : Str) (b : Str) : Int :=
 bif (Op.bytesLess (a).toList (b).toList) then
  (-1)
 else
  bif (!(Op.bytesLess (a).toList (b).toList || (a).toList == (b).toList)) then
   1
  else
   0
def a1o (b : Name) : List Str → Nat → Option (Int)
 | [], i => none
 | e1 :: rest_, i =>
  bif decide (((i : Nat) : Int) < (((b.parts).length : Nat) : Int)) then
   match (b.parts)[i]? with
    | none => default
    | some e2 =>
     bif ((a21 e1 e2) != 0) then
      (some (a21 e1 e2))
     else
      a1o b rest_ (i + 1)
  else
   none
def a1p (a : Name) (b : Name) : Int :=
 match a1o b a.parts 0 with
  | some r_ => r_
  | none =>
   bif decide ((((a.parts).length : Nat) : Int) < (((b.parts).length : Nat) : Int)) then
    (-1)
   else
    bif decide ((((a.parts).length : Nat) : Int) > (((b.parts).length : Nat) : Int)) then
     1
    else
     0
def a22 (a : Name) (b : Name) : Bool :=
 ((a1p a b) == 0)
def a4b (a : (List UInt8)) (b : (List UInt8)) : Bool :=
 (((bstr a)).toList == ((bstr b)).toList)
def a2w (a : DataP) (b : DataP) : Bool :=
 bif (a2d a.name b.name) then
  bif (slices_Equal_byte a.content b.content) then
   bif (a2d a.keyName b.keyName) then
    bif (a.freshUntil == b.freshUntil) then
     (a.signature == b.signature)
    else
     false
   else
    false
  else
   false
 else
  false
def a3u (a : DataP) (b : DataP) : Bool :=
 bif (a22 a.name b.name) then
  bif (a4b a.content b.content) then
   bif (a22 a.keyName b.keyName) then
    bif (a.freshUntil == b.freshUntil) then
     (a.signature == b.signature)
    else
     false
   else
    false
  else
   false
 else
  false
def a2m (a : Consumer) (b : Consumer) : Bool :=
 bif (a.node == b.node) then
  bif (a.index == b.index) then
   bif (a2d a.name b.name) then
    bif (a.attempts == b.attempts) then
     bif (a.wait == b.wait) then
      bif (a.satisfied == b.satisfied) then
       (a2w a.data b.data)
      else
       false
     else
      false
    else
     false
   else
    false
  else
   false
 else
  false
end Go.Stp

namespace Go.Proofs.YthdgpfbldbabmaaGreatDoor
open Go.Stp
set_option linter.unusedVariables false
set_option linter.unusedSimpArgs false
theorem f69 (w : World) (n : Nat) (hn : n + 0 ≤ 9) (s1 : (List Str)) (K0 M0) (N0 : RdSl (hp w) K0 M0 s1) (s2 : (List Str)) (K1 M1) (N1 : RdSl (hp w) K1 M1 s2) (hoks1 : GoT.ok n s1) (hoks2 : GoT.ok n s2) :
 Does Tryz.prog 69 #[.slice K0 ((s1).length) M0, .slice K1 ((s2).length) M1] w emp (pB (slices_Equal_string s1 s2)) := by
 have hb := bS0 hn
 refine EN Tryz.func69 Z (aS2 N0 N1) ?_
 refine R0 ?_
 refine WX.cases 10 Z ?_ ?_ <;> intro h1
 ·skip
  have h1d := B.nt' h1
  refine R0 ?_
  exact R4 Z (by simp only [slices_Equal_string, h1, cT, cF])
 have h1d := B.nf' h1
 refine R0 ?_
 have r1 : (s1).length ≤ bd n := (okl hoks1).1
 refine WX.loop (ι := Nat) ⟨fun i => (i ≤ (s1).length) ∧ (slices_Equal_string_L1 s2 s1 0 = slices_Equal_string_L1 s2 ((s1).drop i) i), fun i => (s1).length - i, fun i => [(13, .v (.int .i64 (((i : Nat) : Int)))), (12, .v (.int .i64 ((((s1).length : Nat) : Int)))), (0, .v (.slice K0 ((s1).length) M0)), (1, .v (.slice K1 ((s2).length) M1))], fun i => [], fun i => [], fun i => [(0, MF.rs .stb K0 M0 s1), (1, MF.rs .stb K1 M1 s2)]⟩ 0 ⟨(Nat.zero_le _), Z⟩
  (.cons Z (.cons Z (.cons Z (.cons Z (.nil))))) .nil .nil [0, 1] Z ?_
 rintro i ⟨v1, v2⟩
 refine R0 ?_
 refine WX.cases 14 Z ?_ ?_ <;> intro h2
 ·skip
  have h2d := B.dt h2
  have e1i : i < (s1).length := τ1
  obtain ⟨e1, e1h⟩ : ∃ e1, (s1)[i]? = some e1 := ⟨_, List.getElem?_eq_getElem e1i⟩
  have ok1 : GoT.ok n e1 := (okl hoks1).2 _ (List.mem_of_getElem? e1h)
  refine R0 ?_
  refine WX.draw [] mixed ?_
  intro bs G0 hΓ0
  refine DX.takes (fuel := 7) ttOk [(0, true), (1, true)] J Z ?_
  refine DX.idx 2 0 i ttOk hΓ0 J Z Z Z Z Z Z Z Z Z Z Z e1i ?_
  rintro ad1 rfl
  refine DX.ldE 3 0 2 e1 ttOk hΓ0 J Z Z Z Z Z Z Z Z e1h O O ?_
  rintro ⟨⟩
  refine DX.takes (fuel := 3) ttOk [(4, true), (5, true)] J Z ?_
  have e2i : i < (s2).length := τ6
  obtain ⟨e2, e2h⟩ : ∃ e2, (s2)[i]? = some e2 := ⟨_, List.getElem?_eq_getElem e2i⟩
  have ok2 : GoT.ok n e2 := (okl hoks2).2 _ (List.mem_of_getElem? e2h)
  refine DX.idx 6 1 i ttOk hΓ0 J Z Z Z Z Z Z Z Z Z Z Z e2i ?_
  rintro ad2 rfl
  refine DX.ldE 7 1 2 e2 ttOk hΓ0 J Z Z Z Z Z Z Z Z e2h O O ?_
  rintro ⟨⟩
  refine DX.takes (fuel := 0) ttOk [(8, true)] J Z ?_
  refine DX.tail2 [] Z Z J ?_
  refine R0 ?_
  refine WX.cases 24 Z ?_ ?_ <;> intro h3
  ·skip
   have h3d := B.ef (B.nt h3)
   refine R0 ?_
   have hP2 : slices_Equal_string_L1 s2 s1 0 = (some false) := by rw [v2, drop_get e1h]; simp only [slices_Equal_string_L1, e2h, h3, cT, cF]
   exact R4 Z (by simp only [slices_Equal_string, h1, hP2, cT, cF])
  have h3d := B.et (B.nf h3)
  refine R0 ?_
  refine WX.see Z Z Z (fun _ hΓ => looks_arith Z Z Z Z τ2) ?_
  refine R0 ?_
  exact WX.iter (i + 1) ⟨τ1, (by rw [v2, drop_get e1h]; simp only [slices_Equal_string_L1, e2h, h3, cT, cF])⟩ τ4 (.cons Z (.cons Z (.cons Z (.cons Z (.nil))))) .nil .nil [0, 1] Z
 have h2d := B.df h2
 refine R0 ?_
 have hX1 : slices_Equal_string_L1 s2 s1 0 = none := by rw [v2, List.drop_eq_nil_of_le (show (s1).length ≤ i by omega)]; simp only [slices_Equal_string_L1, cT, cF]
 exact R4 Z (by simp only [slices_Equal_string, h1, hX1, cT, cF])
theorem f77 (w : World) (n : Nat) (hn : n + 0 ≤ 9) (s1 : (List UInt8)) (K0 M0) (N0 : RdSl (hp w) K0 M0 s1) (s2 : (List UInt8)) (K1 M1) (N1 : RdSl (hp w) K1 M1 s2) (hoks1 : GoT.ok n s1) (hoks2 : GoT.ok n s2) :
 Does Tryz.prog 77 #[.slice K0 ((s1).length) M0, .slice K1 ((s2).length) M1] w emp (pB (slices_Equal_byte s1 s2)) := by
 have hb := bS0 hn
 refine EN Tryz.func77 Z (aS2 N0 N1) ?_
 refine R0 ?_
 refine WX.cases 10 Z ?_ ?_ <;> intro h1
 ·skip
  have h1d := B.nt' h1
  refine R0 ?_
  exact R4 Z (by simp only [slices_Equal_byte, h1, cT, cF])
 have h1d := B.nf' h1
 refine R0 ?_
 have r1 : (s1).length ≤ bd n := (okl hoks1).1
 refine WX.loop (ι := Nat) ⟨fun i => (i ≤ (s1).length) ∧ (slices_Equal_byte_L1 s2 s1 0 = slices_Equal_byte_L1 s2 ((s1).drop i) i), fun i => (s1).length - i, fun i => [(13, .v (.int .i64 (((i : Nat) : Int)))), (12, .v (.int .i64 ((((s1).length : Nat) : Int)))), (0, .v (.slice K0 ((s1).length) M0)), (1, .v (.slice K1 ((s2).length) M1))], fun i => [], fun i => [], fun i => [(0, MF.rs .stb K0 M0 s1), (1, MF.rs .stb K1 M1 s2)]⟩ 0 ⟨(Nat.zero_le _), Z⟩
  (.cons Z (.cons Z (.cons Z (.cons Z (.nil))))) .nil .nil [0, 1] Z ?_
 rintro i ⟨v1, v2⟩
 refine R0 ?_
 refine WX.cases 14 Z ?_ ?_ <;> intro h2
 ·skip
  have h2d := B.dt h2
  have e1i : i < (s1).length := τ1
  obtain ⟨e1, e1h⟩ : ∃ e1, (s1)[i]? = some e1 := ⟨_, List.getElem?_eq_getElem e1i⟩
  refine R0 ?_
  refine WX.draw [] mixed ?_
  intro bs G0 hΓ0
  refine DX.takes (fuel := 7) ttOk [(0, true), (1, true)] J Z ?_
  refine DX.idx 2 0 i ttOk hΓ0 J Z Z Z Z Z Z Z Z Z Z Z e1i ?_
  rintro ad1 rfl
  refine DX.ldE 3 0 2 e1 ttOk hΓ0 J Z Z Z Z Z Z Z Z e1h O O ?_
  rintro ⟨⟩
  refine DX.takes (fuel := 3) ttOk [(4, true), (5, true)] J Z ?_
  have e2i : i < (s2).length := τ6
  obtain ⟨e2, e2h⟩ : ∃ e2, (s2)[i]? = some e2 := ⟨_, List.getElem?_eq_getElem e2i⟩
  refine DX.idx 6 1 i ttOk hΓ0 J Z Z Z Z Z Z Z Z Z Z Z e2i ?_
  rintro ad2 rfl
  refine DX.ldE 7 1 2 e2 ttOk hΓ0 J Z Z Z Z Z Z Z Z e2h O O ?_
  rintro ⟨⟩
  refine DX.takes (fuel := 0) ttOk [(8, true)] J Z ?_
  refine DX.tail2 [] Z Z J ?_
  refine R0 ?_
  refine WX.cases 24 Z ?_ ?_ <;> intro h3
  ·skip
   have h3d := B.nt' h3
   refine R0 ?_
   have hP2 : slices_Equal_byte_L1 s2 s1 0 = (some false) := by rw [v2, drop_get e1h]; simp only [slices_Equal_byte_L1, e2h, h3, cT, cF]
   exact R4 Z (by simp only [slices_Equal_byte, h1, hP2, cT, cF])
  have h3d := B.nf' h3
  refine R0 ?_
  refine WX.see Z Z Z (fun _ hΓ => looks_arith Z Z Z Z τ2) ?_
  refine R0 ?_
  exact WX.iter (i + 1) ⟨τ1, (by rw [v2, drop_get e1h]; simp only [slices_Equal_byte_L1, e2h, h3, cT, cF])⟩ τ4 (.cons Z (.cons Z (.cons Z (.cons Z (.nil))))) .nil .nil [0, 1] Z
 have h2d := B.df h2
 refine R0 ?_
 have hX1 : slices_Equal_byte_L1 s2 s1 0 = none := by rw [v2, List.drop_eq_nil_of_le (show (s1).length ≤ i by omega)]; simp only [slices_Equal_byte_L1, cT, cF]
 exact R4 Z (by simp only [slices_Equal_byte, h1, hX1, cT, cF])
theorem f38 (w : World) (n : Nat) (hn : n + 0 ≤ 9) (a : Name) (pa ca) (N0 : RdSl (hp w) pa ca a.parts) (b : Name) (pb cb) (N1 : RdSl (hp w) pb cb b.parts) (hoka : GoT.ok n a) (hokb : GoT.ok n b) :
 Does Tryz.prog 38 #[.agg #[.slice pa ((a.parts).length) ca], .agg #[.slice pb ((b.parts).length) cb]] w emp (pB (a2d a b)) := by
 have hb := bS0 hn
 refine EN Tryz.func38 Z (aS2 N0 N1) ?_
 refine R0 ?_
 refine CV Z Z Z Z Z O Z (fun w γ => f69 w n τ1 a.parts pa ca (γ.q 0 Z) b.parts pb cb (γ.q 1 Z) (ok_Name hoka) (ok_Name hokb)) ?_
 intro hq1
 refine R0 ?_
 exact R4 Z (by simp only [a2d, cT, cF])
theorem f95 (w : World) (n : Nat) (hn : n + 0 ≤ 9) (a : Str) (b : Str) (hoka : GoT.ok n a) (hokb : GoT.ok n b) :
 Does Tryz.prog 95 #[.string a, .string b] w emp (fun (rv : Value) (_ : World) => rv = .int .i64 ((a21 a b)) ∧ GoT.ok n ((a21 a b) : Int)) := by
 have hb := bS0 hn
 refine EN Tryz.func95 Z allS_nil ?_
 refine R0 ?_
 refine WX.cases 5 Z ?_ ?_ <;> intro h1
 ·skip
  refine R0 ?_
  have hP1 : a21 a b = (-1) := by simp only [a21, h1, cT, cF]
  refine R1 ?_
  intro w1 G bs hI hΓ
  rw [hP1]
  exact ⟨Z, (i6 (-1))⟩
 refine R0 ?_
 refine WX.cases 9 Z ?_ ?_ <;> intro h2
 ·skip
  refine R0 ?_
  have hP2 : a21 a b = 1 := by first | (simp only [a21, h1, h2, cT, cF]; done) | (unfold a21; rw [h2, h1]; simp only [cT, cF])
  refine R1 ?_
  intro w1 G bs hI hΓ
  rw [hP2]
  exact ⟨Z, (i6 1)⟩
 refine R0 ?_
 have hP3 : a21 a b = 0 := by first | (simp only [a21, h1, h2, cT, cF]; done) | (unfold a21; rw [h2, h1]; simp only [cT, cF])
 refine R1 ?_
 intro w1 G bs hI hΓ
 rw [hP3]
 exact ⟨Z, (i6 0)⟩
theorem f75 (w : World) (n : Nat) (hn : n + 0 ≤ 9) (a : Name) (pa ca) (N0 : RdSl (hp w) pa ca a.parts) (b : Name) (pb cb) (N1 : RdSl (hp w) pb cb b.parts) (hoka : GoT.ok n a) (hokb : GoT.ok n b) :
 Does Tryz.prog 75 #[.agg #[.slice pa ((a.parts).length) ca], .agg #[.slice pb ((b.parts).length) cb]] w emp (fun (rv : Value) (_ : World) => rv = .int .i64 ((a1p a b)) ∧ GoT.ok n ((a1p a b) : Int)) := by
 have hb := bS0 hn
 refine EN Tryz.func75 Z (aS2 N0 N1) ?_
 refine R0 ?_
 have r1 : (a.parts).length ≤ bd n := (okl (ok_Name hoka)).1
 refine WX.loop (ι := Nat) ⟨fun i => (i ≤ (a.parts).length) ∧ (a1o b a.parts 0 = a1o b ((a.parts).drop i) i), fun i => (a.parts).length - i, fun i => [(5, .v (.int .i64 (((i : Nat) : Int)))), (3, .p 3 0), (2, .p 2 0)], fun i => [(3, ⟨26, [.slice pb ((b.parts).length) cb]⟩), (2, ⟨26, [.slice pa ((a.parts).length) ca]⟩)], fun i => [], fun i => [(0, MF.rs .stb pa ca a.parts), (1, MF.rs .stb pb cb b.parts)]⟩ 0 ⟨(Nat.zero_le _), Z⟩
  (.cons Z (.cons Z (.cons Z (.nil)))) (.cons Z (.cons Z (.nil))) .nil [0, 1] Z ?_
 rintro i ⟨v1, v2⟩
 refine R0 ?_
 refine WX.cases 12 Z ?_ ?_ <;> intro h1
 ·skip
  have h1d := B.dt h1
  have e1i : i < (a.parts).length := τ1
  obtain ⟨e1, e1h⟩ : ∃ e1, (a.parts)[i]? = some e1 := ⟨_, List.getElem?_eq_getElem e1i⟩
  have ok1 : GoT.ok n e1 := (okl (ok_Name hoka)).2 _ (List.mem_of_getElem? e1h)
  refine R0 ?_
  refine WX.cases 18 Z ?_ ?_ <;> intro h2
  ·skip
   have h2d := B.dt h2
   refine R0 ?_
   refine WX.draw [] mixed ?_
   intro bs G0 hΓ0
   refine DX.takes (fuel := 9) ttOk [(0, true), (1, false), (2, true)] J Z ?_
   refine DX.idx 3 0 i ttOk hΓ0 J Z Z Z Z Z Z Z Z Z Z Z e1i ?_
   rintro ad1 rfl
   refine DX.ldE 4 0 2 e1 ttOk hΓ0 J Z Z Z Z Z Z Z Z e1h O O ?_
   rintro ⟨⟩
   refine DX.takes (fuel := 4) ttOk [(5, true), (6, false), (7, true)] J Z ?_
   have e2i : i < (b.parts).length := τ6
   obtain ⟨e2, e2h⟩ : ∃ e2, (b.parts)[i]? = some e2 := ⟨_, List.getElem?_eq_getElem e2i⟩
   have ok2 : GoT.ok n e2 := (okl (ok_Name hokb)).2 _ (List.mem_of_getElem? e2h)
   refine DX.idx 8 1 i ttOk hΓ0 J Z Z Z Z Z Z Z Z Z Z Z e2i ?_
   rintro ad2 rfl
   refine DX.ldE 9 1 2 e2 ttOk hΓ0 J Z Z Z Z Z Z Z Z e2h O O ?_
   rintro ⟨⟩
   refine DXV 10 Z J Z Z Z Z Z Z O Z (fun w γ => f95 w n τ1 e1 e2 ok1 ok2) ?_
   intro hq1
   refine DX.takes (fuel := 0) ttOk [(11, true)] J Z ?_
   refine DX.tail2 [] Z Z J ?_
   refine R0 ?_
   refine WX.cases 33 Z ?_ ?_ <;> intro h3
   ·skip
    have h3d := B.nt' h3
    refine R0 ?_
    have hP1 : a1o b a.parts 0 = (some (a21 e1 e2)) := by rw [v2, drop_get e1h]; simp only [a1o, h2, e2h, h3, cT, cF]
    have hP2 : a1p a b = (a21 e1 e2) := by simp only [a1p, hP1, cT, cF]
    refine R1 ?_
    intro w1 G bs hI hΓ
    rw [hP2]
    exact ⟨Z, hq1⟩
   have h3d := B.nf' h3
   refine R0 ?_
   refine WX.see Z Z Z (fun _ hΓ => looks_arith Z Z Z Z τ2) ?_
   refine R0 ?_
   exact WX.iter (i + 1) ⟨τ1, (by rw [v2, drop_get e1h]; simp only [a1o, h2, e2h, h3, cT, cF])⟩ τ4 (.cons Z (.cons Z (.cons Z (.nil)))) (.cons Z (.cons Z (.nil))) .nil [0, 1] Z
  have h2d := B.df h2
  refine R0 ?_
  have hX1 : a1o b a.parts 0 = none := by rw [v2, drop_get e1h]; simp only [a1o, h2, cT, cF]
  refine WX.cases 35 Z ?_ ?_ <;> intro h4
  ·skip
   have h4d := B.dt h4
   refine R0 ?_
   have hP3 : a1p a b = (-1) := by simp only [a1p, hX1, h4, cT, cF]
   refine R1 ?_
   intro w1 G bs hI hΓ
   rw [hP3]
   exact ⟨Z, (i6 (-1))⟩
  have h4d := B.df h4
  refine R0 ?_
  refine WX.cases 43 Z ?_ ?_ <;> intro h5
  ·skip
   have h5d := B.dt h5
   refine R0 ?_
   have hP4 : a1p a b = 1 := by simp only [a1p, hX1, h4, h5, cT, cF]
   refine R1 ?_
   intro w1 G bs hI hΓ
   rw [hP4]
   exact ⟨Z, (i6 1)⟩
  have h5d := B.df h5
  refine R0 ?_
  have hP5 : a1p a b = 0 := by simp only [a1p, hX1, h4, h5, cT, cF]
  refine R1 ?_
  intro w1 G bs hI hΓ
  rw [hP5]
  exact ⟨Z, (i6 0)⟩
 have h1d := B.df h1
 refine R0 ?_
 have hX2 : a1o b a.parts 0 = none := by rw [v2, List.drop_eq_nil_of_le (show (a.parts).length ≤ i by omega)]; simp only [a1o, cT, cF]
 refine WX.cases 35 Z ?_ ?_ <;> intro h6
 ·skip
  have h6d := B.dt h6
  refine R0 ?_
  have hP6 : a1p a b = (-1) := by simp only [a1p, hX2, h6, cT, cF]
  refine R1 ?_
  intro w1 G bs hI hΓ
  rw [hP6]
  exact ⟨Z, (i6 (-1))⟩
 have h6d := B.df h6
 refine R0 ?_
 refine WX.cases 43 Z ?_ ?_ <;> intro h7
 ·skip
  have h7d := B.dt h7
  refine R0 ?_
  have hP7 : a1p a b = 1 := by simp only [a1p, hX2, h6, h7, cT, cF]
  refine R1 ?_
  intro w1 G bs hI hΓ
  rw [hP7]
  exact ⟨Z, (i6 1)⟩
 have h7d := B.df h7
 refine R0 ?_
 have hP8 : a1p a b = 0 := by simp only [a1p, hX2, h6, h7, cT, cF]
 refine R1 ?_
 intro w1 G bs hI hΓ
 rw [hP8]
 exact ⟨Z, (i6 0)⟩
theorem f44 (w : World) (n : Nat) (hn : n + 0 ≤ 9) (a : Name) (pa ca) (N0 : RdSl (hp w) pa ca a.parts) (b : Name) (pb cb) (N1 : RdSl (hp w) pb cb b.parts) (hoka : GoT.ok n a) (hokb : GoT.ok n b) :
 Does Tryz.prog 44 #[.agg #[.slice pa ((a.parts).length) ca], .agg #[.slice pb ((b.parts).length) cb]] w emp (pB (a22 a b)) := by
 have hb := bS0 hn
 refine EN Tryz.func44 Z (aS2 N0 N1) ?_
 refine R0 ?_
 refine CV Z Z Z Z Z O Z (fun w γ => f75 w n τ1 a pa ca (γ.q 0 Z) b pb cb (γ.q 1 Z) hoka hokb) ?_
 intro hq1
 refine R0 ?_
 exact R4 Z (by simp only [a22, cT, cF])
theorem f84 (w : World) (n : Nat) (hn : n + 0 ≤ 9) (a : (List UInt8)) (pa ca) (N0 : RdSl (hp w) pa ca a) (b : (List UInt8)) (pb cb) (N1 : RdSl (hp w) pb cb b) (hoka : GoT.ok n a) (hokb : GoT.ok n b) :
 Does Tryz.prog 84 #[.slice pa ((a).length) ca, .slice pb ((b).length) cb] w emp (pB (a4b a b)) := by
 refine EN Tryz.func84 Z (aS2 N0 N1) ?_
 refine R0 ?_
 refine WX.see Z Z Z (fun _ hΓ => looks_toStr ttOk (hΓ.get 0 Z) Z Z Z Z Z Z Z Z Z) ?_
 refine R0 ?_
 refine WX.see Z Z Z (fun _ hΓ => looks_toStr ttOk (hΓ.get 1 Z) Z Z Z Z Z Z Z Z Z) ?_
 refine R0 ?_
 exact R4 Z (by simp only [a4b, cT, cF])
theorem f47 (w : World) (n : Nat) (hn : n + 0 ≤ 9) (a : DataP) (K0 M0) (N0 : RdSl (hp w) K0 M0 a.name.parts) (K1 M1) (N1 : RdSl (hp w) K1 M1 a.content) (K2 M2) (N2 : RdSl (hp w) K2 M2 a.keyName.parts) (b : DataP) (K3 M3) (N3 : RdSl (hp w) K3 M3 b.name.parts) (K4 M4) (N4 : RdSl (hp w) K4 M4 b.content) (K5 M5) (N5 : RdSl (hp w) K5 M5 b.keyName.parts) (hoka : GoT.ok n a) (hokb : GoT.ok n b) :
 Does Tryz.prog 47 #[.agg #[.slice K0 ((a.name.parts).length) M0, .slice K1 ((a.content).length) M1, .slice K2 ((a.keyName.parts).length) M2, .int .i64 (a.freshUntil), .int .i64 (a.signature)], .agg #[.slice K3 ((b.name.parts).length) M3, .slice K4 ((b.content).length) M4, .slice K5 ((b.keyName.parts).length) M5, .int .i64 (b.freshUntil), .int .i64 (b.signature)]] w emp (pB (a2w a b)) := by
 have hb := bS0 hn
 refine EN Tryz.func47 Z (aS6 N0 N1 N2 N3 N4 N5) ?_
 refine R0 ?_
 refine CV Z Z Z Z Z O Z (fun w γ => f38 w n τ1 a.name K0 M0 (γ.q 0 Z) b.name K3 M3 (γ.q 3 Z) ((ok_DataP hoka).1) ((ok_DataP hokb).1)) ?_
 intro hq1
 refine R0 ?_
 refine WX.cases 10 Z ?_ ?_ <;> intro h1
 ·skip
  refine R0 ?_
  refine CV Z Z Z Z Z O Z (fun w γ => f77 w n τ1 a.content K1 M1 (γ.q 1 Z) b.content K4 M4 (γ.q 4 Z) ((ok_DataP hoka).2.1) ((ok_DataP hokb).2.1)) ?_
  intro hq2
  refine R0 ?_
  refine WX.cases 17 Z ?_ ?_ <;> intro h2
  ·skip
   refine R0 ?_
   refine CV Z Z Z Z Z O Z (fun w γ => f38 w n τ1 a.keyName K2 M2 (γ.q 2 Z) b.keyName K5 M5 (γ.q 5 Z) ((ok_DataP hoka).2.2.1) ((ok_DataP hokb).2.2.1)) ?_
   intro hq3
   refine R0 ?_
   refine WX.cases 24 Z ?_ ?_ <;> intro h3
   ·skip
    refine R0 ?_
    refine WX.cases 31 Z ?_ ?_ <;> intro h4
    ·skip
     have h4d := B.et h4
     refine R0 ?_
     exact R4 Z (by simp only [a2w, h1, h2, h3, h4, cT, cF])
    have h4d := B.ef h4
    refine R0 ?_
    exact R4 Z (by simp only [a2w, h1, h2, h3, h4, cT, cF])
   refine R0 ?_
   exact R4 Z (by simp only [a2w, h1, h2, h3, cT, cF])
  refine R0 ?_
  exact R4 Z (by simp only [a2w, h1, h2, cT, cF])
 refine R0 ?_
 exact R4 Z (by simp only [a2w, h1, cT, cF])
theorem f58 (w : World) (n : Nat) (hn : n + 0 ≤ 9) (a : DataP) (K0 M0) (N0 : RdSl (hp w) K0 M0 a.name.parts) (K1 M1) (N1 : RdSl (hp w) K1 M1 a.content) (K2 M2) (N2 : RdSl (hp w) K2 M2 a.keyName.parts) (b : DataP) (K3 M3) (N3 : RdSl (hp w) K3 M3 b.name.parts) (K4 M4) (N4 : RdSl (hp w) K4 M4 b.content) (K5 M5) (N5 : RdSl (hp w) K5 M5 b.keyName.parts) (hoka : GoT.ok n a) (hokb : GoT.ok n b) :
 Does Tryz.prog 58 #[.agg #[.slice K0 ((a.name.parts).length) M0, .slice K1 ((a.content).length) M1, .slice K2 ((a.keyName.parts).length) M2, .int .i64 (a.freshUntil), .int .i64 (a.signature)], .agg #[.slice K3 ((b.name.parts).length) M3, .slice K4 ((b.content).length) M4, .slice K5 ((b.keyName.parts).length) M5, .int .i64 (b.freshUntil), .int .i64 (b.signature)]] w emp (pB (a3u a b)) := by
 have hb := bS0 hn
 refine EN Tryz.func58 Z (aS6 N0 N1 N2 N3 N4 N5) ?_
 refine R0 ?_
 refine CV Z Z Z Z Z O Z (fun w γ => f44 w n τ1 a.name K0 M0 (γ.q 0 Z) b.name K3 M3 (γ.q 3 Z) ((ok_DataP hoka).1) ((ok_DataP hokb).1)) ?_
 intro hq1
 refine R0 ?_
 refine WX.cases 10 Z ?_ ?_ <;> intro h1
 ·skip
  refine R0 ?_
  refine CV Z Z Z Z Z O Z (fun w γ => f84 w n τ1 a.content K1 M1 (γ.q 1 Z) b.content K4 M4 (γ.q 4 Z) ((ok_DataP hoka).2.1) ((ok_DataP hokb).2.1)) ?_
  intro hq2
  refine R0 ?_
  refine WX.cases 17 Z ?_ ?_ <;> intro h2
  ·skip
   refine R0 ?_
   refine CV Z Z Z Z Z O Z (fun w γ => f44 w n τ1 a.keyName K2 M2 (γ.q 2 Z) b.keyName K5 M5 (γ.q 5 Z) ((ok_DataP hoka).2.2.1) ((ok_DataP hokb).2.2.1)) ?_
   intro hq3
   refine R0 ?_
   refine WX.cases 24 Z ?_ ?_ <;> intro h3
   ·skip
    refine R0 ?_
    refine WX.cases 31 Z ?_ ?_ <;> intro h4
    ·skip
     have h4d := B.et h4
     refine R0 ?_
     exact R4 Z (by simp only [a3u, h1, h2, h3, h4, cT, cF])
    have h4d := B.ef h4
    refine R0 ?_
    exact R4 Z (by simp only [a3u, h1, h2, h3, h4, cT, cF])
   refine R0 ?_
   exact R4 Z (by simp only [a3u, h1, h2, h3, cT, cF])
  refine R0 ?_
  exact R4 Z (by simp only [a3u, h1, h2, cT, cF])
 refine R0 ?_
 exact R4 Z (by simp only [a3u, h1, cT, cF])
theorem f20 (w : World) (n : Nat) (hn : n + 0 ≤ 9) (a : Consumer) (K0 M0) (N0 : RdSl (hp w) K0 M0 a.name.parts) (K1 M1) (N1 : RdSl (hp w) K1 M1 a.data.name.parts) (K2 M2) (N2 : RdSl (hp w) K2 M2 a.data.content) (K3 M3) (N3 : RdSl (hp w) K3 M3 a.data.keyName.parts) (b : Consumer) (K4 M4) (N4 : RdSl (hp w) K4 M4 b.name.parts) (K5 M5) (N5 : RdSl (hp w) K5 M5 b.data.name.parts) (K6 M6) (N6 : RdSl (hp w) K6 M6 b.data.content) (K7 M7) (N7 : RdSl (hp w) K7 M7 b.data.keyName.parts) (hoka : GoT.ok n a) (hokb : GoT.ok n b) :
 Does Tryz.prog 20 #[.agg #[.int .i64 (a.node), .int .i64 (a.index), .slice K0 ((a.name.parts).length) M0, .int .i64 (a.attempts), .int .i64 (a.wait), .bool a.satisfied, .slice K1 ((a.data.name.parts).length) M1, .slice K2 ((a.data.content).length) M2, .slice K3 ((a.data.keyName.parts).length) M3, .int .i64 (a.data.freshUntil), .int .i64 (a.data.signature)], .agg #[.int .i64 (b.node), .int .i64 (b.index), .slice K4 ((b.name.parts).length) M4, .int .i64 (b.attempts), .int .i64 (b.wait), .bool b.satisfied, .slice K5 ((b.data.name.parts).length) M5, .slice K6 ((b.data.content).length) M6, .slice K7 ((b.data.keyName.parts).length) M7, .int .i64 (b.data.freshUntil), .int .i64 (b.data.signature)]] w emp (pB (a2m a b)) := by
 have hb := bS0 hn
 refine EN Tryz.func20 Z (aC 0 N0 (aC 1 N1 (aC 2 N2 (aC 3 N3 (aC 4 N4 (aC 5 N5 (aC 6 N6 (aC 7 N7 allS_nil)))))))) ?_
 refine R0 ?_
 refine WX.cases 10 Z ?_ ?_ <;> intro h1
 ·skip
  have h1d := B.et h1
  refine R0 ?_
  refine WX.cases 17 Z ?_ ?_ <;> intro h2
  ·skip
   have h2d := B.et h2
   refine R0 ?_
   refine CV Z Z Z Z Z O Z (fun w γ => f38 w n τ1 a.name K0 M0 (γ.q 0 Z) b.name K4 M4 (γ.q 4 Z) ((ok_Consumer hoka).2.2.1) ((ok_Consumer hokb).2.2.1)) ?_
   intro hq1
   refine R0 ?_
   refine WX.cases 24 Z ?_ ?_ <;> intro h3
   ·skip
    refine R0 ?_
    refine WX.cases 31 Z ?_ ?_ <;> intro h4
    ·skip
     have h4d := B.et h4
     refine R0 ?_
     refine WX.cases 38 Z ?_ ?_ <;> intro h5
     ·skip
      have h5d := B.et h5
      refine R0 ?_
      refine WX.see Z Z Z (fun _ hΓ => looks_beq ttOk Z Z Z Z Z Z) ?_
      refine R0 ?_
      refine WX.cases 45 Z ?_ ?_ <;> intro h6
      ·skip
       refine R0 ?_
       refine CV Z Z Z Z Z O Z (fun w γ => f47 w n τ1 a.data K1 M1 (γ.q 1 Z) K2 M2 (γ.q 2 Z) K3 M3 (γ.q 3 Z) b.data K5 M5 (γ.q 5 Z) K6 M6 (γ.q 6 Z) K7 M7 (γ.q 7 Z) ((ok_Consumer hoka).2.2.2.2.2.2) ((ok_Consumer hokb).2.2.2.2.2.2)) ?_
       intro hq2
       refine R0 ?_
       exact R4 Z (by simp only [a2m, h1, h2, h3, h4, h5, h6, cT, cF])
      refine R0 ?_
      exact R4 Z (by simp only [a2m, h1, h2, h3, h4, h5, h6, cT, cF])
     have h5d := B.ef h5
     refine R0 ?_
     exact R4 Z (by simp only [a2m, h1, h2, h3, h4, h5, cT, cF])
    have h4d := B.ef h4
    refine R0 ?_
    exact R4 Z (by simp only [a2m, h1, h2, h3, h4, cT, cF])
   refine R0 ?_
   exact R4 Z (by simp only [a2m, h1, h2, h3, cT, cF])
  have h2d := B.ef h2
  refine R0 ?_
  exact R4 Z (by simp only [a2m, h1, h2, cT, cF])
 have h1d := B.ef h1
 refine R0 ?_
 exact R4 Z (by simp only [a2m, h1, cT, cF])
end Go.Proofs.YthdgpfbldbabmaaGreatDoor

namespace Go.Stp
set_option linter.unusedVariables false
set_option linter.unusedSimpArgs false
def a0p : List UInt8 → Option (Bool)
 | [] => none
 | e1 :: rest_ =>
  bif decide (((e1).toNat : Int) ≥ 97) then
   bif decide (((e1).toNat : Int) ≤ 122) then
    a0p rest_
   else
    bif decide (((e1).toNat : Int) ≥ 48) then
     bif decide (((e1).toNat : Int) ≤ 57) then
      a0p rest_
     else
      bif (!(((e1).toNat : Int) == 45)) then
       (some false)
      else
       a0p rest_
    else
     bif (!(((e1).toNat : Int) == 45)) then
      (some false)
     else
      a0p rest_
  else
   bif decide (((e1).toNat : Int) ≥ 48) then
    bif decide (((e1).toNat : Int) ≤ 57) then
     a0p rest_
    else
     bif (!(((e1).toNat : Int) == 45)) then
      (some false)
     else
      a0p rest_
   else
    bif (!(((e1).toNat : Int) == 45)) then
     (some false)
    else
     a0p rest_
def a2x (s : Str) : Bool :=
 match a0p ((s).data.toList) with
  | some r_ => r_
  | none =>
   (a0r (((s).size : Nat) : Int) 1 8)
def a1u : List UInt8 → Option (Bool)
 | [] => none
 | e1 :: rest_ =>
  bif (!(a0m ((e1).toNat : Int) 97 122)) then
   bif (!(a0m ((e1).toNat : Int) 48 57)) then
    bif (((e1).toNat : Int) != 45) then
     (some false)
    else
     a1u rest_
   else
    a1u rest_
  else
   a1u rest_
def a1f (s : Str) : Bool :=
 bif (!(a0m (((s).size : Nat) : Int) 1 8)) then
  false
 else
  match a1u ((s).data.toList) with
   | some r_ => r_
   | none =>
    true
def slices_IndexFunc_string_L1 (fq : Str → Bool) : List Str → Nat → Option (Int)
 | [], i => none
 | e1 :: rest_, i =>
  bif fq e1 then
   (some ((i : Nat) : Int))
  else
   slices_IndexFunc_string_L1 fq rest_ (i + 1)
def slices_IndexFunc_string (s : (List Str)) (fq : Str → Bool) : Int :=
 match slices_IndexFunc_string_L1 fq s 0 with
  | some r_ => r_
  | none =>
   (-1)
def slices_ContainsFunc_string (s : (List Str)) (fq : Str → Bool) : Bool :=
 (decide ((slices_IndexFunc_string s fq) ≥ 0))
def a4c (p_ : Str) : Bool :=
 (!(a2x p_))
def a23 (n_ : Name) : Bool :=
 bif decide ((((n_.parts).length : Nat) : Int) ≤ 6) then
  (!(slices_ContainsFunc_string n_.parts (fun e0_ => (a4c e0_))))
 else
  false
def a1j : List Str → Option (Bool)
 | [] => none
 | e1 :: rest_ =>
  bif (!(a1f e1)) then
   (some false)
  else
   a1j rest_
def a13 (n_ : Name) : Bool :=
 match a1j n_.parts with
  | some r_ => r_
  | none =>
   (decide ((((n_.parts).length : Nat) : Int) ≤ 6))
def a3c (x_ : DataP) : Bool :=
 bif (a23 x_.name) then
  bif decide ((((x_.name.parts).length : Nat) : Int) > 0) then
   bif decide ((((x_.content).length : Nat) : Int) ≤ 60) then
    bif (a23 x_.keyName) then
     bif (a0r x_.freshUntil 0 100000) then
      (a0r x_.signature 0 2147483646)
     else
      false
    else
     false
   else
    false
  else
   false
 else
  false
def a24 (x_ : DataP) : Bool :=
 bif (a13 x_.name) then
  bif decide ((((x_.name.parts).length : Nat) : Int) > 0) then
   bif decide ((((x_.content).length : Nat) : Int) ≤ 60) then
    bif (a13 x_.keyName) then
     bif (a0m x_.freshUntil 0 100000) then
      (a0m x_.signature 0 2147483646)
     else
      false
    else
     false
   else
    false
  else
   false
 else
  false
def a0h (a : Consumer) : Bool :=
 bif (!(a0r a.node 0 5)) then
  false
 else
  bif (!(a0r a.index 0 7)) then
   false
  else
   bif (!(a23 a.name)) then
    false
   else
    bif ((((a.name.parts).length : Nat) : Int) == 0) then
     false
    else
     bif (!(a0r a.attempts 0 900)) then
      false
     else
      bif (!(a0r a.wait 0 5)) then
       false
      else
       bif a.satisfied then
        bif (a3c a.data) then
         (a2d a.data.name a.name)
        else
         false
       else
        (a2w a.data (DataP.mk (Name.mk ([])) ([]) (Name.mk ([])) 0 0))
def a28 (a : Consumer) : Bool :=
 bif (!(a0m a.node 0 5)) then
  false
 else
  bif (!(a0m a.index 0 7)) then
   false
  else
   bif (!(a13 a.name)) then
    false
   else
    bif ((((a.name.parts).length : Nat) : Int) == 0) then
     false
    else
     bif (!(a0m a.attempts 0 900)) then
      false
     else
      bif (!(a0m a.wait 0 5)) then
       false
      else
       bif a.satisfied then
        bif (a24 a.data) then
         (a22 a.data.name a.name)
        else
         false
       else
        (a3u a.data (DataP.mk (Name.mk ([])) ([]) (Name.mk ([])) 0 0))
end Go.Stp

