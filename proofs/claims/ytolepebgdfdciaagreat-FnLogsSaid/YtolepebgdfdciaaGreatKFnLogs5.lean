/-
  What the proof of one law needs: rules of the program logic, functions as Lean functions, contracts. No condition but what each says. Written by a program (pack.py) out of my own texts.
-/
import Derived.Test.YtolepebgdfdciaaGreatKFnLogs4
namespace Go.Stp
open GoT (X k ok sh fa oa)
structure PI where
  j : Nat
  d : Nat
  obj : Obj
  val : Nat → Value
  env : Env := []
def PIok (C : Cx) (ops : Array Oper) (it : PI) : Prop :=
  ∃ o, ops[it.j]? = some o ∧ gd ops [] o = some true ∧ o.dst = some it.d ∧ it.d < C.fn.ntmps ∧ ∀ (a : Act) (w : World) (bs : Nat → Nat), At C.fn.ntmps it.env bs a → (execOp a.eval o).run C.P w = .ok (.value (it.val w.heap.size)) (w.alloc it.obj)
structure POk (C : Cx) (ops : Array Oper) (listed : Array Bool) (env : Env) (P : List PI) : Prop where
  ok : ∀ it ∈ P, PIok C ops it
  free : ∀ it ∈ P, look env it.d = none
  sub : ∀ it ∈ P, Sub it.env env
  rdy : ∀ it ∈ P, readyAt ops listed it.j = true
  dis : P.Pairwise (fun x y => x.j ≠ y.j ∧ x.d ≠ y.d)
def doneL (listed : Array Bool) (D : Nat → Option Nat) : List PI → Array Bool
  | [] => listed
  | it :: P => match D it.j with
    | some _ => (doneL listed D P).setIfInBounds it.j true
    | none => doneL listed D P
def left (D : Nat → Option Nat) : List PI → Nat
  | [] => 0
  | it :: P => match D it.j with
    | some _ => left D P
    | none => left D P + 1
def upd (D : Nat → Option Nat) (j b : Nat) : Nat → Option Nat := fun i => if i = j then some b else D i
theorem set_getD_true {l : Array Bool} {i : Nat} : (l.setIfInBounds i true).getD i true = true := by
  rw [Array.getD_eq_getD_getElem?]
  by_cases h : i < l.size
  · simp [h]
  · rw [Array.getElem?_eq_none (by simp; omega)]; rfl
theorem doneL_un {listed : Array Bool} {D : Nat → Option Nat} {i : Nat} : ∀ {P : List PI}, (doneL listed D P).getD i true = false → listed.getD i true = false ∧ ∀ it ∈ P, it.j = i → D i = none
  | [], h => ⟨h, fun _ h => by cases h⟩
  | it :: P, h => by
    unfold doneL at h
    split at h
    · rename_i b hb
      by_cases hi : it.j = i
      · subst hi; rw [set_getD_true] at h; cases h
      · rw [getD_set_ne true hi] at h
        obtain ⟨h1, h2⟩ := doneL_un h
        exact ⟨h1, fun x hx he => (List.mem_cons.1 hx).elim (fun e => by subst e; exact absurd he hi) (fun hx => h2 x hx he)⟩
    · rename_i hb
      obtain ⟨h1, h2⟩ := doneL_un h
      exact ⟨h1, fun x hx he => (List.mem_cons.1 hx).elim (fun e => by subst e; rw [← he]; exact hb) (fun hx => h2 x hx he)⟩
theorem doneL_mono {listed : Array Bool} {D : Nat → Option Nat} {i : Nat} (h : listed.getD i false = true) : ∀ {P : List PI}, (doneL listed D P).getD i false = true
  | [] => h
  | it :: P => by
    unfold doneL
    split
    · exact getD_set_true (doneL_mono h)
    · exact doneL_mono h
theorem doneL_ne {listed : Array Bool} {D : Nat → Option Nat} {i : Nat} (x : Bool) : ∀ {P : List PI}, (∀ it ∈ P, it.j ≠ i) → (doneL listed D P).getD i x = listed.getD i x
  | [], _ => rfl
  | it :: P, h => by
    unfold doneL
    split
    · rw [getD_set_ne x (h it List.mem_cons_self)]; exact doneL_ne x fun y hy => h y (List.mem_cons_of_mem _ hy)
    · exact doneL_ne x fun y hy => h y (List.mem_cons_of_mem _ hy)
theorem doneL_set {listed : Array Bool} {D : Nat → Option Nat} {y : Nat} : ∀ {P : List PI}, (∀ it ∈ P, it.j ≠ y) → doneL (listed.setIfInBounds y true) D P = (doneL listed D P).setIfInBounds y true
  | [], _ => rfl
  | it :: P, h => by
    unfold doneL
    split
    · rw [doneL_set fun x hx => h x (List.mem_cons_of_mem _ hx)]; exact Array.setIfInBounds_comm _ _ (Ne.symm (h it List.mem_cons_self))
    · exact doneL_set fun x hx => h x (List.mem_cons_of_mem _ hx)
theorem doneL_congr {listed : Array Bool} {D D' : Nat → Option Nat} : ∀ {P : List PI}, (∀ it ∈ P, D' it.j = D it.j) → doneL listed D' P = doneL listed D P ∧ left D' P = left D P
  | [], _ => ⟨rfl, rfl⟩
  | it :: P, h => by
    obtain ⟨h1, h2⟩ := doneL_congr (listed := listed) (P := P) fun x hx => h x (List.mem_cons_of_mem _ hx)
    unfold doneL left
    rw [h it List.mem_cons_self, h1, h2]
    exact ⟨rfl, rfl⟩
theorem doneL_upd {listed : Array Bool} {D : Nat → Option Nat} {it : PI} {b : Nat} (hD : D it.j = none) : ∀ {P : List PI}, P.Pairwise (fun x y => x.j ≠ y.j ∧ x.d ≠ y.d) → it ∈ P → doneL listed (upd D it.j b) P = (doneL listed D P).setIfInBounds it.j true ∧ left D P = left (upd D it.j b) P + 1
  | [], _, h => by cases h
  | x :: P, hd, h => by
    rw [List.pairwise_cons] at hd
    rcases List.mem_cons.1 h with rfl | h
    · obtain ⟨h1, h2⟩ := doneL_congr (listed := listed) (D := D) (D' := upd D it.j b) (P := P) fun y hy => if_neg (Ne.symm (hd.1 y hy).1)
      unfold doneL left
      have h3 : upd D it.j b it.j = some b := if_pos rfl
      rw [h3, hD, h1, h2]
      exact ⟨rfl, rfl⟩
    · obtain ⟨h1, h2⟩ := doneL_upd (listed := listed) hD hd.2 h
      have h3 : upd D it.j b x.j = D x.j := if_neg (hd.1 it h).1
      unfold doneL left
      rw [h3, h1]
      cases D x.j with
      | none => dsimp only; exact ⟨rfl, by omega⟩
      | some q => dsimp only; exact ⟨Array.setIfInBounds_comm _ _ (Ne.symm (hd.1 it h).1), h2⟩
def blockB (ops : Array Oper) (listed : Array Bool) (P : List PI) (i : Nat) : Bool :=
  match ops[i]? with
  | some o => o.after.any fun e => Region.binds .any e && !listed.getD e.on false && P.all fun it => !Nat.beq it.j e.on
  | none => true
def nextB (ops : Array Oper) (listed : Array Bool) (P P' : List PI) (y : Nat) : Bool :=
  (List.range ops.size).all fun i => Nat.beq i y || listed.getD i true || (P.any fun it => Nat.beq it.j i) || blockB ops listed P' i
theorem next_spec {ops : Array Oper} {listed : Array Bool} {D : Nat → Option Nat} {P P' : List PI} {y i : Nat} (hn : nextB ops listed P P' y = true) (hD : doneL listed D P = doneL listed D P') (hr : i ∈ Region.ready .any ops (doneL listed D P)) : i = y ∨ ∃ it ∈ P, it.j = i ∧ D it.j = none := by
  obtain ⟨hun, o, ho, hall⟩ := mem_ready.1 hr
  obtain ⟨u1, u2⟩ := doneL_un hun
  have h1 := List.all_eq_true.1 hn i (List.mem_range.2 (Array.getElem?_eq_some_iff.1 ho).1)
  simp only [Bool.or_eq_true] at h1
  rcases h1 with ((h1 | h1) | h1) | h1
  · exact .inl (Nat.eq_of_beq_eq_true h1)
  · rw [u1] at h1; cases h1
  · obtain ⟨it, hit, he⟩ := List.any_eq_true.1 h1
    have he' := Nat.eq_of_beq_eq_true he
    exact .inr ⟨it, hit, he', by rw [he']; exact u2 it hit he'⟩
  · exfalso
    unfold blockB at h1
    rw [ho] at h1
    obtain ⟨e, he, hb⟩ := Array.any_eq_true'.1 h1
    simp only [Bool.and_eq_true, Bool.not_eq_true', List.all_eq_true] at hb
    have h2 := hall e he hb.1.1
    rw [hD, doneL_ne false fun it hit h => by have := hb.2 it hit; rw [h] at this; simp at this] at h2
    rw [hb.1.2] at h2; cases h2
theorem ready_mem {ops : Array Oper} {listed : Array Bool} {D : Nat → Option Nat} {P : List PI} {y : Nat} (hy : readyAt ops listed y = true) (hP : ∀ it ∈ P, it.j = y → D it.j = none) : y ∈ Region.ready .any ops (doneL listed D P) := by
  have h := hy
  unfold readyAt at h
  cases ho : ops[y]? with
  | none => simp [ho] at h
  | some o =>
    simp only [ho, Bool.and_eq_true, Bool.not_eq_true'] at h
    refine mem_ready.2 ⟨?_, o, ho, fun e he hb => ?_⟩
    · have key : ∀ {P : List PI}, (∀ it ∈ P, it.j = y → D it.j = none) → (doneL listed D P).getD y true = listed.getD y true := by
        intro P
        induction P with
        | nil => exact fun _ => rfl
        | cons it P ih =>
          intro hP
          have ih := ih fun x hx => hP x (List.mem_cons_of_mem _ hx)
          unfold doneL
          split
          · rename_i b hb
            by_cases he : it.j = y
            · rw [hP it List.mem_cons_self he] at hb; cases hb
            · rw [getD_set_ne true he]; exact ih
          · exact ih
      rw [key hP]; exact h.1
    · have h2 := Array.all_eq_true_iff_forall_mem.1 h.2 e he
      simp only [hb, Bool.not_true, Bool.false_or] at h2
      exact doneL_mono h2
theorem pw_uniq {α : Type} {R : α → α → Prop} (hs : ∀ x y, R x y → R y x) : ∀ {l : List α}, l.Pairwise R → ∀ x ∈ l, ∀ y ∈ l, x = y ∨ R x y
  | [], _, x, hx, _, _ => by cases hx
  | z :: l, h, x, hx, y, hy => by
    rw [List.pairwise_cons] at h
    rcases List.mem_cons.1 hx with e1 | h1 <;> rcases List.mem_cons.1 hy with e2 | h2
    · exact .inl (e1.trans e2.symm)
    · exact .inr (e1 ▸ h.1 y h2)
    · exact .inr (hs _ _ (e2 ▸ h.1 x h1))
    · exact pw_uniq hs h.2 x h1 y h2
theorem setV_ne {l : Array Value} {i j : Nat} {v x : Value} (h : i ≠ j) : (l.setIfInBounds i v).getD j x = l.getD j x := by simp [Array.getD_eq_getD_getElem?, h]
def Fr (C : Cx) (w : World) (G : GH) (bs : Nat → Nat) (L : Locs) (R : Rows) (a : Act) (D : Nat → Option Nat) (P : List PI) : Prop :=
  ∀ it ∈ P, ∀ b, D it.j = some b → a.tmps.getD it.d undef = it.val b ∧ w.heap[b]? = some it.obj ∧ C.w0.heap.size ≤ b ∧ G b = none ∧ (∀ i, Acts L R i → bs i ≠ b) ∧ (∀ it' ∈ P, ∀ b', D it'.j = some b' → it'.j ≠ it.j → b' ≠ b)
def SatD (C : Cx) (env : Env) (L : Locs) (R : Rows) (Γ : Facts) (a : Act) (w : World) (D : Nat → Option Nat) (P : List PI) : Prop :=
  ∃ G bs, At C.fn.ntmps env bs a ∧ HInv C w G bs L R ∧ AllK C.M G Γ ∧ Fr C w G bs L R a D P
def TXP (C : Cx) (ops : Array Oper) (tl : List Nat) (s : List It) (S : World → Prop) (P : List PI) (fuel : Nat) (listed : Array Bool) (env : Env) (L : Locs) (R : Rows) (Γ : Facts) : Prop :=
  (∀ w w', Kp emp w w' → S w → S w') → POk C ops listed env P → ∀ D a w, SatD C env L R Γ a w D P → wpAnyT C.P ops (cont C s) S tl (fuel + left D P) (doneL listed D P) a w
theorem Fr.keep {C : Cx} {w w' : World} {G G' Hc : GH} {bs : Nat → Nat} {L L' : Locs} {R : Rows} {a : Act} {D : Nat → Option Nat} {P : List PI} {d : Nat} {v : Value} (h : Fr C w G bs L R a D P) (hb : Kp Hc w w') (hc : ∀ b, G b = none → (∀ i, Acts L R i → bs i ≠ b) → Hc b = none) (hG : ∀ b, G b = none → b < w.heap.size → (∀ i, Acts L R i → bs i ≠ b) → G' b = none) (hL : ∀ i, Acts L' R i → Acts L R i) (hd : ∀ it ∈ P, it.d ≠ d) : Fr C w' G' bs L' R (a.put (some d) v) D P := by
  intro it hit b hD
  obtain ⟨h1, h2, h3, h4, h5, h6⟩ := h it hit b hD
  have hlt : b < w.heap.size := (Array.getElem?_eq_some_iff.1 h2).1
  refine ⟨?_, ?_, h3, hG b h4 hlt h5, fun i hi => h5 i (hL i hi), h6⟩
  · show (a.tmps.setIfInBounds d v).getD it.d undef = _
    rw [setV_ne (Ne.symm (hd it hit))]; exact h1
  · rw [hb.block b hlt (hc b h4 h5)]; exact h2
theorem it_step {C : Cx} {ops : Array Oper} {listed : Array Bool} {env : Env} {L : Locs} {R : Rows} {Γ : Facts} {P : List PI} {it : PI} {D : Nat → Option Nat} {Q : Exit → Act → World → Prop} {a : Act} {w : World} (hP : POk C ops listed env P) (hit : it ∈ P) (hS : SatD C env L R Γ a w D P) :
    wpOp C.P ops Q it.j (fun a' w' => Kp emp w w' ∧ ∃ b, SatD C env L R Γ a' w' (upd D it.j b) P) a w := by
  obtain ⟨G, bs, hA, hI, hΓ, hF⟩ := hS
  obtain ⟨o, ho, hg, hd, hlt, hx⟩ := hP.ok it hit
  unfold wpOp
  simp only [ho]
  rw [if_pos (gd_sound (env := []) (bs := bs) ⟨hA.size, hA.dfr, fun _ _ h => by simp [look] at h⟩ hg)]
  refine .inl ?_
  unfold Oper.wp
  rw [hx a w bs ⟨hA.size, hA.dfr, fun d s h => hA.slot d s (hP.sub it hit d s h)⟩]
  simp only [Oper.upon, hd]
  have hk : Kp emp w (w.alloc it.obj) := (Kp.refl emp w).alloc _
  refine ⟨hk, w.heap.size, join (cut G emp) emp, bs, ⟨?_, hA.dfr, fun e x hex => ?_⟩, (hI.called (emp_le _) (fun _ _ h => by cases h) hk (emp_le _) (fun _ _ h => by cases h)).1, hΓ.mono (le_join_l (cut G emp) emp), ?_⟩
  · show (a.tmps.setIfInBounds _ _).size = _
    rw [Array.size_setIfInBounds]; exact hA.size
  · show (a.tmps.setIfInBounds it.d _).getD e undef = _
    have hne : it.d ≠ e := fun h => by subst h; rw [hP.free it hit] at hex; cases hex
    rw [setV_ne hne]; exact hA.slot e x hex
  · have hGn : ∀ b, G b = none → join (cut G emp) emp b = none := fun b h => by unfold join; rw [cut_none' h]; rfl
    have hlt' : ∀ i, Acts L R i → bs i < w.heap.size := by
      intro i h
      rcases h with ⟨x, hx⟩ | ⟨r, hr, hc⟩
      · exact (Array.getElem?_eq_some_iff.1 (hI.loc i x hx).1).1
      · rcases (hI.row i r hr).2 with ⟨h0, _⟩ | ⟨_, _, _, _, _, _, cur, T, hh, _⟩
        · exact absurd h0 hc
        · exact (Array.getElem?_eq_some_iff.1 hh).1
    have hGs : G w.heap.size = none := by
      cases hg' : G w.heap.size with
      | none => rfl
      | some q => have := hI.le.lt hg'; omega
    intro x hx b hb
    by_cases hj : x.j = it.j
    · have hxi : x = it := (pw_uniq (fun _ _ h => ⟨Ne.symm h.1, Ne.symm h.2⟩) hP.dis x hx it hit).resolve_right fun h => h.1 hj
      subst hxi
      have hb' : w.heap.size = b := by
        have : upd D x.j w.heap.size x.j = some w.heap.size := if_pos rfl
        rw [this] at hb; injection hb
      subst hb'
      refine ⟨?_, heap_alloc_new w _, hI.keep.size, hGn _ hGs, fun i hi => Nat.ne_of_lt (hlt' i hi), fun y hy b' hb' hne => ?_⟩
      · show (a.tmps.setIfInBounds x.d _).getD x.d undef = _
        rw [Array.getD_eq_getD_getElem?]
        simp [hA.size, hlt]
      · have h2 : upd D x.j w.heap.size y.j = D y.j := if_neg hne
        rw [h2] at hb'
        have := (Array.getElem?_eq_some_iff.1 (hF y hy b' hb').2.1).1
        omega
    · have h2 : upd D it.j w.heap.size x.j = D x.j := if_neg hj
      rw [h2] at hb
      obtain ⟨q1, q2, q3, q4, q5, q6⟩ := hF x hx b hb
      have hlt2 : b < w.heap.size := (Array.getElem?_eq_some_iff.1 q2).1
      have hxd : it.d ≠ x.d := fun h => (pw_uniq (fun _ _ h => ⟨Ne.symm h.1, Ne.symm h.2⟩) hP.dis x hx it hit).elim (fun e => hj (by rw [e])) (fun e => e.2 h.symm)
      refine ⟨?_, by rw [hk.block b hlt2 rfl]; exact q2, q3, hGn _ q4, q5, fun y hy b' hb' hne => ?_⟩
      · show (a.tmps.setIfInBounds it.d _).getD x.d undef = _
        rw [setV_ne hxd]; exact q1
      · by_cases hyj : y.j = it.j
        · have : upd D it.j w.heap.size y.j = some w.heap.size := if_pos hyj
          rw [this] at hb'
          injection hb' with hb'
          omega
        · have h3 : upd D it.j w.heap.size y.j = D y.j := if_neg hyj
          rw [h3] at hb'
          exact q6 y hy b' hb' hne
theorem TXP.core {C : Cx} {ops : Array Oper} {tl : List Nat} {s : List It} {S : World → Prop} {P : List PI} {fuel y : Nat} {listed : Array Bool} {env : Env} {L : Locs} {R : Rows} {Γ : Facts} (hS : ∀ w w', Kp emp w w' → S w → S w') (hP : POk C ops listed env P) (ok : (Nat → Option Nat) → Prop)
    (hn : ∀ D, ok D → ∀ i ∈ Region.ready .any ops (doneL listed D P), i = y ∨ ∃ it ∈ P, it.j = i ∧ D it.j = none) (hne : ∀ D, ok D → Region.ready .any ops (doneL listed D P) ≠ [])
    (stop : ∀ D a w, ¬ ok D → SatD C env L R Γ a w D P → wpAnyT C.P ops (cont C s) S tl (fuel + left D P) (doneL listed D P) a w)
    (step : ∀ D a w, ok D → SatD C env L R Γ a w D P → y ∈ Region.ready .any ops (doneL listed D P) → ∃ f, fuel + left D P = f + 1 ∧ wpOp C.P ops (cont C s) y (fun a' w' => (tl.contains y = false → S w → S w') ∧ wpAnyT C.P ops (cont C s) S tl f ((doneL listed D P).setIfInBounds y true) a' w') a w) :
    ∀ n D a w, left D P = n → SatD C env L R Γ a w D P → wpAnyT C.P ops (cont C s) S tl (fuel + left D P) (doneL listed D P) a w := by
  intro n
  induction n with
  | zero =>
    intro D a w hn0 hSat
    by_cases hok : ok D
    · have hnone : ∀ it ∈ P, D it.j ≠ none := fun it hit h => by have := (doneL_upd (listed := listed) (b := 0) h hP.dis hit).2; omega
      have hy : y ∈ Region.ready .any ops (doneL listed D P) := by
        cases hr : Region.ready .any ops (doneL listed D P) with
        | nil => exact absurd hr (hne D hok)
        | cons i r =>
          rcases hn D hok i (by rw [hr]; exact List.mem_cons_self) with rfl | ⟨it, hit, _, h⟩
          · exact List.mem_cons_self
          · exact absurd h (hnone it hit)
      obtain ⟨f, hf, hs⟩ := step D a w hok hSat hy
      rw [hf]
      refine ⟨fun h => absurd h (hne D hok), fun i hi => ?_⟩
      rcases hn D hok i hi with rfl | ⟨it, hit, _, h⟩
      · exact hs
      · exact absurd h (hnone it hit)
    · exact stop D a w hok hSat
  | succ n ih =>
    intro D a w hn0 hSat
    by_cases hok : ok D
    · have hf : fuel + left D P = (fuel + n) + 1 := by omega
      rw [hf]
      refine ⟨fun h => absurd h (hne D hok), fun i hi => ?_⟩
      rcases hn D hok i hi with rfl | ⟨it, hit, rfl, h⟩
      · obtain ⟨f, hf', hs⟩ := step D a w hok hSat hi
        have : f = fuel + n := by omega
        subst this
        exact hs
      · refine wpOp_mono (fun a' w' ⟨hk, b, hSat'⟩ => ⟨fun _ h => hS _ _ hk h, ?_⟩) (it_step (Q := cont C s) hP hit hSat)
        obtain ⟨e1, e2⟩ := doneL_upd (listed := listed) (b := b) h hP.dis hit
        have hl : left (upd D it.j b) P = n := by omega
        have := ih (upd D it.j b) a' w' hl hSat'
        rw [e1, hl] at this
        exact this
    · exact stop D a w hok hSat
theorem TX.toP {C : Cx} {ops : Array Oper} {tl : List Nat} {s : List It} {S : World → Prop} {fuel : Nat} {listed : Array Bool} {env : Env} {L : Locs} {R : Rows} {Γ : Facts} (k : TXP C ops tl s S [] fuel listed env L R Γ) : TX C ops tl s S fuel listed env L R Γ := fun hS a w ⟨G, bs, hA, hI, hΓ⟩ =>
  k hS ⟨(fun _ h => by cases h), (fun _ h => by cases h), (fun _ h => by cases h), (fun _ h => by cases h), .nil⟩ (fun _ => none) a w ⟨G, bs, hA, hI, hΓ, fun _ h => by cases h⟩
theorem TXP.done {C : Cx} {ops : Array Oper} {tl : List Nat} {s : List It} {S : World → Prop} {fuel : Nat} {listed : Array Bool} {env : Env} {L : Locs} {R : Rows} {Γ : Facts} (k : TX C ops tl s S fuel listed env L R Γ) : TXP C ops tl s S [] fuel listed env L R Γ := fun hS _ _ a w ⟨G, bs, hA, hI, hΓ, _⟩ => k hS a w ⟨G, bs, hA, hI, hΓ⟩
def envNo (d : Nat) (e : Env) : Bool := e.all fun x => !Nat.beq x.1 d
def apartB (P : List PI) (j d : Nat) : Bool := P.all fun it => !Nat.beq it.j j && !Nat.beq it.d d && envNo d it.env
theorem apartB_spec {P : List PI} {j d : Nat} (h : apartB P j d = true) : ∀ it ∈ P, it.j ≠ j ∧ it.d ≠ d := fun it hit => by
  have := List.all_eq_true.1 h it hit
  simp only [Bool.and_eq_true, Bool.not_eq_true'] at this
  exact ⟨Nat.ne_of_beq_eq_false this.1.1, Nat.ne_of_beq_eq_false this.1.2⟩
theorem apartB_env {P : List PI} {j d : Nat} (h : apartB P j d = true) : ∀ it ∈ P, envNo d it.env = true := fun it hit => by
  have := List.all_eq_true.1 h it hit
  simp only [Bool.and_eq_true, Bool.not_eq_true'] at this
  exact this.2
theorem envNo_sub {d : Nat} {e env : Env} {sv : SV} (h : envNo d e = true) (hs : Sub e env) : Sub e ((d, sv) :: env) := fun i x hx => by
  have h1 := List.all_eq_true.1 h (i, x) (look_mem hx)
  simp only [Bool.not_eq_true'] at h1
  rw [look_cons, if_neg (Ne.symm (Nat.ne_of_beq_eq_false h1))]
  exact hs i x hx
theorem TXP.pend {C : Cx} {ops : Array Oper} {tl : List Nat} {s : List It} {S : World → Prop} {P : List PI} {fuel : Nat} {listed : Array Bool} {env : Env} {L : Locs} {R : Rows} {Γ : Facts} (it : PI) (hok : PIok C ops it) (hsb : Sub it.env env) (hf : look env it.d = none) (hr : readyAt ops listed it.j = true) (hd : apartB P it.j it.d = true)
    (k : TXP C ops tl s S (it :: P) fuel listed env L R Γ) : TXP C ops tl s S P (fuel + 1) listed env L R Γ := by
  intro hS hP D a w ⟨G, bs, hA, hI, hΓ, hF⟩
  have hdd := apartB_spec hd
  let D' : Nat → Option Nat := fun i => if i = it.j then none else D i
  have hD0 : D' it.j = none := if_pos rfl
  have hD1 : ∀ x ∈ P, D' x.j = D x.j := fun x hx => if_neg (hdd x hx).1
  obtain ⟨e1, e2⟩ := doneL_congr (listed := listed) hD1
  have key := k hS ⟨fun x hx => (List.mem_cons.1 hx).elim (fun e => e ▸ hok) (hP.ok x), fun x hx => (List.mem_cons.1 hx).elim (fun e => e ▸ hf) (hP.free x), fun x hx => (List.mem_cons.1 hx).elim (fun e => e ▸ hsb) (hP.sub x), fun x hx => (List.mem_cons.1 hx).elim (fun e => e ▸ hr) (hP.rdy x), List.pairwise_cons.2 ⟨fun x hx => ⟨Ne.symm (hdd x hx).1, Ne.symm (hdd x hx).2⟩, hP.dis⟩⟩ D' a w ⟨G, bs, hA, hI, hΓ, fun x hx b hb => ?_⟩
  · unfold doneL left at key
    rw [hD0] at key
    dsimp only at key
    rw [e1, e2] at key
    rw [show fuel + 1 + left D P = fuel + (left D P + 1) by omega]
    exact key
  · rcases List.mem_cons.1 hx with e | hx
    · subst e; rw [hD0] at hb; cases hb
    · rw [hD1 x hx] at hb
      obtain ⟨q1, q2, q3, q4, q5, q6⟩ := hF x hx b hb
      refine ⟨q1, q2, q3, q4, q5, fun y hy b' hb' hne => ?_⟩
      rcases List.mem_cons.1 hy with e | hy
      · subst e; rw [hD0] at hb'; cases hb'
      · rw [hD1 y hy] at hb'; exact q6 y hy b' hb' hne
theorem readyAt_set {ops : Array Oper} {listed : Array Bool} {i j : Nat} (h : readyAt ops listed j = true) (hij : j ≠ i) : readyAt ops (listed.setIfInBounds i true) j = true := by
  unfold readyAt at h ⊢
  rw [getD_set_ne true (Ne.symm hij)]
  cases ho : ops[j]? with
  | none => simp [ho] at h
  | some o =>
    simp only [ho, Bool.and_eq_true] at h ⊢
    refine ⟨h.1, Array.all_eq_true_iff_forall_mem.2 fun e he => ?_⟩
    have := Array.all_eq_true_iff_forall_mem.1 h.2 e he
    simp only [Bool.or_eq_true] at this ⊢
    exact this.imp id getD_set_true
theorem ready_doneL {ops : Array Oper} {listed : Array Bool} {D : Nat → Option Nat} {P : List PI} {i : Nat} (h : i ∈ Region.ready .any ops listed) (hP : ∀ it ∈ P, it.j ≠ i) : i ∈ Region.ready .any ops (doneL listed D P) := by
  obtain ⟨hun, o, ho, hall⟩ := mem_ready.1 h
  exact mem_ready.2 ⟨by rw [doneL_ne true hP]; exact hun, o, ho, fun e he hb => doneL_mono (hall e he hb)⟩
theorem POk.step {C : Cx} {ops : Array Oper} {listed : Array Bool} {env : Env} {P : List PI} {i d : Nat} {sv : SV} (hP : POk C ops listed env P) (ha : apartB P i d = true) : POk C ops (listed.setIfInBounds i true) ((d, sv) :: env) P :=
  have h := apartB_spec ha
  ⟨hP.ok, fun x hx => by rw [look_cons, if_neg (Ne.symm (h x hx).2)]; exact hP.free x hx, fun x hx => envNo_sub (apartB_env ha x hx) (hP.sub x hx), fun x hx => readyAt_set (hP.rdy x hx) (h x hx).1, hP.dis⟩
theorem TXP.takeP {C : Cx} {ops : Array Oper} {tl : List Nat} {s : List It} {S : World → Prop} {P : List PI} {fuel : Nat} {listed : Array Bool} {env : Env} {L : Locs} {R : Rows} {Γ : Facts} {i d : Nat} {o : Oper} {sv : SV} {b : Bool} (hb : mayP ops listed i = true) (hi : ops[i]? = some o) (hd : o.dst = some d) (hlt : d < C.fn.ntmps) (ha : apartB P i d = true)
    (hg : gd ops env o = some b) (hl : b = true → ∀ a w bs, At C.fn.ntmps env bs a → (execOp a.eval o).run C.P w = .ok (.value (conc bs sv)) w) (hu : b = false → sv = .v undef)
    (k : TXP C ops tl s S P fuel (listed.setIfInBounds i true) ((d, sv) :: env) L R Γ) : TXP C ops tl s S P (fuel + 1) listed env L R Γ := by
  intro hS hP D a w ⟨G, bs, hA, hI, hΓ, hF⟩
  have hap := apartB_spec ha
  simp only [mayP, Bool.and_eq_true] at hb
  obtain ⟨⟨h1, h4⟩, h5⟩ := hb
  have hr : i ∈ Region.ready .any ops (doneL listed D P) := ready_doneL (by simpa using h5) fun it hit => (hap it hit).1
  rw [show fuel + 1 + left D P = (fuel + left D P) + 1 by omega]
  refine wpAnyT_firstP hi (Region.noSelect_spec h1) (fun c a w h => (cont_panic C s c _ _ h).elim) (fuel + left D P) (doneL listed D P) a w (fun j oj hj hne hun hno => Region.free_spec hi h4 j oj hj hne (doneL_un hun).1 hno) hr (v := conc bs sv) ?_ ?_
  · cases b with
    | true => exact .inl ⟨gd_sound hA hg, fun w' _ => hl rfl a w' bs hA⟩
    | false => exact .inr ⟨gd_sound hA hg, by rw [hu rfl]; rfl⟩
  · rw [hd, ← doneL_set fun it hit => (hap it hit).1]
    refine k hS (hP.step ha) D _ _ ⟨G, bs, hA.put hlt sv, hI, hΓ, fun x hx b hb => ?_⟩
    obtain ⟨q1, q⟩ := hF x hx b hb
    exact ⟨by rw [← q1]; exact setV_ne (Ne.symm (hap x hx).2), q⟩
def apartL (ops : Array Oper) (P : List PI) (is : List Nat) : Bool := is.all fun i => match getO ops.toList i with | some o => (match o.dst with | some d => apartB P i d | none => false) | none => false
theorem TXP.takes {C : Cx} {ops : Array Oper} {tl : List Nat} {s : List It} {S : World → Prop} {P : List PI} {L : Locs} {R : Rows} {Γ : Facts} (ht : TabOk C.P C.tt) : ∀ (is : List Nat) {fuel : Nat} {listed : Array Bool} {env env' : Env}, apartL ops P is = true → takesB ops tl listed (is.map fun i => (i, true)) = true →
    takesE C.tt C.fn.ntmps ops [] env (is.map fun i => (i, true)) = some env' → TXP C ops tl s S P fuel (setAll listed (is.map fun i => (i, true))) env' L R Γ → TXP C ops tl s S P (fuel + is.length) listed env L R Γ
  | [], _, _, _, _, _, _, h, k => by simp [takesE] at h; subst h; exact k
  | i :: r, fuel, listed, env, env', ha, hb, h, k => by
    simp only [apartL, List.all_cons, Bool.and_eq_true] at ha
    simp only [List.map_cons, takesB, Bool.and_eq_true] at hb
    simp only [List.map_cons, takesE] at h
    split at h
    · rename_i o ho
      simp only [ho] at ha
      rw [getO_eq] at ho
      have ho' : ops[i]? = some o := by simpa using ho
      split at h
      · rename_i d hd
        simp only [hd] at ha
        split at h
        · rename_i hlt
          have hlt' : d < C.fn.ntmps := by simpa [Nat.blt_eq] using hlt
          split at h
          · rename_i hg
            split at h
            · rename_i sv hsv
              exact TXP.takeP hb.1 ho' hd hlt' ha.1 hg (fun _ a w bs' hA => pureS_any ht w hA hsv) (fun h => by cases h) (TXP.takes ht r ha.2 hb.2 h k)
            · cases h
          · rename_i hg
            exact TXP.takeP hb.1 ho' hd hlt' ha.1 hg (fun h => by cases h) (fun _ => rfl) (TXP.takes ht r ha.2 hb.2 h k)
          · cases h
        · cases h
      · cases h
    · cases h
theorem TXP.seeP {C : Cx} {ops : Array Oper} {tl : List Nat} {s : List It} {S : World → Prop} {P : List PI} {fuel : Nat} {listed : Array Bool} {env : Env} {L : Locs} {R : Rows} {Γ : Facts} {d : Nat} {o : Oper} {sv : SV} (i : Nat) (hb : mayP ops listed i = true) (hi : getO ops.toList i = some o) (hg : gd ops env o = some true) (hd : o.dst = some d) (hlt : Nat.blt d C.fn.ntmps = true) (ha : apartB P i d = true)
    (hl : LooksP C env o sv) (k : TXP C ops tl s S P fuel (listed.setIfInBounds i true) ((d, sv) :: env) L R Γ) : TXP C ops tl s S P (fuel + 1) listed env L R Γ := by
  rw [getO_eq] at hi
  exact TXP.takeP hb (by simpa using hi) hd (by simpa [Nat.blt_eq] using hlt) ha hg (fun _ a w bs hA => hl a w bs hA) (fun h => by cases h) k
theorem TXP.next {C : Cx} {ops : Array Oper} {tl : List Nat} {s : List It} {S : World → Prop} {P : List PI} {fuel i d : Nat} {listed : Array Bool} {env : Env} {L : Locs} {R : Rows} {Γ : Facts} (hn : nextB ops listed P P i = true) (hr : readyAt ops listed i = true) (ha : apartB P i d = true)
    (step : (∀ w w', Kp emp w w' → S w → S w') → POk C ops listed env P → ∀ D a w, SatD C env L R Γ a w D P → wpOp C.P ops (cont C s) i (fun a' w' => (tl.contains i = false → S w → S w') ∧ wpAnyT C.P ops (cont C s) S tl (fuel + left D P) (doneL (listed.setIfInBounds i true) D P) a' w') a w) : TXP C ops tl s S P (fuel + 1) listed env L R Γ := by
  intro hS hP D a w hSat
  have hap := apartB_spec ha
  have hin : ∀ D, i ∈ Region.ready .any ops (doneL listed D P) := fun D => ready_mem hr fun it hit h => absurd h (hap it hit).1
  refine TXP.core (y := i) hS hP (fun _ => True) (fun D _ j hj => next_spec hn rfl hj) (fun D _ h => by have := hin D; rw [h] at this; cases this) (fun _ _ _ h => absurd trivial h) (fun D a w _ hSat _ => ⟨fuel + left D P, by omega, ?_⟩) _ D a w rfl hSat
  have := step hS hP D a w hSat
  rw [doneL_set fun it hit => (hap it hit).1] at this
  exact this
theorem TXP.callG {C : Cx} {ops : Array Oper} {tl : List Nat} {st : List It} {S : World → Prop} {P : List PI} {fuel : Nat} {listed : Array Bool} {env : Env} {L : Locs} {R : Rows} {Γ : Facts} {o : Oper} (i : Nat) {f : Operand} {args : List Operand} {ats : Array TypeId} {g : FuncId} {sf : SV} {svs : List SV} {caps : (Nat → Nat) → List Value}
    {Ψ : World → Value → World → Prop} {d : Nat} (hn : nextB ops listed P P i = true) (hr : readyAt ops listed i = true) (ha : apartB P i d = true) (hi : getO ops.toList i = some o) (hg : gd ops env o = some true) (hd : o.dst = some d) (ho : o.op = .call { callee := .value f, args := args.toArray, argTypes := ats })
    (hf : ev env f = some sf) (hsf : ∀ bs, conc bs sf = .func (.func g) #[] (caps bs).toArray) (hargs : evs env args = some svs)
    (hc : ∀ w G bs, HInv C w G bs L R → AllK C.M (hp w) Γ → Does C.P g (svs.map (conc bs) ++ caps bs).toArray w emp (Ψ w))
    (k : ∀ a w w' G bs v D, (∀ w w', Kp emp w w' → S w → S w') → POk C ops listed env P → At C.fn.ntmps env bs a → HInv C w G bs L R → AllK C.M G Γ → Fr C w G bs L R a D P → Kp emp w w' → Ψ w v w' → wpAnyT C.P ops (cont C st) S tl (fuel + left D P) (doneL (listed.setIfInBounds i true) D P) (a.put (some d) v) w') : TXP C ops tl st S P (fuel + 1) listed env L R Γ := by
  refine TXP.next (d := d) hn hr ha fun hS hP D a w ⟨G, bs, hA, hI, hΓ, hF⟩ => ?_
  rw [getO_eq] at hi
  have hi' : ops[i]? = some o := by simpa using hi
  unfold wpOp
  simp only [hi']
  rw [if_pos (gd_sound hA hg)]
  refine .inl ?_
  unfold Oper.wp
  obtain ⟨he, hcalls⟩ := hc w G bs hI (hΓ.mono hI.le)
  rw [exec_call he ho (by rw [ev_conc hA hf, hsf]) (evs_sound hA args svs hargs)]
  simp only [Oper.upon]
  refine hcalls.mono fun e w' ⟨v, hv, hb, hψ⟩ => ?_
  subst hv
  rw [hd]
  exact ⟨fun _ hs => hS _ _ hb hs, k a w w' G bs v D hS hP hA hI hΓ hF hb hψ⟩
theorem join_none {G h : GH} {b : Nat} (h1 : G b = none) (h2 : h b = none) : join G h b = none := by unfold join; rw [h1]; exact h2
theorem TXP.callV {C : Cx} {ops : Array Oper} {tl : List Nat} {st : List It} {S : World → Prop} {P : List PI} {fuel : Nat} {listed : Array Bool} {env : Env} {L : Locs} {R : Rows} {Γ : Facts} {o : Oper} (i : Nat) {f : Operand} {args : List Operand} {ats : Array TypeId} {g : FuncId} {sf : SV} {svs : List SV} {caps : (Nat → Nat) → List Value}
    {c : Value} {Q : Prop} {d : Nat} (hn : nextB ops listed P P i = true) (hr : readyAt ops listed i = true) (hi : getO ops.toList i = some o) (hg : gd ops env o = some true) (hd : o.dst = some d) (ha : apartB P i d = true) (hlt : Nat.blt d C.fn.ntmps = true) (ho : o.op = .call { callee := .value f, args := args.toArray, argTypes := ats })
    (hf : ev env f = some sf) (hsf : ∀ bs, conc bs sf = .func (.func g) #[] (caps bs).toArray) (hargs : evs env args = some svs)
    (hc : ∀ w G bs, HInv C w G bs L R → AllK C.M (hp w) Γ → Does C.P g (svs.map (conc bs) ++ caps bs).toArray w emp fun v _ => v = c ∧ Q)
    (k : Q → TXP C ops tl st S P fuel (listed.setIfInBounds i true) ((d, .v c) :: env) L R Γ) : TXP C ops tl st S P (fuel + 1) listed env L R Γ :=
  TXP.callG (Ψ := fun _ v _ => v = c ∧ Q) i hn hr ha hi hg hd ho hf hsf hargs hc fun a w w' G bs v D hS hP hA hI hΓ hF hb ⟨hv, hq⟩ => by
    subst hv
    have hI' := (hI.called (emp_le _) (fun _ _ h => by cases h) hb (emp_le _) (fun _ _ h => by cases h)).1
    exact k hq hS (hP.step ha) D _ _ ⟨_, bs, hA.put (by simpa [Nat.blt_eq] using hlt) (.v v), hI', hΓ.mono (le_join_l (cut G emp) emp), hF.keep hb (fun _ _ _ => rfl) (fun b h _ _ => join_none (cut_none' h) rfl) (fun _ h => h) fun it hit => (apartB_spec ha it hit).2⟩
theorem TXP.callF {C : Cx} {ops : Array Oper} {tl : List Nat} {st : List It} {S : World → Prop} {P : List PI} {fuel : Nat} {listed : Array Bool} {env : Env} {L : Locs} {R : Rows} {Γ : Facts} {o : Oper} (i m : Nat) {f : Operand} {args : List Operand} {ats : Array TypeId} {g : FuncId} {sf : SV} {svs : List SV} {caps : (Nat → Nat) → List Value}
    {ι : Type} {val val' : ι → Value} {gs ds : ι → List MF} {Q : Prop} {d : Nat} {Γ' : ι → Facts} (hds : ∀ i h, Sep h (gs i) → All h (ds i)) (hdk : ∀ i, ∀ f ∈ ds i, f.k = .der) (hn : nextB ops listed P P i = true) (hr : readyAt ops listed i = true) (hi : getO ops.toList i = some o) (hg : gd ops env o = some true) (hd : o.dst = some d) (ha : apartB P i d = true) (hlt : Nat.blt d C.fn.ntmps = true) (ho : o.op = .call { callee := .value f, args := args.toArray, argTypes := ats })
    (hf : ev env f = some sf) (hsf : ∀ bs, conc bs sf = .func (.func g) #[] (caps bs).toArray) (hargs : evs env args = some svs)
    (hc : ∀ w G bs, HInv C w G bs L R → AllK C.M (hp w) Γ → Does C.P g (svs.map (conc bs) ++ caps bs).toArray w emp (Post w emp val gs Q))
    (hv : ∀ i, normV (val i) = some (val' i)) (hΓ' : ∀ i, addF m (ds i ++ gs i) Γ = some (Γ' i))
    (k : ∀ j, Q → TXP C ops tl st S P fuel (listed.setIfInBounds i true) ((d, .v (val' j)) :: env) L R (Γ' j)) : TXP C ops tl st S P (fuel + 1) listed env L R Γ :=
  TXP.callG (Ψ := fun w v w' => Post w emp val gs Q v w') i hn hr ha hi hg hd ho hf hsf hargs hc fun a w w' G bs v D hS hP hA hI hΓ hF hb hv' => by
    obtain ⟨j, h, rfl, hq, hle1, hdom, hs⟩ := hv'
    rw [← normV_eq (hv j)]
    obtain ⟨hI', hdj⟩ := hI.called (emp_le _) (fun _ _ h => by cases h) hb hle1 hdom
    refine k j hq hS (hP.step ha) D _ _ ⟨_, bs, hA.put (by simpa [Nat.blt_eq] using hlt) (.v _), hI', hΓ.after hdj (fun b o hb' => .inl ((hdom b o hb').elim (Nat.le_trans hI.keep.size) (fun h => absurd rfl h))) hs (hdk j) (hds j h hs) (hΓ' j), hF.keep hb (fun _ _ _ => rfl) (fun b h1 h2 _ => join_none (cut_none' h1) ?_) (fun _ h => h) fun it hit => (apartB_spec ha it hit).2⟩
    cases hx : h b with
    | none => rfl
    | some q => rcases hdom b q hx with h3 | h3
                · omega
                · exact absurd rfl h3
theorem cur_post {C : Cx} {w w' : World} {G : GH} {bs : Nat → Nat} {L : Locs} {R : Rows} {Γ : Facts} {T : Nat} {cs : List Value} {ι : Type} {val val' : ι → Value} {cs' : ι → List Value} {gs ds : ι → List MF} {Q : Prop} {Γ' : ι → Facts} {v : Value} (n : Nat) (hI : HInv C w G bs L R) (hΓ : AllK C.M G Γ) (hl : look L 999 = some ⟨T, cs⟩) (hds : ∀ i h, Sep h (gs i) → All h (ds i)) (hdk : ∀ i, ∀ f ∈ ds i, f.k = .der)
    (hv : ∀ i, normV (val i) = some (val' i)) (hΓ' : ∀ i, addF n (ds i ++ gs i) Γ = some (Γ' i)) (hb : Kp (sgl (bs 999) (lobj ⟨T, cs⟩)) w w') (hψ : Post w (sgl (bs 999) (lobj ⟨T, cs⟩)) val (fun i => MF.bx (bs 999) T (cs' i) :: gs i) Q v w') :
    ∃ j G2, Q ∧ v = val' j ∧ HInv C w' G2 bs (setL L 999 (cs' j)) R ∧ AllK C.M G2 (Γ' j) ∧ ∀ b, G b = none → b < w.heap.size → bs 999 ≠ b → G2 b = none := by
  obtain ⟨h1, h2, h3⟩ := hI.loc 999 _ hl
  obtain ⟨j, h, rfl, hq, hle, hdom, ha, hr, a1, a2, a3, a4, a5⟩ := hψ
  have a4' : ha (bs 999) = some (lobj ⟨T, cs' j⟩) := a4
  obtain ⟨hI', hdj⟩ := (hI.drop hl).called (Hc := sgl (bs 999) (lobj ⟨T, cs⟩)) (le_join_r (sgl_dj h3).symm) (fun b q hx => by
    by_cases hbb : b = bs 999
    · subst hbb; exact h2
    · rw [sgl_ne _ hbb] at hx; cases hx) hb hle hdom
  have hG1 : Le G (cut (join G (sgl (bs 999) (lobj ⟨T, cs⟩))) (sgl (bs 999) (lobj ⟨T, cs⟩))) := le_cut (le_join_l _ _) (sgl_dj h3).symm
  have hlab : h (bs 999) = some (lobj ⟨T, cs' j⟩) := a1 _ _ a4'
  have hG2 : join (cut (join G (sgl (bs 999) (lobj ⟨T, cs⟩))) (sgl (bs 999) (lobj ⟨T, cs⟩))) h (bs 999) = some (lobj ⟨T, cs' j⟩) := le_join_r hdj.symm _ _ hlab
  have hI2 := hI'.take (i := 999) (l := ⟨T, cs' j⟩) (L' := setL L 999 (cs' j)) (fun x => by
    rw [look_setL, look_delL]
    by_cases hij : 999 = x
    · subst hij; simp [hl]
    · simp [hij]) (fun r hr' => hI.dis 999 _ r hl hr') hG2 h2
  have hdr : Dj hr G := hdj.mono a2 hG1
  have hΓ2 := hΓ.after (h := hr) (n := n) (ds := ds j) hdr (fun b q hx => by
    rcases hdom b q (a2 b q hx) with h4 | h4
    · exact .inl (Nat.le_trans hI.keep.size h4)
    · by_cases hbb : b = bs 999
      · subst hbb; exact h2
      · exact absurd (sgl_ne _ hbb) h4) a5 (hdk j) (hds j hr a5) (hΓ' j)
  refine ⟨j, _, hq, (normV_eq (hv j)).symm, hI2, hΓ2.mono (join_le ?_ ?_), fun b hgb hlt hne => ?_⟩
  · exact le_cut (hG1.trans (le_join_l _ _)) (sgl_dj h3).symm
  · refine le_cut (a2.trans (le_join_r hdj.symm)) (sgl_dj ?_).symm
    cases hx : hr (bs 999) with
    | none => rfl
    | some q => rcases a3 (bs 999) with h5 | h5
                · rw [a4'] at h5; cases h5
                · rw [hx] at h5; cases h5
  · refine cut_none' (join_none (cut_none' (join_none hgb (sgl_ne _ (Ne.symm hne)))) ?_)
    cases hx : h b with
    | none => rfl
    | some q => rcases hdom b q hx with h4 | h4
                · omega
                · exact absurd (sgl_ne _ (Ne.symm hne)) h4
theorem TXP.callP {C : Cx} {ops : Array Oper} {tl : List Nat} {st : List It} {S : World → Prop} {P : List PI} {fuel : Nat} {listed : Array Bool} {env : Env} {L : Locs} {R : Rows} {Γ : Facts} {o : Oper} (hcur : CurK C S) (i : Nat) {f : Operand} {args : List Operand} {ats : Array TypeId} {g : FuncId} {sf : SV} {svs : List SV} {caps : (Nat → Nat) → List Value} {T : Nat} {cs : List Value}
    {ι : Type} {val val' : ι → Value} {cs' : ι → List Value} {gs ds : ι → List MF} {Q : Prop} {d : Nat} {Γ' : ι → Facts} (n : Nat) (hpin : ∃ b, C.pin = some b) (hl : look L 999 = some ⟨T, cs⟩) (hds : ∀ i h, Sep h (gs i) → All h (ds i)) (hdk : ∀ i, ∀ f ∈ ds i, f.k = .der) (hn : nextB ops listed P P i = true) (hr : readyAt ops listed i = true) (hi : getO ops.toList i = some o) (hg : gd ops env o = some true) (hd : o.dst = some d) (ha : apartB P i d = true) (hlt : Nat.blt d C.fn.ntmps = true) (ho : o.op = .call { callee := .value f, args := args.toArray, argTypes := ats })
    (hf : ev env f = some sf) (hsf : ∀ bs, conc bs sf = .func (.func g) #[] (caps bs).toArray) (hargs : evs env args = some svs)
    (hc : ∀ w G bs H, HInv C w G bs L R → Le H (hp w) → Sep H [MF.bx (bs 999) T cs] → AllK C.M (cut (hp w) H) Γ → Does C.P g (svs.map (conc bs) ++ caps bs).toArray w H (Post w H val (fun i => MF.bx (bs 999) T (cs' i) :: gs i) Q))
    (hv : ∀ i, normV (val i) = some (val' i)) (hΓ' : ∀ i, addF n (ds i ++ gs i) Γ = some (Γ' i))
    (k : ∀ j, Q → TXP C ops tl st S P fuel (listed.setIfInBounds i true) ((d, .v (val' j)) :: env) (setL L 999 (cs' j)) R (Γ' j)) : TXP C ops tl st S P (fuel + 1) listed env L R Γ := by
  refine TXP.next (d := d) hn hr ha fun hS hP D a w ⟨G, bs, hA, hI, hΓ, hF⟩ => ?_
  rw [getO_eq] at hi
  have hi' : ops[i]? = some o := by simpa using hi
  unfold wpOp
  simp only [hi']
  rw [if_pos (gd_sound hA hg)]
  refine .inl ?_
  unfold Oper.wp
  obtain ⟨h1, h2, h3⟩ := hI.loc 999 _ hl
  have hGH : Le G (cut (hp w) (sgl (bs 999) (lobj ⟨T, cs⟩))) := le_cut hI.le (sgl_dj h3).symm
  obtain ⟨he, hcalls⟩ := hc w G bs (sgl (bs 999) (lobj ⟨T, cs⟩)) hI (sgl_le h1) ⟨_, emp, Le.refl _, emp_le _, (emp_dj _).symm, sgl_self _ _, trivial⟩ (hΓ.mono hGH)
  rw [exec_call he ho (by rw [ev_conc hA hf, hsf]) (evs_sound hA args svs hargs)]
  simp only [Oper.upon]
  refine hcalls.mono fun e w' ⟨v, hve, hb, hψ⟩ => ?_
  subst hve
  rw [hd]
  refine ⟨fun _ hs => ?_, ?_⟩
  · obtain ⟨b, hpb⟩ := hpin
    have := hI.pin b hpb
    subst this
    exact hcur _ _ _ _ hpb h2 h1 hb hs
  obtain ⟨j, G2, hq, rfl, hI2, hΓ2, hGn⟩ := cur_post n hI hΓ hl hds hdk hv hΓ' hb hψ
  have hact : Acts L R 999 := .inl ⟨_, hl⟩
  refine k j hq hS (hP.step ha) D _ _ ⟨G2, bs, hA.put (by simpa [Nat.blt_eq] using hlt) (.v _), hI2, hΓ2, hF.keep hb (fun b hgb hx => sgl_ne _ (Ne.symm (hx 999 hact))) (fun b hgb hlt hx => hGn b hgb hlt (hx 999 hact)) (fun x hx => ?_) fun it hit => (apartB_spec ha it hit).2⟩
  rcases hx with ⟨y, hy⟩ | hx
  · rw [look_setL] at hy
    by_cases h9 : 999 = x
    · subst h9; exact hact
    · rw [if_neg h9] at hy; exact .inl ⟨y, hy⟩
  · exact .inr hx
def getP : List PI → Nat → Option PI
  | [], _ => none
  | it :: _, 0 => some it
  | _ :: P, k + 1 => getP P k
def rmP : List PI → Nat → List PI
  | [], _ => []
  | _ :: P, 0 => P
  | it :: P, k + 1 => it :: rmP P k
theorem rmP_mem {it x : PI} : ∀ {P : List PI} {k : Nat}, x ∈ rmP P k → x ∈ P
  | [], _, h => h
  | _ :: P, 0, h => List.mem_cons_of_mem _ h
  | y :: P, k + 1, h => (List.mem_cons.1 h).elim (fun e => e ▸ List.mem_cons_self) fun h => List.mem_cons_of_mem _ (rmP_mem (it := it) h)
theorem getP_mem {it : PI} : ∀ {P : List PI} {k : Nat}, getP P k = some it → it ∈ P
  | [], _, h => by cases h
  | _ :: P, 0, h => by cases h; exact List.mem_cons_self
  | y :: P, k + 1, h => List.mem_cons_of_mem _ (getP_mem h)
theorem rmP_pw {P : List PI} (h : P.Pairwise (fun x y => x.j ≠ y.j ∧ x.d ≠ y.d)) : ∀ {k : Nat} {it : PI}, getP P k = some it → (rmP P k).Pairwise (fun x y => x.j ≠ y.j ∧ x.d ≠ y.d) ∧ ∀ x ∈ rmP P k, x.j ≠ it.j ∧ x.d ≠ it.d := by
  induction P with
  | nil => exact fun h => by cases h
  | cons y P ih =>
    intro k it hk
    rw [List.pairwise_cons] at h
    cases k with
    | zero => cases hk; exact ⟨h.2, fun x hx => ⟨Ne.symm (h.1 x hx).1, Ne.symm (h.1 x hx).2⟩⟩
    | succ k =>
      obtain ⟨i1, i2⟩ := ih h.2 hk
      refine ⟨List.pairwise_cons.2 ⟨fun x hx => h.1 x (rmP_mem (it := it) hx), i1⟩, fun x hx => ?_⟩
      rcases List.mem_cons.1 hx with rfl | hx
      · exact h.1 it (getP_mem hk)
      · exact i2 x hx
theorem rmP_doneL {listed : Array Bool} {D : Nat → Option Nat} {it : PI} : ∀ {P : List PI} {k : Nat}, P.Pairwise (fun x y => x.j ≠ y.j ∧ x.d ≠ y.d) → getP P k = some it → (D it.j = none → doneL listed D P = doneL listed D (rmP P k)) ∧ (∀ b, D it.j = some b → doneL listed D P = doneL (listed.setIfInBounds it.j true) D (rmP P k) ∧ left D P = left D (rmP P k))
  | [], _, _, h => by cases h
  | y :: P, 0, hd, h => by
    cases h
    rw [List.pairwise_cons] at hd
    refine ⟨fun h => ?_, fun b h => ?_⟩
    · show doneL listed D (_ :: P) = doneL listed D P
      conv => lhs; unfold doneL
      rw [h]
    · show doneL listed D (_ :: P) = doneL _ D P ∧ left D (_ :: P) = left D P
      rw [doneL_set fun x hx => Ne.symm (hd.1 x hx).1]
      constructor
      · conv => lhs; unfold doneL
        rw [h]
      · conv => lhs; unfold left
        rw [h]
  | y :: P, k + 1, hd, h => by
    rw [List.pairwise_cons] at hd
    obtain ⟨i1, i2⟩ := rmP_doneL (listed := listed) (D := D) hd.2 (show getP P k = some it from h)
    refine ⟨fun h => ?_, fun b h => ?_⟩
    · show doneL listed D (y :: P) = doneL listed D (y :: rmP P k)
      unfold doneL; rw [i1 h]
    · obtain ⟨j1, j2⟩ := i2 b h
      show doneL listed D (y :: P) = doneL _ D (y :: rmP P k) ∧ left D (y :: P) = left D (y :: rmP P k)
      unfold doneL left; rw [j1, j2]; exact ⟨rfl, rfl⟩
def Stop (C : Cx) (ops : Array Oper) (tl : List Nat) (s : List It) (S : World → Prop) (P : List PI) (fuel : Nat) (listed : Array Bool) (env : Env) (L : Locs) (R : Rows) (Γ : Facts) (it : PI) (k : Nat) : Prop :=
  (∀ w w', Kp emp w w' → S w → S w') → POk C ops listed env P → ∀ D a w b, D it.j = some b → SatD C env L R Γ a w D P → wpAnyT C.P ops (cont C s) S tl (fuel + left D (rmP P k)) (doneL (listed.setIfInBounds it.j true) D (rmP P k)) a w
theorem TXP.settle {C : Cx} {ops : Array Oper} {tl : List Nat} {s : List It} {S : World → Prop} {P : List PI} {fuel : Nat} {listed : Array Bool} {env : Env} {L : Locs} {R : Rows} {Γ : Facts} {it : PI} (k : Nat) (hk : getP P k = some it) (hn : nextB ops listed P (rmP P k) ops.size = true)
    (stop : Stop C ops tl s S P fuel listed env L R Γ it k) : TXP C ops tl s S P fuel listed env L R Γ := by
  intro hS hP D a w hSat
  have hit := getP_mem hk
  refine TXP.core (y := ops.size) hS hP (fun D => D it.j = none) (fun D hD i hi => next_spec hn ((rmP_doneL hP.dis hk).1 hD) hi) (fun D hD h => by
    have := ready_mem (D := D) (P := P) (hP.rdy it hit) fun x hx he => by rw [he]; exact hD
    rw [h] at this; cases this) (fun D a w hD hSat => ?_) (fun D a w _ _ hy => by
    obtain ⟨_, o, ho, _⟩ := mem_ready.1 hy
    have := (Array.getElem?_eq_some_iff.1 ho).1
    omega) _ D a w rfl hSat
  cases hb : D it.j with
  | none => exact absurd hb hD
  | some b =>
    obtain ⟨e1, e2⟩ := (rmP_doneL (listed := listed) (D := D) hP.dis hk).2 b hb
    rw [e1, e2]
    exact stop hS hP D a w b hb hSat
theorem rmP_left {D : Nat → Option Nat} {it : PI} (hD : D it.j = none) : ∀ {P : List PI} {k : Nat}, getP P k = some it → left D P = left D (rmP P k) + 1
  | [], _, h => by cases h
  | y :: P, 0, h => by
    cases h
    show left D (_ :: P) = left D P + 1
    conv => lhs; unfold left
    rw [hD]
  | y :: P, k + 1, h => by
    have ih := rmP_left hD (show getP P k = some it from h)
    show left D (y :: P) = left D (y :: rmP P k) + 1
    unfold left
    cases D y.j <;> dsimp only <;> omega
theorem TXP.split {C : Cx} {ops : Array Oper} {tl : List Nat} {s : List It} {S : World → Prop} {P : List PI} {fuel : Nat} {listed : Array Bool} {env : Env} {L : Locs} {R : Rows} {Γ : Facts} {it : PI} (k : Nat) (hk : getP P k = some it) (no : TXP C ops tl s S (rmP P k) (fuel + 1) listed env L R Γ)
    (stop : Stop C ops tl s S P fuel listed env L R Γ it k) : TXP C ops tl s S P fuel listed env L R Γ := by
  intro hS hP D a w hSat
  cases hb : D it.j with
  | none =>
    obtain ⟨G, bs, hA, hI, hΓ, hF⟩ := hSat
    have := no hS ⟨fun x hx => hP.ok x (rmP_mem (it := it) hx), fun x hx => hP.free x (rmP_mem (it := it) hx), fun x hx => hP.sub x (rmP_mem (it := it) hx), fun x hx => hP.rdy x (rmP_mem (it := it) hx), (rmP_pw hP.dis hk).1⟩ D a w ⟨G, bs, hA, hI, hΓ, fun x hx b hb => by
      obtain ⟨q1, q2, q3, q4, q5, q6⟩ := hF x (rmP_mem (it := it) hx) b hb
      exact ⟨q1, q2, q3, q4, q5, fun y hy => q6 y (rmP_mem (it := it) hy)⟩⟩
    rw [rmP_left hb hk, (rmP_doneL hP.dis hk).1 hb, show fuel + (left D (rmP P k) + 1) = fuel + 1 + left D (rmP P k) by omega]
    exact this
  | some b =>
    obtain ⟨e1, e2⟩ := (rmP_doneL (listed := listed) (D := D) hP.dis hk).2 b hb
    rw [e1, e2]
    exact stop hS hP D a w b hb hSat
theorem POk.rm {C : Cx} {ops : Array Oper} {listed : Array Bool} {env : Env} {P : List PI} {k : Nat} {it : PI} {sv : SV} (hP : POk C ops listed env P) (hk : getP P k = some it) (hz : ((rmP P k).all fun x => envNo it.d x.env) = true) : POk C ops (listed.setIfInBounds it.j true) ((it.d, sv) :: env) (rmP P k) := by
  obtain ⟨p1, p2⟩ := rmP_pw hP.dis hk
  exact ⟨fun x hx => hP.ok x (rmP_mem (it := it) hx), fun x hx => by rw [look_cons, if_neg (Ne.symm (p2 x hx).2)]; exact hP.free x (rmP_mem (it := it) hx), fun x hx => envNo_sub (List.all_eq_true.1 hz x hx) (hP.sub x (rmP_mem (it := it) hx)), fun x hx => readyAt_set (hP.rdy x (rmP_mem (it := it) hx)) (p2 x hx).1, p1⟩
def PI.loc (j d : Nat) (l : Loc) : PI := ⟨j, d, lobj l, fun b => .pointer (some ⟨b, 0, none⟩), []⟩
def PI.lit (j d c T : Nat) (cs : List Value) (env : Env) : PI := ⟨j, d, .cells cs.toArray T (0, 0), fun b => .slice (some ⟨b, 0, none⟩) c c, env⟩
theorem loc_ok {C : Cx} {ops : Array Oper} {o : Oper} {j d : Nat} {l : Loc} (ht : TabOk C.P C.tt) (hi : getO ops.toList j = some o) (hg : gd ops [] o = some true) (hd : o.dst = some d) (hlt : Nat.blt d C.fn.ntmps = true) (hl : ladd C.tt [] o.op = some l) : PIok C ops (PI.loc j d l) := by
  rw [getO_eq] at hi
  exact ⟨o, show ops[j]? = some o by simpa using hi, hg, hd, show d < C.fn.ntmps by simpa [Nat.blt_eq] using hlt, fun a w bs hA => ladd_sound (bs := bs) (env := []) ht hA hl⟩
theorem stopL {C : Cx} {ops : Array Oper} {tl : List Nat} {s : List It} {S : World → Prop} {P : List PI} {fuel j d : Nat} {l : Loc} {listed : Array Bool} {env : Env} {L : Locs} {R : Rows} {Γ : Facts} (k : Nat) (hk : getP P k = some (PI.loc j d l)) (hl : labHas d env L R = false) (hz : ((rmP P k).all fun x => envNo d x.env) = true)
    (kk : TXP C ops tl s S (rmP P k) fuel (listed.setIfInBounds j true) ((d, .p d 0) :: env) ((d, l) :: L) R Γ) : Stop C ops tl s S P fuel listed env L R Γ (PI.loc j d l) k := by
  refine fun hS hP D a w b hb ⟨G, bs, hA, hI, hΓ, hF⟩ => ?_
  have hit := getP_mem hk
  obtain ⟨q1, q2, q3, q4, q5, q6⟩ := hF _ hit b hb
  obtain ⟨n1, n2, n3, n4⟩ := labHas_not hl
  have hnL : ∀ {i : Nat} {x : Loc}, look L i = some x → i ≠ d := fun h => keyHas_not n2 h
  have hnR : ∀ {i : Nat} {x : Row}, look R i = some x → i ≠ d := fun h => keyHas_not n3 h
  have act : ∀ {i : Nat}, i ≠ d → Acts ((d, l) :: L) R i → Acts L R i := fun {i} hne h => by
    rcases h with ⟨x, hx⟩ | h
    · rw [look_cons, if_neg (Ne.symm hne)] at hx; exact .inl ⟨x, hx⟩
    · exact .inr h
  refine kk hS (hP.rm hk hz) D a w ⟨G, fun i => if i = d then b else bs i, ?_, ⟨hI.keep, hI.le, fun i x hx => ?_, fun i r hr => ?_, fun i j hij hi hj => ?_, fun i x r hx hr => ?_, fun b' hb' => by simp only [if_neg (Ne.symm n4)]; exact hI.pin b' hb', hI.nr⟩, hΓ, fun x hx b' hb' => ?_⟩
  · have hA' := hA.notH (d := d) (bs' := fun j => if j = d then b else bs j) n1 (fun i hi => if_neg hi)
    refine ⟨hA'.size, hA'.dfr, fun e x hx => ?_⟩
    rw [look_cons] at hx
    split at hx
    · rename_i he; subst he
      cases hx
      simp only [conc, if_true]
      exact q1
    · exact hA'.slot e x hx
  · rw [look_cons] at hx
    split at hx
    · rename_i he; subst he
      cases hx
      simp only [if_true]
      exact ⟨q2, .inl q3, q4⟩
    · rename_i he
      simp only [if_neg (Ne.symm he)]
      exact hI.loc i x hx
  · simp only [if_neg (hnR hr)]
    exact hI.row i r hr
  · by_cases hid : i = d
    · subst hid
      simp only [if_true, if_neg (Ne.symm hij)]
      exact Ne.symm (q5 j (act (Ne.symm hij) hj))
    · by_cases hjd : j = d
      · subst hjd
        simp only [if_true, if_neg hid]
        exact q5 i (act hid hi)
      · simp only [if_neg hid, if_neg hjd]
        exact hI.inj i j hij (act hid hi) (act hjd hj)
  · rw [look_cons, if_neg (Ne.symm (hnR hr))] at hx
    exact hI.dis i x r hx hr
  · obtain ⟨r1, r2, r3, r4, r5, r6⟩ := hF x (rmP_mem (it := x) hx) b' hb'
    have hne := (rmP_pw hP.dis hk).2 x hx
    refine ⟨r1, r2, r3, r4, fun i hi => ?_, fun y hy => r6 y (rmP_mem (it := y) hy)⟩
    by_cases hid : i = d
    · subst hid
      simp only [if_true]
      exact fun e => q6 x (rmP_mem (it := x) hx) b' hb' hne.1 e.symm
    · simp only [if_neg hid]
      exact r5 i (act hid hi)
theorem TXP.settleL {C : Cx} {ops : Array Oper} {tl : List Nat} {s : List It} {S : World → Prop} {P : List PI} {fuel j d : Nat} {l : Loc} {listed : Array Bool} {env : Env} {L : Locs} {R : Rows} {Γ : Facts} (k : Nat) (hk : getP P k = some (PI.loc j d l)) (hl : labHas d env L R = false) (hn : nextB ops listed P (rmP P k) ops.size = true) (hz : ((rmP P k).all fun x => envNo d x.env) = true)
    (kk : TXP C ops tl s S (rmP P k) fuel (listed.setIfInBounds j true) ((d, .p d 0) :: env) ((d, l) :: L) R Γ) : TXP C ops tl s S P fuel listed env L R Γ :=
  TXP.settle k hk hn (stopL k hk hl hz kk)
def elT (tt : TT) (T : Nat) : Option Nat := match elO tt T with | some (e, _) => some e | none => none
theorem run_bld2 {P : Program} {tt : TT} (ht : TabOk P tt) {n : Nat} {env : Env} {bs : Nat → Nat} {a : Act} (hA : At n env bs a) {T len kk e : Nat} {parts : Array (Nat × Operand)} {cs : List Value} (h : bldO tt env T len parts.toList = some (kk, cs)) (he : elT tt T = some e) (w : World) :
    (Instr.buildSlice T len (parts.map fun x => (x.1, a.eval x.2))).run P w = .ok (.slice (some ⟨w.heap.size, 0, none⟩) len len) (w.alloc (.cells cs.toArray e)) := by
  unfold bldO at h
  unfold elT at he
  split at h
  · rename_i e' kk' by_ z hel
    rw [hel] at he
    cases he
    split at h
    · rename_i hle
      split at h
      · rename_i q hq
        split at h
        · rename_i cs' hcs
          simp only [Option.some.injEq, Prod.mk.injEq] at h
          obtain ⟨rfl, rfl⟩ := h
          obtain ⟨hu, i, v, te, hE, hte, hi, h0, hs, _, hv, hzl, hpos⟩ := elO_some ht hel
          have hq' := zrepO_eq hq
          have hle' : len * kk' ≤ 16777216 := Nat.le_of_ble_eq_true hle
          have hfill := fillO_sound ht hA (place := fun i => some (i * kk', e)) (place' := fun i => some (i * kk', kk')) (fun j off T' ti' h1 h2 => by
            simp only [Option.some.injEq, Prod.mk.injEq] at h1
            obtain ⟨rfl, rfl⟩ := h1
            rw [hE] at h2; simp at h2; subst h2; rw [hte]) _ _ _ hcs
          have hvs : v.cells.size = kk' := by rw [← hzl, ← hv]; simp
          by_cases hl0 : len = 0
          · subst hl0
            have : q = [] := by rw [hq']; rfl
            subst this
            have hf' : Instr.fill (fun i => some (i * kk', kk')) #[] (List.map (fun x => (x.1, a.eval x.2)) parts.toList) = some cs'.toArray := hfill
            simp [Instr.buildSlice, run_underlying hu, sizeOf, typeInfo, zeroValue, hi, newRow, hs, Array.range_zero', hf']
          · have hne : ¬ (len * kk' = 0) := by
              intro h; rcases Nat.mul_eq_zero.1 h with h | h <;> omega
            have hr := zrep_range v.cells (by omega) len
            rw [hvs, hv, ← hq'] at hr
            have hq2 : (Array.range (len * kk')).map (fun i => v.cells[i % v.cells.size]!) = q.toArray := Array.ext' (by simpa [hvs] using hr)
            have hsm : ¬ (16777216 < len * kk') := by omega
            have hf' : Instr.fill (fun i => some (i * kk', kk')) ((Array.range (len * kk')).map (fun i => v.cells[i % v.cells.size]!)) (List.map (fun x => (x.1, a.eval x.2)) parts.toList) = some cs'.toArray := by rw [hq2]; exact hfill
            simp only [Instr.buildSlice, Sem.run_bind, run_underlying hu, Result.andThen_ok, run_sizeOf hi, hs, newRow]
            simp [hsm, hne, zeroValue, typeInfo, hi, h0, hf']
        · cases h
      · cases h
    · cases h
  · cases h
theorem lit_ok {C : Cx} {ops : Array Oper} {o : Oper} {j d T0 c kk T : Nat} {parts : Array (Nat × Operand)} {cs : List Value} {env : Env} (ht : TabOk C.P C.tt) (hi : getO ops.toList j = some o) (hg : gd ops [] o = some true) (hd : o.dst = some d) (hlt : Nat.blt d C.fn.ntmps = true) (ho : o.op = .buildSlice T0 c parts) (hb : bldO C.tt env T0 c parts.toList = some (kk, cs)) (he : elT C.tt T0 = some T) : PIok C ops (PI.lit j d c T cs env) := by
  rw [getO_eq] at hi
  refine ⟨o, show ops[j]? = some o by simpa using hi, hg, hd, show d < C.fn.ntmps by simpa [Nat.blt_eq] using hlt, fun a w bs hA => ?_⟩
  have hrun := run_bld2 (bs := bs) ht hA hb he w
  unfold execOp
  simp only [ho, Sem.run_bind, hrun, Result.andThen_ok, Sem.run_pure]
  rfl
theorem stopS {C : Cx} {ops : Array Oper} {tl : List Nat} {s : List It} {S : World → Prop} {P : List PI} {fuel j d c T : Nat} {cs : List Value} {e0 : Env} {listed : Array Bool} {env : Env} {L : Locs} {R : Rows} {Γ : Facts} {α : Type} [GoT α] {l : List α} (k m : Nat) (hk : getP P k = some (PI.lit j d c T cs e0)) (hlen : l.length = c) (hmax : Nat.ble c 1048576 = true) (hw : OwL emp cs l) (hz : ((rmP P k).all fun x => envNo d x.env) = true)
    (kk : ∀ p, TXP C ops tl s S (rmP P k) fuel (listed.setIfInBounds j true) ((d, .v (.slice p c c)) :: env) L R ((m, MF.rs .stb p c l) :: Γ)) : Stop C ops tl s S P fuel listed env L R Γ (PI.lit j d c T cs e0) k := by
  refine fun hS hP D a w b hb ⟨G, bs, hA, hI, hΓ, hF⟩ => ?_
  have hit := getP_mem hk
  obtain ⟨q1, q2, q3, q4, q5, q6⟩ := hF _ hit b hb
  have q2' : w.heap[b]? = some (.cells cs.toArray T (0, 0)) := q2
  refine kk (some ⟨b, 0, none⟩) hS (hP.rm hk hz) D a w ⟨join G (sgl b (.cells cs.toArray T (0, 0))), bs, ⟨hA.size, hA.dfr, fun e x hx => ?_⟩, hI.more q2' q5, ?_, fun x hx b' hb' => ?_⟩
  · rw [look_cons] at hx
    split at hx
    · rename_i he
      cases he
      cases hx
      exact q1
    · exact hA.slot e x hx
  · refine hΓ.new m _ (h := sgl b (.cells cs.toArray T (0, 0))) (le_join_l _ _) (le_join_r (sgl_dj q4).symm) (fun _ => sgl_dj q4) (fun h => by cases h) ?_
    have hc := Nat.le_of_ble_eq_true hmax
    have hx := cellsAt_row (G := sgl b (.cells cs.toArray T (0, 0))) (o := 0) (sgl_self b _) cs.length
    simp only [List.drop_zero, List.take_length] at hx
    exact (⟨by omega, by omega, cs, hx, hw.rd.mono (emp_le _)⟩ : RdSl _ (some ⟨b, 0, none⟩) c l)
  · obtain ⟨r1, r2, r3, r4, r5, r6⟩ := hF x (rmP_mem (it := x) hx) b' hb'
    have hne := (rmP_pw hP.dis hk).2 x hx
    exact ⟨r1, r2, r3, join_none r4 (sgl_ne _ (q6 x (rmP_mem (it := x) hx) b' hb' hne.1)), r5, fun y hy => r6 y (rmP_mem (it := y) hy)⟩
theorem TXP.settleS {C : Cx} {ops : Array Oper} {tl : List Nat} {s : List It} {S : World → Prop} {P : List PI} {fuel j d c T : Nat} {cs : List Value} {e0 : Env} {listed : Array Bool} {env : Env} {L : Locs} {R : Rows} {Γ : Facts} {α : Type} [GoT α] {l : List α} (k m : Nat) (hk : getP P k = some (PI.lit j d c T cs e0)) (hlen : l.length = c) (hmax : Nat.ble c 1048576 = true) (hw : OwL emp cs l) (hn : nextB ops listed P (rmP P k) ops.size = true) (hz : ((rmP P k).all fun x => envNo d x.env) = true)
    (kk : ∀ p, TXP C ops tl s S (rmP P k) fuel (listed.setIfInBounds j true) ((d, .v (.slice p c c)) :: env) L R ((m, MF.rs .stb p c l) :: Γ)) : TXP C ops tl s S P fuel listed env L R Γ :=
  TXP.settle k hk hn (stopS k m hk hlen hmax hw hz kk)
theorem TXP.der {C : Cx} {ops : Array Oper} {tl : List Nat} {s : List It} {S : World → Prop} {P : List PI} {fuel : Nat} {listed : Array Bool} {env : Env} {L : Locs} {R : Rows} {Γ : Facts} (m : Nat) (f : MF) (hk : f.k = .der) (h : ∀ G, AllK C.M G Γ → f.p G)
    (k : TXP C ops tl s S P fuel listed env L R ((m, f) :: Γ)) : TXP C ops tl s S P fuel listed env L R Γ := fun hS hP D a w ⟨G, bs, hA, hI, hΓ, hF⟩ => k hS hP D a w ⟨G, bs, hA, hI, hΓ.der m f hk (h G hΓ), hF⟩
end Go.Stp

namespace Go.Proofs.YtolepebgdfdciaaGreat
open Go.Stp
set_option linter.unusedVariables false
set_option linter.unusedSimpArgs false
theorem f283 (w : World) (n : Nat) (hn : n + 0 ≤ 9) (n_ : Int) (m : Int) (hokn_ : GoT.ok n n_) (hokm : GoT.ok n m) :
  Does Tryz.prog 283 #[.int .i64 (n_), .int .i64 (m)] w emp (fun (rv : Value) (_ : World) => rv = .int .i64 ((spec_Mod n_ m)) ∧ GoT.ok n ((spec_Mod n_ m) : Int)) := by
 have hbP := bd_pos n
 have hbB := bd_big (n := n) (by omega)
 refine WX.enter (tt := tt) (Γ := []) Tryz.func283 rfl (by kernel_rfl) rfl allS_nil ?_
 refine R0 ?_
 refine WX.callV rfl rfl rfl rfl rfl (fun _ => rfl) rfl (fun w G bs hI hΓ => f136 w n (by omega) m 1 1000000000000 hokm (show I64 1 from (by unfold I64; omega)) (show I64 1000000000000 from (by unfold I64; omega))) ?_
 intro hq1
 refine R0 ?_
 refine WX.cases 7 rfl (fun h1 => ?_) (fun h1 => ?_)
 ·skip
  have h1d := (B.nt h1)
  refine R0 ?_
  have hP1 : spec_Mod n_ m = 0 := by simp only [spec_Mod, h1, ct, cf]
  refine R1 ?_
  intro w1 G bs hI hΓ
  rw [hP1]
  exact ⟨rfl, (show I64 0 from (by unfold I64; omega))⟩
 ·skip
  have h1d := (B.nf h1)
  have h1r := inR_spec (B.nf h1)
  refine R0 ?_
  have r1 := tmod_rng n_ (show (0 : Int) < m by omega)
  refine WX.see rfl rfl rfl (fun _ hΓ => looks_rem rfl rfl rfl (by omega)) ?_
  refine R0 ?_
  refine WX.see rfl rfl rfl (fun _ hΓ => looks_wrap rfl rfl rfl rfl) ?_
  refine R0 ?_
  have r2 := tmod_rng (IntKind.i64.wrap ((Int.tmod n_ m) + m)) (show (0 : Int) < m by omega)
  refine WX.see rfl rfl rfl (fun _ hΓ => looks_rem rfl rfl rfl (by omega)) ?_
  refine R0 ?_
  have hP2 : spec_Mod n_ m = (Int.tmod (IntKind.i64.wrap ((Int.tmod n_ m) + m)) m) := by simp only [spec_Mod, h1, ct, cf]
  have r3 : -9223372036854775808 ≤ n_ ∧ n_ ≤ 9223372036854775807 := hokn_
  have r4 : -9223372036854775808 ≤ m ∧ m ≤ 9223372036854775807 := hokm
  refine R1 ?_
  intro w1 G bs hI hΓ
  rw [hP2]
  exact ⟨rfl, (show I64 (Int.tmod (IntKind.i64.wrap ((Int.tmod n_ m) + m)) m) from (by unfold I64; omega))⟩
theorem f279 (w : World) (n : Nat) (hn : n + 1 ≤ 9) (b : (List UInt8)) (pb : Option Addr) (cb : Nat) (N0 : RdSl (hp w) pb cb b) (hokb : GoT.ok n b) :
  Does Tryz.prog 279 #[.slice pb ((b).length) cb] w emp (Post w emp (fun x : GoT.X ((List Int)) => (GoT.sh ((spec_BytesToInts b) : (List Int)) x).headD undef) (fun x => GoT.oa ((spec_BytesToInts b) : (List Int)) x) (GoT.ok (n + 1) ((spec_BytesToInts b) : (List Int)))) := by
 have hbP := bd_pos n
 have hbS0 : bd (n + 1) = 4 * bd (n) := bd_succ (n := n) (by omega)
 have hbB := bd_big (n := (n + 1)) (by omega)
 have hbM := bd_mono (show n ≤ n + 1 by omega)
 refine WX.enter (tt := tt) (Γ := [(0, MF.rs .stb pb cb b)]) Tryz.func279 rfl (by kernel_rfl) rfl (allS_cons rfl N0 allS_nil) ?_
 refine R0 ?_
 refine WX.bld ttOk rfl rfl rfl rfl rfl rfl rfl ?_
 intro p1
 have r1 : (b).length ≤ bd n := (okl hokb).1
 refine R0 ?_
 refine WX.turn [] 1 rfl (fun h hs => ol_one (α := Int) (a := (((b).length : Nat) : Int)) (x := ()) hs) (gs := [MF.ol [.int .i64 ((((b).length : Nat) : Int))] ([(((b).length : Nat) : Int)] : List Int)]) rfl ?_
 refine WX.loop (ι := (Option Addr) × Nat × (List Value) × (List Int) × Nat) ⟨fun | (pl, cl, xsl, l, i) => (i ≤ (b).length) ∧ (∀ z_ ∈ l, GoT.ok n z_) ∧ (l.length ≤ i + 1) ∧ (spec_BytesToInts_L1 b ([(((b).length : Nat) : Int)] : List Int) = spec_BytesToInts_L1 ((b).drop i) l), fun | (pl, cl, xsl, l, i) => (b).length - i, fun | (pl, cl, xsl, l, i) => [(3, .v (.slice pl ((l).length) cl)), (4, .v (.int .i64 (((i : Nat) : Int)))), (0, .v (.slice pb ((b).length) cb))], fun | (pl, cl, xsl, l, i) => [], fun | (pl, cl, xsl, l, i) => [(7, ⟨1, pl, (l).length, cl, xsl⟩)], fun | (pl, cl, xsl, l, i) => [(0, MF.rs .stb pb cb b), (1, MF.ol xsl (l : List Int))]⟩ (p1, 1, [.int .i64 ((((b).length : Nat) : Int))], ([(((b).length : Nat) : Int)] : List Int), 0) ⟨(Nat.zero_le _), (all_cons (α := Int) (show I64 (((b).length : Nat) : Int) from (by unfold I64; omega)) (fun a ha => by cases ha)), (by simp), rfl⟩
  (.cons rfl (.cons rfl (.cons rfl (.nil)))) .nil (.cons rfl (.nil)) [0, 1] rfl ?_
 rintro ⟨pl, cl, xsl, l, i⟩ hpre
 have hpre_ : (i ≤ (b).length) ∧ (∀ z_ ∈ l, GoT.ok n z_) ∧ (l.length ≤ i + 1) ∧ (spec_BytesToInts_L1 b ([(((b).length : Nat) : Int)] : List Int) = spec_BytesToInts_L1 ((b).drop i) l) := hpre
 clear hpre
 obtain ⟨v1, v2, v3, v4⟩ := hpre_
 refine R0 ?_
 refine WX.cases 11 rfl (fun h1 => ?_) (fun h1 => ?_)
 ·skip
  have h1d := B.dt h1
  have e1i : i < (b).length := (by omega)
  obtain ⟨e1, e1h⟩ : ∃ e1, (b)[i]? = some e1 := ⟨_, List.getElem?_eq_getElem e1i⟩
  refine R0 ?_
  refine WX.idx 0 i ttOk rfl rfl rfl rfl rfl rfl rfl rfl rfl rfl e1i ?_
  rintro ad1 rfl
  refine WX.ldE 0 2 e1 ttOk rfl rfl rfl rfl rfl rfl rfl rfl e1h (fun _ => rfl) (fun _ => rfl) ?_
  rintro ⟨⟩
  refine WX.see rfl rfl rfl (fun _ hΓ => looks_ofU8 ttOk rfl rfl rfl rfl rfl rfl) ?_
  refine WX.bld ttOk rfl rfl rfl rfl rfl rfl rfl ?_
  intro p2
  have r2 : (e1).toNat < 256 := UInt8.toNat_lt _
  refine WX.turn [] 2 rfl (fun h hs => ol_one (α := Int) (a := ((e1).toNat : Int)) (x := ()) hs) (gs := [MF.ol [.int .i64 (((e1).toNat : Int))] ([((e1).toNat : Int)] : List Int)]) rfl ?_
  refine WX.know (fun G hΓ => (hΓ.get 2 rfl : OwL _ _ _).rd.one) ?_
  intro ho1
  refine WX.appR1 7 20 ((l ++ [((e1).toNat : Int)]) : List Int).length ttOk rfl rfl rfl rfl rfl rfl rfl rfl rfl rfl rfl rfl rfl ho1 (by simp) (by simp; omega) (by simp; omega) (fun _ _ => rfl) ?_
  intro p3 c1
  refine WX.turn [1, 2] 3 rfl (fun h hs => ol_app hs) (gs := [MF.ol (xsl ++ [.int .i64 (((e1).toNat : Int))]) ((l ++ [((e1).toNat : Int)]) : List Int)]) rfl ?_
  refine R0 ?_
  refine WX.see rfl rfl rfl (fun _ hΓ => looks_arith rfl rfl rfl rfl (by unfold I64; first | omega | (simp only [List.length_take] at *; omega))) ?_
  refine R0 ?_
  refine WX.turn [3] 1 rfl (fun _ h => h) rfl ?_
  exact WX.iter (p3, c1, (xsl ++ [.int .i64 (((e1).toNat : Int))]), ((l ++ [((e1).toNat : Int)]) : List Int), i + 1) ⟨(by omega), (all_app v2 (all_cons (α := Int) (show I64 ((e1).toNat : Int) from (by unfold I64; omega)) (fun a ha => by cases ha))), (by first | assumption | omega | (simp; omega)), (by rw [v4, drop_get e1h]; simp only [spec_BytesToInts_L1, ct, cf])⟩ (by first | (dsimp only; omega) | omega) (.cons rfl (.cons rfl (.cons rfl (.nil)))) .nil (.cons rfl (.nil)) [0, 1] rfl
 ·skip
  have h1d := B.df h1
  refine R0 ?_
  have hX1 : spec_BytesToInts_L1 b ([(((b).length : Nat) : Int)] : List Int) = ((l) : List Int) := by rw [v4, List.drop_eq_nil_of_le (show (b).length ≤ i by omega)]; simp only [spec_BytesToInts_L1, ct, cf]
  refine WX.seal 7 1 4 rfl rfl rfl rfl rfl ?_
  have hP1 : spec_BytesToInts b = l := by simp only [spec_BytesToInts, hX1, ct, cf]
  refine R1 ?_
  intro w1 G bs hI hΓ
  rw [hP1]
  exact Post.of [5] (pl, cl) hI hΓ rfl rfl rfl (okl_mk (by omega) (fun a ha => GoT.okm (by omega) (v2 a ha)) : GoT.ok (n + 1) (l : List Int))
theorem f262 (w : World) (n : Nat) (hn : n + 5 ≤ 9) (x_ : DataP) (K0 : Option Addr) (M0 : Nat) (N0 : RdSl (hp w) K0 M0 x_.name.parts) (K1 : Option Addr) (M1 : Nat) (N1 : RdSl (hp w) K1 M1 x_.content) (K2 : Option Addr) (M2 : Nat) (N2 : RdSl (hp w) K2 M2 x_.keyName.parts) (hokx_ : GoT.ok n x_) :
  Does Tryz.prog 262 #[.agg #[.slice K0 ((x_.name.parts).length) M0, .slice K1 ((x_.content).length) M1, .slice K2 ((x_.keyName.parts).length) M2, .int .i64 (x_.freshUntil), .int .i64 (x_.signature)]] w emp (Post w emp (fun x : GoT.X ((List Int)) => (GoT.sh ((spec_SignedPortion x_) : (List Int)) x).headD undef) (fun x => GoT.oa ((spec_SignedPortion x_) : (List Int)) x) (GoT.ok (n + 5) ((spec_SignedPortion x_) : (List Int)))) := by
 have hbP := bd_pos n
 have hbS0 : bd (n + 1) = 4 * bd (n) := bd_succ (n := n) (by omega)
 have hbS1 : bd (n + 2) = 4 * bd (n + 1) := bd_succ (n := n + 1) (by omega)
 have hbS2 : bd (n + 3) = 4 * bd (n + 2) := bd_succ (n := n + 2) (by omega)
 have hbS3 : bd (n + 4) = 4 * bd (n + 3) := bd_succ (n := n + 3) (by omega)
 have hbS4 : bd (n + 5) = 4 * bd (n + 4) := bd_succ (n := n + 4) (by omega)
 have hbB := bd_big (n := (n + 5)) (by omega)
 have hbM := bd_mono (show n ≤ n + 5 by omega)
 refine WX.enter (tt := tt) (Γ := [(0, MF.rs .stb K0 M0 x_.name.parts), (1, MF.rs .stb K1 M1 x_.content), (2, MF.rs .stb K2 M2 x_.keyName.parts)]) Tryz.func262 rfl (by kernel_rfl) rfl (allS_cons rfl N0 (allS_cons rfl N1 (allS_cons rfl N2 allS_nil))) ?_
 refine R0 ?_
 refine WX.meet (ι := (Option Addr) × Nat) ⟨fun | (pm1, cm1) => (GoT.ok (n + 3) (((spec_BytesToInts (spec_AppendName ([]) x_.name)) ++ (spec_BytesToInts x_.content)) : List Int)) ∧ (-9223372036854775808 ≤ x_.freshUntil ∧ x_.freshUntil ≤ 9223372036854775807) ∧ (-9223372036854775808 ≤ x_.signature ∧ x_.signature ≤ 9223372036854775807), fun _ => 0, fun | (pm1, cm1) => [(3, .v (.slice pm1 ((((spec_BytesToInts (spec_AppendName ([]) x_.name)) ++ (spec_BytesToInts x_.content))).length) cm1)), (1, .p 1 0)], fun | (pm1, cm1) => [(1, ⟨32, [.slice K0 ((x_.name.parts).length) M0, .slice K1 ((x_.content).length) M1, .slice K2 ((x_.keyName.parts).length) M2, .int .i64 (x_.freshUntil), .int .i64 (x_.signature)]⟩)], fun _ => [], fun | (pm1, cm1) => [(18, MF.os pm1 cm1 ((spec_BytesToInts (spec_AppendName ([]) x_.name)) ++ (spec_BytesToInts x_.content))), (0, MF.rs .stb K0 M0 x_.name.parts), (1, MF.rs .stb K1 M1 x_.content), (2, MF.rs .stb K2 M2 x_.keyName.parts)]⟩ ?_ ?_
 ·skip
  refine WX.draw [2, 3, 4, 6, 7, 8, 9] mixed ?_
  intro bs G0 hΓ0
  refine DX.takes (fuel := 8) ttOk [(1, true), (5, true)] (by kernel_rfl) rfl ?_
  refine DX.toTX ?_
  intro S_
  refine TX.share (ι := (Option Addr) × Nat) ⟨fun | (pm7, cm7) => (GoT.ok (n + 2) ((spec_BytesToInts (spec_AppendName ([]) x_.name)) : List Int)) ∧ (-9223372036854775808 ≤ x_.freshUntil ∧ x_.freshUntil ≤ 9223372036854775807) ∧ (-9223372036854775808 ≤ x_.signature ∧ x_.signature ≤ 9223372036854775807), fun _ => 0, fun | (pm7, cm7) => [(8, .v (.slice pm7 (((spec_BytesToInts (spec_AppendName ([]) x_.name))).length) cm7)), (9, .p 1 1), (1, .p 1 0)], fun | (pm7, cm7) => [(1, ⟨32, [.slice K0 ((x_.name.parts).length) M0, .slice K1 ((x_.content).length) M1, .slice K2 ((x_.keyName.parts).length) M2, .int .i64 (x_.freshUntil), .int .i64 (x_.signature)]⟩)], fun _ => [], fun | (pm7, cm7) => [(33, MF.os pm7 cm7 (spec_BytesToInts (spec_AppendName ([]) x_.name))), (0, MF.rs .stb K0 M0 x_.name.parts), (1, MF.rs .stb K1 M1 x_.content), (2, MF.rs .stb K2 M2 x_.keyName.parts)]⟩ 4 #[true, true, true, true, true, true, false, false, false, false] ?_ (fun N_9 => ?_)
  ·skip
   rintro ⟨pm7, cm7⟩ ⟨hm25, hm26, hm27⟩
   refine TX.tail [6, 7, 8, 9] rfl rfl (by kernel_rfl) ?_
   refine R0 ?_
   refine WX.callF 35 (fun _ _ h => GoT.ow_rd h) (fun _ f hf => GoT.fak f hf) rfl rfl rfl rfl rfl (fun _ => rfl) rfl (fun w G bs hI hΓ => f279 w n (by omega) x_.content K1 M1 (hΓ.get 1 rfl) ((ok_DataP hokx_).2.1)) (fun _ => rfl) (fun _ => rfl) ?_
   rintro ⟨p9, c7⟩ hq6
   have q6 := len_specBI x_.content
   refine WX.opn (kk := 1) 502 33 37 rfl rfl rfl ?_
   intro xs2 hx2
   refine WX.der 38 (MF.rs .der p9 c7 (spec_BytesToInts x_.content)) rfl (fun _ hΓ => (hΓ.get 36 rfl : OwSl _ _ _ _).rd) ?_
   have r5 : (x_.content).length ≤ bd n := (okl (ok_DataP hokx_).2.1).1
   have r6 : (spec_BytesToInts (spec_AppendName ([]) x_.name)).length ≤ bd (n + 2) := (okl hm25).1
   have r7 : (spec_BytesToInts x_.content).length ≤ bd (n + 1) := (okl hq6).1
   refine WX.appG1 502 38 39 (((spec_BytesToInts (spec_AppendName ([]) x_.name)) ++ (spec_BytesToInts x_.content)) : List Int).length ttOk rfl rfl rfl rfl rfl rfl rfl rfl rfl rfl rfl rfl rfl (by first | (simp; done) | (simp; omega)) (by first | (rw [List.length_append]; (try simp only [List.length_cons, List.length_nil]); omega) | (simp; omega) | (simp only [List.length_append, List.length_cons, List.length_nil] at *; omega)) (by first | (rw [List.length_append]; (try simp only [List.length_cons, List.length_nil]); omega) | (simp; omega) | (simp only [List.length_append, List.length_cons, List.length_nil] at *; omega)) (fun _ _ _ => rfl) ?_
   intro ys2 p10 c8
   refine WX.know (fun G hΓ => (hΓ.get 39 rfl : RdL _ _ _).flat) ?_
   intro hf2
   refine WX.turn [37] 40 rfl (fun h hs => ol_flat hs hf2) (gs := [MF.ol (xs2 ++ ys2) (((spec_BytesToInts (spec_AppendName ([]) x_.name)) ++ (spec_BytesToInts x_.content)) : List Int)]) rfl ?_
   refine R0 ?_
   refine WX.seal 502 40 41 rfl rfl rfl rfl rfl ?_
   refine WX.turn [42] 18 rfl (fun _ h => h) rfl ?_
   exact WX.iter (p10, c8) ⟨(okl_mk (by first | (rw [List.length_append]; (try simp only [List.length_cons, List.length_nil]); omega) | (simp; omega) | (simp only [List.length_append, List.length_cons, List.length_nil] at *; omega)) (fun a ha => GoT.okm (show (n + 2) ≤ (n + 3) by omega) ((all_app (okl hm25).2 (fun a ha => GoT.okm (by omega) ((okl hq6).2 a ha))) a ha)) : GoT.ok (n + 3) (((spec_BytesToInts (spec_AppendName ([]) x_.name)) ++ (spec_BytesToInts x_.content)) : List Int)), (ok_DataP hokx_).2.2.2.1, (ok_DataP hokx_).2.2.2.2⟩ Nat.zero_lt_one (.cons rfl (.cons rfl (.nil))) (.cons rfl (.nil)) .nil [18, 0, 1, 2] rfl
  refine TX.share (ι := (Option Addr) × Nat) ⟨fun | (pm8, cm8) => (GoT.ok (n + 1) ((spec_AppendName ([]) x_.name) : List UInt8)) ∧ (-9223372036854775808 ≤ x_.freshUntil ∧ x_.freshUntil ≤ 9223372036854775807) ∧ (-9223372036854775808 ≤ x_.signature ∧ x_.signature ≤ 9223372036854775807), fun _ => 0, fun | (pm8, cm8) => [(10, .v (.slice K1 ((x_.content).length) M1)), (7, .v (.slice pm8 (((spec_AppendName ([]) x_.name)).length) cm8)), (1, .p 1 0)], fun | (pm8, cm8) => [(1, ⟨32, [.slice K0 ((x_.name.parts).length) M0, .slice K1 ((x_.content).length) M1, .slice K2 ((x_.keyName.parts).length) M2, .int .i64 (x_.freshUntil), .int .i64 (x_.signature)]⟩)], fun _ => [], fun | (pm8, cm8) => [(1, MF.rs .stb K1 M1 x_.content), (34, MF.os pm8 cm8 (spec_AppendName ([]) x_.name)), (0, MF.rs .stb K0 M0 x_.name.parts), (2, MF.rs .stb K2 M2 x_.keyName.parts)]⟩ 4 #[true, true, true, true, false, true, true, false, false, false] ?_ (fun N_10 => ?_)
  ·skip
   rintro ⟨pm8, cm8⟩ ⟨hm28, hm29, hm30⟩
   refine TX.tail [4, 7, 8, 9] rfl rfl (by kernel_rfl) ?_
   refine WX.der 43 (MF.rs .der pm8 cm8 (spec_AppendName ([]) x_.name)) rfl (fun _ hΓ => (hΓ.get 34 rfl : OwSl _ _ _ _).rd) ?_
   refine WX.callF 44 (fun _ _ h => GoT.ow_rd h) (fun _ f hf => GoT.fak f hf) rfl rfl rfl rfl rfl (fun _ => rfl) rfl (fun w G bs hI hΓ => f279 w (n + 1) (by omega) (spec_AppendName ([]) x_.name) pm8 cm8 (hΓ.get 43 rfl) hm28) (fun _ => rfl) (fun _ => rfl) ?_
   rintro ⟨p11, c9⟩ hq7
   have q7 := len_specBI (spec_AppendName ([]) x_.name)
   refine WX.callF 46 (fun _ _ h => GoT.ow_rd h) (fun _ f hf => GoT.fak f hf) rfl rfl rfl rfl rfl (fun _ => rfl) rfl (fun w G bs hI hΓ => f279 w n (by omega) x_.content K1 M1 (hΓ.get 1 rfl) ((ok_DataP hokx_).2.1)) (fun _ => rfl) (fun _ => rfl) ?_
   rintro ⟨p12, c10⟩ hq8
   have q8 := len_specBI x_.content
   refine WX.opn (kk := 1) 503 45 48 rfl rfl rfl ?_
   intro xs3 hx3
   refine WX.der 49 (MF.rs .der p12 c10 (spec_BytesToInts x_.content)) rfl (fun _ hΓ => (hΓ.get 47 rfl : OwSl _ _ _ _).rd) ?_
   have r8 : (x_.content).length ≤ bd n := (okl (ok_DataP hokx_).2.1).1
   have r9 : (spec_AppendName ([]) x_.name).length ≤ bd (n + 1) := (okl hm28).1
   have r10 : (spec_BytesToInts (spec_AppendName ([]) x_.name)).length ≤ bd (n + 2) := (okl hq7).1
   have r11 : (spec_BytesToInts x_.content).length ≤ bd (n + 1) := (okl hq8).1
   refine WX.appG1 503 49 50 (((spec_BytesToInts (spec_AppendName ([]) x_.name)) ++ (spec_BytesToInts x_.content)) : List Int).length ttOk rfl rfl rfl rfl rfl rfl rfl rfl rfl rfl rfl rfl rfl (by first | (simp; done) | (simp; omega)) (by first | (rw [List.length_append]; (try simp only [List.length_cons, List.length_nil]); omega) | (simp; omega) | (simp only [List.length_append, List.length_cons, List.length_nil] at *; omega)) (by first | (rw [List.length_append]; (try simp only [List.length_cons, List.length_nil]); omega) | (simp; omega) | (simp only [List.length_append, List.length_cons, List.length_nil] at *; omega)) (fun _ _ _ => rfl) ?_
   intro ys3 p13 c11
   refine WX.know (fun G hΓ => (hΓ.get 50 rfl : RdL _ _ _).flat) ?_
   intro hf3
   refine WX.turn [48] 51 rfl (fun h hs => ol_flat hs hf3) (gs := [MF.ol (xs3 ++ ys3) (((spec_BytesToInts (spec_AppendName ([]) x_.name)) ++ (spec_BytesToInts x_.content)) : List Int)]) rfl ?_
   refine R0 ?_
   refine WX.seal 503 51 52 rfl rfl rfl rfl rfl ?_
   refine WX.turn [53] 18 rfl (fun _ h => h) rfl ?_
   exact WX.iter (p13, c11) ⟨(okl_mk (by first | (rw [List.length_append]; (try simp only [List.length_cons, List.length_nil]); omega) | (simp; omega) | (simp only [List.length_append, List.length_cons, List.length_nil] at *; omega)) (fun a ha => GoT.okm (show (n + 2) ≤ (n + 3) by omega) ((all_app (okl hq7).2 (fun a ha => GoT.okm (by omega) ((okl hq8).2 a ha))) a ha)) : GoT.ok (n + 3) (((spec_BytesToInts (spec_AppendName ([]) x_.name)) ++ (spec_BytesToInts x_.content)) : List Int)), (ok_DataP hokx_).2.2.2.1, (ok_DataP hokx_).2.2.2.2⟩ Nat.zero_lt_one (.cons rfl (.cons rfl (.nil))) (.cons rfl (.nil)) .nil [18, 0, 1, 2] rfl
  refine TX.share (ι := (Option Addr) × Nat) ⟨fun | (pm5, cm5) => (GoT.ok (n + 1) ((spec_AppendName ([]) x_.name) : List UInt8)) ∧ (-9223372036854775808 ≤ x_.freshUntil ∧ x_.freshUntil ≤ 9223372036854775807) ∧ (-9223372036854775808 ≤ x_.signature ∧ x_.signature ≤ 9223372036854775807), fun _ => 0, fun | (pm5, cm5) => [(7, .v (.slice pm5 (((spec_AppendName ([]) x_.name)).length) cm5)), (9, .p 1 1), (1, .p 1 0)], fun | (pm5, cm5) => [(1, ⟨32, [.slice K0 ((x_.name.parts).length) M0, .slice K1 ((x_.content).length) M1, .slice K2 ((x_.keyName.parts).length) M2, .int .i64 (x_.freshUntil), .int .i64 (x_.signature)]⟩)], fun _ => [], fun | (pm5, cm5) => [(28, MF.os pm5 cm5 (spec_AppendName ([]) x_.name)), (0, MF.rs .stb K0 M0 x_.name.parts), (1, MF.rs .stb K1 M1 x_.content), (2, MF.rs .stb K2 M2 x_.keyName.parts)]⟩ 5 #[true, true, true, true, false, true, false, false, false, false] ?_ (fun N_7 => ?_)
  ·skip
   rintro ⟨pm5, cm5⟩ ⟨hm19, hm20, hm21⟩
   refine TX.all2 4 6 (by kernel_rfl) ?_ ?_
   ·skip
    refine TS.op 4 rfl (by kernel_rfl) ?_
    refine WX.der 54 (MF.rs .der pm5 cm5 (spec_AppendName ([]) x_.name)) rfl (fun _ hΓ => (hΓ.get 28 rfl : OwSl _ _ _ _).rd) ?_
    refine WX.callF 55 (fun _ _ h => GoT.ow_rd h) (fun _ f hf => GoT.fak f hf) rfl rfl rfl rfl rfl (fun _ => rfl) rfl (fun w G bs hI hΓ => f279 w (n + 1) (by omega) (spec_AppendName ([]) x_.name) pm5 cm5 (hΓ.get 54 rfl) hm19) (fun _ => rfl) (fun _ => rfl) ?_
    rintro ⟨p14, c12⟩ hq9
    have q9 := len_specBI (spec_AppendName ([]) x_.name)
    refine R0 ?_
    refine WX.turn [56] 33 rfl (fun _ h => h) rfl ?_
    refine WX.back0 ?_
    exact TX.use N_9 (p14, c12) ⟨hq9, (ok_DataP hokx_).2.2.2.1, (ok_DataP hokx_).2.2.2.2⟩ (by kernel_rfl) (.cons rfl (.cons rfl (.cons rfl (.nil)))) (.cons rfl (.nil)) .nil [33, 0, 1, 2] rfl
   ·skip
    refine TS.op 6 rfl (by kernel_rfl) ?_
    refine R0 ?_
    refine WX.turn [28] 34 rfl (fun _ h => h) rfl ?_
    refine WX.back0 ?_
    exact TX.use N_10 (pm5, cm5) ⟨hm19, (ok_DataP hokx_).2.2.2.1, (ok_DataP hokx_).2.2.2.2⟩ (by kernel_rfl) (.cons rfl (.cons rfl (.cons rfl (.nil)))) (.cons rfl (.nil)) .nil [1, 34, 0, 2] rfl
  refine TX.share (ι := (Option Addr) × Nat) ⟨fun | (pm6, cm6) => (GoT.ok n ([] : List UInt8)) ∧ (-9223372036854775808 ≤ x_.freshUntil ∧ x_.freshUntil ≤ 9223372036854775807) ∧ (-9223372036854775808 ≤ x_.signature ∧ x_.signature ≤ 9223372036854775807), fun _ => 0, fun | (pm6, cm6) => [(10, .v (.slice K1 ((x_.content).length) M1)), (6, .v (.agg #[.slice K0 ((x_.name.parts).length) M0])), (4, .v (.slice pm6 (0) cm6)), (1, .p 1 0)], fun | (pm6, cm6) => [(1, ⟨32, [.slice K0 ((x_.name.parts).length) M0, .slice K1 ((x_.content).length) M1, .slice K2 ((x_.keyName.parts).length) M2, .int .i64 (x_.freshUntil), .int .i64 (x_.signature)]⟩)], fun _ => [], fun | (pm6, cm6) => [(1, MF.rs .stb K1 M1 x_.content), (0, MF.rs .stb K0 M0 x_.name.parts), (29, MF.os pm6 cm6 ([] : List UInt8)), (2, MF.rs .stb K2 M2 x_.keyName.parts)]⟩ 5 #[true, true, true, false, false, true, true, false, false, false] ?_ (fun N_8 => ?_)
  ·skip
   rintro ⟨pm6, cm6⟩ ⟨hm22, hm23, hm24⟩
   refine TX.tail [3, 4, 7, 8, 9] rfl rfl (by kernel_rfl) ?_
   refine WX.der 57 (MF.rs .der pm6 cm6 ([])) rfl (fun _ hΓ => (hΓ.get 29 rfl : OwSl _ _ _ _).rd) ?_
   refine WX.callF 58 (fun _ _ h => GoT.ow_rd h) (fun _ f hf => GoT.fak f hf) rfl rfl rfl rfl rfl (fun _ => rfl) rfl (fun w G bs hI hΓ => f280 w n (by omega) ([]) pm6 cm6 (hΓ.get 57 rfl) x_.name K0 M0 (hΓ.get 0 rfl) hm22 ((ok_DataP hokx_).1)) (fun _ => rfl) (fun _ => rfl) ?_
   rintro ⟨p15, c13⟩ hq10
   have q10 := len_specAN ([]) x_.name
   refine WX.callF 60 (fun _ _ h => GoT.ow_rd h) (fun _ f hf => GoT.fak f hf) rfl rfl rfl rfl rfl (fun _ => rfl) rfl (fun w G bs hI hΓ => f279 w (n + 1) (by omega) (spec_AppendName ([]) x_.name) p15 c13 (hΓ.get 58 rfl) hq10) (fun _ => rfl) (fun _ => rfl) ?_
   rintro ⟨p16, c14⟩ hq11
   have q11 := len_specBI (spec_AppendName ([]) x_.name)
   refine WX.callF 62 (fun _ _ h => GoT.ow_rd h) (fun _ f hf => GoT.fak f hf) rfl rfl rfl rfl rfl (fun _ => rfl) rfl (fun w G bs hI hΓ => f279 w n (by omega) x_.content K1 M1 (hΓ.get 1 rfl) ((ok_DataP hokx_).2.1)) (fun _ => rfl) (fun _ => rfl) ?_
   rintro ⟨p17, c15⟩ hq12
   have q12 := len_specBI x_.content
   refine WX.opn (kk := 1) 504 61 64 rfl rfl rfl ?_
   intro xs4 hx4
   refine WX.der 65 (MF.rs .der p17 c15 (spec_BytesToInts x_.content)) rfl (fun _ hΓ => (hΓ.get 63 rfl : OwSl _ _ _ _).rd) ?_
   have r12 : (x_.content).length ≤ bd n := (okl (ok_DataP hokx_).2.1).1
   have r13 : ([]).length ≤ bd n := (okl hm22).1
   have r14 : (spec_AppendName ([]) x_.name).length ≤ bd (n + 1) := (okl hq10).1
   have r15 : (spec_BytesToInts (spec_AppendName ([]) x_.name)).length ≤ bd (n + 2) := (okl hq11).1
   have r16 : (spec_BytesToInts x_.content).length ≤ bd (n + 1) := (okl hq12).1
   refine WX.appG1 504 65 66 (((spec_BytesToInts (spec_AppendName ([]) x_.name)) ++ (spec_BytesToInts x_.content)) : List Int).length ttOk rfl rfl rfl rfl rfl rfl rfl rfl rfl rfl rfl rfl rfl (by first | (simp; done) | (simp; omega)) (by first | (rw [List.length_append]; (try simp only [List.length_cons, List.length_nil]); omega) | (simp; omega) | (simp only [List.length_append, List.length_cons, List.length_nil] at *; omega)) (by first | (rw [List.length_append]; (try simp only [List.length_cons, List.length_nil]); omega) | (simp; omega) | (simp only [List.length_append, List.length_cons, List.length_nil] at *; omega)) (fun _ _ _ => rfl) ?_
   intro ys4 p18 c16
   refine WX.know (fun G hΓ => (hΓ.get 66 rfl : RdL _ _ _).flat) ?_
   intro hf4
   refine WX.turn [64] 67 rfl (fun h hs => ol_flat hs hf4) (gs := [MF.ol (xs4 ++ ys4) (((spec_BytesToInts (spec_AppendName ([]) x_.name)) ++ (spec_BytesToInts x_.content)) : List Int)]) rfl ?_
   refine R0 ?_
   refine WX.seal 504 67 68 rfl rfl rfl rfl rfl ?_
   refine WX.turn [69] 18 rfl (fun _ h => h) rfl ?_
   exact WX.iter (p18, c16) ⟨(okl_mk (by first | (rw [List.length_append]; (try simp only [List.length_cons, List.length_nil]); omega) | (simp; omega) | (simp only [List.length_append, List.length_cons, List.length_nil] at *; omega)) (fun a ha => GoT.okm (show (n + 2) ≤ (n + 3) by omega) ((all_app (okl hq11).2 (fun a ha => GoT.okm (by omega) ((okl hq12).2 a ha))) a ha)) : GoT.ok (n + 3) (((spec_BytesToInts (spec_AppendName ([]) x_.name)) ++ (spec_BytesToInts x_.content)) : List Int)), (ok_DataP hokx_).2.2.2.1, (ok_DataP hokx_).2.2.2.2⟩ Nat.zero_lt_one (.cons rfl (.cons rfl (.nil))) (.cons rfl (.nil)) .nil [18, 0, 1, 2] rfl
  refine TX.share (ι := (Option Addr) × Nat) ⟨fun | (pm3, cm3) => (GoT.ok n ([] : List UInt8)) ∧ (-9223372036854775808 ≤ x_.freshUntil ∧ x_.freshUntil ≤ 9223372036854775807) ∧ (-9223372036854775808 ≤ x_.signature ∧ x_.signature ≤ 9223372036854775807), fun _ => 0, fun | (pm3, cm3) => [(6, .v (.agg #[.slice K0 ((x_.name.parts).length) M0])), (4, .v (.slice pm3 (0) cm3)), (9, .p 1 1), (1, .p 1 0)], fun | (pm3, cm3) => [(1, ⟨32, [.slice K0 ((x_.name.parts).length) M0, .slice K1 ((x_.content).length) M1, .slice K2 ((x_.keyName.parts).length) M2, .int .i64 (x_.freshUntil), .int .i64 (x_.signature)]⟩)], fun _ => [], fun | (pm3, cm3) => [(0, MF.rs .stb K0 M0 x_.name.parts), (23, MF.os pm3 cm3 ([] : List UInt8)), (1, MF.rs .stb K1 M1 x_.content), (2, MF.rs .stb K2 M2 x_.keyName.parts)]⟩ 6 #[true, true, true, false, false, true, false, false, false, false] ?_ (fun N_4 => ?_)
  ·skip
   rintro ⟨pm3, cm3⟩ ⟨hm11, hm12, hm13⟩
   refine TX.all2 3 6 (by kernel_rfl) ?_ ?_
   ·skip
    refine TS.op 3 rfl (by kernel_rfl) ?_
    refine WX.der 70 (MF.rs .der pm3 cm3 ([])) rfl (fun _ hΓ => (hΓ.get 23 rfl : OwSl _ _ _ _).rd) ?_
    refine WX.callF 71 (fun _ _ h => GoT.ow_rd h) (fun _ f hf => GoT.fak f hf) rfl rfl rfl rfl rfl (fun _ => rfl) rfl (fun w G bs hI hΓ => f280 w n (by omega) ([]) pm3 cm3 (hΓ.get 70 rfl) x_.name K0 M0 (hΓ.get 0 rfl) hm11 ((ok_DataP hokx_).1)) (fun _ => rfl) (fun _ => rfl) ?_
    rintro ⟨p19, c17⟩ hq13
    have q13 := len_specAN ([]) x_.name
    refine R0 ?_
    refine WX.turn [72] 28 rfl (fun _ h => h) rfl ?_
    refine WX.back0 ?_
    exact TX.use N_7 (p19, c17) ⟨hq13, (ok_DataP hokx_).2.2.2.1, (ok_DataP hokx_).2.2.2.2⟩ (by kernel_rfl) (.cons rfl (.cons rfl (.cons rfl (.nil)))) (.cons rfl (.nil)) .nil [28, 0, 1, 2] rfl
   ·skip
    refine TS.op 6 rfl (by kernel_rfl) ?_
    refine R0 ?_
    refine WX.turn [23] 29 rfl (fun _ h => h) rfl ?_
    refine WX.back0 ?_
    exact TX.use N_8 (pm3, cm3) ⟨hm11, (ok_DataP hokx_).2.2.2.1, (ok_DataP hokx_).2.2.2.2⟩ (by kernel_rfl) (.cons rfl (.cons rfl (.cons rfl (.cons rfl (.nil))))) (.cons rfl (.nil)) .nil [1, 0, 29, 2] rfl
  refine TX.share (ι := (Option Addr) × Nat) ⟨fun | (pm4, cm4) => (GoT.ok n ([] : List UInt8)) ∧ (-9223372036854775808 ≤ x_.freshUntil ∧ x_.freshUntil ≤ 9223372036854775807) ∧ (-9223372036854775808 ≤ x_.signature ∧ x_.signature ≤ 9223372036854775807), fun _ => 0, fun | (pm4, cm4) => [(10, .v (.slice K1 ((x_.content).length) M1)), (4, .v (.slice pm4 (0) cm4)), (5, .p 1 0), (1, .p 1 0)], fun | (pm4, cm4) => [(1, ⟨32, [.slice K0 ((x_.name.parts).length) M0, .slice K1 ((x_.content).length) M1, .slice K2 ((x_.keyName.parts).length) M2, .int .i64 (x_.freshUntil), .int .i64 (x_.signature)]⟩)], fun _ => [], fun | (pm4, cm4) => [(1, MF.rs .stb K1 M1 x_.content), (24, MF.os pm4 cm4 ([] : List UInt8)), (0, MF.rs .stb K0 M0 x_.name.parts), (2, MF.rs .stb K2 M2 x_.keyName.parts)]⟩ 6 #[true, true, false, false, false, true, true, false, false, false] ?_ (fun N_5 => ?_)
  ·skip
   rintro ⟨pm4, cm4⟩ ⟨hm14, hm15, hm16⟩
   refine TX.tail [2, 3, 4, 7, 8, 9] rfl rfl (by kernel_rfl) ?_
   refine R0 ?_
   refine WX.der 73 (MF.rs .der pm4 cm4 ([])) rfl (fun _ hΓ => (hΓ.get 24 rfl : OwSl _ _ _ _).rd) ?_
   refine WX.callF 74 (fun _ _ h => GoT.ow_rd h) (fun _ f hf => GoT.fak f hf) rfl rfl rfl rfl rfl (fun _ => rfl) rfl (fun w G bs hI hΓ => f280 w n (by omega) ([]) pm4 cm4 (hΓ.get 73 rfl) x_.name K0 M0 (hΓ.get 0 rfl) hm14 ((ok_DataP hokx_).1)) (fun _ => rfl) (fun _ => rfl) ?_
   rintro ⟨p20, c18⟩ hq14
   have q14 := len_specAN ([]) x_.name
   refine WX.callF 76 (fun _ _ h => GoT.ow_rd h) (fun _ f hf => GoT.fak f hf) rfl rfl rfl rfl rfl (fun _ => rfl) rfl (fun w G bs hI hΓ => f279 w (n + 1) (by omega) (spec_AppendName ([]) x_.name) p20 c18 (hΓ.get 74 rfl) hq14) (fun _ => rfl) (fun _ => rfl) ?_
   rintro ⟨p21, c19⟩ hq15
   have q15 := len_specBI (spec_AppendName ([]) x_.name)
   refine WX.callF 78 (fun _ _ h => GoT.ow_rd h) (fun _ f hf => GoT.fak f hf) rfl rfl rfl rfl rfl (fun _ => rfl) rfl (fun w G bs hI hΓ => f279 w n (by omega) x_.content K1 M1 (hΓ.get 1 rfl) ((ok_DataP hokx_).2.1)) (fun _ => rfl) (fun _ => rfl) ?_
   rintro ⟨p22, c20⟩ hq16
   have q16 := len_specBI x_.content
   refine WX.opn (kk := 1) 505 77 80 rfl rfl rfl ?_
   intro xs5 hx5
   refine WX.der 81 (MF.rs .der p22 c20 (spec_BytesToInts x_.content)) rfl (fun _ hΓ => (hΓ.get 79 rfl : OwSl _ _ _ _).rd) ?_
   have r17 : (x_.content).length ≤ bd n := (okl (ok_DataP hokx_).2.1).1
   have r18 : ([]).length ≤ bd n := (okl hm14).1
   have r19 : (spec_AppendName ([]) x_.name).length ≤ bd (n + 1) := (okl hq14).1
   have r20 : (spec_BytesToInts (spec_AppendName ([]) x_.name)).length ≤ bd (n + 2) := (okl hq15).1
   have r21 : (spec_BytesToInts x_.content).length ≤ bd (n + 1) := (okl hq16).1
   refine WX.appG1 505 81 82 (((spec_BytesToInts (spec_AppendName ([]) x_.name)) ++ (spec_BytesToInts x_.content)) : List Int).length ttOk rfl rfl rfl rfl rfl rfl rfl rfl rfl rfl rfl rfl rfl (by first | (simp; done) | (simp; omega)) (by first | (rw [List.length_append]; (try simp only [List.length_cons, List.length_nil]); omega) | (simp; omega) | (simp only [List.length_append, List.length_cons, List.length_nil] at *; omega)) (by first | (rw [List.length_append]; (try simp only [List.length_cons, List.length_nil]); omega) | (simp; omega) | (simp only [List.length_append, List.length_cons, List.length_nil] at *; omega)) (fun _ _ _ => rfl) ?_
   intro ys5 p23 c21
   refine WX.know (fun G hΓ => (hΓ.get 82 rfl : RdL _ _ _).flat) ?_
   intro hf5
   refine WX.turn [80] 83 rfl (fun h hs => ol_flat hs hf5) (gs := [MF.ol (xs5 ++ ys5) (((spec_BytesToInts (spec_AppendName ([]) x_.name)) ++ (spec_BytesToInts x_.content)) : List Int)]) rfl ?_
   refine R0 ?_
   refine WX.seal 505 83 84 rfl rfl rfl rfl rfl ?_
   refine WX.turn [85] 18 rfl (fun _ h => h) rfl ?_
   exact WX.iter (p23, c21) ⟨(okl_mk (by first | (rw [List.length_append]; (try simp only [List.length_cons, List.length_nil]); omega) | (simp; omega) | (simp only [List.length_append, List.length_cons, List.length_nil] at *; omega)) (fun a ha => GoT.okm (show (n + 2) ≤ (n + 3) by omega) ((all_app (okl hq15).2 (fun a ha => GoT.okm (by omega) ((okl hq16).2 a ha))) a ha)) : GoT.ok (n + 3) (((spec_BytesToInts (spec_AppendName ([]) x_.name)) ++ (spec_BytesToInts x_.content)) : List Int)), (ok_DataP hokx_).2.2.2.1, (ok_DataP hokx_).2.2.2.2⟩ Nat.zero_lt_one (.cons rfl (.cons rfl (.nil))) (.cons rfl (.nil)) .nil [18, 0, 1, 2] rfl
  refine TX.share (ι := Unit) ⟨fun _ => (-9223372036854775808 ≤ x_.freshUntil ∧ x_.freshUntil ≤ 9223372036854775807) ∧ (-9223372036854775808 ≤ x_.signature ∧ x_.signature ≤ 9223372036854775807), fun _ => 0, fun _ => [(10, .v (.slice K1 ((x_.content).length) M1)), (6, .v (.agg #[.slice K0 ((x_.name.parts).length) M0])), (1, .p 1 0)], fun _ => [(1, ⟨32, [.slice K0 ((x_.name.parts).length) M0, .slice K1 ((x_.content).length) M1, .slice K2 ((x_.keyName.parts).length) M2, .int .i64 (x_.freshUntil), .int .i64 (x_.signature)]⟩)], fun _ => [], fun _ => [(1, MF.rs .stb K1 M1 x_.content), (0, MF.rs .stb K0 M0 x_.name.parts), (2, MF.rs .stb K2 M2 x_.keyName.parts)]⟩ 6 #[false, true, true, false, false, true, true, false, false, false] ?_ (fun N_6 => ?_)
  ·skip
   rintro - ⟨hm17, hm18⟩
   refine TX.tail [0, 3, 4, 7, 8, 9] rfl rfl (by kernel_rfl) ?_
   refine WX.bld ttOk rfl rfl rfl rfl rfl rfl rfl ?_
   intro p24
   refine WX.free 86 (MF.ol [] ([] : List UInt8)) rfl ?_
   refine WX.seal 4 86 87 rfl rfl rfl rfl rfl ?_
   refine WX.callF 89 (fun _ _ h => GoT.ow_rd h) (fun _ f hf => GoT.fak f hf) rfl rfl rfl rfl rfl (fun _ => rfl) rfl (fun w G bs hI hΓ => f280 w n (by omega) ([]) p24 0 (hΓ.get 87 rfl) x_.name K0 M0 (hΓ.get 0 rfl) (okl_mk (Nat.zero_le _) (fun _ _ => trivial) : GoT.ok n ([] : List UInt8)) ((ok_DataP hokx_).1)) (fun _ => rfl) (fun _ => rfl) ?_
   rintro ⟨p25, c22⟩ hq17
   have q17 := len_specAN ([]) x_.name
   refine WX.callF 91 (fun _ _ h => GoT.ow_rd h) (fun _ f hf => GoT.fak f hf) rfl rfl rfl rfl rfl (fun _ => rfl) rfl (fun w G bs hI hΓ => f279 w (n + 1) (by omega) (spec_AppendName ([]) x_.name) p25 c22 (hΓ.get 89 rfl) hq17) (fun _ => rfl) (fun _ => rfl) ?_
   rintro ⟨p26, c23⟩ hq18
   have q18 := len_specBI (spec_AppendName ([]) x_.name)
   refine WX.callF 93 (fun _ _ h => GoT.ow_rd h) (fun _ f hf => GoT.fak f hf) rfl rfl rfl rfl rfl (fun _ => rfl) rfl (fun w G bs hI hΓ => f279 w n (by omega) x_.content K1 M1 (hΓ.get 1 rfl) ((ok_DataP hokx_).2.1)) (fun _ => rfl) (fun _ => rfl) ?_
   rintro ⟨p27, c24⟩ hq19
   have q19 := len_specBI x_.content
   refine WX.opn (kk := 1) 506 92 95 rfl rfl rfl ?_
   intro xs6 hx6
   refine WX.der 96 (MF.rs .der p27 c24 (spec_BytesToInts x_.content)) rfl (fun _ hΓ => (hΓ.get 94 rfl : OwSl _ _ _ _).rd) ?_
   have r22 : (x_.content).length ≤ bd n := (okl (ok_DataP hokx_).2.1).1
   have r23 : (spec_AppendName ([]) x_.name).length ≤ bd (n + 1) := (okl hq17).1
   have r24 : (spec_BytesToInts (spec_AppendName ([]) x_.name)).length ≤ bd (n + 2) := (okl hq18).1
   have r25 : (spec_BytesToInts x_.content).length ≤ bd (n + 1) := (okl hq19).1
   refine WX.appG1 506 96 97 (((spec_BytesToInts (spec_AppendName ([]) x_.name)) ++ (spec_BytesToInts x_.content)) : List Int).length ttOk rfl rfl rfl rfl rfl rfl rfl rfl rfl rfl rfl rfl rfl (by first | (simp; done) | (simp; omega)) (by first | (rw [List.length_append]; (try simp only [List.length_cons, List.length_nil]); omega) | (simp; omega) | (simp only [List.length_append, List.length_cons, List.length_nil] at *; omega)) (by first | (rw [List.length_append]; (try simp only [List.length_cons, List.length_nil]); omega) | (simp; omega) | (simp only [List.length_append, List.length_cons, List.length_nil] at *; omega)) (fun _ _ _ => rfl) ?_
   intro ys6 p28 c25
   refine WX.know (fun G hΓ => (hΓ.get 97 rfl : RdL _ _ _).flat) ?_
   intro hf6
   refine WX.turn [95] 98 rfl (fun h hs => ol_flat hs hf6) (gs := [MF.ol (xs6 ++ ys6) (((spec_BytesToInts (spec_AppendName ([]) x_.name)) ++ (spec_BytesToInts x_.content)) : List Int)]) rfl ?_
   refine R0 ?_
   refine WX.seal 506 98 99 rfl rfl rfl rfl rfl ?_
   refine WX.turn [100] 18 rfl (fun _ h => h) rfl ?_
   exact WX.iter (p28, c25) ⟨(okl_mk (by first | (rw [List.length_append]; (try simp only [List.length_cons, List.length_nil]); omega) | (simp; omega) | (simp only [List.length_append, List.length_cons, List.length_nil] at *; omega)) (fun a ha => GoT.okm (show (n + 2) ≤ (n + 3) by omega) ((all_app (okl hq18).2 (fun a ha => GoT.okm (by omega) ((okl hq19).2 a ha))) a ha)) : GoT.ok (n + 3) (((spec_BytesToInts (spec_AppendName ([]) x_.name)) ++ (spec_BytesToInts x_.content)) : List Int)), (ok_DataP hokx_).2.2.2.1, (ok_DataP hokx_).2.2.2.2⟩ Nat.zero_lt_one (.cons rfl (.cons rfl (.nil))) (.cons rfl (.nil)) .nil [18, 0, 1, 2] rfl
  refine TX.share (ι := (Option Addr) × Nat) ⟨fun | (pm2, cm2) => (GoT.ok n ([] : List UInt8)) ∧ (-9223372036854775808 ≤ x_.freshUntil ∧ x_.freshUntil ≤ 9223372036854775807) ∧ (-9223372036854775808 ≤ x_.signature ∧ x_.signature ≤ 9223372036854775807), fun _ => 0, fun | (pm2, cm2) => [(4, .v (.slice pm2 (0) cm2)), (9, .p 1 1), (5, .p 1 0), (1, .p 1 0)], fun | (pm2, cm2) => [(1, ⟨32, [.slice K0 ((x_.name.parts).length) M0, .slice K1 ((x_.content).length) M1, .slice K2 ((x_.keyName.parts).length) M2, .int .i64 (x_.freshUntil), .int .i64 (x_.signature)]⟩)], fun _ => [], fun | (pm2, cm2) => [(22, MF.os pm2 cm2 ([] : List UInt8)), (0, MF.rs .stb K0 M0 x_.name.parts), (1, MF.rs .stb K1 M1 x_.content), (2, MF.rs .stb K2 M2 x_.keyName.parts)]⟩ 7 #[true, true, false, false, false, true, false, false, false, false] ?_ (fun N_1 => ?_)
  ·skip
   rintro ⟨pm2, cm2⟩ ⟨hm4, hm5, hm6⟩
   refine TX.all2 2 6 (by kernel_rfl) ?_ ?_
   ·skip
    refine TS.op 2 rfl (by kernel_rfl) ?_
    refine R0 ?_
    refine WX.turn [22] 23 rfl (fun _ h => h) rfl ?_
    refine WX.back0 ?_
    exact TX.use N_4 (pm2, cm2) ⟨hm4, (ok_DataP hokx_).2.2.2.1, (ok_DataP hokx_).2.2.2.2⟩ (by kernel_rfl) (.cons rfl (.cons rfl (.cons rfl (.cons rfl (.nil))))) (.cons rfl (.nil)) .nil [0, 23, 1, 2] rfl
   ·skip
    refine TS.op 6 rfl (by kernel_rfl) ?_
    refine R0 ?_
    refine WX.turn [22] 24 rfl (fun _ h => h) rfl ?_
    refine WX.back0 ?_
    exact TX.use N_5 (pm2, cm2) ⟨hm4, (ok_DataP hokx_).2.2.2.1, (ok_DataP hokx_).2.2.2.2⟩ (by kernel_rfl) (.cons rfl (.cons rfl (.cons rfl (.cons rfl (.nil))))) (.cons rfl (.nil)) .nil [1, 24, 0, 2] rfl
  refine TX.share (ι := Unit) ⟨fun _ => (-9223372036854775808 ≤ x_.freshUntil ∧ x_.freshUntil ≤ 9223372036854775807) ∧ (-9223372036854775808 ≤ x_.signature ∧ x_.signature ≤ 9223372036854775807), fun _ => 0, fun _ => [(6, .v (.agg #[.slice K0 ((x_.name.parts).length) M0])), (9, .p 1 1), (1, .p 1 0)], fun _ => [(1, ⟨32, [.slice K0 ((x_.name.parts).length) M0, .slice K1 ((x_.content).length) M1, .slice K2 ((x_.keyName.parts).length) M2, .int .i64 (x_.freshUntil), .int .i64 (x_.signature)]⟩)], fun _ => [], fun _ => [(0, MF.rs .stb K0 M0 x_.name.parts), (1, MF.rs .stb K1 M1 x_.content), (2, MF.rs .stb K2 M2 x_.keyName.parts)]⟩ 7 #[false, true, true, false, false, true, false, false, false, false] ?_ (fun N_2 => ?_)
  ·skip
   rintro - ⟨hm7, hm8⟩
   refine TX.all2 0 6 (by kernel_rfl) ?_ ?_
   ·skip
    refine TS.op 0 rfl (by kernel_rfl) ?_
    refine WX.bld ttOk rfl rfl rfl rfl rfl rfl rfl ?_
    intro p29
    refine R0 ?_
    refine WX.free 101 (MF.ol [] ([] : List UInt8)) rfl ?_
    refine WX.seal 4 101 102 rfl rfl rfl rfl rfl ?_
    refine WX.turn [103] 23 rfl (fun _ h => h) rfl ?_
    refine WX.back0 ?_
    exact TX.use N_4 (p29, 0) ⟨(okl_mk (Nat.zero_le _) (fun _ _ => trivial) : GoT.ok n ([] : List UInt8)), (ok_DataP hokx_).2.2.2.1, (ok_DataP hokx_).2.2.2.2⟩ (by kernel_rfl) (.cons rfl (.cons rfl (.cons rfl (.cons rfl (.nil))))) (.cons rfl (.nil)) .nil [0, 23, 1, 2] rfl
   ·skip
    refine TS.op 6 rfl (by kernel_rfl) ?_
    refine R0 ?_
    refine WX.back0 ?_
    exact TX.use N_6 () ⟨(ok_DataP hokx_).2.2.2.1, (ok_DataP hokx_).2.2.2.2⟩ (by kernel_rfl) (.cons rfl (.cons rfl (.cons rfl (.nil)))) (.cons rfl (.nil)) .nil [1, 0, 2] rfl
  refine TX.share (ι := Unit) ⟨fun _ => (-9223372036854775808 ≤ x_.freshUntil ∧ x_.freshUntil ≤ 9223372036854775807) ∧ (-9223372036854775808 ≤ x_.signature ∧ x_.signature ≤ 9223372036854775807), fun _ => 0, fun _ => [(10, .v (.slice K1 ((x_.content).length) M1)), (5, .p 1 0), (1, .p 1 0)], fun _ => [(1, ⟨32, [.slice K0 ((x_.name.parts).length) M0, .slice K1 ((x_.content).length) M1, .slice K2 ((x_.keyName.parts).length) M2, .int .i64 (x_.freshUntil), .int .i64 (x_.signature)]⟩)], fun _ => [], fun _ => [(1, MF.rs .stb K1 M1 x_.content), (0, MF.rs .stb K0 M0 x_.name.parts), (2, MF.rs .stb K2 M2 x_.keyName.parts)]⟩ 7 #[false, true, false, false, false, true, true, false, false, false] ?_ (fun N_3 => ?_)
  ·skip
   rintro - ⟨hm9, hm10⟩
   refine TX.all2 0 2 (by kernel_rfl) ?_ ?_
   ·skip
    refine TS.op 0 rfl (by kernel_rfl) ?_
    refine WX.bld ttOk rfl rfl rfl rfl rfl rfl rfl ?_
    intro p30
    refine R0 ?_
    refine WX.free 104 (MF.ol [] ([] : List UInt8)) rfl ?_
    refine WX.seal 4 104 105 rfl rfl rfl rfl rfl ?_
    refine WX.turn [106] 24 rfl (fun _ h => h) rfl ?_
    refine WX.back0 ?_
    exact TX.use N_5 (p30, 0) ⟨(okl_mk (Nat.zero_le _) (fun _ _ => trivial) : GoT.ok n ([] : List UInt8)), (ok_DataP hokx_).2.2.2.1, (ok_DataP hokx_).2.2.2.2⟩ (by kernel_rfl) (.cons rfl (.cons rfl (.cons rfl (.cons rfl (.nil))))) (.cons rfl (.nil)) .nil [1, 24, 0, 2] rfl
   ·skip
    refine TS.op 2 rfl (by kernel_rfl) ?_
    refine R0 ?_
    refine WX.back0 ?_
    exact TX.use N_6 () ⟨(ok_DataP hokx_).2.2.2.1, (ok_DataP hokx_).2.2.2.2⟩ (by kernel_rfl) (.cons rfl (.cons rfl (.cons rfl (.nil)))) (.cons rfl (.nil)) .nil [1, 0, 2] rfl
  refine TX.all3 0 2 6 (by kernel_rfl) ?_ ?_ ?_
  ·skip
   refine TS.op 0 rfl (by kernel_rfl) ?_
   refine WX.bld ttOk rfl rfl rfl rfl rfl rfl rfl ?_
   intro p31
   refine R0 ?_
   refine WX.free 107 (MF.ol [] ([] : List UInt8)) rfl ?_
   refine WX.seal 4 107 108 rfl rfl rfl rfl rfl ?_
   refine WX.turn [109] 22 rfl (fun _ h => h) rfl ?_
   refine WX.back0 ?_
   exact TX.use N_1 (p31, 0) ⟨(okl_mk (Nat.zero_le _) (fun _ _ => trivial) : GoT.ok n ([] : List UInt8)), (ok_DataP hokx_).2.2.2.1, (ok_DataP hokx_).2.2.2.2⟩ (by kernel_rfl) (.cons rfl (.cons rfl (.cons rfl (.cons rfl (.nil))))) (.cons rfl (.nil)) .nil [22, 0, 1, 2] rfl
  ·skip
   refine TS.op 2 rfl (by kernel_rfl) ?_
   refine R0 ?_
   refine WX.back0 ?_
   exact TX.use N_2 () ⟨(ok_DataP hokx_).2.2.2.1, (ok_DataP hokx_).2.2.2.2⟩ (by kernel_rfl) (.cons rfl (.cons rfl (.cons rfl (.nil)))) (.cons rfl (.nil)) .nil [0, 1, 2] rfl
  ·skip
   refine TS.op 6 rfl (by kernel_rfl) ?_
   refine R0 ?_
   refine WX.back0 ?_
   exact TX.use N_3 () ⟨(ok_DataP hokx_).2.2.2.1, (ok_DataP hokx_).2.2.2.2⟩ (by kernel_rfl) (.cons rfl (.cons rfl (.cons rfl (.nil)))) (.cons rfl (.nil)) .nil [1, 0, 2] rfl
 rintro ⟨pm1, cm1⟩ ⟨hm1, hm2, hm3⟩
 refine R0 ?_
 refine WX.meet (ι := (Option Addr) × Nat) ⟨fun | (pm9, cm9) => (GoT.ok (n + 5) (((((spec_BytesToInts (spec_AppendName ([]) x_.name)) ++ (spec_BytesToInts x_.content)) ++ (spec_BytesToInts (spec_AppendName ([]) x_.keyName))) ++ [x_.freshUntil]) : List Int)), fun _ => 0, fun | (pm9, cm9) => [(2, .v (.slice pm9 ((((((spec_BytesToInts (spec_AppendName ([]) x_.name)) ++ (spec_BytesToInts x_.content)) ++ (spec_BytesToInts (spec_AppendName ([]) x_.keyName))) ++ [x_.freshUntil])).length) cm9))], fun | (pm9, cm9) => [], fun _ => [], fun | (pm9, cm9) => [(126, MF.os pm9 cm9 ((((spec_BytesToInts (spec_AppendName ([]) x_.name)) ++ (spec_BytesToInts x_.content)) ++ (spec_BytesToInts (spec_AppendName ([]) x_.keyName))) ++ [x_.freshUntil])), (0, MF.rs .stb K0 M0 x_.name.parts), (1, MF.rs .stb K1 M1 x_.content), (2, MF.rs .stb K2 M2 x_.keyName.parts)]⟩ ?_ ?_
 ·skip
  refine WX.der 127 (MF.rs .der pm1 cm1 ((spec_BytesToInts (spec_AppendName ([]) x_.name)) ++ (spec_BytesToInts x_.content))) rfl (fun _ hΓ => (hΓ.get 18 rfl : OwSl _ _ _ _).rd) ?_
  refine WX.draw [3, 4, 5, 6, 8, 10, 11] mixed ?_
  intro bs G0 hΓ0
  refine DX.takes (fuel := 9) ttOk [(0, true), (2, true), (7, true)] (by kernel_rfl) rfl ?_
  refine DX.toTX ?_
  intro S_
  refine TX.share (ι := (Option Addr) × Nat) ⟨fun | (pm43, cm43) => (GoT.ok (n + 4) ((((spec_BytesToInts (spec_AppendName ([]) x_.name)) ++ (spec_BytesToInts x_.content)) ++ (spec_BytesToInts (spec_AppendName ([]) x_.keyName))) : List Int)) ∧ (-9223372036854775808 ≤ x_.freshUntil ∧ x_.freshUntil ≤ 9223372036854775807), fun _ => 0, fun | (pm43, cm43) => [(19, .v (.slice pm43 (((((spec_BytesToInts (spec_AppendName ([]) x_.name)) ++ (spec_BytesToInts x_.content)) ++ (spec_BytesToInts (spec_AppendName ([]) x_.keyName)))).length) cm43)), (21, .v (.int .i64 (x_.freshUntil)))], fun | (pm43, cm43) => [], fun _ => [], fun | (pm43, cm43) => [(197, MF.os pm43 cm43 (((spec_BytesToInts (spec_AppendName ([]) x_.name)) ++ (spec_BytesToInts x_.content)) ++ (spec_BytesToInts (spec_AppendName ([]) x_.keyName)))), (0, MF.rs .stb K0 M0 x_.name.parts), (1, MF.rs .stb K1 M1 x_.content), (2, MF.rs .stb K2 M2 x_.keyName.parts)]⟩ 3 #[true, true, true, true, true, true, true, true, true, false, false, false] ?_ (fun N_28 => ?_)
  ·skip
   rintro ⟨pm43, cm43⟩ ⟨hm91, hm92⟩
   refine TX.tail [9, 10, 11] rfl rfl (by kernel_rfl) ?_
   refine WX.bld ttOk rfl rfl rfl rfl rfl rfl rfl ?_
   intro p49
   refine WX.opn (kk := 1) 510 197 204 rfl rfl rfl ?_
   intro xs10 hx10
   refine WX.turn [] 205 rfl (fun h hs => ol_one (α := Int) (a := x_.freshUntil) (x := ()) hs) (gs := [MF.ol [.int .i64 (x_.freshUntil)] ([x_.freshUntil] : List Int)]) rfl ?_
   have r37 : (x_.content).length ≤ bd n := (okl (ok_DataP hokx_).2.1).1
   have r38 : -9223372036854775808 ≤ x_.freshUntil ∧ x_.freshUntil ≤ 9223372036854775807 := (ok_DataP hokx_).2.2.2.1
   have r39 : ((spec_BytesToInts (spec_AppendName ([]) x_.name)) ++ (spec_BytesToInts x_.content)).length ≤ bd (n + 3) := (okl hm1).1
   have r40 : (((spec_BytesToInts (spec_AppendName ([]) x_.name)) ++ (spec_BytesToInts x_.content)) ++ (spec_BytesToInts (spec_AppendName ([]) x_.keyName))).length ≤ bd (n + 4) := (okl hm91).1
   refine WX.know (fun G hΓ => (hΓ.get 205 rfl : OwL _ _ _).rd.one) ?_
   intro ho2
   refine WX.appR1 510 22 (((((spec_BytesToInts (spec_AppendName ([]) x_.name)) ++ (spec_BytesToInts x_.content)) ++ (spec_BytesToInts (spec_AppendName ([]) x_.keyName))) ++ [x_.freshUntil]) : List Int).length ttOk rfl rfl rfl rfl rfl rfl rfl rfl rfl rfl rfl rfl rfl ho2 (by first | (simp; done) | (rw [List.length_append]; rfl) | (simp; omega)) (by first | (rw [List.length_append]; (try simp only [List.length_cons, List.length_nil]); omega) | (simp; omega) | (simp only [List.length_append, List.length_cons, List.length_nil] at *; omega)) (by first | (rw [List.length_append]; (try simp only [List.length_cons, List.length_nil]); omega) | (simp; omega) | (simp only [List.length_append, List.length_cons, List.length_nil] at *; omega)) (fun _ _ => rfl) ?_
   intro p50 c34
   refine WX.turn [204, 205] 206 rfl (fun h hs => ol_app hs) (gs := [MF.ol (xs10 ++ [.int .i64 (x_.freshUntil)]) (((((spec_BytesToInts (spec_AppendName ([]) x_.name)) ++ (spec_BytesToInts x_.content)) ++ (spec_BytesToInts (spec_AppendName ([]) x_.keyName))) ++ [x_.freshUntil]) : List Int)]) rfl ?_
   refine R0 ?_
   refine WX.seal 510 206 207 rfl rfl rfl rfl rfl ?_
   refine WX.turn [208] 126 rfl (fun _ h => h) rfl ?_
   exact WX.iter (p50, c34) (okl_mk (by first | (rw [List.length_append]; (try simp only [List.length_cons, List.length_nil]); omega) | (simp; omega) | (simp only [List.length_append, List.length_cons, List.length_nil] at *; omega)) (fun a ha => GoT.okm (show (n + 4) ≤ (n + 5) by omega) ((all_app (okl hm91).2 (fun a ha => GoT.okm (by omega) ((all_cons (α := Int) (ok_DataP hokx_).2.2.2.1 (fun a ha => by cases ha)) a ha))) a ha)) : GoT.ok (n + 5) (((((spec_BytesToInts (spec_AppendName ([]) x_.name)) ++ (spec_BytesToInts x_.content)) ++ (spec_BytesToInts (spec_AppendName ([]) x_.keyName))) ++ [x_.freshUntil]) : List Int)) Nat.zero_lt_one (.cons rfl (.nil)) .nil .nil [126, 0, 1, 2] rfl
  refine TX.share (ι := (Option Addr) × Nat × (Option Addr) × Nat × (Option Addr) × Nat) ⟨fun | (pm44, cm44, pm45, cm45, pm46, cm46) => (GoT.ok n ([x_.freshUntil] : List Int)) ∧ (GoT.ok (n + 2) ((spec_BytesToInts (spec_AppendName ([]) x_.keyName)) : List Int)) ∧ (GoT.ok (n + 3) (((spec_BytesToInts (spec_AppendName ([]) x_.name)) ++ (spec_BytesToInts x_.content)) : List Int)), fun _ => 0, fun | (pm44, cm44, pm45, cm45, pm46, cm46) => [(22, .v (.slice pm44 (([x_.freshUntil]).length) cm44)), (18, .v (.slice pm45 (((spec_BytesToInts (spec_AppendName ([]) x_.keyName))).length) cm45)), (13, .v (.slice pm46 ((((spec_BytesToInts (spec_AppendName ([]) x_.name)) ++ (spec_BytesToInts x_.content))).length) cm46))], fun | (pm44, cm44, pm45, cm45, pm46, cm46) => [], fun _ => [], fun | (pm44, cm44, pm45, cm45, pm46, cm46) => [(201, MF.os pm44 cm44 ([x_.freshUntil])), (202, MF.os pm45 cm45 (spec_BytesToInts (spec_AppendName ([]) x_.keyName))), (203, MF.os pm46 cm46 ((spec_BytesToInts (spec_AppendName ([]) x_.name)) ++ (spec_BytesToInts x_.content))), (0, MF.rs .stb K0 M0 x_.name.parts), (1, MF.rs .stb K1 M1 x_.content), (2, MF.rs .stb K2 M2 x_.keyName.parts)]⟩ 3 #[true, true, true, true, true, true, false, true, true, true, false, false] ?_ (fun N_29 => ?_)
  ·skip
   rintro ⟨pm44, cm44, pm45, cm45, pm46, cm46⟩ ⟨hm93, hm94, hm95⟩
   refine TX.tail [6, 10, 11] rfl rfl (by kernel_rfl) ?_
   refine WX.opn (kk := 1) 511 203 209 rfl rfl rfl ?_
   intro xs11 hx11
   refine WX.der 210 (MF.rs .der pm45 cm45 (spec_BytesToInts (spec_AppendName ([]) x_.keyName))) rfl (fun _ hΓ => (hΓ.get 202 rfl : OwSl _ _ _ _).rd) ?_
   have r41 : (x_.content).length ≤ bd n := (okl (ok_DataP hokx_).2.1).1
   have r42 : ((spec_BytesToInts (spec_AppendName ([]) x_.name)) ++ (spec_BytesToInts x_.content)).length ≤ bd (n + 3) := (okl hm1).1
   have r43 : (spec_BytesToInts (spec_AppendName ([]) x_.keyName)).length ≤ bd (n + 2) := (okl hm94).1
   refine WX.appG1 511 210 211 ((((spec_BytesToInts (spec_AppendName ([]) x_.name)) ++ (spec_BytesToInts x_.content)) ++ (spec_BytesToInts (spec_AppendName ([]) x_.keyName))) : List Int).length ttOk rfl rfl rfl rfl rfl rfl rfl rfl rfl rfl rfl rfl rfl (by first | (simp; done) | (simp; omega)) (by first | (rw [List.length_append]; (try simp only [List.length_cons, List.length_nil]); omega) | (simp; omega) | (simp only [List.length_append, List.length_cons, List.length_nil] at *; omega)) (by first | (rw [List.length_append]; (try simp only [List.length_cons, List.length_nil]); omega) | (simp; omega) | (simp only [List.length_append, List.length_cons, List.length_nil] at *; omega)) (fun _ _ _ => rfl) ?_
   intro ys10 p51 c35
   refine WX.know (fun G hΓ => (hΓ.get 211 rfl : RdL _ _ _).flat) ?_
   intro hf10
   refine WX.turn [209] 212 rfl (fun h hs => ol_flat hs hf10) (gs := [MF.ol (xs11 ++ ys10) ((((spec_BytesToInts (spec_AppendName ([]) x_.name)) ++ (spec_BytesToInts x_.content)) ++ (spec_BytesToInts (spec_AppendName ([]) x_.keyName))) : List Int)]) rfl ?_
   refine WX.der 213 (MF.rs .der pm44 cm44 ([x_.freshUntil])) rfl (fun _ hΓ => (hΓ.get 201 rfl : OwSl _ _ _ _).rd) ?_
   have r44 : -9223372036854775808 ≤ x_.freshUntil ∧ x_.freshUntil ≤ 9223372036854775807 := (ok_DataP hokx_).2.2.2.1
   have r45 : ([x_.freshUntil]).length ≤ bd n := (okl hm93).1
   refine WX.appG1 511 213 214 (((((spec_BytesToInts (spec_AppendName ([]) x_.name)) ++ (spec_BytesToInts x_.content)) ++ (spec_BytesToInts (spec_AppendName ([]) x_.keyName))) ++ [x_.freshUntil]) : List Int).length ttOk rfl rfl rfl rfl rfl rfl rfl rfl rfl rfl rfl rfl rfl (by first | (simp; done) | (simp; omega)) (by first | (rw [List.length_append]; (try simp only [List.length_cons, List.length_nil]); omega) | (simp; omega) | (simp only [List.length_append, List.length_cons, List.length_nil] at *; omega)) (by first | (rw [List.length_append]; (try simp only [List.length_cons, List.length_nil]); omega) | (simp; omega) | (simp only [List.length_append, List.length_cons, List.length_nil] at *; omega)) (fun _ _ _ => rfl) ?_
   intro ys11 p52 c36
   refine WX.know (fun G hΓ => (hΓ.get 214 rfl : RdL _ _ _).flat) ?_
   intro hf11
   refine WX.turn [212] 215 rfl (fun h hs => ol_flat hs hf11) (gs := [MF.ol ((xs11 ++ ys10) ++ ys11) (((((spec_BytesToInts (spec_AppendName ([]) x_.name)) ++ (spec_BytesToInts x_.content)) ++ (spec_BytesToInts (spec_AppendName ([]) x_.keyName))) ++ [x_.freshUntil]) : List Int)]) rfl ?_
   refine R0 ?_
   refine WX.seal 511 215 216 rfl rfl rfl rfl rfl ?_
   refine WX.turn [217] 126 rfl (fun _ h => h) rfl ?_
   exact WX.iter (p52, c36) (okl_mk (by first | (rw [List.length_append]; (try simp only [List.length_cons, List.length_nil]); omega) | (simp; omega) | (simp only [List.length_append, List.length_cons, List.length_nil] at *; omega)) (fun a ha => GoT.okm (show (n + 4) ≤ (n + 5) by omega) ((all_app (fun a ha => GoT.okm (show (n + 3) ≤ (n + 4) by omega) ((all_app (okl hm95).2 (fun a ha => GoT.okm (by omega) ((okl hm94).2 a ha))) a ha)) (fun a ha => GoT.okm (by omega) ((okl hm93).2 a ha))) a ha)) : GoT.ok (n + 5) (((((spec_BytesToInts (spec_AppendName ([]) x_.name)) ++ (spec_BytesToInts x_.content)) ++ (spec_BytesToInts (spec_AppendName ([]) x_.keyName))) ++ [x_.freshUntil]) : List Int)) Nat.zero_lt_one (.cons rfl (.nil)) .nil .nil [126, 0, 1, 2] rfl
  refine TX.share (ι := (Option Addr) × Nat) ⟨fun | (pm37, cm37) => (GoT.ok (n + 4) ((((spec_BytesToInts (spec_AppendName ([]) x_.name)) ++ (spec_BytesToInts x_.content)) ++ (spec_BytesToInts (spec_AppendName ([]) x_.keyName))) : List Int)) ∧ (-9223372036854775808 ≤ x_.freshUntil ∧ x_.freshUntil ≤ 9223372036854775807) ∧ (-9223372036854775808 ≤ x_.signature ∧ x_.signature ≤ 9223372036854775807), fun _ => 0, fun | (pm37, cm37) => [(19, .v (.slice pm37 (((((spec_BytesToInts (spec_AppendName ([]) x_.name)) ++ (spec_BytesToInts x_.content)) ++ (spec_BytesToInts (spec_AppendName ([]) x_.keyName)))).length) cm37)), (20, .p 1 3)], fun | (pm37, cm37) => [(1, ⟨32, [.slice K0 ((x_.name.parts).length) M0, .slice K1 ((x_.content).length) M1, .slice K2 ((x_.keyName.parts).length) M2, .int .i64 (x_.freshUntil), .int .i64 (x_.signature)]⟩)], fun _ => [], fun | (pm37, cm37) => [(182, MF.os pm37 cm37 (((spec_BytesToInts (spec_AppendName ([]) x_.name)) ++ (spec_BytesToInts x_.content)) ++ (spec_BytesToInts (spec_AppendName ([]) x_.keyName)))), (0, MF.rs .stb K0 M0 x_.name.parts), (1, MF.rs .stb K1 M1 x_.content), (2, MF.rs .stb K2 M2 x_.keyName.parts)]⟩ 4 #[true, true, true, true, true, true, true, true, false, false, false, false] ?_ (fun N_25 => ?_)
  ·skip
   rintro ⟨pm37, cm37⟩ ⟨hm82, hm83, hm84⟩
   refine TX.tail [8, 9, 10, 11] rfl rfl (by kernel_rfl) ?_
   refine R0 ?_
   refine WX.bld ttOk rfl rfl rfl rfl rfl rfl rfl ?_
   intro p53
   refine WX.opn (kk := 1) 512 182 218 rfl rfl rfl ?_
   intro xs12 hx12
   refine WX.turn [] 219 rfl (fun h hs => ol_one (α := Int) (a := x_.freshUntil) (x := ()) hs) (gs := [MF.ol [.int .i64 (x_.freshUntil)] ([x_.freshUntil] : List Int)]) rfl ?_
   have r46 : (x_.content).length ≤ bd n := (okl (ok_DataP hokx_).2.1).1
   have r47 : -9223372036854775808 ≤ x_.freshUntil ∧ x_.freshUntil ≤ 9223372036854775807 := (ok_DataP hokx_).2.2.2.1
   have r48 : ((spec_BytesToInts (spec_AppendName ([]) x_.name)) ++ (spec_BytesToInts x_.content)).length ≤ bd (n + 3) := (okl hm1).1
   have r49 : (((spec_BytesToInts (spec_AppendName ([]) x_.name)) ++ (spec_BytesToInts x_.content)) ++ (spec_BytesToInts (spec_AppendName ([]) x_.keyName))).length ≤ bd (n + 4) := (okl hm82).1
   refine WX.know (fun G hΓ => (hΓ.get 219 rfl : OwL _ _ _).rd.one) ?_
   intro ho3
   refine WX.appR1 512 22 (((((spec_BytesToInts (spec_AppendName ([]) x_.name)) ++ (spec_BytesToInts x_.content)) ++ (spec_BytesToInts (spec_AppendName ([]) x_.keyName))) ++ [x_.freshUntil]) : List Int).length ttOk rfl rfl rfl rfl rfl rfl rfl rfl rfl rfl rfl rfl rfl ho3 (by first | (simp; done) | (rw [List.length_append]; rfl) | (simp; omega)) (by first | (rw [List.length_append]; (try simp only [List.length_cons, List.length_nil]); omega) | (simp; omega) | (simp only [List.length_append, List.length_cons, List.length_nil] at *; omega)) (by first | (rw [List.length_append]; (try simp only [List.length_cons, List.length_nil]); omega) | (simp; omega) | (simp only [List.length_append, List.length_cons, List.length_nil] at *; omega)) (fun _ _ => rfl) ?_
   intro p54 c37
   refine WX.turn [218, 219] 220 rfl (fun h hs => ol_app hs) (gs := [MF.ol (xs12 ++ [.int .i64 (x_.freshUntil)]) (((((spec_BytesToInts (spec_AppendName ([]) x_.name)) ++ (spec_BytesToInts x_.content)) ++ (spec_BytesToInts (spec_AppendName ([]) x_.keyName))) ++ [x_.freshUntil]) : List Int)]) rfl ?_
   refine R0 ?_
   refine WX.seal 512 220 221 rfl rfl rfl rfl rfl ?_
   refine WX.turn [222] 126 rfl (fun _ h => h) rfl ?_
   exact WX.iter (p54, c37) (okl_mk (by first | (rw [List.length_append]; (try simp only [List.length_cons, List.length_nil]); omega) | (simp; omega) | (simp only [List.length_append, List.length_cons, List.length_nil] at *; omega)) (fun a ha => GoT.okm (show (n + 4) ≤ (n + 5) by omega) ((all_app (okl hm82).2 (fun a ha => GoT.okm (by omega) ((all_cons (α := Int) (ok_DataP hokx_).2.2.2.1 (fun a ha => by cases ha)) a ha))) a ha)) : GoT.ok (n + 5) (((((spec_BytesToInts (spec_AppendName ([]) x_.name)) ++ (spec_BytesToInts x_.content)) ++ (spec_BytesToInts (spec_AppendName ([]) x_.keyName))) ++ [x_.freshUntil]) : List Int)) Nat.zero_lt_one (.cons rfl (.nil)) .nil .nil [126, 0, 1, 2] rfl
  refine TX.share (ι := (Option Addr) × Nat × (Option Addr) × Nat) ⟨fun | (pm38, cm38, pm39, cm39) => (-9223372036854775808 ≤ x_.freshUntil ∧ x_.freshUntil ≤ 9223372036854775807) ∧ (GoT.ok (n + 2) ((spec_BytesToInts (spec_AppendName ([]) x_.keyName)) : List Int)) ∧ (GoT.ok (n + 3) (((spec_BytesToInts (spec_AppendName ([]) x_.name)) ++ (spec_BytesToInts x_.content)) : List Int)), fun _ => 0, fun | (pm38, cm38, pm39, cm39) => [(21, .v (.int .i64 (x_.freshUntil))), (18, .v (.slice pm38 (((spec_BytesToInts (spec_AppendName ([]) x_.keyName))).length) cm38)), (13, .v (.slice pm39 ((((spec_BytesToInts (spec_AppendName ([]) x_.name)) ++ (spec_BytesToInts x_.content))).length) cm39))], fun | (pm38, cm38, pm39, cm39) => [], fun _ => [], fun | (pm38, cm38, pm39, cm39) => [(183, MF.os pm38 cm38 (spec_BytesToInts (spec_AppendName ([]) x_.keyName))), (184, MF.os pm39 cm39 ((spec_BytesToInts (spec_AppendName ([]) x_.name)) ++ (spec_BytesToInts x_.content))), (0, MF.rs .stb K0 M0 x_.name.parts), (1, MF.rs .stb K1 M1 x_.content), (2, MF.rs .stb K2 M2 x_.keyName.parts)]⟩ 4 #[true, true, true, true, true, true, false, true, true, false, false, false] ?_ (fun N_26 => ?_)
  ·skip
   rintro ⟨pm38, cm38, pm39, cm39⟩ ⟨hm85, hm86, hm87⟩
   refine TX.all2 6 9 (by kernel_rfl) ?_ ?_
   ·skip
    refine TS.op 6 rfl (by kernel_rfl) ?_
    refine WX.opn (kk := 1) 513 184 223 rfl rfl rfl ?_
    intro xs13 hx13
    refine WX.der 224 (MF.rs .der pm38 cm38 (spec_BytesToInts (spec_AppendName ([]) x_.keyName))) rfl (fun _ hΓ => (hΓ.get 183 rfl : OwSl _ _ _ _).rd) ?_
    have r50 : (x_.content).length ≤ bd n := (okl (ok_DataP hokx_).2.1).1
    have r51 : ((spec_BytesToInts (spec_AppendName ([]) x_.name)) ++ (spec_BytesToInts x_.content)).length ≤ bd (n + 3) := (okl hm1).1
    have r52 : (spec_BytesToInts (spec_AppendName ([]) x_.keyName)).length ≤ bd (n + 2) := (okl hm86).1
    refine WX.appG1 513 224 225 ((((spec_BytesToInts (spec_AppendName ([]) x_.name)) ++ (spec_BytesToInts x_.content)) ++ (spec_BytesToInts (spec_AppendName ([]) x_.keyName))) : List Int).length ttOk rfl rfl rfl rfl rfl rfl rfl rfl rfl rfl rfl rfl rfl (by first | (simp; done) | (simp; omega)) (by first | (rw [List.length_append]; (try simp only [List.length_cons, List.length_nil]); omega) | (simp; omega) | (simp only [List.length_append, List.length_cons, List.length_nil] at *; omega)) (by first | (rw [List.length_append]; (try simp only [List.length_cons, List.length_nil]); omega) | (simp; omega) | (simp only [List.length_append, List.length_cons, List.length_nil] at *; omega)) (fun _ _ _ => rfl) ?_
    intro ys12 p55 c38
    refine WX.know (fun G hΓ => (hΓ.get 225 rfl : RdL _ _ _).flat) ?_
    intro hf12
    refine WX.turn [223] 226 rfl (fun h hs => ol_flat hs hf12) (gs := [MF.ol (xs13 ++ ys12) ((((spec_BytesToInts (spec_AppendName ([]) x_.name)) ++ (spec_BytesToInts x_.content)) ++ (spec_BytesToInts (spec_AppendName ([]) x_.keyName))) : List Int)]) rfl ?_
    refine R0 ?_
    refine WX.seal 513 226 227 rfl rfl rfl rfl rfl ?_
    refine WX.turn [228] 197 rfl (fun _ h => h) rfl ?_
    refine WX.back0 ?_
    exact TX.use N_28 (p55, c38) ⟨(okl_mk (by first | (rw [List.length_append]; (try simp only [List.length_cons, List.length_nil]); omega) | (simp; omega) | (simp only [List.length_append, List.length_cons, List.length_nil] at *; omega)) (fun a ha => GoT.okm (show (n + 3) ≤ (n + 4) by omega) ((all_app (okl hm87).2 (fun a ha => GoT.okm (by omega) ((okl hm86).2 a ha))) a ha)) : GoT.ok (n + 4) ((((spec_BytesToInts (spec_AppendName ([]) x_.name)) ++ (spec_BytesToInts x_.content)) ++ (spec_BytesToInts (spec_AppendName ([]) x_.keyName))) : List Int)), (ok_DataP hokx_).2.2.2.1⟩ (by kernel_rfl) (.cons rfl (.cons rfl (.nil))) .nil .nil [197, 0, 1, 2] rfl
   ·skip
    refine TS.op 9 rfl (by kernel_rfl) ?_
    refine WX.bld ttOk rfl rfl rfl rfl rfl rfl rfl ?_
    intro p56
    refine R0 ?_
    refine WX.turn [] 229 rfl (fun h hs => ol_one (α := Int) (a := x_.freshUntil) (x := ()) hs) (gs := [MF.ol [.int .i64 (x_.freshUntil)] ([x_.freshUntil] : List Int)]) rfl ?_
    refine WX.seal 22 229 230 rfl rfl rfl rfl rfl ?_
    refine WX.turn [231] 201 rfl (fun _ h => h) rfl ?_
    refine WX.turn [183] 202 rfl (fun _ h => h) rfl ?_
    refine WX.turn [184] 203 rfl (fun _ h => h) rfl ?_
    have r53 : -9223372036854775808 ≤ x_.freshUntil ∧ x_.freshUntil ≤ 9223372036854775807 := (ok_DataP hokx_).2.2.2.1
    refine WX.back0 ?_
    exact TX.use N_29 (p56, 1, pm38, cm38, pm39, cm39) ⟨(okl_mk (by first | (rw [List.length_append]; (try simp only [List.length_cons, List.length_nil]); omega) | (simp; omega) | (simp only [List.length_append, List.length_cons, List.length_nil] at *; omega)) (all_cons (α := Int) (ok_DataP hokx_).2.2.2.1 (fun a ha => by cases ha)) : GoT.ok n ([x_.freshUntil] : List Int)), hm86, hm87⟩ (by kernel_rfl) (.cons rfl (.cons rfl (.cons rfl (.nil)))) .nil .nil [201, 202, 203, 0, 1, 2] rfl
  refine TX.share (ι := (Option Addr) × Nat × (Option Addr) × Nat × (Option Addr) × Nat) ⟨fun | (pm40, cm40, pm41, cm41, pm42, cm42) => (GoT.ok n ([x_.freshUntil] : List Int)) ∧ (GoT.ok (n + 1) ((spec_AppendName ([]) x_.keyName) : List UInt8)) ∧ (GoT.ok (n + 3) (((spec_BytesToInts (spec_AppendName ([]) x_.name)) ++ (spec_BytesToInts x_.content)) : List Int)), fun _ => 0, fun | (pm40, cm40, pm41, cm41, pm42, cm42) => [(22, .v (.slice pm40 (([x_.freshUntil]).length) cm40)), (17, .v (.slice pm41 (((spec_AppendName ([]) x_.keyName)).length) cm41)), (13, .v (.slice pm42 ((((spec_BytesToInts (spec_AppendName ([]) x_.name)) ++ (spec_BytesToInts x_.content))).length) cm42))], fun | (pm40, cm40, pm41, cm41, pm42, cm42) => [], fun _ => [], fun | (pm40, cm40, pm41, cm41, pm42, cm42) => [(188, MF.os pm40 cm40 ([x_.freshUntil])), (189, MF.os pm41 cm41 (spec_AppendName ([]) x_.keyName)), (190, MF.os pm42 cm42 ((spec_BytesToInts (spec_AppendName ([]) x_.name)) ++ (spec_BytesToInts x_.content))), (0, MF.rs .stb K0 M0 x_.name.parts), (1, MF.rs .stb K1 M1 x_.content), (2, MF.rs .stb K2 M2 x_.keyName.parts)]⟩ 4 #[true, true, true, true, true, false, false, true, true, true, false, false] ?_ (fun N_27 => ?_)
  ·skip
   rintro ⟨pm40, cm40, pm41, cm41, pm42, cm42⟩ ⟨hm88, hm89, hm90⟩
   refine TX.tail [5, 6, 10, 11] rfl rfl (by kernel_rfl) ?_
   refine WX.der 232 (MF.rs .der pm41 cm41 (spec_AppendName ([]) x_.keyName)) rfl (fun _ hΓ => (hΓ.get 189 rfl : OwSl _ _ _ _).rd) ?_
   refine WX.callF 233 (fun _ _ h => GoT.ow_rd h) (fun _ f hf => GoT.fak f hf) rfl rfl rfl rfl rfl (fun _ => rfl) rfl (fun w G bs hI hΓ => f279 w (n + 1) (by omega) (spec_AppendName ([]) x_.keyName) pm41 cm41 (hΓ.get 232 rfl) hm89) (fun _ => rfl) (fun _ => rfl) ?_
   rintro ⟨p57, c39⟩ hq24
   have q24 := len_specBI (spec_AppendName ([]) x_.keyName)
   refine WX.opn (kk := 1) 514 190 235 rfl rfl rfl ?_
   intro xs14 hx14
   refine WX.der 236 (MF.rs .der p57 c39 (spec_BytesToInts (spec_AppendName ([]) x_.keyName))) rfl (fun _ hΓ => (hΓ.get 234 rfl : OwSl _ _ _ _).rd) ?_
   have r54 : (x_.content).length ≤ bd n := (okl (ok_DataP hokx_).2.1).1
   have r55 : ((spec_BytesToInts (spec_AppendName ([]) x_.name)) ++ (spec_BytesToInts x_.content)).length ≤ bd (n + 3) := (okl hm1).1
   have r56 : (spec_AppendName ([]) x_.keyName).length ≤ bd (n + 1) := (okl hm89).1
   have r57 : (spec_BytesToInts (spec_AppendName ([]) x_.keyName)).length ≤ bd (n + 2) := (okl hq24).1
   refine WX.appG1 514 236 237 ((((spec_BytesToInts (spec_AppendName ([]) x_.name)) ++ (spec_BytesToInts x_.content)) ++ (spec_BytesToInts (spec_AppendName ([]) x_.keyName))) : List Int).length ttOk rfl rfl rfl rfl rfl rfl rfl rfl rfl rfl rfl rfl rfl (by first | (simp; done) | (simp; omega)) (by first | (rw [List.length_append]; (try simp only [List.length_cons, List.length_nil]); omega) | (simp; omega) | (simp only [List.length_append, List.length_cons, List.length_nil] at *; omega)) (by first | (rw [List.length_append]; (try simp only [List.length_cons, List.length_nil]); omega) | (simp; omega) | (simp only [List.length_append, List.length_cons, List.length_nil] at *; omega)) (fun _ _ _ => rfl) ?_
   intro ys13 p58 c40
   refine WX.know (fun G hΓ => (hΓ.get 237 rfl : RdL _ _ _).flat) ?_
   intro hf13
   refine WX.turn [235] 238 rfl (fun h hs => ol_flat hs hf13) (gs := [MF.ol (xs14 ++ ys13) ((((spec_BytesToInts (spec_AppendName ([]) x_.name)) ++ (spec_BytesToInts x_.content)) ++ (spec_BytesToInts (spec_AppendName ([]) x_.keyName))) : List Int)]) rfl ?_
   refine WX.der 239 (MF.rs .der pm40 cm40 ([x_.freshUntil])) rfl (fun _ hΓ => (hΓ.get 188 rfl : OwSl _ _ _ _).rd) ?_
   have r58 : -9223372036854775808 ≤ x_.freshUntil ∧ x_.freshUntil ≤ 9223372036854775807 := (ok_DataP hokx_).2.2.2.1
   have r59 : ([x_.freshUntil]).length ≤ bd n := (okl hm88).1
   refine WX.appG1 514 239 240 (((((spec_BytesToInts (spec_AppendName ([]) x_.name)) ++ (spec_BytesToInts x_.content)) ++ (spec_BytesToInts (spec_AppendName ([]) x_.keyName))) ++ [x_.freshUntil]) : List Int).length ttOk rfl rfl rfl rfl rfl rfl rfl rfl rfl rfl rfl rfl rfl (by first | (simp; done) | (simp; omega)) (by first | (rw [List.length_append]; (try simp only [List.length_cons, List.length_nil]); omega) | (simp; omega) | (simp only [List.length_append, List.length_cons, List.length_nil] at *; omega)) (by first | (rw [List.length_append]; (try simp only [List.length_cons, List.length_nil]); omega) | (simp; omega) | (simp only [List.length_append, List.length_cons, List.length_nil] at *; omega)) (fun _ _ _ => rfl) ?_
   intro ys14 p59 c41
   refine WX.know (fun G hΓ => (hΓ.get 240 rfl : RdL _ _ _).flat) ?_
   intro hf14
   refine WX.turn [238] 241 rfl (fun h hs => ol_flat hs hf14) (gs := [MF.ol ((xs14 ++ ys13) ++ ys14) (((((spec_BytesToInts (spec_AppendName ([]) x_.name)) ++ (spec_BytesToInts x_.content)) ++ (spec_BytesToInts (spec_AppendName ([]) x_.keyName))) ++ [x_.freshUntil]) : List Int)]) rfl ?_
   refine R0 ?_
   refine WX.seal 514 241 242 rfl rfl rfl rfl rfl ?_
   refine WX.turn [243] 126 rfl (fun _ h => h) rfl ?_
   exact WX.iter (p59, c41) (okl_mk (by first | (rw [List.length_append]; (try simp only [List.length_cons, List.length_nil]); omega) | (simp; omega) | (simp only [List.length_append, List.length_cons, List.length_nil] at *; omega)) (fun a ha => GoT.okm (show (n + 4) ≤ (n + 5) by omega) ((all_app (fun a ha => GoT.okm (show (n + 3) ≤ (n + 4) by omega) ((all_app (okl hm90).2 (fun a ha => GoT.okm (by omega) ((okl hq24).2 a ha))) a ha)) (fun a ha => GoT.okm (by omega) ((okl hm88).2 a ha))) a ha)) : GoT.ok (n + 5) (((((spec_BytesToInts (spec_AppendName ([]) x_.name)) ++ (spec_BytesToInts x_.content)) ++ (spec_BytesToInts (spec_AppendName ([]) x_.keyName))) ++ [x_.freshUntil]) : List Int)) Nat.zero_lt_one (.cons rfl (.nil)) .nil .nil [126, 0, 1, 2] rfl
  refine TX.share (ι := (Option Addr) × Nat × (Option Addr) × Nat) ⟨fun | (pm30, cm30, pm31, cm31) => (GoT.ok (n + 2) ((spec_BytesToInts (spec_AppendName ([]) x_.keyName)) : List Int)) ∧ (GoT.ok (n + 3) (((spec_BytesToInts (spec_AppendName ([]) x_.name)) ++ (spec_BytesToInts x_.content)) : List Int)) ∧ (-9223372036854775808 ≤ x_.freshUntil ∧ x_.freshUntil ≤ 9223372036854775807) ∧ (-9223372036854775808 ≤ x_.signature ∧ x_.signature ≤ 9223372036854775807), fun _ => 0, fun | (pm30, cm30, pm31, cm31) => [(18, .v (.slice pm30 (((spec_BytesToInts (spec_AppendName ([]) x_.keyName))).length) cm30)), (20, .p 1 3), (13, .v (.slice pm31 ((((spec_BytesToInts (spec_AppendName ([]) x_.name)) ++ (spec_BytesToInts x_.content))).length) cm31))], fun | (pm30, cm30, pm31, cm31) => [(1, ⟨32, [.slice K0 ((x_.name.parts).length) M0, .slice K1 ((x_.content).length) M1, .slice K2 ((x_.keyName.parts).length) M2, .int .i64 (x_.freshUntil), .int .i64 (x_.signature)]⟩)], fun _ => [], fun | (pm30, cm30, pm31, cm31) => [(166, MF.os pm30 cm30 (spec_BytesToInts (spec_AppendName ([]) x_.keyName))), (167, MF.os pm31 cm31 ((spec_BytesToInts (spec_AppendName ([]) x_.name)) ++ (spec_BytesToInts x_.content))), (0, MF.rs .stb K0 M0 x_.name.parts), (1, MF.rs .stb K1 M1 x_.content), (2, MF.rs .stb K2 M2 x_.keyName.parts)]⟩ 5 #[true, true, true, true, true, true, false, true, false, false, false, false] ?_ (fun N_22 => ?_)
  ·skip
   rintro ⟨pm30, cm30, pm31, cm31⟩ ⟨hm72, hm73, hm74, hm75⟩
   refine TX.all2 6 8 (by kernel_rfl) ?_ ?_
   ·skip
    refine TS.op 6 rfl (by kernel_rfl) ?_
    refine WX.opn (kk := 1) 515 167 244 rfl rfl rfl ?_
    intro xs15 hx15
    refine WX.der 245 (MF.rs .der pm30 cm30 (spec_BytesToInts (spec_AppendName ([]) x_.keyName))) rfl (fun _ hΓ => (hΓ.get 166 rfl : OwSl _ _ _ _).rd) ?_
    have r60 : (x_.content).length ≤ bd n := (okl (ok_DataP hokx_).2.1).1
    have r61 : ((spec_BytesToInts (spec_AppendName ([]) x_.name)) ++ (spec_BytesToInts x_.content)).length ≤ bd (n + 3) := (okl hm1).1
    have r62 : (spec_BytesToInts (spec_AppendName ([]) x_.keyName)).length ≤ bd (n + 2) := (okl hm72).1
    refine WX.appG1 515 245 246 ((((spec_BytesToInts (spec_AppendName ([]) x_.name)) ++ (spec_BytesToInts x_.content)) ++ (spec_BytesToInts (spec_AppendName ([]) x_.keyName))) : List Int).length ttOk rfl rfl rfl rfl rfl rfl rfl rfl rfl rfl rfl rfl rfl (by first | (simp; done) | (simp; omega)) (by first | (rw [List.length_append]; (try simp only [List.length_cons, List.length_nil]); omega) | (simp; omega) | (simp only [List.length_append, List.length_cons, List.length_nil] at *; omega)) (by first | (rw [List.length_append]; (try simp only [List.length_cons, List.length_nil]); omega) | (simp; omega) | (simp only [List.length_append, List.length_cons, List.length_nil] at *; omega)) (fun _ _ _ => rfl) ?_
    intro ys15 p60 c42
    refine WX.know (fun G hΓ => (hΓ.get 246 rfl : RdL _ _ _).flat) ?_
    intro hf15
    refine WX.turn [244] 247 rfl (fun h hs => ol_flat hs hf15) (gs := [MF.ol (xs15 ++ ys15) ((((spec_BytesToInts (spec_AppendName ([]) x_.name)) ++ (spec_BytesToInts x_.content)) ++ (spec_BytesToInts (spec_AppendName ([]) x_.keyName))) : List Int)]) rfl ?_
    refine R0 ?_
    refine WX.seal 515 247 248 rfl rfl rfl rfl rfl ?_
    refine WX.turn [249] 182 rfl (fun _ h => h) rfl ?_
    refine WX.back0 ?_
    exact TX.use N_25 (p60, c42) ⟨(okl_mk (by first | (rw [List.length_append]; (try simp only [List.length_cons, List.length_nil]); omega) | (simp; omega) | (simp only [List.length_append, List.length_cons, List.length_nil] at *; omega)) (fun a ha => GoT.okm (show (n + 3) ≤ (n + 4) by omega) ((all_app (okl hm73).2 (fun a ha => GoT.okm (by omega) ((okl hm72).2 a ha))) a ha)) : GoT.ok (n + 4) ((((spec_BytesToInts (spec_AppendName ([]) x_.name)) ++ (spec_BytesToInts x_.content)) ++ (spec_BytesToInts (spec_AppendName ([]) x_.keyName))) : List Int)), (ok_DataP hokx_).2.2.2.1, (ok_DataP hokx_).2.2.2.2⟩ (by kernel_rfl) (.cons rfl (.cons rfl (.nil))) (.cons rfl (.nil)) .nil [182, 0, 1, 2] rfl
   ·skip
    refine TS.op 8 rfl (by kernel_rfl) ?_
    refine R0 ?_
    refine WX.turn [166] 183 rfl (fun _ h => h) rfl ?_
    refine WX.turn [167] 184 rfl (fun _ h => h) rfl ?_
    refine WX.back0 ?_
    exact TX.use N_26 (pm30, cm30, pm31, cm31) ⟨(ok_DataP hokx_).2.2.2.1, hm72, hm73⟩ (by kernel_rfl) (.cons rfl (.cons rfl (.cons rfl (.nil)))) .nil .nil [183, 184, 0, 1, 2] rfl
  refine TX.share (ι := (Option Addr) × Nat × (Option Addr) × Nat) ⟨fun | (pm32, cm32, pm33, cm33) => (-9223372036854775808 ≤ x_.freshUntil ∧ x_.freshUntil ≤ 9223372036854775807) ∧ (GoT.ok (n + 1) ((spec_AppendName ([]) x_.keyName) : List UInt8)) ∧ (GoT.ok (n + 3) (((spec_BytesToInts (spec_AppendName ([]) x_.name)) ++ (spec_BytesToInts x_.content)) : List Int)), fun _ => 0, fun | (pm32, cm32, pm33, cm33) => [(21, .v (.int .i64 (x_.freshUntil))), (17, .v (.slice pm32 (((spec_AppendName ([]) x_.keyName)).length) cm32)), (13, .v (.slice pm33 ((((spec_BytesToInts (spec_AppendName ([]) x_.name)) ++ (spec_BytesToInts x_.content))).length) cm33))], fun | (pm32, cm32, pm33, cm33) => [], fun _ => [], fun | (pm32, cm32, pm33, cm33) => [(168, MF.os pm32 cm32 (spec_AppendName ([]) x_.keyName)), (169, MF.os pm33 cm33 ((spec_BytesToInts (spec_AppendName ([]) x_.name)) ++ (spec_BytesToInts x_.content))), (0, MF.rs .stb K0 M0 x_.name.parts), (1, MF.rs .stb K1 M1 x_.content), (2, MF.rs .stb K2 M2 x_.keyName.parts)]⟩ 5 #[true, true, true, true, true, false, false, true, true, false, false, false] ?_ (fun N_23 => ?_)
  ·skip
   rintro ⟨pm32, cm32, pm33, cm33⟩ ⟨hm76, hm77, hm78⟩
   refine TX.all2 5 9 (by kernel_rfl) ?_ ?_
   ·skip
    refine TS.op 5 rfl (by kernel_rfl) ?_
    refine WX.der 250 (MF.rs .der pm32 cm32 (spec_AppendName ([]) x_.keyName)) rfl (fun _ hΓ => (hΓ.get 168 rfl : OwSl _ _ _ _).rd) ?_
    refine WX.callF 251 (fun _ _ h => GoT.ow_rd h) (fun _ f hf => GoT.fak f hf) rfl rfl rfl rfl rfl (fun _ => rfl) rfl (fun w G bs hI hΓ => f279 w (n + 1) (by omega) (spec_AppendName ([]) x_.keyName) pm32 cm32 (hΓ.get 250 rfl) hm77) (fun _ => rfl) (fun _ => rfl) ?_
    rintro ⟨p61, c43⟩ hq25
    have q25 := len_specBI (spec_AppendName ([]) x_.keyName)
    refine R0 ?_
    refine WX.turn [252] 183 rfl (fun _ h => h) rfl ?_
    refine WX.turn [169] 184 rfl (fun _ h => h) rfl ?_
    refine WX.back0 ?_
    exact TX.use N_26 (p61, c43, pm33, cm33) ⟨(ok_DataP hokx_).2.2.2.1, hq25, hm78⟩ (by kernel_rfl) (.cons rfl (.cons rfl (.cons rfl (.nil)))) .nil .nil [183, 184, 0, 1, 2] rfl
   ·skip
    refine TS.op 9 rfl (by kernel_rfl) ?_
    refine WX.bld ttOk rfl rfl rfl rfl rfl rfl rfl ?_
    intro p62
    refine R0 ?_
    refine WX.turn [] 253 rfl (fun h hs => ol_one (α := Int) (a := x_.freshUntil) (x := ()) hs) (gs := [MF.ol [.int .i64 (x_.freshUntil)] ([x_.freshUntil] : List Int)]) rfl ?_
    refine WX.seal 22 253 254 rfl rfl rfl rfl rfl ?_
    refine WX.turn [255] 188 rfl (fun _ h => h) rfl ?_
    refine WX.turn [168] 189 rfl (fun _ h => h) rfl ?_
    refine WX.turn [169] 190 rfl (fun _ h => h) rfl ?_
    have r63 : -9223372036854775808 ≤ x_.freshUntil ∧ x_.freshUntil ≤ 9223372036854775807 := (ok_DataP hokx_).2.2.2.1
    refine WX.back0 ?_
    exact TX.use N_27 (p62, 1, pm32, cm32, pm33, cm33) ⟨(okl_mk (by first | (rw [List.length_append]; (try simp only [List.length_cons, List.length_nil]); omega) | (simp; omega) | (simp only [List.length_append, List.length_cons, List.length_nil] at *; omega)) (all_cons (α := Int) (ok_DataP hokx_).2.2.2.1 (fun a ha => by cases ha)) : GoT.ok n ([x_.freshUntil] : List Int)), hm77, hm78⟩ (by kernel_rfl) (.cons rfl (.cons rfl (.cons rfl (.nil)))) .nil .nil [188, 189, 190, 0, 1, 2] rfl
  refine TX.share (ι := (Option Addr) × Nat × (Option Addr) × Nat × (Option Addr) × Nat) ⟨fun | (pm34, cm34, pm35, cm35, pm36, cm36) => (GoT.ok n ([x_.freshUntil] : List Int)) ∧ (GoT.ok n ([] : List UInt8)) ∧ (GoT.ok (n + 3) (((spec_BytesToInts (spec_AppendName ([]) x_.name)) ++ (spec_BytesToInts x_.content)) : List Int)), fun _ => 0, fun | (pm34, cm34, pm35, cm35, pm36, cm36) => [(22, .v (.slice pm34 (([x_.freshUntil]).length) cm34)), (16, .v (.agg #[.slice K2 ((x_.keyName.parts).length) M2])), (14, .v (.slice pm35 (0) cm35)), (13, .v (.slice pm36 ((((spec_BytesToInts (spec_AppendName ([]) x_.name)) ++ (spec_BytesToInts x_.content))).length) cm36))], fun | (pm34, cm34, pm35, cm35, pm36, cm36) => [], fun _ => [], fun | (pm34, cm34, pm35, cm35, pm36, cm36) => [(173, MF.os pm34 cm34 ([x_.freshUntil])), (2, MF.rs .stb K2 M2 x_.keyName.parts), (174, MF.os pm35 cm35 ([] : List UInt8)), (175, MF.os pm36 cm36 ((spec_BytesToInts (spec_AppendName ([]) x_.name)) ++ (spec_BytesToInts x_.content))), (0, MF.rs .stb K0 M0 x_.name.parts), (1, MF.rs .stb K1 M1 x_.content)]⟩ 5 #[true, true, true, true, false, false, false, true, true, true, false, false] ?_ (fun N_24 => ?_)
  ·skip
   rintro ⟨pm34, cm34, pm35, cm35, pm36, cm36⟩ ⟨hm79, hm80, hm81⟩
   refine TX.tail [4, 5, 6, 10, 11] rfl rfl (by kernel_rfl) ?_
   refine WX.der 256 (MF.rs .der pm35 cm35 ([])) rfl (fun _ hΓ => (hΓ.get 174 rfl : OwSl _ _ _ _).rd) ?_
   refine WX.callF 257 (fun _ _ h => GoT.ow_rd h) (fun _ f hf => GoT.fak f hf) rfl rfl rfl rfl rfl (fun _ => rfl) rfl (fun w G bs hI hΓ => f280 w n (by omega) ([]) pm35 cm35 (hΓ.get 256 rfl) x_.keyName K2 M2 (hΓ.get 2 rfl) hm80 ((ok_DataP hokx_).2.2.1)) (fun _ => rfl) (fun _ => rfl) ?_
   rintro ⟨p63, c44⟩ hq26
   have q26 := len_specAN ([]) x_.keyName
   refine WX.callF 259 (fun _ _ h => GoT.ow_rd h) (fun _ f hf => GoT.fak f hf) rfl rfl rfl rfl rfl (fun _ => rfl) rfl (fun w G bs hI hΓ => f279 w (n + 1) (by omega) (spec_AppendName ([]) x_.keyName) p63 c44 (hΓ.get 257 rfl) hq26) (fun _ => rfl) (fun _ => rfl) ?_
   rintro ⟨p64, c45⟩ hq27
   have q27 := len_specBI (spec_AppendName ([]) x_.keyName)
   refine WX.opn (kk := 1) 516 175 261 rfl rfl rfl ?_
   intro xs16 hx16
   refine WX.der 262 (MF.rs .der p64 c45 (spec_BytesToInts (spec_AppendName ([]) x_.keyName))) rfl (fun _ hΓ => (hΓ.get 260 rfl : OwSl _ _ _ _).rd) ?_
   have r64 : (x_.content).length ≤ bd n := (okl (ok_DataP hokx_).2.1).1
   have r65 : ((spec_BytesToInts (spec_AppendName ([]) x_.name)) ++ (spec_BytesToInts x_.content)).length ≤ bd (n + 3) := (okl hm1).1
   have r66 : ([]).length ≤ bd n := (okl hm80).1
   have r67 : (spec_AppendName ([]) x_.keyName).length ≤ bd (n + 1) := (okl hq26).1
   have r68 : (spec_BytesToInts (spec_AppendName ([]) x_.keyName)).length ≤ bd (n + 2) := (okl hq27).1
   refine WX.appG1 516 262 263 ((((spec_BytesToInts (spec_AppendName ([]) x_.name)) ++ (spec_BytesToInts x_.content)) ++ (spec_BytesToInts (spec_AppendName ([]) x_.keyName))) : List Int).length ttOk rfl rfl rfl rfl rfl rfl rfl rfl rfl rfl rfl rfl rfl (by first | (simp; done) | (simp; omega)) (by first | (rw [List.length_append]; (try simp only [List.length_cons, List.length_nil]); omega) | (simp; omega) | (simp only [List.length_append, List.length_cons, List.length_nil] at *; omega)) (by first | (rw [List.length_append]; (try simp only [List.length_cons, List.length_nil]); omega) | (simp; omega) | (simp only [List.length_append, List.length_cons, List.length_nil] at *; omega)) (fun _ _ _ => rfl) ?_
   intro ys16 p65 c46
   refine WX.know (fun G hΓ => (hΓ.get 263 rfl : RdL _ _ _).flat) ?_
   intro hf16
   refine WX.turn [261] 264 rfl (fun h hs => ol_flat hs hf16) (gs := [MF.ol (xs16 ++ ys16) ((((spec_BytesToInts (spec_AppendName ([]) x_.name)) ++ (spec_BytesToInts x_.content)) ++ (spec_BytesToInts (spec_AppendName ([]) x_.keyName))) : List Int)]) rfl ?_
   refine WX.der 265 (MF.rs .der pm34 cm34 ([x_.freshUntil])) rfl (fun _ hΓ => (hΓ.get 173 rfl : OwSl _ _ _ _).rd) ?_
   have r69 : -9223372036854775808 ≤ x_.freshUntil ∧ x_.freshUntil ≤ 9223372036854775807 := (ok_DataP hokx_).2.2.2.1
   have r70 : ([x_.freshUntil]).length ≤ bd n := (okl hm79).1
   refine WX.appG1 516 265 266 (((((spec_BytesToInts (spec_AppendName ([]) x_.name)) ++ (spec_BytesToInts x_.content)) ++ (spec_BytesToInts (spec_AppendName ([]) x_.keyName))) ++ [x_.freshUntil]) : List Int).length ttOk rfl rfl rfl rfl rfl rfl rfl rfl rfl rfl rfl rfl rfl (by first | (simp; done) | (simp; omega)) (by first | (rw [List.length_append]; (try simp only [List.length_cons, List.length_nil]); omega) | (simp; omega) | (simp only [List.length_append, List.length_cons, List.length_nil] at *; omega)) (by first | (rw [List.length_append]; (try simp only [List.length_cons, List.length_nil]); omega) | (simp; omega) | (simp only [List.length_append, List.length_cons, List.length_nil] at *; omega)) (fun _ _ _ => rfl) ?_
   intro ys17 p66 c47
   refine WX.know (fun G hΓ => (hΓ.get 266 rfl : RdL _ _ _).flat) ?_
   intro hf17
   refine WX.turn [264] 267 rfl (fun h hs => ol_flat hs hf17) (gs := [MF.ol ((xs16 ++ ys16) ++ ys17) (((((spec_BytesToInts (spec_AppendName ([]) x_.name)) ++ (spec_BytesToInts x_.content)) ++ (spec_BytesToInts (spec_AppendName ([]) x_.keyName))) ++ [x_.freshUntil]) : List Int)]) rfl ?_
   refine R0 ?_
   refine WX.seal 516 267 268 rfl rfl rfl rfl rfl ?_
   refine WX.turn [269] 126 rfl (fun _ h => h) rfl ?_
   exact WX.iter (p66, c47) (okl_mk (by first | (rw [List.length_append]; (try simp only [List.length_cons, List.length_nil]); omega) | (simp; omega) | (simp only [List.length_append, List.length_cons, List.length_nil] at *; omega)) (fun a ha => GoT.okm (show (n + 4) ≤ (n + 5) by omega) ((all_app (fun a ha => GoT.okm (show (n + 3) ≤ (n + 4) by omega) ((all_app (okl hm81).2 (fun a ha => GoT.okm (by omega) ((okl hq27).2 a ha))) a ha)) (fun a ha => GoT.okm (by omega) ((okl hm79).2 a ha))) a ha)) : GoT.ok (n + 5) (((((spec_BytesToInts (spec_AppendName ([]) x_.name)) ++ (spec_BytesToInts x_.content)) ++ (spec_BytesToInts (spec_AppendName ([]) x_.keyName))) ++ [x_.freshUntil]) : List Int)) Nat.zero_lt_one (.cons rfl (.nil)) .nil .nil [126, 0, 1, 2] rfl
  refine TX.share (ι := (Option Addr) × Nat × (Option Addr) × Nat) ⟨fun | (pm21, cm21, pm22, cm22) => (GoT.ok (n + 1) ((spec_AppendName ([]) x_.keyName) : List UInt8)) ∧ (GoT.ok (n + 3) (((spec_BytesToInts (spec_AppendName ([]) x_.name)) ++ (spec_BytesToInts x_.content)) : List Int)) ∧ (-9223372036854775808 ≤ x_.freshUntil ∧ x_.freshUntil ≤ 9223372036854775807) ∧ (-9223372036854775808 ≤ x_.signature ∧ x_.signature ≤ 9223372036854775807), fun _ => 0, fun | (pm21, cm21, pm22, cm22) => [(17, .v (.slice pm21 (((spec_AppendName ([]) x_.keyName)).length) cm21)), (20, .p 1 3), (13, .v (.slice pm22 ((((spec_BytesToInts (spec_AppendName ([]) x_.name)) ++ (spec_BytesToInts x_.content))).length) cm22))], fun | (pm21, cm21, pm22, cm22) => [(1, ⟨32, [.slice K0 ((x_.name.parts).length) M0, .slice K1 ((x_.content).length) M1, .slice K2 ((x_.keyName.parts).length) M2, .int .i64 (x_.freshUntil), .int .i64 (x_.signature)]⟩)], fun _ => [], fun | (pm21, cm21, pm22, cm22) => [(148, MF.os pm21 cm21 (spec_AppendName ([]) x_.keyName)), (149, MF.os pm22 cm22 ((spec_BytesToInts (spec_AppendName ([]) x_.name)) ++ (spec_BytesToInts x_.content))), (0, MF.rs .stb K0 M0 x_.name.parts), (1, MF.rs .stb K1 M1 x_.content), (2, MF.rs .stb K2 M2 x_.keyName.parts)]⟩ 6 #[true, true, true, true, true, false, false, true, false, false, false, false] ?_ (fun N_18 => ?_)
  ·skip
   rintro ⟨pm21, cm21, pm22, cm22⟩ ⟨hm58, hm59, hm60, hm61⟩
   refine TX.all2 5 8 (by kernel_rfl) ?_ ?_
   ·skip
    refine TS.op 5 rfl (by kernel_rfl) ?_
    refine WX.der 270 (MF.rs .der pm21 cm21 (spec_AppendName ([]) x_.keyName)) rfl (fun _ hΓ => (hΓ.get 148 rfl : OwSl _ _ _ _).rd) ?_
    refine WX.callF 271 (fun _ _ h => GoT.ow_rd h) (fun _ f hf => GoT.fak f hf) rfl rfl rfl rfl rfl (fun _ => rfl) rfl (fun w G bs hI hΓ => f279 w (n + 1) (by omega) (spec_AppendName ([]) x_.keyName) pm21 cm21 (hΓ.get 270 rfl) hm58) (fun _ => rfl) (fun _ => rfl) ?_
    rintro ⟨p67, c48⟩ hq28
    have q28 := len_specBI (spec_AppendName ([]) x_.keyName)
    refine R0 ?_
    refine WX.turn [272] 166 rfl (fun _ h => h) rfl ?_
    refine WX.turn [149] 167 rfl (fun _ h => h) rfl ?_
    refine WX.back0 ?_
    exact TX.use N_22 (p67, c48, pm22, cm22) ⟨hq28, hm59, (ok_DataP hokx_).2.2.2.1, (ok_DataP hokx_).2.2.2.2⟩ (by kernel_rfl) (.cons rfl (.cons rfl (.cons rfl (.nil)))) (.cons rfl (.nil)) .nil [166, 167, 0, 1, 2] rfl
   ·skip
    refine TS.op 8 rfl (by kernel_rfl) ?_
    refine R0 ?_
    refine WX.turn [148] 168 rfl (fun _ h => h) rfl ?_
    refine WX.turn [149] 169 rfl (fun _ h => h) rfl ?_
    refine WX.back0 ?_
    exact TX.use N_23 (pm21, cm21, pm22, cm22) ⟨(ok_DataP hokx_).2.2.2.1, hm58, hm59⟩ (by kernel_rfl) (.cons rfl (.cons rfl (.cons rfl (.nil)))) .nil .nil [168, 169, 0, 1, 2] rfl
  refine TX.share (ι := (Option Addr) × Nat × (Option Addr) × Nat) ⟨fun | (pm23, cm23, pm24, cm24) => (-9223372036854775808 ≤ x_.freshUntil ∧ x_.freshUntil ≤ 9223372036854775807) ∧ (GoT.ok n ([] : List UInt8)) ∧ (GoT.ok (n + 3) (((spec_BytesToInts (spec_AppendName ([]) x_.name)) ++ (spec_BytesToInts x_.content)) : List Int)), fun _ => 0, fun | (pm23, cm23, pm24, cm24) => [(21, .v (.int .i64 (x_.freshUntil))), (16, .v (.agg #[.slice K2 ((x_.keyName.parts).length) M2])), (14, .v (.slice pm23 (0) cm23)), (13, .v (.slice pm24 ((((spec_BytesToInts (spec_AppendName ([]) x_.name)) ++ (spec_BytesToInts x_.content))).length) cm24))], fun | (pm23, cm23, pm24, cm24) => [], fun _ => [], fun | (pm23, cm23, pm24, cm24) => [(2, MF.rs .stb K2 M2 x_.keyName.parts), (150, MF.os pm23 cm23 ([] : List UInt8)), (151, MF.os pm24 cm24 ((spec_BytesToInts (spec_AppendName ([]) x_.name)) ++ (spec_BytesToInts x_.content))), (0, MF.rs .stb K0 M0 x_.name.parts), (1, MF.rs .stb K1 M1 x_.content)]⟩ 6 #[true, true, true, true, false, false, false, true, true, false, false, false] ?_ (fun N_19 => ?_)
  ·skip
   rintro ⟨pm23, cm23, pm24, cm24⟩ ⟨hm62, hm63, hm64⟩
   refine TX.all2 4 9 (by kernel_rfl) ?_ ?_
   ·skip
    refine TS.op 4 rfl (by kernel_rfl) ?_
    refine WX.der 273 (MF.rs .der pm23 cm23 ([])) rfl (fun _ hΓ => (hΓ.get 150 rfl : OwSl _ _ _ _).rd) ?_
    refine WX.callF 274 (fun _ _ h => GoT.ow_rd h) (fun _ f hf => GoT.fak f hf) rfl rfl rfl rfl rfl (fun _ => rfl) rfl (fun w G bs hI hΓ => f280 w n (by omega) ([]) pm23 cm23 (hΓ.get 273 rfl) x_.keyName K2 M2 (hΓ.get 2 rfl) hm63 ((ok_DataP hokx_).2.2.1)) (fun _ => rfl) (fun _ => rfl) ?_
    rintro ⟨p68, c49⟩ hq29
    have q29 := len_specAN ([]) x_.keyName
    refine R0 ?_
    refine WX.turn [275] 168 rfl (fun _ h => h) rfl ?_
    refine WX.turn [151] 169 rfl (fun _ h => h) rfl ?_
    refine WX.back0 ?_
    exact TX.use N_23 (p68, c49, pm24, cm24) ⟨(ok_DataP hokx_).2.2.2.1, hq29, hm64⟩ (by kernel_rfl) (.cons rfl (.cons rfl (.cons rfl (.nil)))) .nil .nil [168, 169, 0, 1, 2] rfl
   ·skip
    refine TS.op 9 rfl (by kernel_rfl) ?_
    refine WX.bld ttOk rfl rfl rfl rfl rfl rfl rfl ?_
    intro p69
    refine R0 ?_
    refine WX.turn [] 276 rfl (fun h hs => ol_one (α := Int) (a := x_.freshUntil) (x := ()) hs) (gs := [MF.ol [.int .i64 (x_.freshUntil)] ([x_.freshUntil] : List Int)]) rfl ?_
    refine WX.seal 22 276 277 rfl rfl rfl rfl rfl ?_
    refine WX.turn [278] 173 rfl (fun _ h => h) rfl ?_
    refine WX.turn [150] 174 rfl (fun _ h => h) rfl ?_
    refine WX.turn [151] 175 rfl (fun _ h => h) rfl ?_
    have r71 : -9223372036854775808 ≤ x_.freshUntil ∧ x_.freshUntil ≤ 9223372036854775807 := (ok_DataP hokx_).2.2.2.1
    refine WX.back0 ?_
    exact TX.use N_24 (p69, 1, pm23, cm23, pm24, cm24) ⟨(okl_mk (by first | (rw [List.length_append]; (try simp only [List.length_cons, List.length_nil]); omega) | (simp; omega) | (simp only [List.length_append, List.length_cons, List.length_nil] at *; omega)) (all_cons (α := Int) (ok_DataP hokx_).2.2.2.1 (fun a ha => by cases ha)) : GoT.ok n ([x_.freshUntil] : List Int)), hm63, hm64⟩ (by kernel_rfl) (.cons rfl (.cons rfl (.cons rfl (.cons rfl (.nil))))) .nil .nil [173, 2, 174, 175, 0, 1] rfl
  refine TX.share (ι := (Option Addr) × Nat × (Option Addr) × Nat × (Option Addr) × Nat) ⟨fun | (pm25, cm25, pm26, cm26, pm27, cm27) => (GoT.ok n ([x_.freshUntil] : List Int)) ∧ (GoT.ok n ([] : List UInt8)) ∧ (GoT.ok (n + 3) (((spec_BytesToInts (spec_AppendName ([]) x_.name)) ++ (spec_BytesToInts x_.content)) : List Int)) ∧ (-9223372036854775808 ≤ x_.freshUntil ∧ x_.freshUntil ≤ 9223372036854775807) ∧ (-9223372036854775808 ≤ x_.signature ∧ x_.signature ≤ 9223372036854775807), fun _ => 0, fun | (pm25, cm25, pm26, cm26, pm27, cm27) => [(22, .v (.slice pm25 (([x_.freshUntil]).length) cm25)), (14, .v (.slice pm26 (0) cm26)), (15, .p 1 2), (13, .v (.slice pm27 ((((spec_BytesToInts (spec_AppendName ([]) x_.name)) ++ (spec_BytesToInts x_.content))).length) cm27))], fun | (pm25, cm25, pm26, cm26, pm27, cm27) => [(1, ⟨32, [.slice K0 ((x_.name.parts).length) M0, .slice K1 ((x_.content).length) M1, .slice K2 ((x_.keyName.parts).length) M2, .int .i64 (x_.freshUntil), .int .i64 (x_.signature)]⟩)], fun _ => [], fun | (pm25, cm25, pm26, cm26, pm27, cm27) => [(155, MF.os pm25 cm25 ([x_.freshUntil])), (156, MF.os pm26 cm26 ([] : List UInt8)), (157, MF.os pm27 cm27 ((spec_BytesToInts (spec_AppendName ([]) x_.name)) ++ (spec_BytesToInts x_.content))), (0, MF.rs .stb K0 M0 x_.name.parts), (1, MF.rs .stb K1 M1 x_.content), (2, MF.rs .stb K2 M2 x_.keyName.parts)]⟩ 6 #[true, true, true, false, false, false, false, true, true, true, false, false] ?_ (fun N_20 => ?_)
  ·skip
   rintro ⟨pm25, cm25, pm26, cm26, pm27, cm27⟩ ⟨hm65, hm66, hm67, hm68, hm69⟩
   refine TX.tail [3, 4, 5, 6, 10, 11] rfl rfl (by kernel_rfl) ?_
   refine R0 ?_
   refine WX.der 279 (MF.rs .der pm26 cm26 ([])) rfl (fun _ hΓ => (hΓ.get 156 rfl : OwSl _ _ _ _).rd) ?_
   refine WX.callF 280 (fun _ _ h => GoT.ow_rd h) (fun _ f hf => GoT.fak f hf) rfl rfl rfl rfl rfl (fun _ => rfl) rfl (fun w G bs hI hΓ => f280 w n (by omega) ([]) pm26 cm26 (hΓ.get 279 rfl) x_.keyName K2 M2 (hΓ.get 2 rfl) hm66 ((ok_DataP hokx_).2.2.1)) (fun _ => rfl) (fun _ => rfl) ?_
   rintro ⟨p70, c50⟩ hq30
   have q30 := len_specAN ([]) x_.keyName
   refine WX.callF 282 (fun _ _ h => GoT.ow_rd h) (fun _ f hf => GoT.fak f hf) rfl rfl rfl rfl rfl (fun _ => rfl) rfl (fun w G bs hI hΓ => f279 w (n + 1) (by omega) (spec_AppendName ([]) x_.keyName) p70 c50 (hΓ.get 280 rfl) hq30) (fun _ => rfl) (fun _ => rfl) ?_
   rintro ⟨p71, c51⟩ hq31
   have q31 := len_specBI (spec_AppendName ([]) x_.keyName)
   refine WX.opn (kk := 1) 517 157 284 rfl rfl rfl ?_
   intro xs17 hx17
   refine WX.der 285 (MF.rs .der p71 c51 (spec_BytesToInts (spec_AppendName ([]) x_.keyName))) rfl (fun _ hΓ => (hΓ.get 283 rfl : OwSl _ _ _ _).rd) ?_
   have r72 : (x_.content).length ≤ bd n := (okl (ok_DataP hokx_).2.1).1
   have r73 : ((spec_BytesToInts (spec_AppendName ([]) x_.name)) ++ (spec_BytesToInts x_.content)).length ≤ bd (n + 3) := (okl hm1).1
   have r74 : ([]).length ≤ bd n := (okl hm66).1
   have r75 : (spec_AppendName ([]) x_.keyName).length ≤ bd (n + 1) := (okl hq30).1
   have r76 : (spec_BytesToInts (spec_AppendName ([]) x_.keyName)).length ≤ bd (n + 2) := (okl hq31).1
   refine WX.appG1 517 285 286 ((((spec_BytesToInts (spec_AppendName ([]) x_.name)) ++ (spec_BytesToInts x_.content)) ++ (spec_BytesToInts (spec_AppendName ([]) x_.keyName))) : List Int).length ttOk rfl rfl rfl rfl rfl rfl rfl rfl rfl rfl rfl rfl rfl (by first | (simp; done) | (simp; omega)) (by first | (rw [List.length_append]; (try simp only [List.length_cons, List.length_nil]); omega) | (simp; omega) | (simp only [List.length_append, List.length_cons, List.length_nil] at *; omega)) (by first | (rw [List.length_append]; (try simp only [List.length_cons, List.length_nil]); omega) | (simp; omega) | (simp only [List.length_append, List.length_cons, List.length_nil] at *; omega)) (fun _ _ _ => rfl) ?_
   intro ys18 p72 c52
   refine WX.know (fun G hΓ => (hΓ.get 286 rfl : RdL _ _ _).flat) ?_
   intro hf18
   refine WX.turn [284] 287 rfl (fun h hs => ol_flat hs hf18) (gs := [MF.ol (xs17 ++ ys18) ((((spec_BytesToInts (spec_AppendName ([]) x_.name)) ++ (spec_BytesToInts x_.content)) ++ (spec_BytesToInts (spec_AppendName ([]) x_.keyName))) : List Int)]) rfl ?_
   refine WX.der 288 (MF.rs .der pm25 cm25 ([x_.freshUntil])) rfl (fun _ hΓ => (hΓ.get 155 rfl : OwSl _ _ _ _).rd) ?_
   have r77 : -9223372036854775808 ≤ x_.freshUntil ∧ x_.freshUntil ≤ 9223372036854775807 := (ok_DataP hokx_).2.2.2.1
   have r78 : ([x_.freshUntil]).length ≤ bd n := (okl hm65).1
   refine WX.appG1 517 288 289 (((((spec_BytesToInts (spec_AppendName ([]) x_.name)) ++ (spec_BytesToInts x_.content)) ++ (spec_BytesToInts (spec_AppendName ([]) x_.keyName))) ++ [x_.freshUntil]) : List Int).length ttOk rfl rfl rfl rfl rfl rfl rfl rfl rfl rfl rfl rfl rfl (by first | (simp; done) | (simp; omega)) (by first | (rw [List.length_append]; (try simp only [List.length_cons, List.length_nil]); omega) | (simp; omega) | (simp only [List.length_append, List.length_cons, List.length_nil] at *; omega)) (by first | (rw [List.length_append]; (try simp only [List.length_cons, List.length_nil]); omega) | (simp; omega) | (simp only [List.length_append, List.length_cons, List.length_nil] at *; omega)) (fun _ _ _ => rfl) ?_
   intro ys19 p73 c53
   refine WX.know (fun G hΓ => (hΓ.get 289 rfl : RdL _ _ _).flat) ?_
   intro hf19
   refine WX.turn [287] 290 rfl (fun h hs => ol_flat hs hf19) (gs := [MF.ol ((xs17 ++ ys18) ++ ys19) (((((spec_BytesToInts (spec_AppendName ([]) x_.name)) ++ (spec_BytesToInts x_.content)) ++ (spec_BytesToInts (spec_AppendName ([]) x_.keyName))) ++ [x_.freshUntil]) : List Int)]) rfl ?_
   refine R0 ?_
   refine WX.seal 517 290 291 rfl rfl rfl rfl rfl ?_
   refine WX.turn [292] 126 rfl (fun _ h => h) rfl ?_
   exact WX.iter (p73, c53) (okl_mk (by first | (rw [List.length_append]; (try simp only [List.length_cons, List.length_nil]); omega) | (simp; omega) | (simp only [List.length_append, List.length_cons, List.length_nil] at *; omega)) (fun a ha => GoT.okm (show (n + 4) ≤ (n + 5) by omega) ((all_app (fun a ha => GoT.okm (show (n + 3) ≤ (n + 4) by omega) ((all_app (okl hm67).2 (fun a ha => GoT.okm (by omega) ((okl hq31).2 a ha))) a ha)) (fun a ha => GoT.okm (by omega) ((okl hm65).2 a ha))) a ha)) : GoT.ok (n + 5) (((((spec_BytesToInts (spec_AppendName ([]) x_.name)) ++ (spec_BytesToInts x_.content)) ++ (spec_BytesToInts (spec_AppendName ([]) x_.keyName))) ++ [x_.freshUntil]) : List Int)) Nat.zero_lt_one (.cons rfl (.nil)) .nil .nil [126, 0, 1, 2] rfl
  refine TX.share (ι := (Option Addr) × Nat × (Option Addr) × Nat) ⟨fun | (pm28, cm28, pm29, cm29) => (GoT.ok n ([x_.freshUntil] : List Int)) ∧ (GoT.ok (n + 3) (((spec_BytesToInts (spec_AppendName ([]) x_.name)) ++ (spec_BytesToInts x_.content)) : List Int)), fun _ => 0, fun | (pm28, cm28, pm29, cm29) => [(22, .v (.slice pm28 (([x_.freshUntil]).length) cm28)), (16, .v (.agg #[.slice K2 ((x_.keyName.parts).length) M2])), (13, .v (.slice pm29 ((((spec_BytesToInts (spec_AppendName ([]) x_.name)) ++ (spec_BytesToInts x_.content))).length) cm29))], fun | (pm28, cm28, pm29, cm29) => [], fun _ => [], fun | (pm28, cm28, pm29, cm29) => [(161, MF.os pm28 cm28 ([x_.freshUntil])), (2, MF.rs .stb K2 M2 x_.keyName.parts), (162, MF.os pm29 cm29 ((spec_BytesToInts (spec_AppendName ([]) x_.name)) ++ (spec_BytesToInts x_.content))), (0, MF.rs .stb K0 M0 x_.name.parts), (1, MF.rs .stb K1 M1 x_.content)]⟩ 6 #[true, false, true, true, false, false, false, true, true, true, false, false] ?_ (fun N_21 => ?_)
  ·skip
   rintro ⟨pm28, cm28, pm29, cm29⟩ ⟨hm70, hm71⟩
   refine TX.tail [1, 4, 5, 6, 10, 11] rfl rfl (by kernel_rfl) ?_
   refine WX.bld ttOk rfl rfl rfl rfl rfl rfl rfl ?_
   intro p74
   refine WX.free 293 (MF.ol [] ([] : List UInt8)) rfl ?_
   refine WX.seal 14 293 294 rfl rfl rfl rfl rfl ?_
   refine WX.callF 296 (fun _ _ h => GoT.ow_rd h) (fun _ f hf => GoT.fak f hf) rfl rfl rfl rfl rfl (fun _ => rfl) rfl (fun w G bs hI hΓ => f280 w n (by omega) ([]) p74 0 (hΓ.get 294 rfl) x_.keyName K2 M2 (hΓ.get 2 rfl) (okl_mk (Nat.zero_le _) (fun _ _ => trivial) : GoT.ok n ([] : List UInt8)) ((ok_DataP hokx_).2.2.1)) (fun _ => rfl) (fun _ => rfl) ?_
   rintro ⟨p75, c54⟩ hq32
   have q32 := len_specAN ([]) x_.keyName
   refine WX.callF 298 (fun _ _ h => GoT.ow_rd h) (fun _ f hf => GoT.fak f hf) rfl rfl rfl rfl rfl (fun _ => rfl) rfl (fun w G bs hI hΓ => f279 w (n + 1) (by omega) (spec_AppendName ([]) x_.keyName) p75 c54 (hΓ.get 296 rfl) hq32) (fun _ => rfl) (fun _ => rfl) ?_
   rintro ⟨p76, c55⟩ hq33
   have q33 := len_specBI (spec_AppendName ([]) x_.keyName)
   refine WX.opn (kk := 1) 518 162 300 rfl rfl rfl ?_
   intro xs18 hx18
   refine WX.der 301 (MF.rs .der p76 c55 (spec_BytesToInts (spec_AppendName ([]) x_.keyName))) rfl (fun _ hΓ => (hΓ.get 299 rfl : OwSl _ _ _ _).rd) ?_
   have r79 : (x_.content).length ≤ bd n := (okl (ok_DataP hokx_).2.1).1
   have r80 : ((spec_BytesToInts (spec_AppendName ([]) x_.name)) ++ (spec_BytesToInts x_.content)).length ≤ bd (n + 3) := (okl hm1).1
   have r81 : (spec_AppendName ([]) x_.keyName).length ≤ bd (n + 1) := (okl hq32).1
   have r82 : (spec_BytesToInts (spec_AppendName ([]) x_.keyName)).length ≤ bd (n + 2) := (okl hq33).1
   refine WX.appG1 518 301 302 ((((spec_BytesToInts (spec_AppendName ([]) x_.name)) ++ (spec_BytesToInts x_.content)) ++ (spec_BytesToInts (spec_AppendName ([]) x_.keyName))) : List Int).length ttOk rfl rfl rfl rfl rfl rfl rfl rfl rfl rfl rfl rfl rfl (by first | (simp; done) | (simp; omega)) (by first | (rw [List.length_append]; (try simp only [List.length_cons, List.length_nil]); omega) | (simp; omega) | (simp only [List.length_append, List.length_cons, List.length_nil] at *; omega)) (by first | (rw [List.length_append]; (try simp only [List.length_cons, List.length_nil]); omega) | (simp; omega) | (simp only [List.length_append, List.length_cons, List.length_nil] at *; omega)) (fun _ _ _ => rfl) ?_
   intro ys20 p77 c56
   refine WX.know (fun G hΓ => (hΓ.get 302 rfl : RdL _ _ _).flat) ?_
   intro hf20
   refine WX.turn [300] 303 rfl (fun h hs => ol_flat hs hf20) (gs := [MF.ol (xs18 ++ ys20) ((((spec_BytesToInts (spec_AppendName ([]) x_.name)) ++ (spec_BytesToInts x_.content)) ++ (spec_BytesToInts (spec_AppendName ([]) x_.keyName))) : List Int)]) rfl ?_
   refine WX.der 304 (MF.rs .der pm28 cm28 ([x_.freshUntil])) rfl (fun _ hΓ => (hΓ.get 161 rfl : OwSl _ _ _ _).rd) ?_
   have r83 : -9223372036854775808 ≤ x_.freshUntil ∧ x_.freshUntil ≤ 9223372036854775807 := (ok_DataP hokx_).2.2.2.1
   have r84 : ([x_.freshUntil]).length ≤ bd n := (okl hm70).1
   refine WX.appG1 518 304 305 (((((spec_BytesToInts (spec_AppendName ([]) x_.name)) ++ (spec_BytesToInts x_.content)) ++ (spec_BytesToInts (spec_AppendName ([]) x_.keyName))) ++ [x_.freshUntil]) : List Int).length ttOk rfl rfl rfl rfl rfl rfl rfl rfl rfl rfl rfl rfl rfl (by first | (simp; done) | (simp; omega)) (by first | (rw [List.length_append]; (try simp only [List.length_cons, List.length_nil]); omega) | (simp; omega) | (simp only [List.length_append, List.length_cons, List.length_nil] at *; omega)) (by first | (rw [List.length_append]; (try simp only [List.length_cons, List.length_nil]); omega) | (simp; omega) | (simp only [List.length_append, List.length_cons, List.length_nil] at *; omega)) (fun _ _ _ => rfl) ?_
   intro ys21 p78 c57
   refine WX.know (fun G hΓ => (hΓ.get 305 rfl : RdL _ _ _).flat) ?_
   intro hf21
   refine WX.turn [303] 306 rfl (fun h hs => ol_flat hs hf21) (gs := [MF.ol ((xs18 ++ ys20) ++ ys21) (((((spec_BytesToInts (spec_AppendName ([]) x_.name)) ++ (spec_BytesToInts x_.content)) ++ (spec_BytesToInts (spec_AppendName ([]) x_.keyName))) ++ [x_.freshUntil]) : List Int)]) rfl ?_
   refine R0 ?_
   refine WX.seal 518 306 307 rfl rfl rfl rfl rfl ?_
   refine WX.turn [308] 126 rfl (fun _ h => h) rfl ?_
   exact WX.iter (p78, c57) (okl_mk (by first | (rw [List.length_append]; (try simp only [List.length_cons, List.length_nil]); omega) | (simp; omega) | (simp only [List.length_append, List.length_cons, List.length_nil] at *; omega)) (fun a ha => GoT.okm (show (n + 4) ≤ (n + 5) by omega) ((all_app (fun a ha => GoT.okm (show (n + 3) ≤ (n + 4) by omega) ((all_app (okl hm71).2 (fun a ha => GoT.okm (by omega) ((okl hq33).2 a ha))) a ha)) (fun a ha => GoT.okm (by omega) ((okl hm70).2 a ha))) a ha)) : GoT.ok (n + 5) (((((spec_BytesToInts (spec_AppendName ([]) x_.name)) ++ (spec_BytesToInts x_.content)) ++ (spec_BytesToInts (spec_AppendName ([]) x_.keyName))) ++ [x_.freshUntil]) : List Int)) Nat.zero_lt_one (.cons rfl (.nil)) .nil .nil [126, 0, 1, 2] rfl
  refine TX.share (ι := (Option Addr) × Nat × (Option Addr) × Nat) ⟨fun | (pm14, cm14, pm15, cm15) => (GoT.ok n ([] : List UInt8)) ∧ (GoT.ok (n + 3) (((spec_BytesToInts (spec_AppendName ([]) x_.name)) ++ (spec_BytesToInts x_.content)) : List Int)) ∧ (-9223372036854775808 ≤ x_.freshUntil ∧ x_.freshUntil ≤ 9223372036854775807) ∧ (-9223372036854775808 ≤ x_.signature ∧ x_.signature ≤ 9223372036854775807), fun _ => 0, fun | (pm14, cm14, pm15, cm15) => [(16, .v (.agg #[.slice K2 ((x_.keyName.parts).length) M2])), (14, .v (.slice pm14 (0) cm14)), (20, .p 1 3), (13, .v (.slice pm15 ((((spec_BytesToInts (spec_AppendName ([]) x_.name)) ++ (spec_BytesToInts x_.content))).length) cm15))], fun | (pm14, cm14, pm15, cm15) => [(1, ⟨32, [.slice K0 ((x_.name.parts).length) M0, .slice K1 ((x_.content).length) M1, .slice K2 ((x_.keyName.parts).length) M2, .int .i64 (x_.freshUntil), .int .i64 (x_.signature)]⟩)], fun _ => [], fun | (pm14, cm14, pm15, cm15) => [(2, MF.rs .stb K2 M2 x_.keyName.parts), (135, MF.os pm14 cm14 ([] : List UInt8)), (136, MF.os pm15 cm15 ((spec_BytesToInts (spec_AppendName ([]) x_.name)) ++ (spec_BytesToInts x_.content))), (0, MF.rs .stb K0 M0 x_.name.parts), (1, MF.rs .stb K1 M1 x_.content)]⟩ 7 #[true, true, true, true, false, false, false, true, false, false, false, false] ?_ (fun N_14 => ?_)
  ·skip
   rintro ⟨pm14, cm14, pm15, cm15⟩ ⟨hm43, hm44, hm45, hm46⟩
   refine TX.all2 4 8 (by kernel_rfl) ?_ ?_
   ·skip
    refine TS.op 4 rfl (by kernel_rfl) ?_
    refine WX.der 309 (MF.rs .der pm14 cm14 ([])) rfl (fun _ hΓ => (hΓ.get 135 rfl : OwSl _ _ _ _).rd) ?_
    refine WX.callF 310 (fun _ _ h => GoT.ow_rd h) (fun _ f hf => GoT.fak f hf) rfl rfl rfl rfl rfl (fun _ => rfl) rfl (fun w G bs hI hΓ => f280 w n (by omega) ([]) pm14 cm14 (hΓ.get 309 rfl) x_.keyName K2 M2 (hΓ.get 2 rfl) hm43 ((ok_DataP hokx_).2.2.1)) (fun _ => rfl) (fun _ => rfl) ?_
    rintro ⟨p79, c58⟩ hq34
    have q34 := len_specAN ([]) x_.keyName
    refine R0 ?_
    refine WX.turn [311] 148 rfl (fun _ h => h) rfl ?_
    refine WX.turn [136] 149 rfl (fun _ h => h) rfl ?_
    refine WX.back0 ?_
    exact TX.use N_18 (p79, c58, pm15, cm15) ⟨hq34, hm44, (ok_DataP hokx_).2.2.2.1, (ok_DataP hokx_).2.2.2.2⟩ (by kernel_rfl) (.cons rfl (.cons rfl (.cons rfl (.nil)))) (.cons rfl (.nil)) .nil [148, 149, 0, 1, 2] rfl
   ·skip
    refine TS.op 8 rfl (by kernel_rfl) ?_
    refine R0 ?_
    refine WX.turn [135] 150 rfl (fun _ h => h) rfl ?_
    refine WX.turn [136] 151 rfl (fun _ h => h) rfl ?_
    refine WX.back0 ?_
    exact TX.use N_19 (pm14, cm14, pm15, cm15) ⟨(ok_DataP hokx_).2.2.2.1, hm43, hm44⟩ (by kernel_rfl) (.cons rfl (.cons rfl (.cons rfl (.cons rfl (.nil))))) .nil .nil [2, 150, 151, 0, 1] rfl
  refine TX.share (ι := (Option Addr) × Nat × (Option Addr) × Nat) ⟨fun | (pm16, cm16, pm17, cm17) => (-9223372036854775808 ≤ x_.freshUntil ∧ x_.freshUntil ≤ 9223372036854775807) ∧ (GoT.ok n ([] : List UInt8)) ∧ (GoT.ok (n + 3) (((spec_BytesToInts (spec_AppendName ([]) x_.name)) ++ (spec_BytesToInts x_.content)) : List Int)) ∧ (-9223372036854775808 ≤ x_.freshUntil ∧ x_.freshUntil ≤ 9223372036854775807) ∧ (-9223372036854775808 ≤ x_.signature ∧ x_.signature ≤ 9223372036854775807), fun _ => 0, fun | (pm16, cm16, pm17, cm17) => [(21, .v (.int .i64 (x_.freshUntil))), (14, .v (.slice pm16 (0) cm16)), (15, .p 1 2), (13, .v (.slice pm17 ((((spec_BytesToInts (spec_AppendName ([]) x_.name)) ++ (spec_BytesToInts x_.content))).length) cm17))], fun | (pm16, cm16, pm17, cm17) => [(1, ⟨32, [.slice K0 ((x_.name.parts).length) M0, .slice K1 ((x_.content).length) M1, .slice K2 ((x_.keyName.parts).length) M2, .int .i64 (x_.freshUntil), .int .i64 (x_.signature)]⟩)], fun _ => [], fun | (pm16, cm16, pm17, cm17) => [(137, MF.os pm16 cm16 ([] : List UInt8)), (138, MF.os pm17 cm17 ((spec_BytesToInts (spec_AppendName ([]) x_.name)) ++ (spec_BytesToInts x_.content))), (0, MF.rs .stb K0 M0 x_.name.parts), (1, MF.rs .stb K1 M1 x_.content), (2, MF.rs .stb K2 M2 x_.keyName.parts)]⟩ 7 #[true, true, true, false, false, false, false, true, true, false, false, false] ?_ (fun N_15 => ?_)
  ·skip
   rintro ⟨pm16, cm16, pm17, cm17⟩ ⟨hm47, hm48, hm49, hm50, hm51⟩
   refine TX.all2 3 9 (by kernel_rfl) ?_ ?_
   ·skip
    refine TS.op 3 rfl (by kernel_rfl) ?_
    refine R0 ?_
    refine WX.turn [137] 150 rfl (fun _ h => h) rfl ?_
    refine WX.turn [138] 151 rfl (fun _ h => h) rfl ?_
    refine WX.back0 ?_
    exact TX.use N_19 (pm16, cm16, pm17, cm17) ⟨(ok_DataP hokx_).2.2.2.1, hm48, hm49⟩ (by kernel_rfl) (.cons rfl (.cons rfl (.cons rfl (.cons rfl (.nil))))) .nil .nil [2, 150, 151, 0, 1] rfl
   ·skip
    refine TS.op 9 rfl (by kernel_rfl) ?_
    refine WX.bld ttOk rfl rfl rfl rfl rfl rfl rfl ?_
    intro p80
    refine R0 ?_
    refine WX.turn [] 312 rfl (fun h hs => ol_one (α := Int) (a := x_.freshUntil) (x := ()) hs) (gs := [MF.ol [.int .i64 (x_.freshUntil)] ([x_.freshUntil] : List Int)]) rfl ?_
    refine WX.seal 22 312 313 rfl rfl rfl rfl rfl ?_
    refine WX.turn [314] 155 rfl (fun _ h => h) rfl ?_
    refine WX.turn [137] 156 rfl (fun _ h => h) rfl ?_
    refine WX.turn [138] 157 rfl (fun _ h => h) rfl ?_
    have r85 : -9223372036854775808 ≤ x_.freshUntil ∧ x_.freshUntil ≤ 9223372036854775807 := (ok_DataP hokx_).2.2.2.1
    refine WX.back0 ?_
    exact TX.use N_20 (p80, 1, pm16, cm16, pm17, cm17) ⟨(okl_mk (by first | (rw [List.length_append]; (try simp only [List.length_cons, List.length_nil]); omega) | (simp; omega) | (simp only [List.length_append, List.length_cons, List.length_nil] at *; omega)) (all_cons (α := Int) (ok_DataP hokx_).2.2.2.1 (fun a ha => by cases ha)) : GoT.ok n ([x_.freshUntil] : List Int)), hm48, hm49, (ok_DataP hokx_).2.2.2.1, (ok_DataP hokx_).2.2.2.2⟩ (by kernel_rfl) (.cons rfl (.cons rfl (.cons rfl (.cons rfl (.nil))))) (.cons rfl (.nil)) .nil [155, 156, 157, 0, 1, 2] rfl
  refine TX.share (ι := (Option Addr) × Nat) ⟨fun | (pm18, cm18) => (-9223372036854775808 ≤ x_.freshUntil ∧ x_.freshUntil ≤ 9223372036854775807) ∧ (GoT.ok (n + 3) (((spec_BytesToInts (spec_AppendName ([]) x_.name)) ++ (spec_BytesToInts x_.content)) : List Int)), fun _ => 0, fun | (pm18, cm18) => [(21, .v (.int .i64 (x_.freshUntil))), (16, .v (.agg #[.slice K2 ((x_.keyName.parts).length) M2])), (13, .v (.slice pm18 ((((spec_BytesToInts (spec_AppendName ([]) x_.name)) ++ (spec_BytesToInts x_.content))).length) cm18))], fun | (pm18, cm18) => [], fun _ => [], fun | (pm18, cm18) => [(2, MF.rs .stb K2 M2 x_.keyName.parts), (139, MF.os pm18 cm18 ((spec_BytesToInts (spec_AppendName ([]) x_.name)) ++ (spec_BytesToInts x_.content))), (0, MF.rs .stb K0 M0 x_.name.parts), (1, MF.rs .stb K1 M1 x_.content)]⟩ 7 #[true, false, true, true, false, false, false, true, true, false, false, false] ?_ (fun N_16 => ?_)
  ·skip
   rintro ⟨pm18, cm18⟩ ⟨hm52, hm53⟩
   refine TX.all2 1 9 (by kernel_rfl) ?_ ?_
   ·skip
    refine TS.op 1 rfl (by kernel_rfl) ?_
    refine WX.bld ttOk rfl rfl rfl rfl rfl rfl rfl ?_
    intro p81
    refine R0 ?_
    refine WX.free 315 (MF.ol [] ([] : List UInt8)) rfl ?_
    refine WX.seal 14 315 316 rfl rfl rfl rfl rfl ?_
    refine WX.turn [317] 150 rfl (fun _ h => h) rfl ?_
    refine WX.turn [139] 151 rfl (fun _ h => h) rfl ?_
    refine WX.back0 ?_
    exact TX.use N_19 (p81, 0, pm18, cm18) ⟨(ok_DataP hokx_).2.2.2.1, (okl_mk (Nat.zero_le _) (fun _ _ => trivial) : GoT.ok n ([] : List UInt8)), hm53⟩ (by kernel_rfl) (.cons rfl (.cons rfl (.cons rfl (.cons rfl (.nil))))) .nil .nil [2, 150, 151, 0, 1] rfl
   ·skip
    refine TS.op 9 rfl (by kernel_rfl) ?_
    refine WX.bld ttOk rfl rfl rfl rfl rfl rfl rfl ?_
    intro p82
    refine R0 ?_
    refine WX.turn [] 318 rfl (fun h hs => ol_one (α := Int) (a := x_.freshUntil) (x := ()) hs) (gs := [MF.ol [.int .i64 (x_.freshUntil)] ([x_.freshUntil] : List Int)]) rfl ?_
    refine WX.seal 22 318 319 rfl rfl rfl rfl rfl ?_
    refine WX.turn [320] 161 rfl (fun _ h => h) rfl ?_
    refine WX.turn [139] 162 rfl (fun _ h => h) rfl ?_
    have r86 : -9223372036854775808 ≤ x_.freshUntil ∧ x_.freshUntil ≤ 9223372036854775807 := (ok_DataP hokx_).2.2.2.1
    refine WX.back0 ?_
    exact TX.use N_21 (p82, 1, pm18, cm18) ⟨(okl_mk (by first | (rw [List.length_append]; (try simp only [List.length_cons, List.length_nil]); omega) | (simp; omega) | (simp only [List.length_append, List.length_cons, List.length_nil] at *; omega)) (all_cons (α := Int) (ok_DataP hokx_).2.2.2.1 (fun a ha => by cases ha)) : GoT.ok n ([x_.freshUntil] : List Int)), hm53⟩ (by kernel_rfl) (.cons rfl (.cons rfl (.cons rfl (.nil)))) .nil .nil [161, 2, 162, 0, 1] rfl
  refine TX.share (ι := (Option Addr) × Nat × (Option Addr) × Nat) ⟨fun | (pm19, cm19, pm20, cm20) => (GoT.ok n ([x_.freshUntil] : List Int)) ∧ (GoT.ok (n + 3) (((spec_BytesToInts (spec_AppendName ([]) x_.name)) ++ (spec_BytesToInts x_.content)) : List Int)) ∧ (-9223372036854775808 ≤ x_.freshUntil ∧ x_.freshUntil ≤ 9223372036854775807) ∧ (-9223372036854775808 ≤ x_.signature ∧ x_.signature ≤ 9223372036854775807), fun _ => 0, fun | (pm19, cm19, pm20, cm20) => [(22, .v (.slice pm19 (([x_.freshUntil]).length) cm19)), (15, .p 1 2), (13, .v (.slice pm20 ((((spec_BytesToInts (spec_AppendName ([]) x_.name)) ++ (spec_BytesToInts x_.content))).length) cm20))], fun | (pm19, cm19, pm20, cm20) => [(1, ⟨32, [.slice K0 ((x_.name.parts).length) M0, .slice K1 ((x_.content).length) M1, .slice K2 ((x_.keyName.parts).length) M2, .int .i64 (x_.freshUntil), .int .i64 (x_.signature)]⟩)], fun _ => [], fun | (pm19, cm19, pm20, cm20) => [(143, MF.os pm19 cm19 ([x_.freshUntil])), (144, MF.os pm20 cm20 ((spec_BytesToInts (spec_AppendName ([]) x_.name)) ++ (spec_BytesToInts x_.content))), (0, MF.rs .stb K0 M0 x_.name.parts), (1, MF.rs .stb K1 M1 x_.content), (2, MF.rs .stb K2 M2 x_.keyName.parts)]⟩ 7 #[true, false, true, false, false, false, false, true, true, true, false, false] ?_ (fun N_17 => ?_)
  ·skip
   rintro ⟨pm19, cm19, pm20, cm20⟩ ⟨hm54, hm55, hm56, hm57⟩
   refine TX.all2 1 3 (by kernel_rfl) ?_ ?_
   ·skip
    refine TS.op 1 rfl (by kernel_rfl) ?_
    refine WX.bld ttOk rfl rfl rfl rfl rfl rfl rfl ?_
    intro p83
    refine R0 ?_
    refine WX.free 321 (MF.ol [] ([] : List UInt8)) rfl ?_
    refine WX.seal 14 321 322 rfl rfl rfl rfl rfl ?_
    refine WX.turn [143] 155 rfl (fun _ h => h) rfl ?_
    refine WX.turn [323] 156 rfl (fun _ h => h) rfl ?_
    refine WX.turn [144] 157 rfl (fun _ h => h) rfl ?_
    refine WX.back0 ?_
    exact TX.use N_20 (pm19, cm19, p83, 0, pm20, cm20) ⟨hm54, (okl_mk (Nat.zero_le _) (fun _ _ => trivial) : GoT.ok n ([] : List UInt8)), hm55, (ok_DataP hokx_).2.2.2.1, (ok_DataP hokx_).2.2.2.2⟩ (by kernel_rfl) (.cons rfl (.cons rfl (.cons rfl (.cons rfl (.nil))))) (.cons rfl (.nil)) .nil [155, 156, 157, 0, 1, 2] rfl
   ·skip
    refine TS.op 3 rfl (by kernel_rfl) ?_
    refine R0 ?_
    refine WX.turn [143] 161 rfl (fun _ h => h) rfl ?_
    refine WX.turn [144] 162 rfl (fun _ h => h) rfl ?_
    refine WX.back0 ?_
    exact TX.use N_21 (pm19, cm19, pm20, cm20) ⟨hm54, hm55⟩ (by kernel_rfl) (.cons rfl (.cons rfl (.cons rfl (.nil)))) .nil .nil [161, 2, 162, 0, 1] rfl
  refine TX.share (ι := (Option Addr) × Nat × (Option Addr) × Nat) ⟨fun | (pm10, cm10, pm11, cm11) => (GoT.ok n ([] : List UInt8)) ∧ (GoT.ok (n + 3) (((spec_BytesToInts (spec_AppendName ([]) x_.name)) ++ (spec_BytesToInts x_.content)) : List Int)) ∧ (-9223372036854775808 ≤ x_.freshUntil ∧ x_.freshUntil ≤ 9223372036854775807) ∧ (-9223372036854775808 ≤ x_.signature ∧ x_.signature ≤ 9223372036854775807), fun _ => 0, fun | (pm10, cm10, pm11, cm11) => [(14, .v (.slice pm10 (0) cm10)), (20, .p 1 3), (15, .p 1 2), (13, .v (.slice pm11 ((((spec_BytesToInts (spec_AppendName ([]) x_.name)) ++ (spec_BytesToInts x_.content))).length) cm11))], fun | (pm10, cm10, pm11, cm11) => [(1, ⟨32, [.slice K0 ((x_.name.parts).length) M0, .slice K1 ((x_.content).length) M1, .slice K2 ((x_.keyName.parts).length) M2, .int .i64 (x_.freshUntil), .int .i64 (x_.signature)]⟩)], fun _ => [], fun | (pm10, cm10, pm11, cm11) => [(131, MF.os pm10 cm10 ([] : List UInt8)), (132, MF.os pm11 cm11 ((spec_BytesToInts (spec_AppendName ([]) x_.name)) ++ (spec_BytesToInts x_.content))), (0, MF.rs .stb K0 M0 x_.name.parts), (1, MF.rs .stb K1 M1 x_.content), (2, MF.rs .stb K2 M2 x_.keyName.parts)]⟩ 8 #[true, true, true, false, false, false, false, true, false, false, false, false] ?_ (fun N_11 => ?_)
  ·skip
   rintro ⟨pm10, cm10, pm11, cm11⟩ ⟨hm32, hm33, hm34, hm35⟩
   refine TX.all2 3 8 (by kernel_rfl) ?_ ?_
   ·skip
    refine TS.op 3 rfl (by kernel_rfl) ?_
    refine R0 ?_
    refine WX.turn [131] 135 rfl (fun _ h => h) rfl ?_
    refine WX.turn [132] 136 rfl (fun _ h => h) rfl ?_
    refine WX.back0 ?_
    exact TX.use N_14 (pm10, cm10, pm11, cm11) ⟨hm32, hm33, (ok_DataP hokx_).2.2.2.1, (ok_DataP hokx_).2.2.2.2⟩ (by kernel_rfl) (.cons rfl (.cons rfl (.cons rfl (.cons rfl (.nil))))) (.cons rfl (.nil)) .nil [2, 135, 136, 0, 1] rfl
   ·skip
    refine TS.op 8 rfl (by kernel_rfl) ?_
    refine R0 ?_
    refine WX.turn [131] 137 rfl (fun _ h => h) rfl ?_
    refine WX.turn [132] 138 rfl (fun _ h => h) rfl ?_
    refine WX.back0 ?_
    exact TX.use N_15 (pm10, cm10, pm11, cm11) ⟨(ok_DataP hokx_).2.2.2.1, hm32, hm33, (ok_DataP hokx_).2.2.2.1, (ok_DataP hokx_).2.2.2.2⟩ (by kernel_rfl) (.cons rfl (.cons rfl (.cons rfl (.cons rfl (.nil))))) (.cons rfl (.nil)) .nil [137, 138, 0, 1, 2] rfl
  refine TX.share (ι := (Option Addr) × Nat) ⟨fun | (pm12, cm12) => (GoT.ok (n + 3) (((spec_BytesToInts (spec_AppendName ([]) x_.name)) ++ (spec_BytesToInts x_.content)) : List Int)) ∧ (-9223372036854775808 ≤ x_.freshUntil ∧ x_.freshUntil ≤ 9223372036854775807) ∧ (-9223372036854775808 ≤ x_.signature ∧ x_.signature ≤ 9223372036854775807), fun _ => 0, fun | (pm12, cm12) => [(16, .v (.agg #[.slice K2 ((x_.keyName.parts).length) M2])), (20, .p 1 3), (13, .v (.slice pm12 ((((spec_BytesToInts (spec_AppendName ([]) x_.name)) ++ (spec_BytesToInts x_.content))).length) cm12))], fun | (pm12, cm12) => [(1, ⟨32, [.slice K0 ((x_.name.parts).length) M0, .slice K1 ((x_.content).length) M1, .slice K2 ((x_.keyName.parts).length) M2, .int .i64 (x_.freshUntil), .int .i64 (x_.signature)]⟩)], fun _ => [], fun | (pm12, cm12) => [(2, MF.rs .stb K2 M2 x_.keyName.parts), (133, MF.os pm12 cm12 ((spec_BytesToInts (spec_AppendName ([]) x_.name)) ++ (spec_BytesToInts x_.content))), (0, MF.rs .stb K0 M0 x_.name.parts), (1, MF.rs .stb K1 M1 x_.content)]⟩ 8 #[true, false, true, true, false, false, false, true, false, false, false, false] ?_ (fun N_12 => ?_)
  ·skip
   rintro ⟨pm12, cm12⟩ ⟨hm36, hm37, hm38⟩
   refine TX.all2 1 8 (by kernel_rfl) ?_ ?_
   ·skip
    refine TS.op 1 rfl (by kernel_rfl) ?_
    refine WX.bld ttOk rfl rfl rfl rfl rfl rfl rfl ?_
    intro p84
    refine R0 ?_
    refine WX.free 324 (MF.ol [] ([] : List UInt8)) rfl ?_
    refine WX.seal 14 324 325 rfl rfl rfl rfl rfl ?_
    refine WX.turn [326] 135 rfl (fun _ h => h) rfl ?_
    refine WX.turn [133] 136 rfl (fun _ h => h) rfl ?_
    refine WX.back0 ?_
    exact TX.use N_14 (p84, 0, pm12, cm12) ⟨(okl_mk (Nat.zero_le _) (fun _ _ => trivial) : GoT.ok n ([] : List UInt8)), hm36, (ok_DataP hokx_).2.2.2.1, (ok_DataP hokx_).2.2.2.2⟩ (by kernel_rfl) (.cons rfl (.cons rfl (.cons rfl (.cons rfl (.nil))))) (.cons rfl (.nil)) .nil [2, 135, 136, 0, 1] rfl
   ·skip
    refine TS.op 8 rfl (by kernel_rfl) ?_
    refine R0 ?_
    refine WX.turn [133] 139 rfl (fun _ h => h) rfl ?_
    refine WX.back0 ?_
    exact TX.use N_16 (pm12, cm12) ⟨(ok_DataP hokx_).2.2.2.1, hm36⟩ (by kernel_rfl) (.cons rfl (.cons rfl (.cons rfl (.nil)))) .nil .nil [2, 139, 0, 1] rfl
  refine TX.share (ι := (Option Addr) × Nat) ⟨fun | (pm13, cm13) => (-9223372036854775808 ≤ x_.freshUntil ∧ x_.freshUntil ≤ 9223372036854775807) ∧ (GoT.ok (n + 3) (((spec_BytesToInts (spec_AppendName ([]) x_.name)) ++ (spec_BytesToInts x_.content)) : List Int)) ∧ (-9223372036854775808 ≤ x_.freshUntil ∧ x_.freshUntil ≤ 9223372036854775807) ∧ (-9223372036854775808 ≤ x_.signature ∧ x_.signature ≤ 9223372036854775807), fun _ => 0, fun | (pm13, cm13) => [(21, .v (.int .i64 (x_.freshUntil))), (15, .p 1 2), (13, .v (.slice pm13 ((((spec_BytesToInts (spec_AppendName ([]) x_.name)) ++ (spec_BytesToInts x_.content))).length) cm13))], fun | (pm13, cm13) => [(1, ⟨32, [.slice K0 ((x_.name.parts).length) M0, .slice K1 ((x_.content).length) M1, .slice K2 ((x_.keyName.parts).length) M2, .int .i64 (x_.freshUntil), .int .i64 (x_.signature)]⟩)], fun _ => [], fun | (pm13, cm13) => [(134, MF.os pm13 cm13 ((spec_BytesToInts (spec_AppendName ([]) x_.name)) ++ (spec_BytesToInts x_.content))), (0, MF.rs .stb K0 M0 x_.name.parts), (1, MF.rs .stb K1 M1 x_.content), (2, MF.rs .stb K2 M2 x_.keyName.parts)]⟩ 8 #[true, false, true, false, false, false, false, true, true, false, false, false] ?_ (fun N_13 => ?_)
  ·skip
   rintro ⟨pm13, cm13⟩ ⟨hm39, hm40, hm41, hm42⟩
   refine TX.all3 1 3 9 (by kernel_rfl) ?_ ?_ ?_
   ·skip
    refine TS.op 1 rfl (by kernel_rfl) ?_
    refine WX.bld ttOk rfl rfl rfl rfl rfl rfl rfl ?_
    intro p85
    refine R0 ?_
    refine WX.free 327 (MF.ol [] ([] : List UInt8)) rfl ?_
    refine WX.seal 14 327 328 rfl rfl rfl rfl rfl ?_
    refine WX.turn [329] 137 rfl (fun _ h => h) rfl ?_
    refine WX.turn [134] 138 rfl (fun _ h => h) rfl ?_
    refine WX.back0 ?_
    exact TX.use N_15 (p85, 0, pm13, cm13) ⟨(ok_DataP hokx_).2.2.2.1, (okl_mk (Nat.zero_le _) (fun _ _ => trivial) : GoT.ok n ([] : List UInt8)), hm40, (ok_DataP hokx_).2.2.2.1, (ok_DataP hokx_).2.2.2.2⟩ (by kernel_rfl) (.cons rfl (.cons rfl (.cons rfl (.cons rfl (.nil))))) (.cons rfl (.nil)) .nil [137, 138, 0, 1, 2] rfl
   ·skip
    refine TS.op 3 rfl (by kernel_rfl) ?_
    refine R0 ?_
    refine WX.turn [134] 139 rfl (fun _ h => h) rfl ?_
    refine WX.back0 ?_
    exact TX.use N_16 (pm13, cm13) ⟨(ok_DataP hokx_).2.2.2.1, hm40⟩ (by kernel_rfl) (.cons rfl (.cons rfl (.cons rfl (.nil)))) .nil .nil [2, 139, 0, 1] rfl
   ·skip
    refine TS.op 9 rfl (by kernel_rfl) ?_
    refine WX.bld ttOk rfl rfl rfl rfl rfl rfl rfl ?_
    intro p86
    refine R0 ?_
    refine WX.turn [] 330 rfl (fun h hs => ol_one (α := Int) (a := x_.freshUntil) (x := ()) hs) (gs := [MF.ol [.int .i64 (x_.freshUntil)] ([x_.freshUntil] : List Int)]) rfl ?_
    refine WX.seal 22 330 331 rfl rfl rfl rfl rfl ?_
    refine WX.turn [332] 143 rfl (fun _ h => h) rfl ?_
    refine WX.turn [134] 144 rfl (fun _ h => h) rfl ?_
    have r87 : -9223372036854775808 ≤ x_.freshUntil ∧ x_.freshUntil ≤ 9223372036854775807 := (ok_DataP hokx_).2.2.2.1
    refine WX.back0 ?_
    exact TX.use N_17 (p86, 1, pm13, cm13) ⟨(okl_mk (by first | (rw [List.length_append]; (try simp only [List.length_cons, List.length_nil]); omega) | (simp; omega) | (simp only [List.length_append, List.length_cons, List.length_nil] at *; omega)) (all_cons (α := Int) (ok_DataP hokx_).2.2.2.1 (fun a ha => by cases ha)) : GoT.ok n ([x_.freshUntil] : List Int)), hm40, (ok_DataP hokx_).2.2.2.1, (ok_DataP hokx_).2.2.2.2⟩ (by kernel_rfl) (.cons rfl (.cons rfl (.cons rfl (.nil)))) (.cons rfl (.nil)) .nil [143, 144, 0, 1, 2] rfl
  refine TX.all3 1 3 8 (by kernel_rfl) ?_ ?_ ?_
  ·skip
   refine TS.op 1 rfl (by kernel_rfl) ?_
   refine WX.bld ttOk rfl rfl rfl rfl rfl rfl rfl ?_
   intro p87
   refine R0 ?_
   refine WX.free 333 (MF.ol [] ([] : List UInt8)) rfl ?_
   refine WX.seal 14 333 334 rfl rfl rfl rfl rfl ?_
   refine WX.turn [335] 131 rfl (fun _ h => h) rfl ?_
   refine WX.turn [18] 132 rfl (fun _ h => h) rfl ?_
   refine WX.back0 ?_
   exact TX.use N_11 (p87, 0, pm1, cm1) ⟨(okl_mk (Nat.zero_le _) (fun _ _ => trivial) : GoT.ok n ([] : List UInt8)), hm1, (ok_DataP hokx_).2.2.2.1, (ok_DataP hokx_).2.2.2.2⟩ (by kernel_rfl) (.cons rfl (.cons rfl (.cons rfl (.cons rfl (.nil))))) (.cons rfl (.nil)) .nil [131, 132, 0, 1, 2] rfl
  ·skip
   refine TS.op 3 rfl (by kernel_rfl) ?_
   refine R0 ?_
   refine WX.turn [18] 133 rfl (fun _ h => h) rfl ?_
   refine WX.back0 ?_
   exact TX.use N_12 (pm1, cm1) ⟨hm1, (ok_DataP hokx_).2.2.2.1, (ok_DataP hokx_).2.2.2.2⟩ (by kernel_rfl) (.cons rfl (.cons rfl (.cons rfl (.nil)))) (.cons rfl (.nil)) .nil [2, 133, 0, 1] rfl
  ·skip
   refine TS.op 8 rfl (by kernel_rfl) ?_
   refine R0 ?_
   refine WX.turn [18] 134 rfl (fun _ h => h) rfl ?_
   refine WX.back0 ?_
   exact TX.use N_13 (pm1, cm1) ⟨(ok_DataP hokx_).2.2.2.1, hm1, (ok_DataP hokx_).2.2.2.1, (ok_DataP hokx_).2.2.2.2⟩ (by kernel_rfl) (.cons rfl (.cons rfl (.cons rfl (.nil)))) (.cons rfl (.nil)) .nil [134, 0, 1, 2] rfl
 rintro ⟨pm9, cm9⟩ hm31
 have hP1 : spec_SignedPortion x_ = ((((spec_BytesToInts (spec_AppendName ([]) x_.name)) ++ (spec_BytesToInts x_.content)) ++ (spec_BytesToInts (spec_AppendName ([]) x_.keyName))) ++ [x_.freshUntil]) := by simp only [spec_SignedPortion, ct, cf]
 refine R1 ?_
 intro w1 G bs hI hΓ
 rw [hP1]
 exact Post.of [126] (pm9, cm9) hI hΓ rfl rfl rfl hm31
theorem f269 (w : World) (n : Nat) (hn : n + 0 ≤ 9) (l : (List Int)) (pl : Option Addr) (cl : Nat) (N0 : RdSl (hp w) pl cl l) (hokl : GoT.ok n l) :
  Does Tryz.prog 269 #[.slice pl ((l).length) cl] w emp (fun (rv : Value) (_ : World) => rv = .int .i64 ((spec_Digest l)) ∧ GoT.ok n ((spec_Digest l) : Int)) := by
 have hbP := bd_pos n
 have hbB := bd_big (n := n) (by omega)
 refine WX.enter (tt := tt) (Γ := [(0, MF.rs .stb pl cl l)]) Tryz.func269 rfl (by kernel_rfl) rfl (allS_cons rfl N0 allS_nil) ?_
 refine R0 ?_
 have r1 : (l).length ≤ bd n := (okl hokl).1
 refine WX.loop (ι := Int × Nat) ⟨fun | (d, i) => (i ≤ (l).length) ∧ (-9223372036854775808 ≤ d ∧ d ≤ 9223372036854775807) ∧ (spec_Digest_L1 l 11 = spec_Digest_L1 ((l).drop i) d), fun | (d, i) => (l).length - i, fun | (d, i) => [(3, .v (.int .i64 (d))), (4, .v (.int .i64 (((i : Nat) : Int)))), (0, .v (.slice pl ((l).length) cl))], fun | (d, i) => [], fun | (d, i) => [], fun | (d, i) => [(0, MF.rs .stb pl cl l)]⟩ (11, 0) ⟨(Nat.zero_le _), (by first | assumption | omega), rfl⟩
  (.cons rfl (.cons rfl (.cons rfl (.nil)))) .nil .nil [0] rfl ?_
 rintro ⟨d, i⟩ hpre
 have hpre_ : (i ≤ (l).length) ∧ (-9223372036854775808 ≤ d ∧ d ≤ 9223372036854775807) ∧ (spec_Digest_L1 l 11 = spec_Digest_L1 ((l).drop i) d) := hpre
 clear hpre
 obtain ⟨v1, v2, v3⟩ := hpre_
 refine R0 ?_
 refine WX.cases 8 rfl (fun h1 => ?_) (fun h1 => ?_)
 ·skip
  have h1d := B.dt h1
  have e1i : i < (l).length := (by omega)
  obtain ⟨e1, e1h⟩ : ∃ e1, (l)[i]? = some e1 := ⟨_, List.getElem?_eq_getElem e1i⟩
  have ok1 : GoT.ok n e1 := (okl hokl).2 _ (List.mem_of_getElem? e1h)
  refine R0 ?_
  refine WX.see rfl rfl rfl (fun _ hΓ => looks_wrap rfl rfl rfl rfl) ?_
  refine R0 ?_
  refine WX.idx 0 i ttOk rfl rfl rfl rfl rfl rfl rfl rfl rfl rfl e1i ?_
  rintro ad1 rfl
  refine WX.ldE 0 1 e1 ttOk rfl rfl rfl rfl rfl rfl rfl rfl e1h (fun _ => rfl) (fun _ => rfl) ?_
  rintro ⟨⟩
  refine WX.callV rfl rfl rfl rfl rfl (fun _ => rfl) rfl (fun w G bs hI hΓ => f283 w n (by omega) e1 2147483647 ok1 (show I64 2147483647 from (by unfold I64; omega))) ?_
  intro hq1
  refine WX.see rfl rfl rfl (fun _ hΓ => looks_wrap rfl rfl rfl rfl) ?_
  refine WX.see rfl rfl rfl (fun _ hΓ => looks_wrap rfl rfl rfl rfl) ?_
  have r2 := tmod_rng (IntKind.i64.wrap ((IntKind.i64.wrap ((IntKind.i64.wrap (d * 1000003)) + (spec_Mod e1 2147483647))) + 13)) (show (0 : Int) < 2147483647 by omega)
  refine WX.see rfl rfl rfl (fun _ hΓ => looks_rem rfl rfl rfl (by decide)) ?_
  refine R0 ?_
  refine WX.see rfl rfl rfl (fun _ hΓ => looks_arith rfl rfl rfl rfl (by unfold I64; first | omega | (simp only [List.length_take] at *; omega))) ?_
  refine R0 ?_
  have r3 : -9223372036854775808 ≤ e1 ∧ e1 ≤ 9223372036854775807 := ok1
  have r4 : -9223372036854775808 ≤ (spec_Mod e1 2147483647) ∧ (spec_Mod e1 2147483647) ≤ 9223372036854775807 := hq1
  exact WX.iter (Int.tmod (IntKind.i64.wrap ((IntKind.i64.wrap ((IntKind.i64.wrap (d * 1000003)) + (spec_Mod e1 2147483647))) + 13)) 2147483647, i + 1) ⟨(by omega), (by first | assumption | omega), (by rw [v3, drop_get e1h]; simp only [spec_Digest_L1, ct, cf])⟩ (by first | (dsimp only; omega) | omega) (.cons rfl (.cons rfl (.cons rfl (.nil)))) .nil .nil [0] rfl
 ·skip
  have h1d := B.df h1
  refine R0 ?_
  have hX1 : spec_Digest_L1 l 11 = d := by rw [v3, List.drop_eq_nil_of_le (show (l).length ≤ i by omega)]; simp only [spec_Digest_L1, ct, cf]
  have hP1 : spec_Digest l = d := by simp only [spec_Digest, hX1, ct, cf]
  refine R1 ?_
  intro w1 G bs hI hΓ
  rw [hP1]
  exact ⟨rfl, v2⟩
theorem f261 (w : World) (n : Nat) (hn : n + 2 ≤ 9) (secret : Int) (l : (List Int)) (pl : Option Addr) (cl : Nat) (N0 : RdSl (hp w) pl cl l) (hoksecret : GoT.ok n secret) (hokl : GoT.ok n l) :
  Does Tryz.prog 261 #[.int .i64 (secret), .slice pl ((l).length) cl] w emp (fun (rv : Value) (_ : World) => rv = .int .i64 ((spec_ComputeMAC secret l)) ∧ GoT.ok n ((spec_ComputeMAC secret l) : Int)) := by
 have hbP := bd_pos n
 have hbS0 : bd (n + 1) = 4 * bd (n) := bd_succ (n := n) (by omega)
 have hbS1 : bd (n + 2) = 4 * bd (n + 1) := bd_succ (n := n + 1) (by omega)
 have hbB := bd_big (n := (n + 2)) (by omega)
 have hbM := bd_mono (show n ≤ n + 2 by omega)
 refine WX.enter (tt := tt) (Γ := [(0, MF.rs .stb pl cl l)]) Tryz.func261 rfl (by kernel_rfl) rfl (allS_cons rfl N0 allS_nil) ?_
 refine R0 ?_
 refine WX.bld ttOk rfl rfl rfl rfl rfl rfl rfl ?_
 intro p1
 refine R0 ?_
 refine WX.turn [] 1 rfl (fun h hs => ol_one (α := Int) (a := secret) (x := ()) hs) (gs := [MF.ol [.int .i64 (secret)] ([secret] : List Int)]) rfl ?_
 have r1 : -9223372036854775808 ≤ secret ∧ secret ≤ 9223372036854775807 := hoksecret
 have r2 : (l).length ≤ bd n := (okl hokl).1
 refine WX.appG1 6 0 2 (([secret] ++ l) : List Int).length ttOk rfl rfl rfl rfl rfl rfl rfl rfl rfl rfl rfl rfl rfl (by first | (simp; done) | (simp; omega)) (by simp; omega) (by simp; omega) (fun _ _ _ => rfl) ?_
 intro ys1 p2 c1
 refine WX.know (fun G hΓ => (hΓ.get 2 rfl : RdL _ _ _).flat) ?_
 intro hf1
 refine WX.turn [1] 3 rfl (fun h hs => ol_flat hs hf1) (gs := [MF.ol ([.int .i64 (secret)] ++ ys1) (([secret] ++ l) : List Int)]) rfl ?_
 refine R0 ?_
 refine WX.bld ttOk rfl rfl rfl rfl rfl rfl rfl ?_
 intro p3
 refine WX.turn [] 4 rfl (fun h hs => ol_one (α := Int) (a := secret) (x := ()) hs) (gs := [MF.ol [.int .i64 (secret)] ([secret] : List Int)]) rfl ?_
 refine WX.know (fun G hΓ => (hΓ.get 4 rfl : OwL _ _ _).rd.one) ?_
 intro ho1
 refine WX.appR1 6 10 ((([secret] ++ l) ++ [secret]) : List Int).length ttOk rfl rfl rfl rfl rfl rfl rfl rfl rfl rfl rfl rfl rfl ho1 (by simp) (by simp; omega) (by simp; omega) (fun _ _ => rfl) ?_
 intro p4 c2
 refine WX.turn [3, 4] 5 rfl (fun h hs => ol_app hs) (gs := [MF.ol (([.int .i64 (secret)] ++ ys1) ++ [.int .i64 (secret)]) ((([secret] ++ l) ++ [secret]) : List Int)]) rfl ?_
 refine WX.seal 6 5 6 rfl rfl rfl rfl rfl ?_
 refine WX.callV rfl rfl rfl rfl rfl (fun _ => rfl) rfl (fun w G bs hI hΓ => f269 w (n + 2) (by omega) (([secret] ++ l) ++ [secret]) p4 c2 (hΓ.get 6 rfl) (okl_mk (by simp; omega) (fun a ha => GoT.okm (show (n + 1) ≤ (n + 2) by omega) ((all_app (fun a ha => GoT.okm (show n ≤ (n + 1) by omega) ((all_app (all_cons (α := Int) hoksecret (fun a ha => by cases ha)) (okl hokl).2) a ha)) (fun a ha => GoT.okm (by omega) ((all_cons (α := Int) hoksecret (fun a ha => by cases ha)) a ha))) a ha)) : GoT.ok (n + 2) ((([secret] ++ l) ++ [secret]) : List Int))) ?_
 intro hq1
 refine R0 ?_
 have hP1 : spec_ComputeMAC secret l = (spec_Digest (([secret] ++ l) ++ [secret])) := by simp only [spec_ComputeMAC, ct, cf]
 refine R1 ?_
 intro w1 G bs hI hΓ
 rw [hP1]
 exact ⟨rfl, hq1⟩
end Go.Proofs.YtolepebgdfdciaaGreat

namespace Go.Stp
set_option linter.unusedVariables false
set_option linter.unusedSimpArgs false
def spec_l8Secret (c_b : (List UInt8)) (c_i : Int) (c_h : Int) : Int × Int × Int :=
  match spec_l1Below c_b c_i c_h 5 with
    | (u1, u2, u3) =>
      ((100 + u1), u2, u3)
def spec_SignData (secret : Int) (x_ : DataP) : DataP :=
  (DataP.mk ((spec_l8Copy x_).name) ((spec_l8Copy x_).content) ((spec_l8Copy x_).keyName) ((spec_l8Copy x_).freshUntil) (spec_ComputeMAC secret (spec_SignedPortion x_)))
def spec_l8Draw (c_b : (List UInt8)) (c_i : Int) (c_h : Int) : DataP × Int × Int :=
  match spec_l4Name c_b c_i c_h with
    | (u1, u2, u3) =>
      bif ((((u1.parts).length : Nat) : Int) == 0) then
        match spec_l1Below c_b u2 u3 5 with
          | (u4, u5, u6) =>
            match spec_l1Bytes c_b u5 u6 u4 with
              | (u7, u8, u9) =>
                match spec_l1Str c_b u8 u9 ([(⟨#[47, 107, 101, 121, 47, 97]⟩ : Str), (⟨#[47, 107, 101, 121, 47, 98]⟩ : Str), (⟨#[47, 97, 47, 107, 101, 121]⟩ : Str)] : List Str) with
                  | (u10, u11, u12) =>
                    match spec_l1Below c_b u11 u12 60 with
                      | (u13, u14, u15) =>
                        match spec_l8Secret c_b u14 u15 with
                          | (u16, u17, u18) =>
                            ((spec_SignData u16 (DataP.mk (Name.mk ([(⟨#[97]⟩ : Str)])) u7 (spec_l4Of u10) (40 + u13) 0)), u17, u18)
      else
        match spec_l1Below c_b u2 u3 5 with
          | (u19, u20, u21) =>
            match spec_l1Bytes c_b u20 u21 u19 with
              | (u22, u23, u24) =>
                match spec_l1Str c_b u23 u24 ([(⟨#[47, 107, 101, 121, 47, 97]⟩ : Str), (⟨#[47, 107, 101, 121, 47, 98]⟩ : Str), (⟨#[47, 97, 47, 107, 101, 121]⟩ : Str)] : List Str) with
                  | (u25, u26, u27) =>
                    match spec_l1Below c_b u26 u27 60 with
                      | (u28, u29, u30) =>
                        match spec_l8Secret c_b u29 u30 with
                          | (u31, u32, u33) =>
                            ((spec_SignData u31 (DataP.mk u1 u22 (spec_l4Of u25) (40 + u28) 0)), u32, u33)
def spec_l3Word (c_b : (List UInt8)) (c_i : Int) (c_h : Int) : Int × Int × Int :=
  match spec_l1Once c_b c_i c_h 10 with
    | (u1, u2, u3) =>
      bif u1 then
        match spec_l1Int c_b u2 u3 ([(-1), 2147483647, 2147483648]) with
          | (u4, u5, u6) =>
            (u4, u5, u6)
      else
        match spec_l1Once c_b u2 u3 4 with
          | (u7, u8, u9) =>
            bif u7 then
              match spec_l1Int c_b u8 u9 ([0, 1, 2147483646]) with
                | (u10, u11, u12) =>
                  (u10, u11, u12)
            else
              match spec_l1Below c_b u8 u9 1000000 with
                | (u13, u14, u15) =>
                  match spec_l1Below c_b u14 u15 2000 with
                    | (u16, u17, u18) =>
                      ((IntKind.i64.wrap (u13 * u16)), u17, u18)
def spec_l8Any (c_b : (List UInt8)) (c_i : Int) (c_h : Int) : DataP × Int × Int :=
  match spec_l8Draw c_b c_i c_h with
    | (u1, u2, u3) =>
      match spec_l1Below c_b u2 u3 12 with
        | (u4, u5, u6) =>
          bif (u4 == 0) then
            match spec_l4Any c_b u5 u6 with
              | (u7, u8, u9) =>
                ((DataP.mk u7 u1.content u1.keyName u1.freshUntil u1.signature), u8, u9)
          else
            bif (u4 == 1) then
              match spec_l4Any c_b u5 u6 with
                | (u10, u11, u12) =>
                  ((DataP.mk u1.name u1.content u10 u1.freshUntil u1.signature), u11, u12)
            else
              bif (u4 == 2) then
                match spec_l1Int c_b u5 u6 ([(-1), 100000, 100001]) with
                  | (u13, u14, u15) =>
                    ((DataP.mk u1.name u1.content u1.keyName u13 u1.signature), u14, u15)
              else
                bif (u4 == 3) then
                  match spec_l3Word c_b u5 u6 with
                    | (u16, u17, u18) =>
                      ((DataP.mk u1.name u1.content u1.keyName u1.freshUntil u16), u17, u18)
                else
                  bif (u4 == 4) then
                    match spec_l1Below c_b u5 u6 3 with
                      | (u19, u20, u21) =>
                        ((DataP.mk u1.name (List.replicate ((59 + u19).toNat) (0 : UInt8)) u1.keyName u1.freshUntil u1.signature), u20, u21)
                  else
                    (u1, u5, u6)
end Go.Stp

