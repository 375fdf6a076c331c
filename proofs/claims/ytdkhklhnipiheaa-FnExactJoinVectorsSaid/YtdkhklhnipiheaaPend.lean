/-
  A region whose order the model draws, with a new variable that may be made at any moment. No condition.
-/
import Derived.Test.YtdkhklhnipiheaaMove
namespace Go.Stp
open GoT (X k ok sh fa oa)
/-! ### operations that make new memory, and touch no other -/
def Gr {α : Type} (P : Program) (m : Sem α) : Prop := ∀ w v w', m.run P w = .ok v w' → Kp emp w w'
theorem Gr.bind {α β : Type} {P : Program} {m : Sem α} {f : α → Sem β} (hm : Gr P m) (hf : ∀ v, Gr P (f v)) : Gr P (m >>= f) := fun w v w' h => by
  rw [Sem.run_bind] at h
  cases hr : m.run P w with
  | ok x w1 => rw [hr] at h; exact (hm w x w1 hr).trans (hf x w1 v w' h)
  | _ => rw [hr] at h; cases h
theorem gr_pure {α : Type} {P : Program} (x : α) : Gr P (pure x : Sem α) := fun w v w' h => by
  rw [Sem.run_pure] at h; cases h; exact Kp.refl _ _
theorem gr_halt {α : Type} {P : Program} (x : Halt) : Gr P (.halt x : Sem α) := fun w v w' h => by cases h
theorem gr_program {P : Program} : Gr P program := fun w v w' h => by cases h; exact Kp.refl _ _
theorem gr_underlying {P : Program} (t : TypeId) : Gr P (underlying t) := Gr.bind gr_program fun _ => by
  split
  · exact gr_pure _
  · exact gr_halt _
theorem gr_typeInfo {P : Program} (t : TypeId) : Gr P (typeInfo t) := Gr.bind gr_program fun _ => by
  split
  · exact gr_pure _
  · exact gr_halt _
theorem gr_sizeOf {P : Program} (t : TypeId) : Gr P (Go.sizeOf t) := Gr.bind (gr_typeInfo t) fun _ => gr_pure _
theorem gr_zeroValue {P : Program} (t : TypeId) : Gr P (zeroValue t) := Gr.bind (gr_typeInfo t) fun _ => by
  split
  · exact gr_pure _
  · exact gr_halt _
theorem gr_newRow {P : Program} (e : TypeId) (cs : Array Value) : Gr P (newRow e cs) := Gr.bind (fun w v w' h => by
  have h' : Result.ok w.heap.size (w.alloc (Obj.cells cs e)) = .ok v w' := h
  cases h'
  exact (Kp.refl emp w).alloc _) fun _ => gr_pure _
theorem gr_buildSlice {P : Program} (t : TypeId) (n : Nat) (ps : Array (Nat × Value)) : Gr P (Instr.buildSlice t n ps) := by
  unfold Instr.buildSlice
  refine Gr.bind (gr_underlying _) fun d => ?_
  split
  · rename_i el
    refine Gr.bind (gr_sizeOf _) fun size => ?_
    have key : ∀ z : Array Value, Gr P (match Instr.fill (fun i => some (i * size, size)) ((Array.range (n * size)).map (z[· % z.size]!)) ps.toList with
        | some cells => do pure (Value.slice (some (← newRow el cells)) n n)
        | _ => stuck "buildSlice: a part of the wrong size") := fun z => by
      split
      · exact Gr.bind (gr_newRow _ _) fun _ => gr_pure _
      · exact gr_halt _
    have rest : Gr P (do
        let zero ← if n * size = 0 then pure #[] else do pure (← zeroValue el).cells
        match Instr.fill (fun i => some (i * size, size)) ((Array.range (n * size)).map (zero[· % zero.size]!)) ps.toList with
        | some cells => do pure (Value.slice (some (← newRow el cells)) n n)
        | _ => stuck "buildSlice: a part of the wrong size") := by
      by_cases h2 : n * size = 0
      · rw [if_pos h2]; exact Gr.bind (gr_pure _) fun z => key z
      · rw [if_neg h2]; first | exact Gr.bind (gr_zeroValue el) fun v => key v.cells | exact Gr.bind (m := (do pure (← zeroValue el).cells)) (Gr.bind (gr_zeroValue el) fun _ => gr_pure _) fun z => key z | exact Gr.bind (gr_zeroValue el) fun v => Gr.bind (gr_pure _) fun z => key z
    by_cases h2 : n * size = 0
    · simp only [if_pos h2] at rest ⊢
      by_cases h1 : n * size > 2 ^ 24
      · rw [if_pos h1]; exact Gr.bind (gr_halt _) fun _ => rest
      · rw [if_neg h1]; exact rest
    · simp only [if_neg h2] at rest ⊢
      by_cases h1 : n * size > 2 ^ 24
      · rw [if_pos h1]; exact Gr.bind (gr_halt _) fun _ => rest
      · rw [if_neg h1]; exact rest
  · exact gr_halt _
def presO : Op → Bool
  | .alloc _ => true
  | .box _ _ => true
  | .buildSlice _ _ _ => true
  | _ => false
theorem gr_pres {P : Program} {ev : Operand → Value} {o : Oper} (h : presO o.op = true) : Gr P (execOp ev o) := by
  unfold execOp
  cases ho : o.op <;> rw [ho] at h <;> simp only [presO, Bool.false_eq_true] at h
  · exact Gr.bind (Gr.bind (gr_zeroValue _) fun _ => Gr.bind (gr_newRow _ _) fun _ => gr_pure _) fun _ => gr_pure _
  · exact Gr.bind (Gr.bind (gr_newRow _ _) fun _ => gr_pure _) fun _ => gr_pure _
  · exact Gr.bind (gr_buildSlice _ _ _) fun _ => gr_pure _
theorem presO_enter {P : Program} {ev : Operand → Value} {o : Oper} (h : presO o.op = true) {w w' : World} {x : Next} (hr : (execOp ev o).run P w = .ok x w') : ∃ v, x = .value v := by
  unfold execOp at hr
  cases ho : o.op <;> rw [ho] at h <;> simp only [presO, Bool.false_eq_true] at h <;> rw [ho] at hr <;> simp only [Sem.run_bind] at hr
  all_goals (
    revert hr
    generalize (Sem.run P _ w) = q
    intro hr
    cases q with
    | ok y w1 => simp only [Result.andThen_ok, Sem.run_pure] at hr; cases hr; exact ⟨_, rfl⟩
    | _ => cases hr)
theorem wpOp_pres {P : Program} {ops : Array Oper} {Q : Exit → Act → World → Prop} {k : Nat} {o : Oper} (ho : ops[k]? = some o) (hp : presO o.op = true) {K : Act → World → Prop} {a : Act} {w : World} (h : wpOp P ops Q k K a w) : wpOp P ops Q k (fun a' w' => Kp emp w w' ∧ K a' w') a w := by
  unfold wpOp at h ⊢
  simp only [ho] at h ⊢
  split at h
  · rename_i hw
    rw [if_pos hw]
    refine h.imp (fun h => ?_) id
    unfold Oper.wp at h ⊢
    generalize hr : (execOp a.eval o).run P w = r at h ⊢
    cases r with
    | ok x w' =>
      obtain ⟨v, rfl⟩ := presO_enter hp hr
      exact ⟨gr_pres hp _ _ _ hr, h⟩
    | halt x w' => cases x <;> exact h
  · rename_i hw
    rw [if_neg hw]
    exact ⟨Kp.refl _ _, h⟩
def presB (ops : Array Oper) (k : Nat) : Bool := match getO ops.toList k with | some o => presO o.op | none => false
def seqL2 (ops : Array Oper) (tl : List Nat) : List Nat → Array Bool → Bool
  | [], listed => (Region.ready .any ops listed).isEmpty
  | k :: r, listed => decide (Region.ready .any ops listed = [k]) && (tl.contains k || presB ops k) && seqL2 ops tl r (listed.setIfInBounds k true)
theorem wpAnyT_of_seq2 {P : Program} {ops : Array Oper} {Q : Exit → Act → World → Prop} {S : World → Prop} {tl : List Nat} (hS : ∀ w w', Kp emp w w' → S w → S w') : ∀ (is : List Nat) (l : List Oper) (listed : Array Bool) (a : Act) (w : World), pickO ops.toList is = some l → seqL2 ops tl is listed = true → wpList P ops Q l a w → wpAnyT P ops Q S tl is.length listed a w
  | [], l, _, _, _, hl, hB, h => by simp [pickO] at hl; subst hl; exact ⟨by simpa [seqL2] using hB, h⟩
  | k :: is, l, listed, a, w, hl, hB, h => by
    simp only [pickO] at hl
    split at hl
    · rename_i o ho
      split at hl
      · rename_i q hq
        simp at hl; subst hl
        have ho2 := ho
        rw [getO_eq] at ho
        have h0 : ops[k]? = some o := by simpa using ho
        simp only [seqL2, Bool.and_eq_true, decide_eq_true_eq, Bool.or_eq_true] at hB
        refine ⟨fun h1 => (by rw [hB.1.1] at h1; cases h1), fun i hi => ?_⟩
        rw [hB.1.1] at hi
        have hik : i = k := by simpa using hi
        subst hik
        have hw : wpOp P ops Q i (wpList P ops Q q) a w := by unfold wpOp; simp only [h0]; exact h
        rcases hB.1.2 with ht | hp
        · exact wpOp_mono (fun a' w' h' => ⟨fun h => (by rw [ht] at h; cases h), wpAnyT_of_seq2 hS is q _ a' w' hq hB.2 h'⟩) hw
        · have hp' : presO o.op = true := by unfold presB at hp; rw [ho2] at hp; exact hp
          exact wpOp_mono (fun a' w' h' => ⟨fun _ => hS _ _ h'.1, wpAnyT_of_seq2 hS is q _ a' w' hq hB.2 h'.2⟩) (wpOp_pres h0 hp' hw)
      · cases hl
    · cases hl
theorem SB.keep {C : Cx} {bs : Nat → Nat} {G0 : GH} {L : Locs} {R : Rows} {w w' : World} (hb : Kp emp w w') (h : SB C bs G0 L R w) : SB C bs G0 L R w' := by
  obtain ⟨G, hle, hI⟩ := h
  exact ⟨_, hle.trans (le_join_l (cut G emp) emp), (hI.called (emp_le _) (fun _ _ h => by cases h) hb (emp_le _) (fun _ _ h => by cases h)).1⟩
/-- the others follow one after the other, in this order; some only make new memory -/
theorem DX.tail2 {C : Cx} {ops : Array Oper} {tl : List Nat} {s : List It} {bs : Nat → Nat} {G0 : GH} {fuel : Nat} {listed : Array Bool} {env : Env} {L : Locs} {R : Rows} {Γ : Facts} {rest : List Oper} (is : List Nat) (hr : pickO ops.toList is = some rest) (hf : fuel = is.length) (hs : seqL2 ops tl is listed = true)
    (k : WX C (.ops ops rest :: s) env L R Γ) : DX C ops tl s bs G0 fuel listed env L R Γ := by
  intro _ a w G _ hS
  subst hf
  exact wpAnyT_of_seq2 (fun _ _ hb h => h.keep hb) is rest listed a w hr hs (k a w ⟨G, bs, hS⟩)
/-- as DX, with the worlds S told apart -/
def DXS (C : Cx) (ops : Array Oper) (tl : List Nat) (s : List It) (S : World → Prop) (bs : Nat → Nat) (G0 : GH) (fuel : Nat) (listed : Array Bool) (env : Env) (L : Locs) (R : Rows) (Γ : Facts) : Prop :=
  Closed ops listed → ∀ a w G, Le G0 G → SatB C env L R Γ G bs a w → wpAnyT C.P ops (cont C s) S tl fuel listed a w
/-- operation j, a new variable in slot d, has been done or not -/
structure DXA (C : Cx) (ops : Array Oper) (tl : List Nat) (s : List It) (bs : Nat → Nat) (G0 : GH) (fuel : Nat) (listed : Array Bool) (env : Env) (L : Locs) (R : Rows) (Γ : Facts) (j d : Nat) (l : Loc) : Prop where
  no : DXS C ops tl s (SB C bs G0 L R) bs G0 (fuel + 1) listed env L R Γ
  yes : ∀ b, DXS C ops tl s (SB C bs G0 L R) (fun i => if i = d then b else bs i) G0 fuel (listed.setIfInBounds j true) ((d, .p d 0) :: env) ((d, l) :: L) R Γ
theorem DX.pend {C : Cx} {ops : Array Oper} {tl : List Nat} {s : List It} {bs : Nat → Nat} {G0 : GH} {fuel : Nat} {listed : Array Bool} {env : Env} {L : Locs} {R : Rows} {Γ : Facts} (j d : Nat) (l : Loc) (k : DXA C ops tl s bs G0 fuel listed env L R Γ j d l) : DX C ops tl s bs G0 (fuel + 1) listed env L R Γ := k.no
theorem HInv.unalloc {C : Cx} {w : World} {G : GH} {bs : Nat → Nat} {L : Locs} {R : Rows} {d b : Nat} {l : Loc} (hI : HInv C w G (fun i => if i = d then b else bs i) ((d, l) :: L) R) (hL : keyHas d L = false) (hR : keyHas d R = false) (h999 : d ≠ 999) : HInv C w G bs L R := by
  have hnL : ∀ {i : Nat} {x : Loc}, look L i = some x → i ≠ d := fun h => keyHas_not hL h
  have hnR : ∀ {i : Nat} {x : Row}, look R i = some x → i ≠ d := fun h => keyHas_not hR h
  have hup : ∀ {i : Nat} {x : Loc}, look L i = some x → look ((d, l) :: L) i = some x := fun h => by rw [look_cons, if_neg (Ne.symm (hnL h))]; exact h
  have hact : ∀ {i : Nat}, Acts L R i → Acts ((d, l) :: L) R i ∧ i ≠ d := fun h => by
    rcases h with ⟨x, hx⟩ | ⟨r, hr, hc⟩
    · exact ⟨.inl ⟨x, hup hx⟩, hnL hx⟩
    · exact ⟨.inr ⟨r, hr, hc⟩, hnR hr⟩
  refine ⟨hI.keep, hI.le, fun i x hx => ?_, fun i r hr => ?_, fun i j hij hi hj => ?_, fun i x r hx hr => hI.dis i x r (hup hx) hr, fun b' hb' => ?_, hI.nr⟩
  · have := hI.loc i x (hup hx)
    simpa only [if_neg (hnL hx)] using this
  · have := hI.row i r hr
    simpa only [if_neg (hnR hr)] using this
  · obtain ⟨h1, h2⟩ := hact hi
    obtain ⟨h3, h4⟩ := hact hj
    have := hI.inj i j hij h1 h3
    simpa only [if_neg h2, if_neg h4] using this
  · have := hI.pin b' hb'
    simpa only [if_neg (Ne.symm h999)] using this
theorem At.less {n d : Nat} {s : SV} {env : Env} {bs : Nat → Nat} {a : Act} (h : At n ((d, s) :: env) bs a) (hd : look env d = none) : At n env bs a := by
  refine ⟨h.size, h.dfr, fun e x hx => h.slot e x ?_⟩
  rw [look_cons]
  split
  · rename_i he; subst he; rw [hd] at hx; cases hx
  · exact hx
theorem At.swap {n d e : Nat} {s t : SV} {env : Env} {bs : Nat → Nat} {a : Act} (h : At n ((e, t) :: (d, s) :: env) bs a) (hde : Nat.beq e d = false) : At n ((d, s) :: (e, t) :: env) bs a := by
  have hne : e ≠ d := fun h => by subst h; simp at hde
  refine ⟨h.size, h.dfr, fun i x hx => h.slot i x ?_⟩
  rw [look_cons] at hx ⊢
  split
  · rename_i he; subst he
    rw [if_neg (Ne.symm hne), look_cons, if_pos rfl] at hx; exact hx
  · rename_i he
    rw [look_cons]
    split
    · rename_i hd; subst hd; rw [if_pos rfl] at hx; exact hx
    · rename_i hd; rw [if_neg hd, look_cons, if_neg he] at hx; exact hx
/-- the operation itself -/
theorem pend_step {C : Cx} {ops : Array Oper} {tl : List Nat} {s : List It} {bs : Nat → Nat} {G0 G : GH} {fuel : Nat} {listed : Array Bool} {env : Env} {L : Locs} {R : Rows} {Γ : Facts} {j d : Nat} {l : Loc} {oj : Oper} {a : Act} {w : World} (ht : TabOk C.P C.tt) (hj : ops[j]? = some oj) (hd : oj.dst = some d) (hlt : d < C.fn.ntmps) (hg : gd ops env oj = some true) (hl : ladd C.tt env oj.op = some l) (hnl : labHas d env L R = false)
    (hle : Le G0 G) (hS : SatB C env L R Γ G bs a w) (hc : Closed ops (listed.setIfInBounds j true))
    (k : ∀ b, DXS C ops tl s (SB C bs G0 L R) (fun i => if i = d then b else bs i) G0 fuel (listed.setIfInBounds j true) ((d, .p d 0) :: env) ((d, l) :: L) R Γ) :
    wpOp C.P ops (cont C s) j (fun a' w' => (tl.contains j = false → SB C bs G0 L R w → SB C bs G0 L R w') ∧ wpAnyT C.P ops (cont C s) (SB C bs G0 L R) tl fuel (listed.setIfInBounds j true) a' w') a w := by
  obtain ⟨hA, hI, hΓ⟩ := hS
  unfold wpOp
  simp only [hj]
  rw [if_pos (gd_sound hA hg)]
  refine .inl ?_
  unfold Oper.wp
  rw [ladd_sound ht hA hl]
  simp only [Oper.upon, hd]
  have hI' := hI.alloc d (labHas_not hnl).2.2.2 (labHas_not hnl).2.1 (labHas_not hnl).2.2.1 l
  have hA' := (hA.notH (d := d) (bs' := fun j => if j = d then w.heap.size else bs j) (labHas_not hnl).1 (fun i hi => if_neg hi)).put hlt (.p d 0)
  simp only [conc, if_true] at hA'
  exact ⟨fun _ _ => ⟨G, hle, hI'.unalloc (labHas_not hnl).2.1 (labHas_not hnl).2.2.1 (labHas_not hnl).2.2.2⟩, k _ hc _ _ G hle ⟨hA', hI', hΓ⟩⟩
/-- all is done but the variable and what comes behind -/
theorem DXA.tail {C : Cx} {ops : Array Oper} {tl : List Nat} {s : List It} {bs : Nat → Nat} {G0 : GH} {fuel : Nat} {listed : Array Bool} {env : Env} {L : Locs} {R : Rows} {Γ : Facts} {j d : Nat} {l : Loc} {oj : Oper} {rest : List Oper} (is : List Nat) (ht : TabOk C.P C.tt) (hj : getO ops.toList j = some oj) (hd : oj.dst = some d) (hlt : Nat.blt d C.fn.ntmps = true) (hg : gd ops env oj = some true) (hl : ladd C.tt env oj.op = some l) (hnl : labHas d env L R = false)
    (hr : Region.ready .any ops listed = [j]) (hp : pickO ops.toList is = some rest) (hf : fuel = is.length) (hs : seqL2 ops tl is (listed.setIfInBounds j true) = true) (k : WX C (.ops ops rest :: s) ((d, .p d 0) :: env) ((d, l) :: L) R Γ) : DXA C ops tl s bs G0 fuel listed env L R Γ j d l := by
  rw [getO_eq] at hj
  have hj' : ops[j]? = some oj := by simpa using hj
  have yes : ∀ b, DXS C ops tl s (SB C bs G0 L R) (fun i => if i = d then b else bs i) G0 fuel (listed.setIfInBounds j true) ((d, .p d 0) :: env) ((d, l) :: L) R Γ := fun b _ a w G _ hS => by
    subst hf
    exact wpAnyT_of_seq2 (fun _ _ hb h => h.keep hb) is rest _ a w hp hs (k a w ⟨G, _, hS⟩)
  refine ⟨fun hc a w G hle hS => ⟨fun h => (by rw [hr] at h; cases h), fun i hi => ?_⟩, yes⟩
  have hc' := hc.set hi
  rw [hr] at hi
  obtain rfl : i = j := by simpa using hi
  exact pend_step ht hj' hd (by simpa [Nat.blt_eq] using hlt) hg hl hnl hle hS hc' yes
/-- an operation that looks at no memory -/
theorem DXA.take {C : Cx} {ops : Array Oper} {tl : List Nat} {s : List It} {bs : Nat → Nat} {G0 : GH} {fuel : Nat} {listed : Array Bool} {env : Env} {L : Locs} {R : Rows} {Γ : Facts} {j d e : Nat} {l : Loc} {o : Oper} {sv : SV} (i : Nat) (hb : mayP ops listed i = true) (hb2 : mayP ops (listed.setIfInBounds j true) i = true) (hij : Nat.beq i j = false) (hi : getO ops.toList i = some o)
    (hg : gd ops env o = some true) (hg2 : gd ops ((d, .p d 0) :: env) o = some true) (he : o.dst = some e) (hlt : Nat.blt e C.fn.ntmps = true) (hed : Nat.beq e d = false) (hnd : look env d = none) (hl : LooksP C env o sv)
    (k : DXA C ops tl s bs G0 fuel (listed.setIfInBounds i true) ((e, sv) :: env) L R Γ j d l) : DXA C ops tl s bs G0 (fuel + 1) listed env L R Γ j d l := by
  rw [getO_eq] at hi
  have hi' : ops[i]? = some o := by simpa using hi
  have hne : i ≠ j := fun h => by subst h; simp at hij
  have hlt' : e < C.fn.ntmps := by simpa [Nat.blt_eq] using hlt
  have first : ∀ {bs' : Nat → Nat} {env' : Env} {L' : Locs} {f : Nat} {li : Array Bool}, mayP ops li i = true → gd ops env' o = some true → (∀ a w bs'', At C.fn.ntmps env' bs'' a → (execOp a.eval o).run C.P w = .ok (.value (conc bs'' sv)) w) →
      DXS C ops tl s (SB C bs G0 L R) bs' G0 f (li.setIfInBounds i true) ((e, sv) :: env') L' R Γ → DXS C ops tl s (SB C bs G0 L R) bs' G0 (f + 1) li env' L' R Γ := by
    intro bs' env' L' f li hm hgd hlk kk hcl a w G hle hS
    obtain ⟨hA, hI, hΓ⟩ := hS
    simp only [mayP, Bool.and_eq_true] at hm
    obtain ⟨⟨h1, h4⟩, h5⟩ := hm
    have hr : i ∈ Region.ready .any ops li := by simpa using h5
    refine wpAnyT_firstP hi' (Region.noSelect_spec h1) (fun c a w h => (cont_panic C s c _ _ h).elim) f li a w (Region.free_spec hi' h4) hr (v := conc bs' sv) (.inl ⟨gd_sound hA hgd, fun w' _ => hlk a w' bs' hA⟩) ?_
    rw [he]
    exact kk (hcl.set hr) _ _ G hle ⟨hA.put hlt' sv, hI, hΓ⟩
  refine ⟨first hb hg hl k.no, fun b => first hb2 hg2 (fun a w bs'' hA => hl a w bs'' (hA.less hnd)) ?_⟩
  intro hcl a w G hle ⟨hA, hI, hΓ⟩
  have := k.yes b
  rw [Array.setIfInBounds_comm _ _ (Ne.symm hne)] at hcl ⊢
  exact this hcl a w G hle ⟨hA.swap hed, hI, hΓ⟩
theorem looksP_pure {C : Cx} {env : Env} {o : Oper} {sv : SV} (ht : TabOk C.P C.tt) (h : pureS C.tt env [] o.op = some sv) : LooksP C env o sv := fun _ w _ hA => pureS_any ht w hA h
theorem DXA.der {C : Cx} {ops : Array Oper} {tl : List Nat} {s : List It} {bs : Nat → Nat} {G0 : GH} {fuel : Nat} {listed : Array Bool} {env : Env} {L : Locs} {R : Rows} {Γ : Facts} {j d : Nat} {l : Loc} (m : Nat) (f : MF) (hk : f.k = .der) (h : ∀ G, AllK C.M G Γ → f.p G)
    (k : DXA C ops tl s bs G0 fuel listed env L R ((m, f) :: Γ) j d l) : DXA C ops tl s bs G0 fuel listed env L R Γ j d l :=
  ⟨fun hcl a w G hle ⟨hA, hI, hΓ⟩ => k.no hcl a w G hle ⟨hA, hI, hΓ.der m f hk (h G hΓ)⟩, fun b hcl a w G hle ⟨hA, hI, hΓ⟩ => k.yes b hcl a w G hle ⟨hA, hI, hΓ.der m f hk (h G hΓ)⟩⟩
/-- a call -/
theorem DXA.callG {C : Cx} {ops : Array Oper} {tl : List Nat} {st : List It} {bs : Nat → Nat} {G0 : GH} {fuel : Nat} {listed : Array Bool} {env : Env} {L : Locs} {R : Rows} {Γ : Facts} {j d e : Nat} {l : Loc} {o oj : Oper} (i : Nat) {f : Operand} {args : List Operand} {ats : Array TypeId} {g : FuncId} {sf : SV} {svs : List SV} {caps : (Nat → Nat) → List Value}
    {ι : Type} {Q : Prop} {val : ι → Value} {Γ' : ι → Facts} {Ψ : World → Value → World → Prop} (ht : TabOk C.P C.tt) (hj : getO ops.toList j = some oj) (hd : oj.dst = some d) (hlt : Nat.blt d C.fn.ntmps = true) (hg : gd ops env oj = some true) (hl : ladd C.tt env oj.op = some l) (hnl : labHas d env L R = false) (hnd : look env d = none)
    (hr : (Region.ready .any ops listed).all (fun x => Nat.beq x i || Nat.beq x j) = true) (hr1 : (Region.ready .any ops listed).contains i = true) (hr2 : Region.ready .any ops (listed.setIfInBounds j true) = [i]) (hij : Nat.beq i j = false)
    (hi : getO ops.toList i = some o) (hgi : gd ops env o = some true) (hgi2 : gd ops ((d, .p d 0) :: env) o = some true) (he : o.dst = some e) (hlte : Nat.blt e C.fn.ntmps = true) (hed : Nat.beq e d = false) (ho : o.op = .call { callee := .value f, args := args.toArray, argTypes := ats })
    (hf : ev env f = some sf) (hf2 : ev ((d, .p d 0) :: env) f = some sf) (hsf : ∀ bs, conc bs sf = .func (.func g) #[] (caps bs).toArray) (hargs : evs env args = some svs) (hargs2 : evs ((d, .p d 0) :: env) args = some svs)
    (hc : ∀ w G bs, HInv C w G bs L R → AllK C.M (hp w) Γ → Does C.P g (svs.map (conc bs) ++ caps bs).toArray w emp (Ψ w))
    (hΨ : ∀ w v w' G bs (L : Locs) (R : Rows), HInv C w G bs L R → AllK C.M G Γ → Kp emp w w' → Ψ w v w' → ∃ x G', Q ∧ v = val x ∧ Le G G' ∧ HInv C w' G' bs L R ∧ AllK C.M G' (Γ' x))
    (k : ∀ x, Q → DXA C ops tl st bs G0 fuel (listed.setIfInBounds i true) ((e, .v (val x)) :: env) L R (Γ' x) j d l) : DXA C ops tl st bs G0 (fuel + 1) listed env L R Γ j d l := by
  rw [getO_eq] at hi hj
  have hi' : ops[i]? = some o := by simpa using hi
  have hj' : ops[j]? = some oj := by simpa using hj
  have hne : i ≠ j := fun h => by subst h; simp at hij
  have hlte' : e < C.fn.ntmps := by simpa [Nat.blt_eq] using hlte
  obtain ⟨l1, l2, l3, l4⟩ := labHas_not hnl
  have step : ∀ {bs' : Nat → Nat} {env' : Env} {L' : Locs} {fu : Nat} {li : Array Bool} {a : Act} {w : World} {G : GH}, gd ops env' o = some true → ev env' f = some sf → evs env' args = some svs → Le G0 G → SatB C env' L' R Γ G bs' a w → (∀ w G, HInv C w G bs' L' R → HInv C w G bs' L R) → (∀ w G, HInv C w G bs' L' R → HInv C w G bs L R) → Closed ops (li.setIfInBounds i true) →
      (∀ x, Q → DXS C ops tl st (SB C bs G0 L R) bs' G0 fu (li.setIfInBounds i true) ((e, .v (val x)) :: env') L' R (Γ' x)) →
      wpOp C.P ops (cont C st) i (fun a' w' => (tl.contains i = false → SB C bs G0 L R w → SB C bs G0 L R w') ∧ wpAnyT C.P ops (cont C st) (SB C bs G0 L R) tl fu (li.setIfInBounds i true) a' w') a w := by
    intro bs' env' L' fu li a w G h1 h2 h3 hle hS hsub hsub2 hcl kk
    obtain ⟨hA, hI, hΓ⟩ := hS
    unfold wpOp
    simp only [hi']
    rw [if_pos (gd_sound hA h1)]
    refine .inl ?_
    unfold Oper.wp
    obtain ⟨hen, hcalls⟩ := hc w G bs' (hsub w G hI) (hΓ.mono hI.le)
    rw [exec_call hen ho (by rw [ev_conc hA h2, hsf]) (evs_sound hA args svs h3)]
    simp only [Oper.upon]
    refine hcalls.mono fun ee w' ⟨v, hv, hb, hψ⟩ => ?_
    subst hv
    rw [he]
    obtain ⟨x, G', hq, hv, hGG, hI', hΓ'⟩ := hΨ w v w' G bs' L' R hI hΓ hb hψ
    subst hv
    exact ⟨fun _ _ => ⟨G', hle.trans hGG, hsub2 w' G' hI'⟩, kk x hq hcl _ _ G' (hle.trans hGG) ⟨hA.put hlte' (.v (val x)), hI', hΓ'⟩⟩
  have yes : ∀ b, DXS C ops tl st (SB C bs G0 L R) (fun i => if i = d then b else bs i) G0 (fuel + 1) (listed.setIfInBounds j true) ((d, .p d 0) :: env) ((d, l) :: L) R Γ := fun b hcl a w G hle hS => by
    refine ⟨fun h => (by rw [hr2] at h; cases h), fun x hx => ?_⟩
    have hcl' := hcl.set hx
    rw [hr2] at hx
    obtain rfl : x = i := by simpa using hx
    refine step hgi2 hf2 hargs2 hle hS (fun w G h => h.sub (fun q y hy => by rw [look_cons, if_neg (Ne.symm (keyHas_not l2 hy))]; exact hy) (Sub.refl _)) (fun w G h => h.unalloc l2 l3 l4) hcl' (fun x hq => ?_)
    intro hcl2 a w G hle ⟨hA, hI, hΓ⟩
    have := (k x hq).yes b
    rw [Array.setIfInBounds_comm _ _ (Ne.symm hne)] at hcl2 ⊢
    exact this hcl2 a w G hle ⟨hA.swap hed, hI, hΓ⟩
  refine ⟨fun hcl a w G hle hS => ⟨fun h => (by rw [h] at hr1; simp at hr1), fun x hx => ?_⟩, yes⟩
  have hcl' := hcl.set hx
  have hx' := List.all_eq_true.1 hr x hx
  simp only [Bool.or_eq_true] at hx'
  rcases hx' with h | h
  · have := Nat.eq_of_beq_eq_true h
    subst this
    exact step hgi hf hargs hle hS (fun _ _ h => h) (fun _ _ h => h) hcl' (fun x hq => (k x hq).no)
  · have := Nat.eq_of_beq_eq_true h
    subst this
    exact pend_step ht hj' hd (by simpa [Nat.blt_eq] using hlt) hg hl hnl hle hS hcl' yes
theorem DXA.callV {C : Cx} {ops : Array Oper} {tl : List Nat} {st : List It} {bs : Nat → Nat} {G0 : GH} {fuel : Nat} {listed : Array Bool} {env : Env} {L : Locs} {R : Rows} {Γ : Facts} {j d e : Nat} {l : Loc} {o oj : Oper} (i : Nat) {f : Operand} {args : List Operand} {ats : Array TypeId} {g : FuncId} {sf : SV} {svs : List SV} {caps : (Nat → Nat) → List Value}
    {c : Value} {Q : Prop} (ht : TabOk C.P C.tt) (hj : getO ops.toList j = some oj) (hd : oj.dst = some d) (hlt : Nat.blt d C.fn.ntmps = true) (hg : gd ops env oj = some true) (hl : ladd C.tt env oj.op = some l) (hnl : labHas d env L R = false) (hnd : look env d = none)
    (hr : (Region.ready .any ops listed).all (fun x => Nat.beq x i || Nat.beq x j) = true) (hr1 : (Region.ready .any ops listed).contains i = true) (hr2 : Region.ready .any ops (listed.setIfInBounds j true) = [i]) (hij : Nat.beq i j = false)
    (hi : getO ops.toList i = some o) (hgi : gd ops env o = some true) (hgi2 : gd ops ((d, .p d 0) :: env) o = some true) (he : o.dst = some e) (hlte : Nat.blt e C.fn.ntmps = true) (hed : Nat.beq e d = false) (ho : o.op = .call { callee := .value f, args := args.toArray, argTypes := ats })
    (hf : ev env f = some sf) (hf2 : ev ((d, .p d 0) :: env) f = some sf) (hsf : ∀ bs, conc bs sf = .func (.func g) #[] (caps bs).toArray) (hargs : evs env args = some svs) (hargs2 : evs ((d, .p d 0) :: env) args = some svs)
    (hc : ∀ w G bs, HInv C w G bs L R → AllK C.M (hp w) Γ → Does C.P g (svs.map (conc bs) ++ caps bs).toArray w emp fun v _ => v = c ∧ Q)
    (k : Q → DXA C ops tl st bs G0 fuel (listed.setIfInBounds i true) ((e, .v c) :: env) L R Γ j d l) : DXA C ops tl st bs G0 (fuel + 1) listed env L R Γ j d l :=
  DXA.callG (ι := Unit) (Q := Q) (val := fun _ => c) (Γ' := fun _ => Γ) (Ψ := fun _ v _ => v = c ∧ Q) i ht hj hd hlt hg hl hnl hnd hr hr1 hr2 hij hi hgi hgi2 he hlte hed ho hf hf2 hsf hargs hargs2 hc
    (fun w v w' G bs L R hI hΓ hb ⟨hv, hq⟩ => ⟨(), join (cut G emp) emp, hq, hv, le_join_l (cut G emp) emp, (hI.called (emp_le _) (fun _ _ h => by cases h) hb (emp_le _) (fun _ _ h => by cases h)).1, hΓ.mono (le_join_l (cut G emp) emp)⟩) (fun _ => k)
theorem DXA.callF {C : Cx} {ops : Array Oper} {tl : List Nat} {st : List It} {bs : Nat → Nat} {G0 : GH} {fuel : Nat} {listed : Array Bool} {env : Env} {L : Locs} {R : Rows} {Γ : Facts} {j d e : Nat} {l : Loc} {o oj : Oper} (i m : Nat) {f : Operand} {args : List Operand} {ats : Array TypeId} {g : FuncId} {sf : SV} {svs : List SV} {caps : (Nat → Nat) → List Value}
    {ι : Type} {val val' : ι → Value} {gs ds : ι → List MF} {Q : Prop} {Γ' : ι → Facts} (hds : ∀ i h, Sep h (gs i) → All h (ds i)) (hdk : ∀ i, ∀ f ∈ ds i, f.k = .der) (ht : TabOk C.P C.tt) (hj : getO ops.toList j = some oj) (hd : oj.dst = some d) (hlt : Nat.blt d C.fn.ntmps = true) (hg : gd ops env oj = some true) (hl : ladd C.tt env oj.op = some l) (hnl : labHas d env L R = false) (hnd : look env d = none)
    (hr : (Region.ready .any ops listed).all (fun x => Nat.beq x i || Nat.beq x j) = true) (hr1 : (Region.ready .any ops listed).contains i = true) (hr2 : Region.ready .any ops (listed.setIfInBounds j true) = [i]) (hij : Nat.beq i j = false)
    (hi : getO ops.toList i = some o) (hgi : gd ops env o = some true) (hgi2 : gd ops ((d, .p d 0) :: env) o = some true) (he : o.dst = some e) (hlte : Nat.blt e C.fn.ntmps = true) (hed : Nat.beq e d = false) (ho : o.op = .call { callee := .value f, args := args.toArray, argTypes := ats })
    (hf : ev env f = some sf) (hf2 : ev ((d, .p d 0) :: env) f = some sf) (hsf : ∀ bs, conc bs sf = .func (.func g) #[] (caps bs).toArray) (hargs : evs env args = some svs) (hargs2 : evs ((d, .p d 0) :: env) args = some svs)
    (hc : ∀ w G bs, HInv C w G bs L R → AllK C.M (hp w) Γ → Does C.P g (svs.map (conc bs) ++ caps bs).toArray w emp (Post w emp val gs Q))
    (hv : ∀ i, normV (val i) = some (val' i)) (hΓ' : ∀ i, addF m (ds i ++ gs i) Γ = some (Γ' i))
    (k : ∀ x, Q → DXA C ops tl st bs G0 fuel (listed.setIfInBounds i true) ((e, .v (val' x)) :: env) L R (Γ' x) j d l) : DXA C ops tl st bs G0 (fuel + 1) listed env L R Γ j d l :=
  DXA.callG (ι := ι) (Q := Q) (val := val') (Γ' := Γ') (Ψ := fun w v w' => Post w emp val gs Q v w') i ht hj hd hlt hg hl hnl hnd hr hr1 hr2 hij hi hgi hgi2 he hlte hed ho hf hf2 hsf hargs hargs2 hc
    (fun w v w' G bs L R hI hΓ hb hv' => by
      obtain ⟨x, h, rfl, hq, hle1, hdom, hs⟩ := hv'
      obtain ⟨hI', hdj⟩ := hI.called (emp_le _) (fun _ _ h => by cases h) hb hle1 hdom
      exact ⟨x, join (cut G emp) h, hq, (normV_eq (hv x)).symm, le_join_l (cut G emp) h, hI', hΓ.after hdj (fun b o hb' => .inl ((hdom b o hb').elim (Nat.le_trans hI.keep.size) (fun h => absurd rfl h))) hs (hdk x) (hds x h hs) (hΓ' x)⟩) k
end Go.Stp
