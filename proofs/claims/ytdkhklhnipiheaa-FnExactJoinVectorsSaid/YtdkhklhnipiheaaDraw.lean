/-
  A region whose order the model draws: its first n operations look, or call what leaves memory as it was; the others come behind them, one after the other. No condition.
-/
import Derived.Test.YtdkhklhnipiheaaMake
import Derived.StillTail
namespace Go.Stp
open GoT (X k ok sh fa oa)
section
variable {P : Program} {ops : Array Oper} {Q : Exit → Act → World → Prop} {S : World → Prop} {tl : List Nat}
/-- operation j waits for k -/
def edgeB (ops : Array Oper) (j k : Nat) : Bool :=
  match ops[j]? with
  | some oj => oj.after.any fun e => Region.binds .any e && e.on == k
  | none => false
def ancL (ops : Array Oper) : Nat → List Nat → List Nat
  | 0, acc => acc
  | k + 1, acc => (match acc.any (fun m => edgeB ops m k) with | true => ancL ops k (k :: acc) | false => ancL ops k acc)
/-- operation j comes behind i, whatever order is drawn -/
def waits (ops : Array Oper) (j i : Nat) : Bool := (ancL ops j [j]).contains i
def Closed (ops : Array Oper) (listed : Array Bool) : Prop := ∀ j o, ops[j]? = some o → listed.getD j false = true → ∀ e ∈ o.after, Region.binds .any e = true → listed.getD e.on false = true
theorem edgeB_spec {j k : Nat} (h : edgeB ops j k = true) : ∃ o, ops[j]? = some o ∧ ∃ e ∈ o.after, Region.binds .any e = true ∧ e.on = k := by
  unfold edgeB at h
  split at h
  · rename_i oj ho
    obtain ⟨e, he, hb⟩ := Array.any_eq_true'.1 h
    simp only [Bool.and_eq_true, beq_iff_eq] at hb
    exact ⟨oj, ho, e, he, hb.1, hb.2⟩
  · cases h
theorem ancL_spec {listed : Array Bool} {j : Nat} (hc : Closed ops listed) (hr : j ∈ Region.ready .any ops listed) : ∀ (k : Nat) (acc : List Nat), (∀ m ∈ acc, m = j ∨ listed.getD m false = true) → ∀ m ∈ ancL ops k acc, m = j ∨ listed.getD m false = true
  | 0, acc, h => h
  | k + 1, acc, h => by
    unfold ancL
    split
    · rename_i ha
      obtain ⟨m, hm, he⟩ := List.any_eq_true.1 ha
      obtain ⟨o, ho, e, hE, hb, hk⟩ := edgeB_spec he
      refine ancL_spec hc hr k (k :: acc) fun x hx => ?_
      rcases List.mem_cons.1 hx with rfl | hx
      · right
        rcases h m hm with rfl | hl
        · obtain ⟨_, o', ho', hall⟩ := mem_ready.1 hr
          rw [ho] at ho'; cases ho'
          rw [← hk]; exact hall e hE hb
        · rw [← hk]; exact hc m o ho hl e hE hb
      · exact h x hx
    · exact ancL_spec hc hr k acc h
theorem waits_spec {listed : Array Bool} {i j : Nat} (hc : Closed ops listed) (hw : waits ops j i = true) (hij : j ≠ i) (hi : listed.getD i true = false) (hr : j ∈ Region.ready .any ops listed) : False := by
  have hm : i ∈ ancL ops j [j] := by simpa [waits] using hw
  rcases ancL_spec hc hr j [j] (fun m hm => .inl (by simpa using hm)) i hm with h | h
  · exact hij h.symm
  · rcases Nat.lt_or_ge i listed.size with h' | h'
    · simp [h'] at hi h; rw [hi] at h; cases h
    · simp [Array.getElem?_eq_none h'] at h
theorem Closed.set {listed : Array Bool} {i : Nat} (hc : Closed ops listed) (hr : i ∈ Region.ready .any ops listed) : Closed ops (listed.setIfInBounds i true) := by
  intro j o ho hl e he hb
  by_cases hji : j = i
  · subst hji
    obtain ⟨_, o', ho', hall⟩ := mem_ready.1 hr
    rw [ho] at ho'; cases ho'
    exact getD_set_true (hall e he hb)
  · rw [getD_set_ne false (Ne.symm hji)] at hl
    exact getD_set_true (hc j o ho hl e he hb)
theorem closed_start (ops : Array Oper) : Closed ops (Array.replicate ops.size false) := by
  intro j o ho hl
  have : j < ops.size := (Array.getElem?_eq_some_iff.1 ho).1
  simp [this] at hl
/-- the operations whose numbers are in tl write; the others leave S as it is -/
def wpAnyT (P : Program) (ops : Array Oper) (Q : Exit → Act → World → Prop) (S : World → Prop) (tl : List Nat) : Nat → Array Bool → Act → World → Prop
  | 0, listed, a, w => Region.ready .any ops listed = [] ∧ Q .normal a w
  | fuel + 1, listed, a, w =>
    (Region.ready .any ops listed = [] → Q .normal a w) ∧
    ∀ i ∈ Region.ready .any ops listed, wpOp P ops Q i (fun a' w' => (tl.contains i = false → S w → S w') ∧ wpAnyT P ops Q S tl fuel (listed.setIfInBounds i true) a' w') a w
theorem wpAny_of_T : ∀ (fuel : Nat) (listed : Array Bool) (a : Act) (w : World), wpAnyT P ops Q S tl fuel listed a w → wpAny P .any ops Q fuel listed a w
  | 0, _, _, _, h => h
  | fuel + 1, _, _, _, h => ⟨h.1, fun i hi => wpOp_mono (fun a' w' h' => wpAny_of_T fuel _ a' w' h'.2) (h.2 i hi)⟩
theorem not_on {listed : Array Bool} {i : Nat} {oj : Oper} (hiun : listed.getD i true = false) (hall : ∀ e ∈ oj.after, Region.binds .any e = true → listed.getD e.on false = true) : ∀ e ∈ oj.after, Region.binds .any e = true → e.on ≠ i := fun e he hb heq => by
  have h1 := hall e he hb
  rw [heq] at h1
  rcases Nat.lt_or_ge i listed.size with h' | h'
  · simp [h'] at hiun h1; rw [hiun] at h1; cases h1
  · simp [Array.getElem?_eq_none h'] at h1
/-- one that yields the same wherever S holds may be taken first, if what writes comes behind it -/
theorem wpAnyT_first {i : Nat} {oi : Oper} {v : Value} (hi : ops[i]? = some oi) (hit : tl.contains i = false) (hsel : ∀ (j : Nat) (o : Oper) cs b, ops[j]? = some o → o.op ≠ .select cs b)
    (hQ : ∀ c a w, Q (.panic c) (a.put oi.dst v) w → Q (.panic c) a w) :
    ∀ (fuel : Nat) (listed : Array Bool) (a : Act) (w : World), Closed ops listed → (∀ j ∈ tl, listed.getD j true = false → waits ops j i = true) →
      (∀ j oj, ops[j]? = some oj → j ≠ i → listed.getD j true = false → (∀ e ∈ oj.after, Region.binds .any e = true → e.on ≠ i) → oi.apart ops oj = true) →
      i ∈ Region.ready .any ops listed → YieldsIf P ops S oi v a → S w →
      wpAnyT P ops Q S tl fuel (listed.setIfInBounds i true) (a.put oi.dst v) w → wpAnyT P ops Q S tl (fuel + 1) listed a w := by
  intro fuel
  induction fuel with
  | zero =>
    intro listed a w _ _ _ hr hy hS H
    refine ⟨fun h => (by rw [h] at hr; cases hr), fun j hj => ?_⟩
    by_cases hji : j = i
    · subst hji; exact hy.wpOp hi hS ⟨fun _ h => h, H⟩
    · have := ready_mono hj hji
      rw [H.1] at this
      cases this
  | succ fuel ih =>
    intro listed a w hc hw hfree hr hy hS H
    refine ⟨fun h => (by rw [h] at hr; cases hr), fun j hj => ?_⟩
    by_cases hji : j = i
    · subst hji; exact hy.wpOp hi hS ⟨fun _ h => h, H⟩
    · have h1 := H.2 j (ready_mono hj hji)
      obtain ⟨hjun, oj, hoj, hall⟩ := mem_ready.1 hj
      have hiun := (mem_ready.1 hr).1
      have hnot := not_on (i := i) hiun hall
      have hjt : tl.contains j = false := by
        cases hb : tl.contains j with
        | false => rfl
        | true => exact (waits_spec hc (hw j (by simpa using hb) hjun) hji hiun hj).elim
      have h2 := wpOp_putIf hoj (hfree j oj hoj hji hjun hnot) (fun cs b => hsel i oi cs b hi) (fun cs b => hsel j oj cs b hoj) hQ hy
        (K := fun a' w' => S w' ∧ wpAnyT P ops Q S tl fuel ((listed.setIfInBounds j true).setIfInBounds i true) a' w') (by
          refine wpOp_mono (fun a' w' h3 => ?_) h1
          rw [Array.setIfInBounds_comm _ _ hji]
          exact ⟨h3.1 hjt hS, h3.2⟩)
      have hun : ∀ k, (listed.setIfInBounds j true).getD k true = false → listed.getD k true = false := fun k hk => by
        by_cases hjk : j = k
        · subst hjk; exact hjun
        · rw [getD_set_ne true hjk] at hk; exact hk
      exact wpOp_mono (fun a' w' h3 => ⟨fun _ _ => h3.2.1, ih (listed.setIfInBounds j true) a' w' (hc.set hj) (fun k hk hkn => hw k hk (hun k hkn)) (fun k ok hk hki hkn hno => hfree k ok hk hki (hun k hkn) hno) (ready_mono hr (Ne.symm hji)) h3.1 h3.2.1 h3.2.2⟩) h2
/-- one that yields the same in every world may be taken first -/
theorem wpAnyT_firstP {i : Nat} {oi : Oper} {v : Value} (hi : ops[i]? = some oi) (hsel : ∀ (j : Nat) (o : Oper) cs b, ops[j]? = some o → o.op ≠ .select cs b)
    (hQ : ∀ c a w, Q (.panic c) (a.put oi.dst v) w → Q (.panic c) a w) :
    ∀ (fuel : Nat) (listed : Array Bool) (a : Act) (w : World),
      (∀ j oj, ops[j]? = some oj → j ≠ i → listed.getD j true = false → (∀ e ∈ oj.after, Region.binds .any e = true → e.on ≠ i) → oi.apart ops oj = true) →
      i ∈ Region.ready .any ops listed → YieldsIf P ops (fun _ => True) oi v a →
      wpAnyT P ops Q S tl fuel (listed.setIfInBounds i true) (a.put oi.dst v) w → wpAnyT P ops Q S tl (fuel + 1) listed a w := by
  intro fuel
  induction fuel with
  | zero =>
    intro listed a w _ hr hy H
    refine ⟨fun h => (by rw [h] at hr; cases hr), fun j hj => ?_⟩
    by_cases hji : j = i
    · subst hji; exact hy.wpOp hi trivial ⟨fun _ h => h, H⟩
    · have := ready_mono hj hji
      rw [H.1] at this
      cases this
  | succ fuel ih =>
    intro listed a w hfree hr hy H
    refine ⟨fun h => (by rw [h] at hr; cases hr), fun j hj => ?_⟩
    by_cases hji : j = i
    · subst hji; exact hy.wpOp hi trivial ⟨fun _ h => h, H⟩
    · have h1 := H.2 j (ready_mono hj hji)
      obtain ⟨hjun, oj, hoj, hall⟩ := mem_ready.1 hj
      have hiun := (mem_ready.1 hr).1
      have hnot := not_on (i := i) hiun hall
      have h2 := wpOp_putIf hoj (hfree j oj hoj hji hjun hnot) (fun cs b => hsel i oi cs b hi) (fun cs b => hsel j oj cs b hoj) hQ hy
        (K := fun a' w' => (tl.contains j = false → S w → S w') ∧ wpAnyT P ops Q S tl fuel ((listed.setIfInBounds j true).setIfInBounds i true) a' w') (by
          refine wpOp_mono (fun a' w' h3 => ?_) h1
          rw [Array.setIfInBounds_comm _ _ hji]
          exact h3)
      have hun : ∀ k, (listed.setIfInBounds j true).getD k true = false → listed.getD k true = false := fun k hk => by
        by_cases hjk : j = k
        · subst hjk; exact hjun
        · rw [getD_set_ne true hjk] at hk; exact hk
      exact wpOp_mono (fun a' w' h3 => ⟨h3.2.1, ih (listed.setIfInBounds j true) a' w' (fun k ok hk hki hkn hno => hfree k ok hk hki (hun k hkn) hno) (ready_mono hr (Ne.symm hji)) h3.1 h3.2.2⟩) h2
def pickO (ops : List Oper) : List Nat → Option (List Oper)
  | [] => some []
  | i :: r => (match getO ops i with
    | some o => (match pickO ops r with | some q => some (o :: q) | none => none)
    | none => none)
def seqL (ops : Array Oper) (tl : List Nat) : List Nat → Array Bool → Bool
  | [], listed => (Region.ready .any ops listed).isEmpty
  | k :: r, listed => decide (Region.ready .any ops listed = [k]) && tl.contains k && seqL ops tl r (listed.setIfInBounds k true)
/-- the others: one after the other -/
theorem wpAnyT_of_seq : ∀ (is : List Nat) (l : List Oper) (listed : Array Bool) (a : Act) (w : World), pickO ops.toList is = some l → seqL ops tl is listed = true → wpList P ops Q l a w → wpAnyT P ops Q S tl is.length listed a w
  | [], l, _, _, _, hl, hB, h => by simp [pickO] at hl; subst hl; exact ⟨by simpa [seqL] using hB, h⟩
  | k :: is, l, listed, a, w, hl, hB, h => by
    simp only [pickO] at hl
    split at hl
    · rename_i o ho
      split at hl
      · rename_i q hq
        simp at hl; subst hl
        rw [getO_eq] at ho
        have h0 : ops[k]? = some o := by simpa using ho
        simp only [seqL, Bool.and_eq_true, decide_eq_true_eq] at hB
        refine ⟨fun h1 => (by rw [hB.1.1] at h1; cases h1), fun i hi => ?_⟩
        rw [hB.1.1] at hi
        have hik : i = k := by simpa using hi
        subst hik
        have hw : wpOp P ops Q i (wpList P ops Q q) a w := by unfold wpOp; simp only [h0]; exact h
        exact wpOp_mono (fun a' w' h' => ⟨fun h => (by rw [hB.1.2] at h; cases h), wpAnyT_of_seq is q _ a' w' hq hB.2 h'⟩) hw
      · cases hl
    · cases hl
end
/-- the worlds that a region meets -/
def SB (C : Cx) (bs : Nat → Nat) (G0 : GH) (L : Locs) (R : Rows) : World → Prop := fun w => ∃ G, Le G0 G ∧ HInv C w G bs L R
/-- the region's operations from here on, whatever order is drawn -/
def DX (C : Cx) (ops : Array Oper) (tl : List Nat) (s : List It) (bs : Nat → Nat) (G0 : GH) (fuel : Nat) (listed : Array Bool) (env : Env) (L : Locs) (R : Rows) (Γ : Facts) : Prop :=
  Closed ops listed → ∀ a w G, Le G0 G → SatB C env L R Γ G bs a w → wpAnyT C.P ops (cont C s) (SB C bs G0 L R) tl fuel listed a w
theorem cont_panic (C : Cx) (s : List It) (c : List PanicEntry) (a : Act) (w : World) : cont C s (.panic c) a w → False := by
  induction s with
  | nil => rintro ⟨_, v, h, _⟩; cases h
  | cons x s ih => cases x <;> exact ih
theorem HInv.drew {C : Cx} {w : World} {G : GH} {bs : Nat → Nat} {L : Locs} {R : Rows} (h : HInv C w G bs L R) : HInv C { w with drawn := w.drawn + 1 } G bs L R :=
  ⟨⟨h.keep.os, h.keep.tape, h.keep.output, h.keep.size, h.keep.block⟩, h.le, h.loc, h.row, h.inj, h.dis, h.pin, h.nr⟩
theorem WX.draw {C : Cx} {id : Nat} {ops : Array Oper} {s : List It} {env : Env} {L : Locs} {R : Rows} {Γ : Facts} (tl : List Nat) (hm : C.P.follows .mixedOrders = true)
    (k : ∀ bs G0, AllK C.M G0 Γ → DX C ops tl s bs G0 ops.size (Array.replicate ops.size false) env L R Γ) : WX C (.code (.region id ops true) :: s) env L R Γ := by
  rintro a w ⟨G, bs, hA, hI, hΓ⟩
  show (Code.region id ops true).wp C.P (cont C s) a w
  exact wp_region_any hm (wpAny_of_T _ _ _ _ (k bs G hΓ (closed_start ops) a _ G (Le.refl _) ⟨hA, hI.drew, hΓ⟩))
/-- number i may be taken first, if it yields the same in every world -/
def mayP (ops : Array Oper) (listed : Array Bool) (i : Nat) : Bool :=
  Region.noSelect ops && Region.free .any ops listed i && (Region.ready .any ops listed).contains i
/-- .. wherever S holds -/
def mayB (ops : Array Oper) (tl : List Nat) (listed : Array Bool) (i : Nat) : Bool :=
  mayP ops listed i && !tl.contains i && tl.all (fun j => listed.getD j true || waits ops j i)
theorem DX.take {C : Cx} {ops : Array Oper} {tl : List Nat} {s : List It} {bs : Nat → Nat} {G0 : GH} {fuel : Nat} {listed : Array Bool} {env : Env} {L : Locs} {R : Rows} {Γ : Facts} {i d : Nat} {o : Oper} {sv : SV} {b : Bool} (hb : mayB ops tl listed i = true) (hi : ops[i]? = some o) (hd : o.dst = some d) (hlt : d < C.fn.ntmps)
    (hg : gd ops env o = some b) (hl : b = true → Looks C env L R G0 o sv) (hu : b = false → sv = .v undef)
    (k : DX C ops tl s bs G0 fuel (listed.setIfInBounds i true) ((d, sv) :: env) L R Γ) : DX C ops tl s bs G0 (fuel + 1) listed env L R Γ := by
  intro hcl a w G hle ⟨hA, hI, hΓ⟩
  simp only [mayB, mayP, Bool.and_eq_true, Bool.not_eq_true', List.all_eq_true, Bool.or_eq_true] at hb
  obtain ⟨⟨⟨⟨h1, h4⟩, h5⟩, h3⟩, h6⟩ := hb
  have hr : i ∈ Region.ready .any ops listed := by simpa using h5
  refine wpAnyT_first hi h3 (Region.noSelect_spec h1) (fun c a w h => (cont_panic C s c _ _ h).elim) fuel listed a w hcl (fun j hj hun => (h6 j hj).resolve_left (by rw [hun]; simp)) (Region.free_spec hi h4) hr (v := conc bs sv) ?_ ⟨G, hle, hI⟩ ?_
  · cases b with
    | true => exact .inl ⟨gd_sound hA hg, fun w' ⟨G', hle', hI'⟩ => hl rfl a w' G' bs hle' hA hI'⟩
    | false => exact .inr ⟨gd_sound hA hg, by rw [hu rfl]; rfl⟩
  · rw [hd]
    exact k (hcl.set hr) _ _ G hle ⟨hA.put hlt sv, hI, hΓ⟩
theorem DX.takeP {C : Cx} {ops : Array Oper} {tl : List Nat} {s : List It} {bs : Nat → Nat} {G0 : GH} {fuel : Nat} {listed : Array Bool} {env : Env} {L : Locs} {R : Rows} {Γ : Facts} {i d : Nat} {o : Oper} {sv : SV} {b : Bool} (hb : mayP ops listed i = true) (hi : ops[i]? = some o) (hd : o.dst = some d) (hlt : d < C.fn.ntmps)
    (hg : gd ops env o = some b) (hl : b = true → ∀ a w bs, At C.fn.ntmps env bs a → (execOp a.eval o).run C.P w = .ok (.value (conc bs sv)) w) (hu : b = false → sv = .v undef)
    (k : DX C ops tl s bs G0 fuel (listed.setIfInBounds i true) ((d, sv) :: env) L R Γ) : DX C ops tl s bs G0 (fuel + 1) listed env L R Γ := by
  intro hcl a w G hle ⟨hA, hI, hΓ⟩
  simp only [mayP, Bool.and_eq_true] at hb
  obtain ⟨⟨h1, h4⟩, h5⟩ := hb
  have hr : i ∈ Region.ready .any ops listed := by simpa using h5
  refine wpAnyT_firstP hi (Region.noSelect_spec h1) (fun c a w h => (cont_panic C s c _ _ h).elim) fuel listed a w (Region.free_spec hi h4) hr (v := conc bs sv) ?_ ?_
  · cases b with
    | true => exact .inl ⟨gd_sound hA hg, fun w' _ => hl rfl a w' bs hA⟩
    | false => exact .inr ⟨gd_sound hA hg, by rw [hu rfl]; rfl⟩
  · rw [hd]
    exact k (hcl.set hr) _ _ G hle ⟨hA.put hlt sv, hI, hΓ⟩
theorem pureS_any {C : Cx} (ht : TabOk C.P C.tt) {env : Env} {bs : Nat → Nat} {a : Act} (w : World) (hA : At C.fn.ntmps env bs a) {o : Oper} {sv : SV} (h : pureS C.tt env [] o.op = some sv) : (execOp a.eval o).run C.P w = .ok (.value (conc bs sv)) w :=
  pureS_sound (C := ⟨C.P, C.fn, C.tt, w, emp, none, fun _ _ => True⟩) (L := []) (R := []) (G := emp) ht hA ⟨Kp.refl _ _, emp_le _, by simp [look], by simp [look], fun i j _ hi => by rcases hi with ⟨l, h⟩ | ⟨r, h, _⟩ <;> simp [look] at h, by simp [look], (fun b h => by cases h), by simp [look]⟩ h
/-- several that are told off the lists; true: in every world -/
def takesB (ops : Array Oper) (tl : List Nat) : Array Bool → List (Nat × Bool) → Bool
  | _, [] => true
  | listed, (i, p) :: r => (match p with | true => mayP ops listed i | false => mayB ops tl listed i) && takesB ops tl (listed.setIfInBounds i true) r
def setAll : Array Bool → List (Nat × Bool) → Array Bool
  | l, [] => l
  | l, (i, _) :: r => setAll (l.setIfInBounds i true) r
def takesE (tt : TT) (m : Nat) (ops : Array Oper) (L : Locs) : Env → List (Nat × Bool) → Option Env
  | env, [] => some env
  | env, (i, p) :: r => (match getO ops.toList i with
    | some o => (match o.dst with
      | some d => (match Nat.blt d m with
        | true => (match gd ops env o with
          | some true => (match pureS tt env (match p with | true => [] | false => L) o.op with
            | some sv => takesE tt m ops L ((d, sv) :: env) r
            | none => none)
          | some false => takesE tt m ops L ((d, .v undef) :: env) r
          | none => none)
        | false => none)
      | none => none)
    | none => none)
theorem DX.takes {C : Cx} {ops : Array Oper} {tl : List Nat} {s : List It} {bs : Nat → Nat} {G0 : GH} {L : Locs} {R : Rows} {Γ : Facts} (ht : TabOk C.P C.tt) : ∀ (is : List (Nat × Bool)) {fuel : Nat} {listed : Array Bool} {env env' : Env}, takesB ops tl listed is = true →
    takesE C.tt C.fn.ntmps ops L env is = some env' → DX C ops tl s bs G0 fuel (setAll listed is) env' L R Γ → DX C ops tl s bs G0 (fuel + is.length) listed env L R Γ
  | [], _, _, _, _, _, h, k => by simp [takesE] at h; subst h; exact k
  | (i, p) :: r, fuel, listed, env, env', hb, h, k => by
    simp only [takesB, Bool.and_eq_true] at hb
    simp only [takesE] at h
    split at h
    · rename_i o ho
      rw [getO_eq] at ho
      have ho' : ops[i]? = some o := by simpa using ho
      split at h
      · rename_i d hd
        split at h
        · rename_i hlt
          have hlt' : d < C.fn.ntmps := by simpa [Nat.blt_eq] using hlt
          split at h
          · rename_i hg
            split at h
            · rename_i sv hsv
              cases p with
              | true => exact DX.takeP hb.1 ho' hd hlt' hg (fun _ a w bs' hA => pureS_any ht w hA hsv) (fun h => by cases h) (DX.takes ht r hb.2 h k)
              | false => exact DX.take hb.1 ho' hd hlt' hg (fun _ a w G' bs' hle hA hI => pureS_sound ht hA hI hsv) (fun h => by cases h) (DX.takes ht r hb.2 h k)
            · cases h
          · rename_i hg
            cases p with
            | true => exact DX.takeP hb.1 ho' hd hlt' hg (fun h => by cases h) (fun _ => rfl) (DX.takes ht r hb.2 h k)
            | false => exact DX.take hb.1 ho' hd hlt' hg (fun h => by cases h) (fun _ => rfl) (DX.takes ht r hb.2 h k)
          · cases h
        · cases h
      · cases h
    · cases h
/-- the others follow one after the other, in this order -/
theorem DX.tail {C : Cx} {ops : Array Oper} {tl : List Nat} {s : List It} {bs : Nat → Nat} {G0 : GH} {fuel : Nat} {listed : Array Bool} {env : Env} {L : Locs} {R : Rows} {Γ : Facts} {rest : List Oper} (is : List Nat) (hr : pickO ops.toList is = some rest) (hf : fuel = is.length) (hs : seqL ops tl is listed = true)
    (k : WX C (.ops ops rest :: s) env L R Γ) : DX C ops tl s bs G0 fuel listed env L R Γ := by
  intro _ a w G _ hS
  subst hf
  exact wpAnyT_of_seq is rest listed a w hr hs (k a w ⟨G, bs, hS⟩)
/-- number i is the one that comes up next: a call -/
theorem DX.callG {C : Cx} {ops : Array Oper} {tl : List Nat} {st : List It} {bs : Nat → Nat} {G0 : GH} {fuel : Nat} {listed : Array Bool} {env : Env} {L : Locs} {R : Rows} {Γ : Facts} {o : Oper} (i : Nat) {f : Operand} {args : List Operand} {ats : Array TypeId} {g : FuncId} {sf : SV} {svs : List SV} {caps : (Nat → Nat) → List Value}
    {Ψ : World → Value → World → Prop} {d : Nat} (hit : tl.contains i = false) (hr : Region.ready .any ops listed = [i]) (hi : getO ops.toList i = some o) (hg : gd ops env o = some true) (hd : o.dst = some d) (ho : o.op = .call { callee := .value f, args := args.toArray, argTypes := ats })
    (hf : ev env f = some sf) (hsf : ∀ bs, conc bs sf = .func (.func g) #[] (caps bs).toArray) (hargs : evs env args = some svs)
    (hc : ∀ w G bs, HInv C w G bs L R → AllK C.M (hp w) Γ → Does C.P g (svs.map (conc bs) ++ caps bs).toArray w emp (Ψ w))
    (k : ∀ a w w' G v, Le G0 G → At C.fn.ntmps env bs a → HInv C w G bs L R → AllK C.M G Γ → Kp emp w w' → Ψ w v w' → SB C bs G0 L R w' ∧ (Closed ops (listed.setIfInBounds i true) → wpAnyT C.P ops (cont C st) (SB C bs G0 L R) tl fuel (listed.setIfInBounds i true) (a.put (some d) v) w')) : DX C ops tl st bs G0 (fuel + 1) listed env L R Γ := by
  intro hcl a w G hle ⟨hA, hI, hΓ⟩
  rw [getO_eq] at hi
  have hi' : ops[i]? = some o := by simpa using hi
  refine ⟨fun h => (by rw [hr] at h; cases h), fun j hj => ?_⟩
  have hcl' := hcl.set hj
  rw [hr] at hj
  obtain rfl : j = i := by simpa using hj
  unfold wpOp
  simp only [hi']
  rw [if_pos (gd_sound hA hg)]
  refine .inl ?_
  unfold Oper.wp
  obtain ⟨he, hcalls⟩ := hc w G bs hI (hΓ.mono hI.le)
  rw [exec_call he ho (by rw [ev_conc hA hf, hsf]) (evs_sound hA args svs hargs)]
  simp only [Oper.upon]
  refine hcalls.mono fun e w' ⟨v, hv, hb, hψ⟩ => ?_
  subst hv
  rw [hd]
  obtain ⟨q1, q2⟩ := k a w w' G v hle hA hI hΓ hb hψ
  exact ⟨fun _ _ => q1, q2 hcl'⟩
/-- .. whose result is one known value -/
theorem DX.callV {C : Cx} {ops : Array Oper} {tl : List Nat} {st : List It} {bs : Nat → Nat} {G0 : GH} {fuel : Nat} {listed : Array Bool} {env : Env} {L : Locs} {R : Rows} {Γ : Facts} {o : Oper} (i : Nat) {f : Operand} {args : List Operand} {ats : Array TypeId} {g : FuncId} {sf : SV} {svs : List SV} {caps : (Nat → Nat) → List Value}
    {c : Value} {Q : Prop} {d : Nat} (hit : tl.contains i = false) (hr : Region.ready .any ops listed = [i]) (hi : getO ops.toList i = some o) (hg : gd ops env o = some true) (hd : o.dst = some d) (hlt : Nat.blt d C.fn.ntmps = true) (ho : o.op = .call { callee := .value f, args := args.toArray, argTypes := ats })
    (hf : ev env f = some sf) (hsf : ∀ bs, conc bs sf = .func (.func g) #[] (caps bs).toArray) (hargs : evs env args = some svs)
    (hc : ∀ w G bs, HInv C w G bs L R → AllK C.M (hp w) Γ → Does C.P g (svs.map (conc bs) ++ caps bs).toArray w emp fun v _ => v = c ∧ Q)
    (k : Q → DX C ops tl st bs G0 fuel (listed.setIfInBounds i true) ((d, .v c) :: env) L R Γ) : DX C ops tl st bs G0 (fuel + 1) listed env L R Γ :=
  DX.callG (Ψ := fun _ v _ => v = c ∧ Q) i hit hr hi hg hd ho hf hsf hargs hc fun a w w' G v hle hA hI hΓ hb ⟨hv, hq⟩ => by
    subst hv
    have hI' := (hI.called (emp_le _) (fun _ _ h => by cases h) hb (emp_le _) (fun _ _ h => by cases h)).1
    have hle' : Le G0 (join (cut G emp) emp) := hle.trans (le_join_l (cut G emp) emp)
    exact ⟨⟨_, hle', hI'⟩, fun hcl => k hq hcl _ _ _ hle' ⟨hA.put (by simpa [Nat.blt_eq] using hlt) (.v v), hI', hΓ.mono (le_join_l (cut G emp) emp)⟩⟩
/-- .. whose result is new memory -/
theorem DX.callF {C : Cx} {ops : Array Oper} {tl : List Nat} {st : List It} {bs : Nat → Nat} {G0 : GH} {fuel : Nat} {listed : Array Bool} {env : Env} {L : Locs} {R : Rows} {Γ : Facts} {o : Oper} (i m : Nat) {f : Operand} {args : List Operand} {ats : Array TypeId} {g : FuncId} {sf : SV} {svs : List SV} {caps : (Nat → Nat) → List Value}
    {ι : Type} {val val' : ι → Value} {gs ds : ι → List MF} {Q : Prop} {d : Nat} {Γ' : ι → Facts} (hds : ∀ i h, Sep h (gs i) → All h (ds i)) (hdk : ∀ i, ∀ f ∈ ds i, f.k = .der) (hit : tl.contains i = false) (hr : Region.ready .any ops listed = [i]) (hi : getO ops.toList i = some o) (hg : gd ops env o = some true) (hd : o.dst = some d) (hlt : Nat.blt d C.fn.ntmps = true) (ho : o.op = .call { callee := .value f, args := args.toArray, argTypes := ats })
    (hf : ev env f = some sf) (hsf : ∀ bs, conc bs sf = .func (.func g) #[] (caps bs).toArray) (hargs : evs env args = some svs)
    (hc : ∀ w G bs, HInv C w G bs L R → AllK C.M (hp w) Γ → Does C.P g (svs.map (conc bs) ++ caps bs).toArray w emp (Post w emp val gs Q))
    (hv : ∀ i, normV (val i) = some (val' i)) (hΓ' : ∀ i, addF m (ds i ++ gs i) Γ = some (Γ' i))
    (k : ∀ j, Q → DX C ops tl st bs G0 fuel (listed.setIfInBounds i true) ((d, .v (val' j)) :: env) L R (Γ' j)) : DX C ops tl st bs G0 (fuel + 1) listed env L R Γ :=
  DX.callG (Ψ := fun w v w' => Post w emp val gs Q v w') i hit hr hi hg hd ho hf hsf hargs hc fun a w w' G v hle hA hI hΓ hb hv' => by
    obtain ⟨j, h, rfl, hq, hle1, hdom, hs⟩ := hv'
    rw [← normV_eq (hv j)]
    obtain ⟨hI', hdj⟩ := hI.called (emp_le _) (fun _ _ h => by cases h) hb hle1 hdom
    have hle' : Le G0 (join (cut G emp) h) := hle.trans (le_join_l (cut G emp) h)
    exact ⟨⟨_, hle', hI'⟩, fun hcl => k j hq hcl _ _ _ hle' ⟨hA.put (by simpa [Nat.blt_eq] using hlt) (.v _), hI', hΓ.after hdj (fun b o hb' => .inl ((hdom b o hb').elim (Nat.le_trans hI.keep.size) (fun h => absurd rfl h))) hs (hdk j) (hds j h hs) (hΓ' j)⟩⟩
/-- the address of element j of a slice that is read (fact ℓ, known when the region began) -/
theorem DX.idx {C : Cx} {ops : Array Oper} {tl : List Nat} {s : List It} {bs : Nat → Nat} {G0 : GH} {fuel : Nat} {listed : Array Bool} {env : Env} {L : Locs} {R : Rows} {Γ Γ0 : Facts} {o : Oper} {α : Type} [GoT α] {d : Nat} {x y : Operand} {T kk q c : Nat} {m : Int} {kd : Kd} {p : Option Addr} {l : List α} (i ℓ j : Nat) (ht : TabOk C.P C.tt) (h0 : AllK C.M G0 Γ0)
    (hb : mayB ops tl listed i = true) (hi : getO ops.toList i = some o) (hg : gd ops env o = some true) (hd : o.dst = some d) (hlt : Nat.blt d C.fn.ntmps = true) (ho : o.op = .indexAddr T x y)
    (hx : ev env x = some (.v (.slice p q c))) (hy : ev env y = some (.v (.int .i64 m))) (hk : elemO C.tt T = some kk) (hℓ : look Γ0 ℓ = some (MF.rs kd p c l)) (hq : q = l.length) (hm : m = (j : Int)) (hj : j < l.length)
    (k : ∀ ad, p = some ad → DX C ops tl s bs G0 fuel (listed.setIfInBounds i true) ((d, .e (some ad) j kk 0) :: env) L R Γ) : DX C ops tl s bs G0 (fuel + 1) listed env L R Γ := by
  obtain ⟨x', ad, rfl, _⟩ := RdSl.get (i := j) (h0.get ℓ hℓ : RdSl G0 p c l) (List.getElem?_eq_getElem hj)
  rw [getO_eq] at hi
  exact DX.take hb (by simpa using hi) hd (by simpa [Nat.blt_eq] using hlt) hg (fun _ => looks_idx ht ho hx hy hk hm (by omega)) (fun h => by cases h) (k ad rfl)
theorem DX.ldE {C : Cx} {ops : Array Oper} {tl : List Nat} {s : List It} {bs : Nat → Nat} {G0 : GH} {fuel : Nat} {listed : Array Bool} {env : Env} {L : Locs} {R : Rows} {Γ Γ0 : Facts} {o : Oper} {α : Type} [GoT α] {d : Nat} {x : Operand} {T c j off : Nat} {ti : TI} {ad : Addr} {kd : Kd} {l : List α} (i ℓ m : Nat) (a : α) {val : X α → Value} {Γ' : X α → Facts} (ht : TabOk C.P C.tt) (h0 : AllK C.M G0 Γ0)
    (hb : mayB ops tl listed i = true) (hi : getO ops.toList i = some o) (hg : gd ops env o = some true) (hd : o.dst = some d) (hlt : Nat.blt d C.fn.ntmps = true) (ho : o.op = .load T x)
    (hx : ev env x = some (.e (some ad) j (GoT.k α) off)) (hT : look C.tt T = some ti) (hℓ : look Γ0 ℓ = some (MF.rs kd (some ad) c l)) (ha : l[j]? = some a)
    (hv : ∀ x, asm ti (sh a x) off = some (val x)) (hf : ∀ x, addF m (fa .der a x) Γ = some (Γ' x))
    (k : ∀ x, DX C ops tl s bs G0 fuel (listed.setIfInBounds i true) ((d, .v (val x)) :: env) L R (Γ' x)) : DX C ops tl s bs G0 (fuel + 1) listed env L R Γ := by
  obtain ⟨x', ad', had, hfa, hc⟩ := RdSl.get (i := j) (h0.get ℓ hℓ : RdSl G0 (some ad) c l) ha
  simp at had; subst had
  rw [getO_eq] at hi
  intro hcl a' w G hle hS
  exact DX.take (Γ := Γ' x') hb (by simpa using hi) hd (by simpa [Nat.blt_eq] using hlt) hg (fun _ => looks_ldE ht ho hx hT hc (hv x')) (fun h => by cases h) (k x') hcl a' w G hle ⟨hS.1, hS.2.1, AllK.ders (hf x') (fun f hf => GoT.fak f hf) (hfa.mono hle) hS.2.2⟩
end Go.Stp
