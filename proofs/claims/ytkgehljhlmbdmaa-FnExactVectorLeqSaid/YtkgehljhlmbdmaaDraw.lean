/-
  A region whose order the model draws: its first n operations look, or call what leaves memory as it was; the others come behind them, one after the other. No condition.
-/
import Derived.Test.YtkgehljhlmbdmaaMake
import Derived.StillTail
namespace Go.Stp
open Go.RowKit (Below)
open GoT (X F k ok sh fa oa)
section
variable {P : Program} {ops : Array Oper} {Q : Exit → Act → World → Prop} {S : World → Prop} {n : Nat}
/-- whatever stands behind the first n waits for each of them -/
def waitsB (ops : Array Oper) (j i : Nat) : Bool :=
  match ops[j]? with
  | some oj => oj.after.any fun e => Region.binds .any e && e.on == i
  | none => false
def tailB (ops : Array Oper) (n : Nat) : Bool := (List.range ops.size).all fun j => decide (j < n) || (List.range n).all fun i => waitsB ops j i
theorem tailB_spec (h : tailB ops n = true) {j i : Nat} {oj : Oper} (hj : ops[j]? = some oj) (hnj : n ≤ j) (hi : i < n) : ∃ e ∈ oj.after, Region.binds .any e = true ∧ e.on = i := by
  have h1 := List.all_eq_true.1 h j (List.mem_range.2 (Array.getElem?_eq_some_iff.1 hj).1)
  simp only [Bool.or_eq_true, decide_eq_true_eq] at h1
  have h2 := List.all_eq_true.1 (h1.resolve_left (by omega)) i (List.mem_range.2 hi)
  unfold waitsB at h2
  rw [hj] at h2
  obtain ⟨e, he, hb⟩ := Array.any_eq_true'.1 h2
  simp only [Bool.and_eq_true, beq_iff_eq] at hb
  exact ⟨e, he, hb.1, hb.2⟩
def wpAnyT (P : Program) (ops : Array Oper) (Q : Exit → Act → World → Prop) (S : World → Prop) (n : Nat) : Nat → Array Bool → Act → World → Prop
  | 0, listed, a, w => Region.ready .any ops listed = [] ∧ Q .normal a w
  | fuel + 1, listed, a, w =>
    (Region.ready .any ops listed = [] → Q .normal a w) ∧
    ∀ i ∈ Region.ready .any ops listed, wpOp P ops Q i (fun a' w' => (i < n → S w') ∧ wpAnyT P ops Q S n fuel (listed.setIfInBounds i true) a' w') a w
theorem wpAny_of_T : ∀ (fuel : Nat) (listed : Array Bool) (a : Act) (w : World), wpAnyT P ops Q S n fuel listed a w → wpAny P .any ops Q fuel listed a w
  | 0, _, _, _, h => h
  | fuel + 1, _, _, _, h => ⟨h.1, fun i hi => wpOp_mono (fun a' w' h' => wpAny_of_T fuel _ a' w' h'.2) (h.2 i hi)⟩
theorem wpAnyT_first (ht : tailB ops n = true) {i : Nat} {oi : Oper} {v : Value} (hi : ops[i]? = some oi) (hin : i < n) (hsel : ∀ (j : Nat) (o : Oper) cs b, ops[j]? = some o → o.op ≠ .select cs b)
    (hQ : ∀ c a w, Q (.panic c) (a.put oi.dst v) w → Q (.panic c) a w) :
    ∀ (fuel : Nat) (listed : Array Bool) (a : Act) (w : World),
      (∀ j oj, ops[j]? = some oj → j ≠ i → listed.getD j true = false → (∀ e ∈ oj.after, Region.binds .any e = true → e.on ≠ i) → oi.apart ops oj = true) →
      i ∈ Region.ready .any ops listed → YieldsIf P ops S oi v a → S w →
      wpAnyT P ops Q S n fuel (listed.setIfInBounds i true) (a.put oi.dst v) w → wpAnyT P ops Q S n (fuel + 1) listed a w := by
  intro fuel
  induction fuel with
  | zero =>
    intro listed a w _ hr hy hS H
    refine ⟨fun h => (by rw [h] at hr; cases hr), fun j hj => ?_⟩
    by_cases hji : j = i
    · subst hji; exact hy.wpOp hi hS ⟨fun _ => hS, H⟩
    · have := ready_mono hj hji
      rw [H.1] at this
      cases this
  | succ fuel ih =>
    intro listed a w hfree hr hy hS H
    refine ⟨fun h => (by rw [h] at hr; cases hr), fun j hj => ?_⟩
    by_cases hji : j = i
    · subst hji; exact hy.wpOp hi hS ⟨fun _ => hS, H⟩
    · have h1 := H.2 j (ready_mono hj hji)
      obtain ⟨hjun, oj, hoj, hall⟩ := mem_ready.1 hj
      have hiun := (mem_ready.1 hr).1
      have hnot : ∀ e ∈ oj.after, Region.binds .any e = true → e.on ≠ i := fun e he hb heq => by
        have h1 := hall e he hb
        rw [heq] at h1
        rcases Nat.lt_or_ge i listed.size with h' | h'
        · simp [h'] at hiun h1; rw [hiun] at h1; cases h1
        · simp [Array.getElem?_eq_none h'] at h1
      have hjn : j < n := by
        rcases Nat.lt_or_ge j n with h | h
        · exact h
        · obtain ⟨e, he, hb, hon⟩ := tailB_spec ht hoj h hin
          exact absurd hon (hnot e he hb)
      have h2 := wpOp_putIf hoj (hfree j oj hoj hji hjun hnot) (fun cs b => hsel i oi cs b hi) (fun cs b => hsel j oj cs b hoj) hQ hy
        (K := fun a' w' => S w' ∧ wpAnyT P ops Q S n fuel ((listed.setIfInBounds j true).setIfInBounds i true) a' w') (by
          refine wpOp_mono (fun a' w' h3 => ?_) h1
          rw [Array.setIfInBounds_comm _ _ hji]
          exact ⟨h3.1 hjn, h3.2⟩)
      have hfree' : ∀ k ok, ops[k]? = some ok → k ≠ i → (listed.setIfInBounds j true).getD k true = false →
          (∀ e ∈ ok.after, Region.binds .any e = true → e.on ≠ i) → oi.apart ops ok = true := fun k ok hk hki hun hno => by
        refine hfree k ok hk hki ?_ hno
        by_cases hjk : j = k
        · subst hjk; exact hjun
        · rw [getD_set_ne true hjk] at hun; exact hun
      exact wpOp_mono (fun a' w' h3 => ⟨fun _ => h3.2.1, ih (listed.setIfInBounds j true) a' w' hfree' (ready_mono hr (Ne.symm hji)) h3.1 h3.2.1 h3.2.2⟩) h2
/-- behind the first n: one after the other -/
theorem wpAnyT_of_seq : ∀ (l : List Oper) (k : Nat) (listed : Array Bool) (a : Act) (w : World), n ≤ k → (∀ j, l[j]? = ops[k + j]?) →
    Region.seqB .any ops l.length k listed = true → wpList P ops Q l a w → wpAnyT P ops Q S n l.length listed a w
  | [], _, _, _, _, _, _, hB, h => ⟨by simpa [Region.seqB] using hB, h⟩
  | o :: l, k, listed, a, w, hn, hl, hB, h => by
    have h0 : ops[k]? = some o := by simpa using (hl 0).symm
    simp only [List.length_cons, Region.seqB, Bool.and_eq_true, decide_eq_true_eq] at hB
    refine ⟨fun h1 => (by rw [hB.1] at h1; cases h1), fun i hi => ?_⟩
    rw [hB.1] at hi
    have hik : i = k := by simpa using hi
    subst hik
    have hw : wpOp P ops Q i (wpList P ops Q l) a w := by unfold wpOp; simp only [h0]; exact h
    exact wpOp_mono (fun a' w' h' => ⟨fun h => absurd h (by omega), wpAnyT_of_seq l (i + 1) _ a' w' (by omega) (fun j => by have := hl (j + 1); simpa [Nat.add_assoc, Nat.add_comm 1 j] using this) hB.2 h'⟩) hw
end
/-- the worlds that a region meets -/
def SB (C : Cx) (bs : Nat → Nat) (G0 : GH) (L : Locs) (R : Rows) : World → Prop := fun w => ∃ G, Le G0 G ∧ HInv C.w0 w G bs L R
/-- the region's operations from here on, whatever order is drawn -/
def DX (C : Cx) (ops : Array Oper) (n : Nat) (s : List It) (bs : Nat → Nat) (G0 : GH) (fuel : Nat) (listed : Array Bool) (env : Env) (L : Locs) (R : Rows) (Γ : Facts) : Prop :=
  ∀ a w G, Le G0 G → SatB C env L R Γ G bs a w → wpAnyT C.P ops (cont C s) (SB C bs G0 L R) n fuel listed a w
theorem cont_panic (C : Cx) (s : List It) (c : List PanicEntry) (a : Act) (w : World) : cont C s (.panic c) a w → False := by
  induction s with
  | nil => rintro ⟨_, v, h, _⟩; cases h
  | cons x s ih => cases x <;> exact ih
theorem HInv.drew {w0 w : World} {G : GH} {bs : Nat → Nat} {L : Locs} {R : Rows} (h : HInv w0 w G bs L R) : HInv w0 { w with drawn := w.drawn + 1 } G bs L R :=
  ⟨⟨h.below.os, h.below.tape, h.below.output, h.below.size, h.below.block⟩, h.le, h.loc, h.row, h.inj, h.dis⟩
theorem WX.draw {C : Cx} {id : Nat} {ops : Array Oper} {s : List It} {env : Env} {L : Locs} {R : Rows} {Γ : Facts} (n : Nat) (hm : C.P.follows .mixedOrders = true)
    (k : ∀ bs G0, AllK G0 Γ → DX C ops n s bs G0 ops.size (Array.replicate ops.size false) env L R Γ) : WX C (.code (.region id ops true) :: s) env L R Γ := by
  rintro a w ⟨G, bs, hA, hI, hΓ⟩
  show (Code.region id ops true).wp C.P (cont C s) a w
  exact wp_region_any hm (wpAny_of_T _ _ _ _ (k bs G hΓ a _ G (Le.refl _) ⟨hA, hI.drew, hΓ⟩))
/-- number i may be taken first -/
def mayB (ops : Array Oper) (n : Nat) (listed : Array Bool) (i : Nat) : Bool :=
  Region.noSelect ops && tailB ops n && decide (i < n) && Region.free .any ops listed i && (Region.ready .any ops listed).contains i
theorem DX.take {C : Cx} {ops : Array Oper} {n : Nat} {s : List It} {bs : Nat → Nat} {G0 : GH} {fuel : Nat} {listed : Array Bool} {env : Env} {L : Locs} {R : Rows} {Γ : Facts} {i d : Nat} {o : Oper} {sv : SV} {b : Bool} (hb : mayB ops n listed i = true) (hi : ops[i]? = some o) (hd : o.dst = some d) (hlt : d < C.fn.ntmps)
    (hg : gd ops env o = some b) (hl : b = true → Looks C env L R G0 o sv) (hu : b = false → sv = .v undef)
    (k : DX C ops n s bs G0 fuel (listed.setIfInBounds i true) ((d, sv) :: env) L R Γ) : DX C ops n s bs G0 (fuel + 1) listed env L R Γ := by
  intro a w G hle ⟨hA, hI, hΓ⟩
  simp only [mayB, Bool.and_eq_true, decide_eq_true_eq] at hb
  obtain ⟨⟨⟨⟨h1, h2⟩, h3⟩, h4⟩, h5⟩ := hb
  refine wpAnyT_first h2 hi h3 (Region.noSelect_spec h1) (fun c a w h => (cont_panic C s c _ _ h).elim) fuel listed a w (Region.free_spec hi h4) (by simpa using h5) (v := conc bs sv) ?_ ⟨G, hle, hI⟩ ?_
  · cases b with
    | true => exact .inl ⟨gd_sound hA hg, fun w' ⟨G', hle', hI'⟩ => hl rfl a w' G' bs hle' hA hI'⟩
    | false => exact .inr ⟨gd_sound hA hg, by rw [hu rfl]; rfl⟩
  · rw [hd]
    exact k _ _ G hle ⟨hA.put hlt sv, hI, hΓ⟩
/-- several that are told off the lists -/
def takesB (ops : Array Oper) (n : Nat) : Array Bool → List Nat → Bool
  | _, [] => true
  | listed, i :: r => mayB ops n listed i && takesB ops n (listed.setIfInBounds i true) r
def setAll : Array Bool → List Nat → Array Bool
  | l, [] => l
  | l, i :: r => setAll (l.setIfInBounds i true) r
def takesE (tt : TT) (m : Nat) (ops : Array Oper) (L : Locs) : Env → List Nat → Option Env
  | env, [] => some env
  | env, i :: r => (match getO ops.toList i with
    | some o => (match o.dst with
      | some d => (match Nat.blt d m with
        | true => (match gd ops env o with
          | some true => (match pureS tt env L o.op with
            | some sv => takesE tt m ops L ((d, sv) :: env) r
            | none => none)
          | some false => takesE tt m ops L ((d, .v undef) :: env) r
          | none => none)
        | false => none)
      | none => none)
    | none => none)
theorem DX.takes {C : Cx} {ops : Array Oper} {n : Nat} {s : List It} {bs : Nat → Nat} {G0 : GH} {L : Locs} {R : Rows} {Γ : Facts} (ht : TabOk C.P C.tt) : ∀ (is : List Nat) {fuel : Nat} {listed : Array Bool} {env env' : Env}, takesB ops n listed is = true →
    takesE C.tt C.fn.ntmps ops L env is = some env' → DX C ops n s bs G0 fuel (setAll listed is) env' L R Γ → DX C ops n s bs G0 (fuel + is.length) listed env L R Γ
  | [], _, _, _, _, _, h, k => by simp [takesE] at h; subst h; exact k
  | i :: r, fuel, listed, env, env', hb, h, k => by
    simp only [takesB, Bool.and_eq_true] at hb
    simp only [takesE] at h
    split at h
    · rename_i o ho
      rw [getO_eq] at ho
      have ho' : ops[i]? = some o := by simpa using ho
      split at h
      · rename_i d hd
        split at h
        · rename_i hlt
          have hlt' : d < C.fn.ntmps := by simpa [Nat.blt_eq] using hlt
          split at h
          · rename_i hg
            split at h
            · rename_i sv hsv
              refine DX.take hb.1 ho' hd hlt' hg (fun _ a w G' bs' hle hA hI => pureS_sound ht hA hI hsv) (fun h => by cases h) ?_
              exact DX.takes ht r hb.2 h k
            · cases h
          · rename_i hg
            exact DX.take hb.1 ho' hd hlt' hg (fun h => by cases h) (fun _ => rfl) (DX.takes ht r hb.2 h k)
          · cases h
        · cases h
      · cases h
    · cases h
/-- all of the first n have come up; the others follow one after the other -/
theorem DX.tail {C : Cx} {ops : Array Oper} {n : Nat} {s : List It} {bs : Nat → Nat} {G0 : GH} {fuel : Nat} {listed : Array Bool} {env : Env} {L : Locs} {R : Rows} {Γ : Facts} {rest : List Oper} (hr : dropO ops.toList n = some rest) (hf : fuel = rest.length) (hs : Region.seqB .any ops fuel n listed = true)
    (k : WX C (.ops ops rest :: s) env L R Γ) : DX C ops n s bs G0 fuel listed env L R Γ := by
  intro a w G _ hS
  obtain ⟨hn, rfl⟩ := dropO_some _ _ _ hr
  subst hf
  exact wpAnyT_of_seq _ n listed a w (Nat.le_refl _) (fun j => by rw [List.getElem?_drop]; simp) hs (k a w ⟨G, bs, hS⟩)
/-- number i is the one that comes up next: a call whose result is one known value -/
theorem DX.callV {C : Cx} {ops : Array Oper} {n : Nat} {st : List It} {bs : Nat → Nat} {G0 : GH} {fuel : Nat} {listed : Array Bool} {env : Env} {L : Locs} {R : Rows} {Γ : Facts} {o : Oper} (i : Nat) {f : Operand} {args : List Operand} {ats : Array TypeId} {g : FuncId} {sf : SV} {svs : List SV} {caps : (Nat → Nat) → List Value}
    {c : Value} {d : Nat} (hr : Region.ready .any ops listed = [i]) (hi : getO ops.toList i = some o) (hg : gd ops env o = some true) (hd : o.dst = some d) (hlt : Nat.blt d C.fn.ntmps = true) (ho : o.op = .call { callee := .value f, args := args.toArray, argTypes := ats })
    (hf : ev env f = some sf) (hsf : ∀ bs, conc bs sf = .func (.func g) #[] (caps bs).toArray) (hargs : evs env args = some svs)
    (hc : ∀ w G bs, HInv C.w0 w G bs L R → AllK (hp w) Γ → Does C.P g (svs.map (conc bs) ++ caps bs).toArray w fun v _ => v = c)
    (k : DX C ops n st bs G0 fuel (listed.setIfInBounds i true) ((d, .v c) :: env) L R Γ) : DX C ops n st bs G0 (fuel + 1) listed env L R Γ := by
  intro a w G hle ⟨hA, hI, hΓ⟩
  rw [getO_eq] at hi
  have hi' : ops[i]? = some o := by simpa using hi
  refine ⟨fun h => (by rw [hr] at h; cases h), fun j hj => ?_⟩
  rw [hr] at hj
  obtain rfl : j = i := by simpa using hj
  unfold wpOp
  simp only [hi']
  rw [if_pos (gd_sound hA hg)]
  refine .inl ?_
  unfold Oper.wp
  obtain ⟨he, hcalls⟩ := hc w G bs hI (hΓ.mono hI.le)
  rw [exec_call he ho (by rw [ev_conc hA hf, hsf]) (evs_sound hA args svs hargs)]
  simp only [Oper.upon]
  refine hcalls.mono fun e w' ⟨v, hv, hb, hψ⟩ => ?_
  subst hv; subst hψ
  rw [hd]
  have hI' := hI.called hb
  have hle' : Le G0 (grow G w w') := hle.trans (le_grow hI.le)
  exact ⟨fun _ => ⟨_, hle', hI'⟩, k _ _ _ hle' ⟨hA.put (by simpa [Nat.blt_eq] using hlt) (.v v), hI', hΓ.mono (le_grow hI.le)⟩⟩
/-- .. a call whose result is new memory -/
theorem DX.callO {C : Cx} {ops : Array Oper} {n : Nat} {st : List It} {bs : Nat → Nat} {G0 : GH} {fuel : Nat} {listed : Array Bool} {env : Env} {L : Locs} {R : Rows} {Γ : Facts} {o : Oper} (i m : Nat) {f : Operand} {args : List Operand} {ats : Array TypeId} {g : FuncId} {sf : SV} {svs : List SV} {caps : (Nat → Nat) → List Value}
    {α : Type} [GoT α] {av : α} {mk : List Value → Value} {d : Nat} {cs : X α → List Value} {Γ' : X α → F α → Facts} (hr : Region.ready .any ops listed = [i]) (hi : getO ops.toList i = some o) (hg : gd ops env o = some true) (hd : o.dst = some d) (hlt : Nat.blt d C.fn.ntmps = true) (ho : o.op = .call { callee := .value f, args := args.toArray, argTypes := ats })
    (hf : ev env f = some sf) (hsf : ∀ bs, conc bs sf = .func (.func g) #[] (caps bs).toArray) (hargs : evs env args = some svs)
    (hc : ∀ w G bs, HInv C.w0 w G bs L R → AllK (hp w) Γ → Does C.P g (svs.map (conc bs) ++ caps bs).toArray w (Fr w mk av))
    (hcs : ∀ x, normL (sh av x) = some (cs x)) (hΓ' : ∀ x f, addF m (fa av x ++ oa av x f) Γ = some (Γ' x f))
    (k : ∀ x f, ok av → (fo α f).Nodup → (∀ b ∈ fo α f, C.w0.heap.size ≤ b) → Apart Γ (fo α f) → DX C ops n st bs G0 fuel (listed.setIfInBounds i true) ((d, .v (mk (cs x))) :: env) L R (Γ' x f)) : DX C ops n st bs G0 (fuel + 1) listed env L R Γ := by
  intro a w G hle ⟨hA, hI, hΓ⟩
  rw [getO_eq] at hi
  have hi' : ops[i]? = some o := by simpa using hi
  refine ⟨fun h => (by rw [hr] at h; cases h), fun j hj => ?_⟩
  rw [hr] at hj
  obtain rfl : j = i := by simpa using hj
  unfold wpOp
  simp only [hi']
  rw [if_pos (gd_sound hA hg)]
  refine .inl ?_
  unfold Oper.wp
  obtain ⟨he, hcalls⟩ := hc w G bs hI (hΓ.mono hI.le)
  rw [exec_call he ho (by rw [ev_conc hA hf, hsf]) (evs_sound hA args svs hargs)]
  simp only [Oper.upon]
  refine hcalls.mono fun e w' ⟨v, hv, hb, hψ⟩ => ?_
  subst hv
  obtain ⟨x, f', rfl, hok, hall, hnd, hnew⟩ := hψ
  rw [hd, ← normL_eq (hcs x)]
  have hI' := hI.called hb
  have hle' : Le G0 (grow G w w') := hle.trans (le_grow hI.le)
  have hΓ2 := hΓ.mono (le_grow (w' := w') hI.le)
  have hall' : All (grow G w w') (oa av x f') := GoT.ow_loc hall fun b hb' => by
    unfold grow; rw [if_neg (by have := hnew b hb'; omega)]; rfl
  have hB := hI.below.size
  refine ⟨fun _ => ⟨_, hle', hI'⟩, k x f' hok hnd (fun b hb' => by have := hnew b hb'; omega) (fun i m hm b hb' hin => ?_) _ _ _ hle' ⟨hA.put (by simpa [Nat.blt_eq] using hlt) (.v _), hI', addF_all (hΓ' x f') (All.append (GoT.ow_rd hall') hall') hΓ2⟩⟩
  obtain ⟨ob, hob⟩ := m.dom (hΓ i m hm) b hb'
  have := hI.le.lt hob
  have := hnew b hin
  omega
/-- the address of element j of a slice that is read (fact ℓ, known when the region began) -/
theorem DX.idx {C : Cx} {ops : Array Oper} {n : Nat} {s : List It} {bs : Nat → Nat} {G0 : GH} {fuel : Nat} {listed : Array Bool} {env : Env} {L : Locs} {R : Rows} {Γ Γ0 : Facts} {o : Oper} {α : Type} [GoT α] {d : Nat} {x y : Operand} {T kk q c : Nat} {m : Int} {p : Option Addr} {l : List α} (i ℓ j : Nat) (ht : TabOk C.P C.tt) (h0 : AllK G0 Γ0)
    (hb : mayB ops n listed i = true) (hi : getO ops.toList i = some o) (hg : gd ops env o = some true) (hd : o.dst = some d) (hlt : Nat.blt d C.fn.ntmps = true) (ho : o.op = .indexAddr T x y)
    (hx : ev env x = some (.v (.slice p q c))) (hy : ev env y = some (.v (.int .i64 m))) (hk : elemO C.tt T = some kk) (hℓ : look Γ0 ℓ = some (MF.rs p c l)) (hq : q = l.length) (hm : m = (j : Int)) (hj : j < l.length)
    (k : ∀ ad, p = some ad → DX C ops n s bs G0 fuel (listed.setIfInBounds i true) ((d, .e (some ad) j kk 0) :: env) L R Γ) : DX C ops n s bs G0 (fuel + 1) listed env L R Γ := by
  obtain ⟨_, x', ad, rfl, _⟩ := RdSl.get (i := j) (h0 ℓ _ hℓ : RdSl G0 p c l) (List.getElem?_eq_getElem hj)
  rw [getO_eq] at hi
  exact DX.take hb (by simpa using hi) hd (by simpa [Nat.blt_eq] using hlt) hg (fun _ => looks_idx ht ho hx hy hk hm (by omega)) (fun h => by cases h) (k ad rfl)
theorem DX.ldE {C : Cx} {ops : Array Oper} {n : Nat} {s : List It} {bs : Nat → Nat} {G0 : GH} {fuel : Nat} {listed : Array Bool} {env : Env} {L : Locs} {R : Rows} {Γ Γ0 : Facts} {o : Oper} {α : Type} [GoT α] {d : Nat} {x : Operand} {T c j off : Nat} {ti : TI} {ad : Addr} {l : List α} (i ℓ m : Nat) (a : α) {val : X α → Value} {Γ' : X α → Facts} (ht : TabOk C.P C.tt) (h0 : AllK G0 Γ0)
    (hb : mayB ops n listed i = true) (hi : getO ops.toList i = some o) (hg : gd ops env o = some true) (hd : o.dst = some d) (hlt : Nat.blt d C.fn.ntmps = true) (ho : o.op = .load T x)
    (hx : ev env x = some (.e (some ad) j (GoT.k α) off)) (hT : look C.tt T = some ti) (hℓ : look Γ0 ℓ = some (MF.rs (some ad) c l)) (ha : l[j]? = some a)
    (hv : ∀ x, asm ti (sh a x) off = some (val x)) (hf : ∀ x, addF m (fa a x) Γ = some (Γ' x))
    (k : ∀ x, ok a → DX C ops n s bs G0 fuel (listed.setIfInBounds i true) ((d, .v (val x)) :: env) L R (Γ' x)) : DX C ops n s bs G0 (fuel + 1) listed env L R Γ := by
  obtain ⟨hok, x', ad', had, hfa, hc⟩ := RdSl.get (i := j) (h0 ℓ _ hℓ : RdSl G0 (some ad) c l) ha
  simp at had; subst had
  rw [getO_eq] at hi
  intro a' w G hle hS
  exact DX.take (Γ := Γ' x') hb (by simpa using hi) hd (by simpa [Nat.blt_eq] using hlt) hg (fun _ => looks_ldE ht ho hx hT hc (hv x')) (fun h => by cases h) (k x' hok) a' w G hle ⟨hS.1, hS.2.1, addF_all (hf x') (hfa.mono hle) hS.2.2⟩
end Go.Stp
