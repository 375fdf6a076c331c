/-
  What the proof of one law needs: rules of the program logic, functions as Lean functions, contracts. No condition but what each says. Written by a program (pack.py) out of my own texts.
-/
import Derived.Test.YtolepebgdfdciaaGreatKAcceptData4
namespace Go.Stp
open GoT (X k ok sh fa oa)
def SY (C : Cx) (bs : Nat → Nat) (G0 : GH) (L0 : Locs) (R : Rows) : World → Prop := fun w => ∃ G, Le G0 G ∧ G (bs 999) = none ∧ HInv C w G bs L0 R
structure YOk (C : Cx) (bs : Nat → Nat) (L0 L : Locs) (R : Rows) : Prop where
  act : ∀ j, Acts L0 R j → bs j ≠ bs 999
  sub : ∀ j x, look L0 j = some x → look L j = some x
  lab : ∃ l, look L 999 = some l
theorem HInv.more {C : Cx} {w : World} {G : GH} {bs : Nat → Nat} {L : Locs} {R : Rows} (hI : HInv C w G bs L R) {b : Nat} {o : Obj} (hh : w.heap[b]? = some o) (ha : ∀ j, Acts L R j → bs j ≠ b) : HInv C w (join G (sgl b o)) bs L R := by
  have none : ∀ {j : Nat}, Acts L R j → G (bs j) = none → join G (sgl b o) (bs j) = none := fun {j} h hg => by
    unfold join; rw [hg]; exact sgl_ne _ (ha j h)
  refine ⟨hI.keep, join_le hI.le (sgl_le hh), fun j x hx => ?_, fun j r hr => ?_, hI.inj, hI.dis, hI.pin, hI.nr⟩
  · obtain ⟨q1, q2, q3⟩ := hI.loc j x hx
    exact ⟨q1, q2, none (.inl ⟨x, hx⟩) q3⟩
  · exact (hI.row j r hr).less fun hc hg => none (.inr ⟨r, hr, hc⟩) hg
theorem SY.keep {C : Cx} {bs : Nat → Nat} {G0 : GH} {L0 : Locs} {R : Rows} {w w' : World} (hb : Kp emp w w') (h : SY C bs G0 L0 R w) : SY C bs G0 L0 R w' := by
  obtain ⟨G, hle, hn, hI⟩ := h
  refine ⟨join (cut G emp) emp, hle.trans (le_join_l (cut G emp) emp), ?_, (hI.called (emp_le _) (fun _ _ h => by cases h) hb (emp_le _) (fun _ _ h => by cases h)).1⟩
  unfold join
  rw [cut_none' hn]
  rfl
theorem SY.cur {C : Cx} {bs : Nat → Nat} {G0 : GH} {L0 : Locs} {R : Rows} {w w' : World} {b : Nat} {o : Obj} (ha : ∀ j, Acts L0 R j → bs j ≠ bs 999) (hb : bs 999 = b) (hM : C.M b) (hh : w.heap[b]? = some o) (hk : Kp (sgl b o) w w') (h : SY C bs G0 L0 R w) : SY C bs G0 L0 R w' := by
  subst hb
  obtain ⟨G, hle, hn, hI⟩ := h
  have h1 := ((hI.more hh ha).called (Hc := sgl (bs 999) o) (h := emp) (le_join_r (sgl_dj hn).symm) (fun b q hx => by
    by_cases hbb : b = bs 999
    · subst hbb; exact hM
    · rw [sgl_ne _ hbb] at hx; cases hx) hk (emp_le _) (fun _ _ h => by cases h)).1
  refine ⟨_, hle.trans ((le_cut (le_join_l _ _) (sgl_dj hn).symm).trans (le_join_l _ _)), ?_, h1⟩
  unfold join
  rw [cut_some' (sgl_self _ _)]
  rfl
theorem SY.of {C : Cx} {bs : Nat → Nat} {G G0 : GH} {L0 L : Locs} {R : Rows} {w : World} (hy : YOk C bs L0 L R) (hle : Le G0 G) (hI : HInv C w G bs L R) : SY C bs G0 L0 R w := by
  obtain ⟨l, hl⟩ := hy.lab
  exact ⟨G, hle, (hI.loc 999 l hl).2.2, hI.sub hy.sub (Sub.refl _)⟩
def DY (C : Cx) (ops : Array Oper) (tl : List Nat) (s : List It) (bs : Nat → Nat) (G0 : GH) (L0 : Locs) (fuel : Nat) (listed : Array Bool) (env : Env) (L : Locs) (R : Rows) (Γ : Facts) : Prop :=
  YOk C bs L0 L R → Closed ops listed → ∀ a w G, Le G0 G → SatB C env L R Γ G bs a w → wpAnyT C.P ops (cont C s) (SY C bs G0 L0 R) tl fuel listed a w
theorem DY.take {C : Cx} {ops : Array Oper} {tl : List Nat} {s : List It} {bs : Nat → Nat} {G0 : GH} {L0 : Locs} {fuel : Nat} {listed : Array Bool} {env : Env} {L : Locs} {R : Rows} {Γ : Facts} {i d : Nat} {o : Oper} {sv : SV} {b : Bool} (hb : mayB ops tl listed i = true) (hi : ops[i]? = some o) (hd : o.dst = some d) (hlt : d < C.fn.ntmps)
    (hg : gd ops env o = some b) (hl : b = true → Looks C env L0 R G0 o sv) (hu : b = false → sv = .v undef)
    (k : DY C ops tl s bs G0 L0 fuel (listed.setIfInBounds i true) ((d, sv) :: env) L R Γ) : DY C ops tl s bs G0 L0 (fuel + 1) listed env L R Γ := by
  intro hy hcl a w G hle ⟨hA, hI, hΓ⟩
  simp only [mayB, mayP, Bool.and_eq_true, Bool.not_eq_true', List.all_eq_true, Bool.or_eq_true] at hb
  obtain ⟨⟨⟨⟨h1, h4⟩, h5⟩, h3⟩, h6⟩ := hb
  have hr : i ∈ Region.ready .any ops listed := by simpa using h5
  refine wpAnyT_first hi h3 (Region.noSelect_spec h1) (fun c a w h => (cont_panic C s c _ _ h).elim) fuel listed a w hcl (fun j hj hun => (h6 j hj).resolve_left (by rw [hun]; simp)) (Region.free_spec hi h4) hr (v := conc bs sv) ?_ (SY.of hy hle hI) ?_
  · cases b with
    | true => exact .inl ⟨gd_sound hA hg, fun w' ⟨G', hle', _, hI'⟩ => hl rfl a w' G' bs hle' hA hI'⟩
    | false => exact .inr ⟨gd_sound hA hg, by rw [hu rfl]; rfl⟩
  · rw [hd]
    exact k hy (hcl.set hr) _ _ G hle ⟨hA.put hlt sv, hI, hΓ⟩
theorem DY.takeP {C : Cx} {ops : Array Oper} {tl : List Nat} {s : List It} {bs : Nat → Nat} {G0 : GH} {L0 : Locs} {fuel : Nat} {listed : Array Bool} {env : Env} {L : Locs} {R : Rows} {Γ : Facts} {i d : Nat} {o : Oper} {sv : SV} {b : Bool} (hb : mayP ops listed i = true) (hi : ops[i]? = some o) (hd : o.dst = some d) (hlt : d < C.fn.ntmps)
    (hg : gd ops env o = some b) (hl : b = true → ∀ a w bs, At C.fn.ntmps env bs a → (execOp a.eval o).run C.P w = .ok (.value (conc bs sv)) w) (hu : b = false → sv = .v undef)
    (k : DY C ops tl s bs G0 L0 fuel (listed.setIfInBounds i true) ((d, sv) :: env) L R Γ) : DY C ops tl s bs G0 L0 (fuel + 1) listed env L R Γ := by
  intro hy hcl a w G hle ⟨hA, hI, hΓ⟩
  simp only [mayP, Bool.and_eq_true] at hb
  obtain ⟨⟨h1, h4⟩, h5⟩ := hb
  have hr : i ∈ Region.ready .any ops listed := by simpa using h5
  refine wpAnyT_firstP hi (Region.noSelect_spec h1) (fun c a w h => (cont_panic C s c _ _ h).elim) fuel listed a w (Region.free_spec hi h4) hr (v := conc bs sv) ?_ ?_
  · cases b with
    | true => exact .inl ⟨gd_sound hA hg, fun w' _ => hl rfl a w' bs hA⟩
    | false => exact .inr ⟨gd_sound hA hg, by rw [hu rfl]; rfl⟩
  · rw [hd]
    exact k hy (hcl.set hr) _ _ G hle ⟨hA.put hlt sv, hI, hΓ⟩
theorem DY.takes {C : Cx} {ops : Array Oper} {tl : List Nat} {s : List It} {bs : Nat → Nat} {G0 : GH} {L0 : Locs} {L : Locs} {R : Rows} {Γ : Facts} (ht : TabOk C.P C.tt) : ∀ (is : List (Nat × Bool)) {fuel : Nat} {listed : Array Bool} {env env' : Env}, takesB ops tl listed is = true →
    takesE C.tt C.fn.ntmps ops L0 env is = some env' → DY C ops tl s bs G0 L0 fuel (setAll listed is) env' L R Γ → DY C ops tl s bs G0 L0 (fuel + is.length) listed env L R Γ
  | [], _, _, _, _, _, h, k => by simp [takesE] at h; subst h; exact k
  | (i, p) :: r, fuel, listed, env, env', hb, h, k => by
    simp only [takesB, Bool.and_eq_true] at hb
    simp only [takesE] at h
    split at h
    · rename_i o ho
      rw [getO_eq] at ho
      have ho' : ops[i]? = some o := by simpa using ho
      split at h
      · rename_i d hd
        split at h
        · rename_i hlt
          have hlt' : d < C.fn.ntmps := by simpa [Nat.blt_eq] using hlt
          split at h
          · rename_i hg
            split at h
            · rename_i sv hsv
              cases p with
              | true => exact DY.takeP hb.1 ho' hd hlt' hg (fun _ a w bs' hA => pureS_any ht w hA hsv) (fun h => by cases h) (DY.takes ht r hb.2 h k)
              | false => exact DY.take hb.1 ho' hd hlt' hg (fun _ a w G' bs' hle hA hI => pureS_sound ht hA hI hsv) (fun h => by cases h) (DY.takes ht r hb.2 h k)
            · cases h
          · rename_i hg
            cases p with
            | true => exact DY.takeP hb.1 ho' hd hlt' hg (fun h => by cases h) (fun _ => rfl) (DY.takes ht r hb.2 h k)
            | false => exact DY.take hb.1 ho' hd hlt' hg (fun h => by cases h) (fun _ => rfl) (DY.takes ht r hb.2 h k)
          · cases h
        · cases h
      · cases h
    · cases h
def CurK (C : Cx) (S : World → Prop) : Prop := ∀ b w w' o, C.pin = some b → C.M b → w.heap[b]? = some o → Kp (sgl b o) w w' → S w → S w'
theorem DY.toTX {C : Cx} {ops : Array Oper} {tl : List Nat} {s : List It} {bs : Nat → Nat} {G0 : GH} {L0 : Locs} {fuel : Nat} {listed : Array Bool} {env : Env} {L : Locs} {R : Rows} {Γ : Facts} (k : ∀ S, CurK C S → TX C ops tl s S fuel listed env L R Γ) : DY C ops tl s bs G0 L0 fuel listed env L R Γ :=
  fun hy _ a w G _ hS => k _ (fun b _ _ _ hp hM hh hk h => h.cur hy.act (hS.2.1.pin b hp) hM hh hk) (fun _ _ hb h => h.keep hb) a w ⟨G, bs, hS⟩
theorem TX.takeP {C : Cx} {ops : Array Oper} {tl : List Nat} {s : List It} {S : World → Prop} {fuel : Nat} {listed : Array Bool} {env : Env} {L : Locs} {R : Rows} {Γ : Facts} {i d : Nat} {o : Oper} {sv : SV} {b : Bool} (hb : mayP ops listed i = true) (hi : ops[i]? = some o) (hd : o.dst = some d) (hlt : d < C.fn.ntmps)
    (hg : gd ops env o = some b) (hl : b = true → ∀ a w bs, At C.fn.ntmps env bs a → (execOp a.eval o).run C.P w = .ok (.value (conc bs sv)) w) (hu : b = false → sv = .v undef)
    (k : TX C ops tl s S fuel (listed.setIfInBounds i true) ((d, sv) :: env) L R Γ) : TX C ops tl s S (fuel + 1) listed env L R Γ := by
  intro hS a w ⟨G, bs, hA, hI, hΓ⟩
  simp only [mayP, Bool.and_eq_true] at hb
  obtain ⟨⟨h1, h4⟩, h5⟩ := hb
  have hr : i ∈ Region.ready .any ops listed := by simpa using h5
  refine wpAnyT_firstP hi (Region.noSelect_spec h1) (fun c a w h => (cont_panic C s c _ _ h).elim) fuel listed a w (Region.free_spec hi h4) hr (v := conc bs sv) ?_ ?_
  · cases b with
    | true => exact .inl ⟨gd_sound hA hg, fun w' _ => hl rfl a w' bs hA⟩
    | false => exact .inr ⟨gd_sound hA hg, by rw [hu rfl]; rfl⟩
  · rw [hd]
    exact k hS _ _ ⟨G, bs, hA.put hlt sv, hI, hΓ⟩
theorem TX.takes {C : Cx} {ops : Array Oper} {tl : List Nat} {s : List It} {S : World → Prop} {L : Locs} {R : Rows} {Γ : Facts} (ht : TabOk C.P C.tt) : ∀ (is : List Nat) {fuel : Nat} {listed : Array Bool} {env env' : Env}, takesB ops tl listed (is.map fun i => (i, true)) = true →
    takesE C.tt C.fn.ntmps ops [] env (is.map fun i => (i, true)) = some env' → TX C ops tl s S fuel (setAll listed (is.map fun i => (i, true))) env' L R Γ → TX C ops tl s S (fuel + is.length) listed env L R Γ
  | [], _, _, _, _, _, h, k => by simp [takesE] at h; subst h; exact k
  | i :: r, fuel, listed, env, env', hb, h, k => by
    simp only [List.map_cons, takesB, Bool.and_eq_true] at hb
    simp only [List.map_cons, takesE] at h
    split at h
    · rename_i o ho
      rw [getO_eq] at ho
      have ho' : ops[i]? = some o := by simpa using ho
      split at h
      · rename_i d hd
        split at h
        · rename_i hlt
          have hlt' : d < C.fn.ntmps := by simpa [Nat.blt_eq] using hlt
          split at h
          · rename_i hg
            split at h
            · rename_i sv hsv
              exact TX.takeP hb.1 ho' hd hlt' hg (fun _ a w bs' hA => pureS_any ht w hA hsv) (fun h => by cases h) (TX.takes ht r hb.2 h k)
            · cases h
          · rename_i hg
            exact TX.takeP hb.1 ho' hd hlt' hg (fun h => by cases h) (fun _ => rfl) (TX.takes ht r hb.2 h k)
          · cases h
        · cases h
      · cases h
    · cases h
theorem TS.peek {C : Cx} {ops : Array Oper} {tl : List Nat} {s : List It} {S : World → Prop} {fuel : Nat} {listed : Array Bool} {env : Env} {L : Locs} {R : Rows} {Γ : Facts} {d : Nat} {o : Oper} (i : Nat) (hi : getO ops.toList i = some o) (hg : gd ops env o = some true) (hd : o.dst = some d) (hlt : Nat.blt d C.fn.ntmps = true)
    (k : ∀ G, AllK C.M G Γ → ∃ sv Γ', Looks C env L R G o sv ∧ (AllK C.M G Γ → AllK C.M G Γ') ∧ TX C ops tl s S fuel (listed.setIfInBounds i true) ((d, sv) :: env) L R Γ') : TS C ops tl s S fuel listed env L R Γ i := by
  intro hS a w ⟨G, bs, hA, hI, hΓ⟩
  obtain ⟨sv, Γ', hl, hΓ', hk⟩ := k G hΓ
  rw [getO_eq] at hi
  have hi' : ops[i]? = some o := by simpa using hi
  unfold wpOp
  simp only [hi']
  rw [if_pos (gd_sound hA hg)]
  refine .inl ?_
  unfold Oper.wp
  rw [hl a w G bs (Le.refl _) hA hI]
  simp only [Oper.upon, hd]
  exact ⟨fun _ h => h, hk hS _ _ ⟨G, bs, hA.put (by simpa [Nat.blt_eq] using hlt) sv, hI, hΓ' hΓ⟩⟩
theorem TS.see {C : Cx} {ops : Array Oper} {tl : List Nat} {s : List It} {S : World → Prop} {fuel : Nat} {listed : Array Bool} {env : Env} {L : Locs} {R : Rows} {Γ : Facts} {d : Nat} {o : Oper} {sv : SV} (i : Nat) (hi : getO ops.toList i = some o) (hg : gd ops env o = some true) (hd : o.dst = some d) (hlt : Nat.blt d C.fn.ntmps = true)
    (hl : ∀ G, AllK C.M G Γ → Looks C env L R G o sv) (k : TX C ops tl s S fuel (listed.setIfInBounds i true) ((d, sv) :: env) L R Γ) : TS C ops tl s S fuel listed env L R Γ i :=
  TS.peek i hi hg hd hlt fun G hΓ => ⟨sv, Γ, hl G hΓ, fun h => h, k⟩
end Go.Stp

namespace Go.Stp
open GoT (X k ok sh fa oa)
structure PI where
  j : Nat
  d : Nat
  obj : Obj
  val : Nat → Value
  env : Env := []
def PIok (C : Cx) (ops : Array Oper) (it : PI) : Prop :=
  ∃ o, ops[it.j]? = some o ∧ gd ops [] o = some true ∧ o.dst = some it.d ∧ it.d < C.fn.ntmps ∧ ∀ (a : Act) (w : World) (bs : Nat → Nat), At C.fn.ntmps it.env bs a → (execOp a.eval o).run C.P w = .ok (.value (it.val w.heap.size)) (w.alloc it.obj)
structure POk (C : Cx) (ops : Array Oper) (listed : Array Bool) (env : Env) (P : List PI) : Prop where
  ok : ∀ it ∈ P, PIok C ops it
  free : ∀ it ∈ P, look env it.d = none
  sub : ∀ it ∈ P, Sub it.env env
  rdy : ∀ it ∈ P, readyAt ops listed it.j = true
  dis : P.Pairwise (fun x y => x.j ≠ y.j ∧ x.d ≠ y.d)
def doneL (listed : Array Bool) (D : Nat → Option Nat) : List PI → Array Bool
  | [] => listed
  | it :: P => match D it.j with
    | some _ => (doneL listed D P).setIfInBounds it.j true
    | none => doneL listed D P
def left (D : Nat → Option Nat) : List PI → Nat
  | [] => 0
  | it :: P => match D it.j with
    | some _ => left D P
    | none => left D P + 1
def upd (D : Nat → Option Nat) (j b : Nat) : Nat → Option Nat := fun i => if i = j then some b else D i
theorem set_getD_true {l : Array Bool} {i : Nat} : (l.setIfInBounds i true).getD i true = true := by
  rw [Array.getD_eq_getD_getElem?]
  by_cases h : i < l.size
  · simp [h]
  · rw [Array.getElem?_eq_none (by simp; omega)]; rfl
theorem doneL_un {listed : Array Bool} {D : Nat → Option Nat} {i : Nat} : ∀ {P : List PI}, (doneL listed D P).getD i true = false → listed.getD i true = false ∧ ∀ it ∈ P, it.j = i → D i = none
  | [], h => ⟨h, fun _ h => by cases h⟩
  | it :: P, h => by
    unfold doneL at h
    split at h
    · rename_i b hb
      by_cases hi : it.j = i
      · subst hi; rw [set_getD_true] at h; cases h
      · rw [getD_set_ne true hi] at h
        obtain ⟨h1, h2⟩ := doneL_un h
        exact ⟨h1, fun x hx he => (List.mem_cons.1 hx).elim (fun e => by subst e; exact absurd he hi) (fun hx => h2 x hx he)⟩
    · rename_i hb
      obtain ⟨h1, h2⟩ := doneL_un h
      exact ⟨h1, fun x hx he => (List.mem_cons.1 hx).elim (fun e => by subst e; rw [← he]; exact hb) (fun hx => h2 x hx he)⟩
theorem doneL_mono {listed : Array Bool} {D : Nat → Option Nat} {i : Nat} (h : listed.getD i false = true) : ∀ {P : List PI}, (doneL listed D P).getD i false = true
  | [] => h
  | it :: P => by
    unfold doneL
    split
    · exact getD_set_true (doneL_mono h)
    · exact doneL_mono h
theorem doneL_ne {listed : Array Bool} {D : Nat → Option Nat} {i : Nat} (x : Bool) : ∀ {P : List PI}, (∀ it ∈ P, it.j ≠ i) → (doneL listed D P).getD i x = listed.getD i x
  | [], _ => rfl
  | it :: P, h => by
    unfold doneL
    split
    · rw [getD_set_ne x (h it List.mem_cons_self)]; exact doneL_ne x fun y hy => h y (List.mem_cons_of_mem _ hy)
    · exact doneL_ne x fun y hy => h y (List.mem_cons_of_mem _ hy)
theorem doneL_set {listed : Array Bool} {D : Nat → Option Nat} {y : Nat} : ∀ {P : List PI}, (∀ it ∈ P, it.j ≠ y) → doneL (listed.setIfInBounds y true) D P = (doneL listed D P).setIfInBounds y true
  | [], _ => rfl
  | it :: P, h => by
    unfold doneL
    split
    · rw [doneL_set fun x hx => h x (List.mem_cons_of_mem _ hx)]; exact Array.setIfInBounds_comm _ _ (Ne.symm (h it List.mem_cons_self))
    · exact doneL_set fun x hx => h x (List.mem_cons_of_mem _ hx)
theorem doneL_congr {listed : Array Bool} {D D' : Nat → Option Nat} : ∀ {P : List PI}, (∀ it ∈ P, D' it.j = D it.j) → doneL listed D' P = doneL listed D P ∧ left D' P = left D P
  | [], _ => ⟨rfl, rfl⟩
  | it :: P, h => by
    obtain ⟨h1, h2⟩ := doneL_congr (listed := listed) (P := P) fun x hx => h x (List.mem_cons_of_mem _ hx)
    unfold doneL left
    rw [h it List.mem_cons_self, h1, h2]
    exact ⟨rfl, rfl⟩
theorem doneL_upd {listed : Array Bool} {D : Nat → Option Nat} {it : PI} {b : Nat} (hD : D it.j = none) : ∀ {P : List PI}, P.Pairwise (fun x y => x.j ≠ y.j ∧ x.d ≠ y.d) → it ∈ P → doneL listed (upd D it.j b) P = (doneL listed D P).setIfInBounds it.j true ∧ left D P = left (upd D it.j b) P + 1
  | [], _, h => by cases h
  | x :: P, hd, h => by
    rw [List.pairwise_cons] at hd
    rcases List.mem_cons.1 h with rfl | h
    · obtain ⟨h1, h2⟩ := doneL_congr (listed := listed) (D := D) (D' := upd D it.j b) (P := P) fun y hy => if_neg (Ne.symm (hd.1 y hy).1)
      unfold doneL left
      have h3 : upd D it.j b it.j = some b := if_pos rfl
      rw [h3, hD, h1, h2]
      exact ⟨rfl, rfl⟩
    · obtain ⟨h1, h2⟩ := doneL_upd (listed := listed) hD hd.2 h
      have h3 : upd D it.j b x.j = D x.j := if_neg (hd.1 it h).1
      unfold doneL left
      rw [h3, h1]
      cases D x.j with
      | none => dsimp only; exact ⟨rfl, by omega⟩
      | some q => dsimp only; exact ⟨Array.setIfInBounds_comm _ _ (Ne.symm (hd.1 it h).1), h2⟩
def blockB (ops : Array Oper) (listed : Array Bool) (P : List PI) (i : Nat) : Bool :=
  match ops[i]? with
  | some o => o.after.any fun e => Region.binds .any e && !listed.getD e.on false && P.all fun it => !Nat.beq it.j e.on
  | none => true
def nextB (ops : Array Oper) (listed : Array Bool) (P P' : List PI) (y : Nat) : Bool :=
  (List.range ops.size).all fun i => Nat.beq i y || listed.getD i true || (P.any fun it => Nat.beq it.j i) || blockB ops listed P' i
theorem next_spec {ops : Array Oper} {listed : Array Bool} {D : Nat → Option Nat} {P P' : List PI} {y i : Nat} (hn : nextB ops listed P P' y = true) (hD : doneL listed D P = doneL listed D P') (hr : i ∈ Region.ready .any ops (doneL listed D P)) : i = y ∨ ∃ it ∈ P, it.j = i ∧ D it.j = none := by
  obtain ⟨hun, o, ho, hall⟩ := mem_ready.1 hr
  obtain ⟨u1, u2⟩ := doneL_un hun
  have h1 := List.all_eq_true.1 hn i (List.mem_range.2 (Array.getElem?_eq_some_iff.1 ho).1)
  simp only [Bool.or_eq_true] at h1
  rcases h1 with ((h1 | h1) | h1) | h1
  · exact .inl (Nat.eq_of_beq_eq_true h1)
  · rw [u1] at h1; cases h1
  · obtain ⟨it, hit, he⟩ := List.any_eq_true.1 h1
    have he' := Nat.eq_of_beq_eq_true he
    exact .inr ⟨it, hit, he', by rw [he']; exact u2 it hit he'⟩
  · exfalso
    unfold blockB at h1
    rw [ho] at h1
    obtain ⟨e, he, hb⟩ := Array.any_eq_true'.1 h1
    simp only [Bool.and_eq_true, Bool.not_eq_true', List.all_eq_true] at hb
    have h2 := hall e he hb.1.1
    rw [hD, doneL_ne false fun it hit h => by have := hb.2 it hit; rw [h] at this; simp at this] at h2
    rw [hb.1.2] at h2; cases h2
theorem ready_mem {ops : Array Oper} {listed : Array Bool} {D : Nat → Option Nat} {P : List PI} {y : Nat} (hy : readyAt ops listed y = true) (hP : ∀ it ∈ P, it.j = y → D it.j = none) : y ∈ Region.ready .any ops (doneL listed D P) := by
  have h := hy
  unfold readyAt at h
  cases ho : ops[y]? with
  | none => simp [ho] at h
  | some o =>
    simp only [ho, Bool.and_eq_true, Bool.not_eq_true'] at h
    refine mem_ready.2 ⟨?_, o, ho, fun e he hb => ?_⟩
    · have key : ∀ {P : List PI}, (∀ it ∈ P, it.j = y → D it.j = none) → (doneL listed D P).getD y true = listed.getD y true := by
        intro P
        induction P with
        | nil => exact fun _ => rfl
        | cons it P ih =>
          intro hP
          have ih := ih fun x hx => hP x (List.mem_cons_of_mem _ hx)
          unfold doneL
          split
          · rename_i b hb
            by_cases he : it.j = y
            · rw [hP it List.mem_cons_self he] at hb; cases hb
            · rw [getD_set_ne true he]; exact ih
          · exact ih
      rw [key hP]; exact h.1
    · have h2 := Array.all_eq_true_iff_forall_mem.1 h.2 e he
      simp only [hb, Bool.not_true, Bool.false_or] at h2
      exact doneL_mono h2
theorem pw_uniq {α : Type} {R : α → α → Prop} (hs : ∀ x y, R x y → R y x) : ∀ {l : List α}, l.Pairwise R → ∀ x ∈ l, ∀ y ∈ l, x = y ∨ R x y
  | [], _, x, hx, _, _ => by cases hx
  | z :: l, h, x, hx, y, hy => by
    rw [List.pairwise_cons] at h
    rcases List.mem_cons.1 hx with e1 | h1 <;> rcases List.mem_cons.1 hy with e2 | h2
    · exact .inl (e1.trans e2.symm)
    · exact .inr (e1 ▸ h.1 y h2)
    · exact .inr (hs _ _ (e2 ▸ h.1 x h1))
    · exact pw_uniq hs h.2 x h1 y h2
theorem setV_ne {l : Array Value} {i j : Nat} {v x : Value} (h : i ≠ j) : (l.setIfInBounds i v).getD j x = l.getD j x := by simp [Array.getD_eq_getD_getElem?, h]
def Fr (C : Cx) (w : World) (G : GH) (bs : Nat → Nat) (L : Locs) (R : Rows) (a : Act) (D : Nat → Option Nat) (P : List PI) : Prop :=
  ∀ it ∈ P, ∀ b, D it.j = some b → a.tmps.getD it.d undef = it.val b ∧ w.heap[b]? = some it.obj ∧ C.w0.heap.size ≤ b ∧ G b = none ∧ (∀ i, Acts L R i → bs i ≠ b) ∧ (∀ it' ∈ P, ∀ b', D it'.j = some b' → it'.j ≠ it.j → b' ≠ b)
def SatD (C : Cx) (env : Env) (L : Locs) (R : Rows) (Γ : Facts) (a : Act) (w : World) (D : Nat → Option Nat) (P : List PI) : Prop :=
  ∃ G bs, At C.fn.ntmps env bs a ∧ HInv C w G bs L R ∧ AllK C.M G Γ ∧ Fr C w G bs L R a D P
def TXP (C : Cx) (ops : Array Oper) (tl : List Nat) (s : List It) (S : World → Prop) (P : List PI) (fuel : Nat) (listed : Array Bool) (env : Env) (L : Locs) (R : Rows) (Γ : Facts) : Prop :=
  (∀ w w', Kp emp w w' → S w → S w') → POk C ops listed env P → ∀ D a w, SatD C env L R Γ a w D P → wpAnyT C.P ops (cont C s) S tl (fuel + left D P) (doneL listed D P) a w
theorem Fr.keep {C : Cx} {w w' : World} {G G' Hc : GH} {bs : Nat → Nat} {L L' : Locs} {R : Rows} {a : Act} {D : Nat → Option Nat} {P : List PI} {d : Nat} {v : Value} (h : Fr C w G bs L R a D P) (hb : Kp Hc w w') (hc : ∀ b, G b = none → (∀ i, Acts L R i → bs i ≠ b) → Hc b = none) (hG : ∀ b, G b = none → b < w.heap.size → (∀ i, Acts L R i → bs i ≠ b) → G' b = none) (hL : ∀ i, Acts L' R i → Acts L R i) (hd : ∀ it ∈ P, it.d ≠ d) : Fr C w' G' bs L' R (a.put (some d) v) D P := by
  intro it hit b hD
  obtain ⟨h1, h2, h3, h4, h5, h6⟩ := h it hit b hD
  have hlt : b < w.heap.size := (Array.getElem?_eq_some_iff.1 h2).1
  refine ⟨?_, ?_, h3, hG b h4 hlt h5, fun i hi => h5 i (hL i hi), h6⟩
  · show (a.tmps.setIfInBounds d v).getD it.d undef = _
    rw [setV_ne (Ne.symm (hd it hit))]; exact h1
  · rw [hb.block b hlt (hc b h4 h5)]; exact h2
theorem it_step {C : Cx} {ops : Array Oper} {listed : Array Bool} {env : Env} {L : Locs} {R : Rows} {Γ : Facts} {P : List PI} {it : PI} {D : Nat → Option Nat} {Q : Exit → Act → World → Prop} {a : Act} {w : World} (hP : POk C ops listed env P) (hit : it ∈ P) (hS : SatD C env L R Γ a w D P) :
    wpOp C.P ops Q it.j (fun a' w' => Kp emp w w' ∧ ∃ b, SatD C env L R Γ a' w' (upd D it.j b) P) a w := by
  obtain ⟨G, bs, hA, hI, hΓ, hF⟩ := hS
  obtain ⟨o, ho, hg, hd, hlt, hx⟩ := hP.ok it hit
  unfold wpOp
  simp only [ho]
  rw [if_pos (gd_sound (env := []) (bs := bs) ⟨hA.size, hA.dfr, fun _ _ h => by simp [look] at h⟩ hg)]
  refine .inl ?_
  unfold Oper.wp
  rw [hx a w bs ⟨hA.size, hA.dfr, fun d s h => hA.slot d s (hP.sub it hit d s h)⟩]
  simp only [Oper.upon, hd]
  have hk : Kp emp w (w.alloc it.obj) := (Kp.refl emp w).alloc _
  refine ⟨hk, w.heap.size, join (cut G emp) emp, bs, ⟨?_, hA.dfr, fun e x hex => ?_⟩, (hI.called (emp_le _) (fun _ _ h => by cases h) hk (emp_le _) (fun _ _ h => by cases h)).1, hΓ.mono (le_join_l (cut G emp) emp), ?_⟩
  · show (a.tmps.setIfInBounds _ _).size = _
    rw [Array.size_setIfInBounds]; exact hA.size
  · show (a.tmps.setIfInBounds it.d _).getD e undef = _
    have hne : it.d ≠ e := fun h => by subst h; rw [hP.free it hit] at hex; cases hex
    rw [setV_ne hne]; exact hA.slot e x hex
  · have hGn : ∀ b, G b = none → join (cut G emp) emp b = none := fun b h => by unfold join; rw [cut_none' h]; rfl
    have hlt' : ∀ i, Acts L R i → bs i < w.heap.size := by
      intro i h
      rcases h with ⟨x, hx⟩ | ⟨r, hr, hc⟩
      · exact (Array.getElem?_eq_some_iff.1 (hI.loc i x hx).1).1
      · rcases (hI.row i r hr).2 with ⟨h0, _⟩ | ⟨_, _, _, _, _, _, cur, T, hh, _⟩
        · exact absurd h0 hc
        · exact (Array.getElem?_eq_some_iff.1 hh).1
    have hGs : G w.heap.size = none := by
      cases hg' : G w.heap.size with
      | none => rfl
      | some q => have := hI.le.lt hg'; omega
    intro x hx b hb
    by_cases hj : x.j = it.j
    · have hxi : x = it := (pw_uniq (fun _ _ h => ⟨Ne.symm h.1, Ne.symm h.2⟩) hP.dis x hx it hit).resolve_right fun h => h.1 hj
      subst hxi
      have hb' : w.heap.size = b := by
        have : upd D x.j w.heap.size x.j = some w.heap.size := if_pos rfl
        rw [this] at hb; injection hb
      subst hb'
      refine ⟨?_, heap_alloc_new w _, hI.keep.size, hGn _ hGs, fun i hi => Nat.ne_of_lt (hlt' i hi), fun y hy b' hb' hne => ?_⟩
      · show (a.tmps.setIfInBounds x.d _).getD x.d undef = _
        rw [Array.getD_eq_getD_getElem?]
        simp [hA.size, hlt]
      · have h2 : upd D x.j w.heap.size y.j = D y.j := if_neg hne
        rw [h2] at hb'
        have := (Array.getElem?_eq_some_iff.1 (hF y hy b' hb').2.1).1
        omega
    · have h2 : upd D it.j w.heap.size x.j = D x.j := if_neg hj
      rw [h2] at hb
      obtain ⟨q1, q2, q3, q4, q5, q6⟩ := hF x hx b hb
      have hlt2 : b < w.heap.size := (Array.getElem?_eq_some_iff.1 q2).1
      have hxd : it.d ≠ x.d := fun h => (pw_uniq (fun _ _ h => ⟨Ne.symm h.1, Ne.symm h.2⟩) hP.dis x hx it hit).elim (fun e => hj (by rw [e])) (fun e => e.2 h.symm)
      refine ⟨?_, by rw [hk.block b hlt2 rfl]; exact q2, q3, hGn _ q4, q5, fun y hy b' hb' hne => ?_⟩
      · show (a.tmps.setIfInBounds it.d _).getD x.d undef = _
        rw [setV_ne hxd]; exact q1
      · by_cases hyj : y.j = it.j
        · have : upd D it.j w.heap.size y.j = some w.heap.size := if_pos hyj
          rw [this] at hb'
          injection hb' with hb'
          omega
        · have h3 : upd D it.j w.heap.size y.j = D y.j := if_neg hyj
          rw [h3] at hb'
          exact q6 y hy b' hb' hne
theorem TXP.core {C : Cx} {ops : Array Oper} {tl : List Nat} {s : List It} {S : World → Prop} {P : List PI} {fuel y : Nat} {listed : Array Bool} {env : Env} {L : Locs} {R : Rows} {Γ : Facts} (hS : ∀ w w', Kp emp w w' → S w → S w') (hP : POk C ops listed env P) (ok : (Nat → Option Nat) → Prop)
    (hn : ∀ D, ok D → ∀ i ∈ Region.ready .any ops (doneL listed D P), i = y ∨ ∃ it ∈ P, it.j = i ∧ D it.j = none) (hne : ∀ D, ok D → Region.ready .any ops (doneL listed D P) ≠ [])
    (stop : ∀ D a w, ¬ ok D → SatD C env L R Γ a w D P → wpAnyT C.P ops (cont C s) S tl (fuel + left D P) (doneL listed D P) a w)
    (step : ∀ D a w, ok D → SatD C env L R Γ a w D P → y ∈ Region.ready .any ops (doneL listed D P) → ∃ f, fuel + left D P = f + 1 ∧ wpOp C.P ops (cont C s) y (fun a' w' => (tl.contains y = false → S w → S w') ∧ wpAnyT C.P ops (cont C s) S tl f ((doneL listed D P).setIfInBounds y true) a' w') a w) :
    ∀ n D a w, left D P = n → SatD C env L R Γ a w D P → wpAnyT C.P ops (cont C s) S tl (fuel + left D P) (doneL listed D P) a w := by
  intro n
  induction n with
  | zero =>
    intro D a w hn0 hSat
    by_cases hok : ok D
    · have hnone : ∀ it ∈ P, D it.j ≠ none := fun it hit h => by have := (doneL_upd (listed := listed) (b := 0) h hP.dis hit).2; omega
      have hy : y ∈ Region.ready .any ops (doneL listed D P) := by
        cases hr : Region.ready .any ops (doneL listed D P) with
        | nil => exact absurd hr (hne D hok)
        | cons i r =>
          rcases hn D hok i (by rw [hr]; exact List.mem_cons_self) with rfl | ⟨it, hit, _, h⟩
          · exact List.mem_cons_self
          · exact absurd h (hnone it hit)
      obtain ⟨f, hf, hs⟩ := step D a w hok hSat hy
      rw [hf]
      refine ⟨fun h => absurd h (hne D hok), fun i hi => ?_⟩
      rcases hn D hok i hi with rfl | ⟨it, hit, _, h⟩
      · exact hs
      · exact absurd h (hnone it hit)
    · exact stop D a w hok hSat
  | succ n ih =>
    intro D a w hn0 hSat
    by_cases hok : ok D
    · have hf : fuel + left D P = (fuel + n) + 1 := by omega
      rw [hf]
      refine ⟨fun h => absurd h (hne D hok), fun i hi => ?_⟩
      rcases hn D hok i hi with rfl | ⟨it, hit, rfl, h⟩
      · obtain ⟨f, hf', hs⟩ := step D a w hok hSat hi
        have : f = fuel + n := by omega
        subst this
        exact hs
      · refine wpOp_mono (fun a' w' ⟨hk, b, hSat'⟩ => ⟨fun _ h => hS _ _ hk h, ?_⟩) (it_step (Q := cont C s) hP hit hSat)
        obtain ⟨e1, e2⟩ := doneL_upd (listed := listed) (b := b) h hP.dis hit
        have hl : left (upd D it.j b) P = n := by omega
        have := ih (upd D it.j b) a' w' hl hSat'
        rw [e1, hl] at this
        exact this
    · exact stop D a w hok hSat
theorem TX.toP {C : Cx} {ops : Array Oper} {tl : List Nat} {s : List It} {S : World → Prop} {fuel : Nat} {listed : Array Bool} {env : Env} {L : Locs} {R : Rows} {Γ : Facts} (k : TXP C ops tl s S [] fuel listed env L R Γ) : TX C ops tl s S fuel listed env L R Γ := fun hS a w ⟨G, bs, hA, hI, hΓ⟩ =>
  k hS ⟨(fun _ h => by cases h), (fun _ h => by cases h), (fun _ h => by cases h), (fun _ h => by cases h), .nil⟩ (fun _ => none) a w ⟨G, bs, hA, hI, hΓ, fun _ h => by cases h⟩
theorem TXP.done {C : Cx} {ops : Array Oper} {tl : List Nat} {s : List It} {S : World → Prop} {fuel : Nat} {listed : Array Bool} {env : Env} {L : Locs} {R : Rows} {Γ : Facts} (k : TX C ops tl s S fuel listed env L R Γ) : TXP C ops tl s S [] fuel listed env L R Γ := fun hS _ _ a w ⟨G, bs, hA, hI, hΓ, _⟩ => k hS a w ⟨G, bs, hA, hI, hΓ⟩
def envNo (d : Nat) (e : Env) : Bool := e.all fun x => !Nat.beq x.1 d
def apartB (P : List PI) (j d : Nat) : Bool := P.all fun it => !Nat.beq it.j j && !Nat.beq it.d d && envNo d it.env
theorem apartB_spec {P : List PI} {j d : Nat} (h : apartB P j d = true) : ∀ it ∈ P, it.j ≠ j ∧ it.d ≠ d := fun it hit => by
  have := List.all_eq_true.1 h it hit
  simp only [Bool.and_eq_true, Bool.not_eq_true'] at this
  exact ⟨Nat.ne_of_beq_eq_false this.1.1, Nat.ne_of_beq_eq_false this.1.2⟩
theorem apartB_env {P : List PI} {j d : Nat} (h : apartB P j d = true) : ∀ it ∈ P, envNo d it.env = true := fun it hit => by
  have := List.all_eq_true.1 h it hit
  simp only [Bool.and_eq_true, Bool.not_eq_true'] at this
  exact this.2
theorem envNo_sub {d : Nat} {e env : Env} {sv : SV} (h : envNo d e = true) (hs : Sub e env) : Sub e ((d, sv) :: env) := fun i x hx => by
  have h1 := List.all_eq_true.1 h (i, x) (look_mem hx)
  simp only [Bool.not_eq_true'] at h1
  rw [look_cons, if_neg (Ne.symm (Nat.ne_of_beq_eq_false h1))]
  exact hs i x hx
theorem TXP.pend {C : Cx} {ops : Array Oper} {tl : List Nat} {s : List It} {S : World → Prop} {P : List PI} {fuel : Nat} {listed : Array Bool} {env : Env} {L : Locs} {R : Rows} {Γ : Facts} (it : PI) (hok : PIok C ops it) (hsb : Sub it.env env) (hf : look env it.d = none) (hr : readyAt ops listed it.j = true) (hd : apartB P it.j it.d = true)
    (k : TXP C ops tl s S (it :: P) fuel listed env L R Γ) : TXP C ops tl s S P (fuel + 1) listed env L R Γ := by
  intro hS hP D a w ⟨G, bs, hA, hI, hΓ, hF⟩
  have hdd := apartB_spec hd
  let D' : Nat → Option Nat := fun i => if i = it.j then none else D i
  have hD0 : D' it.j = none := if_pos rfl
  have hD1 : ∀ x ∈ P, D' x.j = D x.j := fun x hx => if_neg (hdd x hx).1
  obtain ⟨e1, e2⟩ := doneL_congr (listed := listed) hD1
  have key := k hS ⟨fun x hx => (List.mem_cons.1 hx).elim (fun e => e ▸ hok) (hP.ok x), fun x hx => (List.mem_cons.1 hx).elim (fun e => e ▸ hf) (hP.free x), fun x hx => (List.mem_cons.1 hx).elim (fun e => e ▸ hsb) (hP.sub x), fun x hx => (List.mem_cons.1 hx).elim (fun e => e ▸ hr) (hP.rdy x), List.pairwise_cons.2 ⟨fun x hx => ⟨Ne.symm (hdd x hx).1, Ne.symm (hdd x hx).2⟩, hP.dis⟩⟩ D' a w ⟨G, bs, hA, hI, hΓ, fun x hx b hb => ?_⟩
  · unfold doneL left at key
    rw [hD0] at key
    dsimp only at key
    rw [e1, e2] at key
    rw [show fuel + 1 + left D P = fuel + (left D P + 1) by omega]
    exact key
  · rcases List.mem_cons.1 hx with e | hx
    · subst e; rw [hD0] at hb; cases hb
    · rw [hD1 x hx] at hb
      obtain ⟨q1, q2, q3, q4, q5, q6⟩ := hF x hx b hb
      refine ⟨q1, q2, q3, q4, q5, fun y hy b' hb' hne => ?_⟩
      rcases List.mem_cons.1 hy with e | hy
      · subst e; rw [hD0] at hb'; cases hb'
      · rw [hD1 y hy] at hb'; exact q6 y hy b' hb' hne
theorem readyAt_set {ops : Array Oper} {listed : Array Bool} {i j : Nat} (h : readyAt ops listed j = true) (hij : j ≠ i) : readyAt ops (listed.setIfInBounds i true) j = true := by
  unfold readyAt at h ⊢
  rw [getD_set_ne true (Ne.symm hij)]
  cases ho : ops[j]? with
  | none => simp [ho] at h
  | some o =>
    simp only [ho, Bool.and_eq_true] at h ⊢
    refine ⟨h.1, Array.all_eq_true_iff_forall_mem.2 fun e he => ?_⟩
    have := Array.all_eq_true_iff_forall_mem.1 h.2 e he
    simp only [Bool.or_eq_true] at this ⊢
    exact this.imp id getD_set_true
theorem ready_doneL {ops : Array Oper} {listed : Array Bool} {D : Nat → Option Nat} {P : List PI} {i : Nat} (h : i ∈ Region.ready .any ops listed) (hP : ∀ it ∈ P, it.j ≠ i) : i ∈ Region.ready .any ops (doneL listed D P) := by
  obtain ⟨hun, o, ho, hall⟩ := mem_ready.1 h
  exact mem_ready.2 ⟨by rw [doneL_ne true hP]; exact hun, o, ho, fun e he hb => doneL_mono (hall e he hb)⟩
theorem POk.step {C : Cx} {ops : Array Oper} {listed : Array Bool} {env : Env} {P : List PI} {i d : Nat} {sv : SV} (hP : POk C ops listed env P) (ha : apartB P i d = true) : POk C ops (listed.setIfInBounds i true) ((d, sv) :: env) P :=
  have h := apartB_spec ha
  ⟨hP.ok, fun x hx => by rw [look_cons, if_neg (Ne.symm (h x hx).2)]; exact hP.free x hx, fun x hx => envNo_sub (apartB_env ha x hx) (hP.sub x hx), fun x hx => readyAt_set (hP.rdy x hx) (h x hx).1, hP.dis⟩
theorem TXP.takeP {C : Cx} {ops : Array Oper} {tl : List Nat} {s : List It} {S : World → Prop} {P : List PI} {fuel : Nat} {listed : Array Bool} {env : Env} {L : Locs} {R : Rows} {Γ : Facts} {i d : Nat} {o : Oper} {sv : SV} {b : Bool} (hb : mayP ops listed i = true) (hi : ops[i]? = some o) (hd : o.dst = some d) (hlt : d < C.fn.ntmps) (ha : apartB P i d = true)
    (hg : gd ops env o = some b) (hl : b = true → ∀ a w bs, At C.fn.ntmps env bs a → (execOp a.eval o).run C.P w = .ok (.value (conc bs sv)) w) (hu : b = false → sv = .v undef)
    (k : TXP C ops tl s S P fuel (listed.setIfInBounds i true) ((d, sv) :: env) L R Γ) : TXP C ops tl s S P (fuel + 1) listed env L R Γ := by
  intro hS hP D a w ⟨G, bs, hA, hI, hΓ, hF⟩
  have hap := apartB_spec ha
  simp only [mayP, Bool.and_eq_true] at hb
  obtain ⟨⟨h1, h4⟩, h5⟩ := hb
  have hr : i ∈ Region.ready .any ops (doneL listed D P) := ready_doneL (by simpa using h5) fun it hit => (hap it hit).1
  rw [show fuel + 1 + left D P = (fuel + left D P) + 1 by omega]
  refine wpAnyT_firstP hi (Region.noSelect_spec h1) (fun c a w h => (cont_panic C s c _ _ h).elim) (fuel + left D P) (doneL listed D P) a w (fun j oj hj hne hun hno => Region.free_spec hi h4 j oj hj hne (doneL_un hun).1 hno) hr (v := conc bs sv) ?_ ?_
  · cases b with
    | true => exact .inl ⟨gd_sound hA hg, fun w' _ => hl rfl a w' bs hA⟩
    | false => exact .inr ⟨gd_sound hA hg, by rw [hu rfl]; rfl⟩
  · rw [hd, ← doneL_set fun it hit => (hap it hit).1]
    refine k hS (hP.step ha) D _ _ ⟨G, bs, hA.put hlt sv, hI, hΓ, fun x hx b hb => ?_⟩
    obtain ⟨q1, q⟩ := hF x hx b hb
    exact ⟨by rw [← q1]; exact setV_ne (Ne.symm (hap x hx).2), q⟩
def apartL (ops : Array Oper) (P : List PI) (is : List Nat) : Bool := is.all fun i => match getO ops.toList i with | some o => (match o.dst with | some d => apartB P i d | none => false) | none => false
theorem TXP.takes {C : Cx} {ops : Array Oper} {tl : List Nat} {s : List It} {S : World → Prop} {P : List PI} {L : Locs} {R : Rows} {Γ : Facts} (ht : TabOk C.P C.tt) : ∀ (is : List Nat) {fuel : Nat} {listed : Array Bool} {env env' : Env}, apartL ops P is = true → takesB ops tl listed (is.map fun i => (i, true)) = true →
    takesE C.tt C.fn.ntmps ops [] env (is.map fun i => (i, true)) = some env' → TXP C ops tl s S P fuel (setAll listed (is.map fun i => (i, true))) env' L R Γ → TXP C ops tl s S P (fuel + is.length) listed env L R Γ
  | [], _, _, _, _, _, _, h, k => by simp [takesE] at h; subst h; exact k
  | i :: r, fuel, listed, env, env', ha, hb, h, k => by
    simp only [apartL, List.all_cons, Bool.and_eq_true] at ha
    simp only [List.map_cons, takesB, Bool.and_eq_true] at hb
    simp only [List.map_cons, takesE] at h
    split at h
    · rename_i o ho
      simp only [ho] at ha
      rw [getO_eq] at ho
      have ho' : ops[i]? = some o := by simpa using ho
      split at h
      · rename_i d hd
        simp only [hd] at ha
        split at h
        · rename_i hlt
          have hlt' : d < C.fn.ntmps := by simpa [Nat.blt_eq] using hlt
          split at h
          · rename_i hg
            split at h
            · rename_i sv hsv
              exact TXP.takeP hb.1 ho' hd hlt' ha.1 hg (fun _ a w bs' hA => pureS_any ht w hA hsv) (fun h => by cases h) (TXP.takes ht r ha.2 hb.2 h k)
            · cases h
          · rename_i hg
            exact TXP.takeP hb.1 ho' hd hlt' ha.1 hg (fun h => by cases h) (fun _ => rfl) (TXP.takes ht r ha.2 hb.2 h k)
          · cases h
        · cases h
      · cases h
    · cases h
theorem TXP.next {C : Cx} {ops : Array Oper} {tl : List Nat} {s : List It} {S : World → Prop} {P : List PI} {fuel i d : Nat} {listed : Array Bool} {env : Env} {L : Locs} {R : Rows} {Γ : Facts} (hn : nextB ops listed P P i = true) (hr : readyAt ops listed i = true) (ha : apartB P i d = true)
    (step : (∀ w w', Kp emp w w' → S w → S w') → POk C ops listed env P → ∀ D a w, SatD C env L R Γ a w D P → wpOp C.P ops (cont C s) i (fun a' w' => (tl.contains i = false → S w → S w') ∧ wpAnyT C.P ops (cont C s) S tl (fuel + left D P) (doneL (listed.setIfInBounds i true) D P) a' w') a w) : TXP C ops tl s S P (fuel + 1) listed env L R Γ := by
  intro hS hP D a w hSat
  have hap := apartB_spec ha
  have hin : ∀ D, i ∈ Region.ready .any ops (doneL listed D P) := fun D => ready_mem hr fun it hit h => absurd h (hap it hit).1
  refine TXP.core (y := i) hS hP (fun _ => True) (fun D _ j hj => next_spec hn rfl hj) (fun D _ h => by have := hin D; rw [h] at this; cases this) (fun _ _ _ h => absurd trivial h) (fun D a w _ hSat _ => ⟨fuel + left D P, by omega, ?_⟩) _ D a w rfl hSat
  have := step hS hP D a w hSat
  rw [doneL_set fun it hit => (hap it hit).1] at this
  exact this
theorem TXP.callG {C : Cx} {ops : Array Oper} {tl : List Nat} {st : List It} {S : World → Prop} {P : List PI} {fuel : Nat} {listed : Array Bool} {env : Env} {L : Locs} {R : Rows} {Γ : Facts} {o : Oper} (i : Nat) {f : Operand} {args : List Operand} {ats : Array TypeId} {g : FuncId} {sf : SV} {svs : List SV} {caps : (Nat → Nat) → List Value}
    {Ψ : World → Value → World → Prop} {d : Nat} (hn : nextB ops listed P P i = true) (hr : readyAt ops listed i = true) (ha : apartB P i d = true) (hi : getO ops.toList i = some o) (hg : gd ops env o = some true) (hd : o.dst = some d) (ho : o.op = .call { callee := .value f, args := args.toArray, argTypes := ats })
    (hf : ev env f = some sf) (hsf : ∀ bs, conc bs sf = .func (.func g) #[] (caps bs).toArray) (hargs : evs env args = some svs)
    (hc : ∀ w G bs, HInv C w G bs L R → AllK C.M (hp w) Γ → Does C.P g (svs.map (conc bs) ++ caps bs).toArray w emp (Ψ w))
    (k : ∀ a w w' G bs v D, (∀ w w', Kp emp w w' → S w → S w') → POk C ops listed env P → At C.fn.ntmps env bs a → HInv C w G bs L R → AllK C.M G Γ → Fr C w G bs L R a D P → Kp emp w w' → Ψ w v w' → wpAnyT C.P ops (cont C st) S tl (fuel + left D P) (doneL (listed.setIfInBounds i true) D P) (a.put (some d) v) w') : TXP C ops tl st S P (fuel + 1) listed env L R Γ := by
  refine TXP.next (d := d) hn hr ha fun hS hP D a w ⟨G, bs, hA, hI, hΓ, hF⟩ => ?_
  rw [getO_eq] at hi
  have hi' : ops[i]? = some o := by simpa using hi
  unfold wpOp
  simp only [hi']
  rw [if_pos (gd_sound hA hg)]
  refine .inl ?_
  unfold Oper.wp
  obtain ⟨he, hcalls⟩ := hc w G bs hI (hΓ.mono hI.le)
  rw [exec_call he ho (by rw [ev_conc hA hf, hsf]) (evs_sound hA args svs hargs)]
  simp only [Oper.upon]
  refine hcalls.mono fun e w' ⟨v, hv, hb, hψ⟩ => ?_
  subst hv
  rw [hd]
  exact ⟨fun _ hs => hS _ _ hb hs, k a w w' G bs v D hS hP hA hI hΓ hF hb hψ⟩
theorem join_none {G h : GH} {b : Nat} (h1 : G b = none) (h2 : h b = none) : join G h b = none := by unfold join; rw [h1]; exact h2
theorem TXP.callV {C : Cx} {ops : Array Oper} {tl : List Nat} {st : List It} {S : World → Prop} {P : List PI} {fuel : Nat} {listed : Array Bool} {env : Env} {L : Locs} {R : Rows} {Γ : Facts} {o : Oper} (i : Nat) {f : Operand} {args : List Operand} {ats : Array TypeId} {g : FuncId} {sf : SV} {svs : List SV} {caps : (Nat → Nat) → List Value}
    {c : Value} {Q : Prop} {d : Nat} (hn : nextB ops listed P P i = true) (hr : readyAt ops listed i = true) (hi : getO ops.toList i = some o) (hg : gd ops env o = some true) (hd : o.dst = some d) (ha : apartB P i d = true) (hlt : Nat.blt d C.fn.ntmps = true) (ho : o.op = .call { callee := .value f, args := args.toArray, argTypes := ats })
    (hf : ev env f = some sf) (hsf : ∀ bs, conc bs sf = .func (.func g) #[] (caps bs).toArray) (hargs : evs env args = some svs)
    (hc : ∀ w G bs, HInv C w G bs L R → AllK C.M (hp w) Γ → Does C.P g (svs.map (conc bs) ++ caps bs).toArray w emp fun v _ => v = c ∧ Q)
    (k : Q → TXP C ops tl st S P fuel (listed.setIfInBounds i true) ((d, .v c) :: env) L R Γ) : TXP C ops tl st S P (fuel + 1) listed env L R Γ :=
  TXP.callG (Ψ := fun _ v _ => v = c ∧ Q) i hn hr ha hi hg hd ho hf hsf hargs hc fun a w w' G bs v D hS hP hA hI hΓ hF hb ⟨hv, hq⟩ => by
    subst hv
    have hI' := (hI.called (emp_le _) (fun _ _ h => by cases h) hb (emp_le _) (fun _ _ h => by cases h)).1
    exact k hq hS (hP.step ha) D _ _ ⟨_, bs, hA.put (by simpa [Nat.blt_eq] using hlt) (.v v), hI', hΓ.mono (le_join_l (cut G emp) emp), hF.keep hb (fun _ _ _ => rfl) (fun b h _ _ => join_none (cut_none' h) rfl) (fun _ h => h) fun it hit => (apartB_spec ha it hit).2⟩
theorem TXP.callF {C : Cx} {ops : Array Oper} {tl : List Nat} {st : List It} {S : World → Prop} {P : List PI} {fuel : Nat} {listed : Array Bool} {env : Env} {L : Locs} {R : Rows} {Γ : Facts} {o : Oper} (i m : Nat) {f : Operand} {args : List Operand} {ats : Array TypeId} {g : FuncId} {sf : SV} {svs : List SV} {caps : (Nat → Nat) → List Value}
    {ι : Type} {val val' : ι → Value} {gs ds : ι → List MF} {Q : Prop} {d : Nat} {Γ' : ι → Facts} (hds : ∀ i h, Sep h (gs i) → All h (ds i)) (hdk : ∀ i, ∀ f ∈ ds i, f.k = .der) (hn : nextB ops listed P P i = true) (hr : readyAt ops listed i = true) (hi : getO ops.toList i = some o) (hg : gd ops env o = some true) (hd : o.dst = some d) (ha : apartB P i d = true) (hlt : Nat.blt d C.fn.ntmps = true) (ho : o.op = .call { callee := .value f, args := args.toArray, argTypes := ats })
    (hf : ev env f = some sf) (hsf : ∀ bs, conc bs sf = .func (.func g) #[] (caps bs).toArray) (hargs : evs env args = some svs)
    (hc : ∀ w G bs, HInv C w G bs L R → AllK C.M (hp w) Γ → Does C.P g (svs.map (conc bs) ++ caps bs).toArray w emp (Post w emp val gs Q))
    (hv : ∀ i, normV (val i) = some (val' i)) (hΓ' : ∀ i, addF m (ds i ++ gs i) Γ = some (Γ' i))
    (k : ∀ j, Q → TXP C ops tl st S P fuel (listed.setIfInBounds i true) ((d, .v (val' j)) :: env) L R (Γ' j)) : TXP C ops tl st S P (fuel + 1) listed env L R Γ :=
  TXP.callG (Ψ := fun w v w' => Post w emp val gs Q v w') i hn hr ha hi hg hd ho hf hsf hargs hc fun a w w' G bs v D hS hP hA hI hΓ hF hb hv' => by
    obtain ⟨j, h, rfl, hq, hle1, hdom, hs⟩ := hv'
    rw [← normV_eq (hv j)]
    obtain ⟨hI', hdj⟩ := hI.called (emp_le _) (fun _ _ h => by cases h) hb hle1 hdom
    refine k j hq hS (hP.step ha) D _ _ ⟨_, bs, hA.put (by simpa [Nat.blt_eq] using hlt) (.v _), hI', hΓ.after hdj (fun b o hb' => .inl ((hdom b o hb').elim (Nat.le_trans hI.keep.size) (fun h => absurd rfl h))) hs (hdk j) (hds j h hs) (hΓ' j), hF.keep hb (fun _ _ _ => rfl) (fun b h1 h2 _ => join_none (cut_none' h1) ?_) (fun _ h => h) fun it hit => (apartB_spec ha it hit).2⟩
    cases hx : h b with
    | none => rfl
    | some q => rcases hdom b q hx with h3 | h3
                · omega
                · exact absurd rfl h3
def getP : List PI → Nat → Option PI
  | [], _ => none
  | it :: _, 0 => some it
  | _ :: P, k + 1 => getP P k
def rmP : List PI → Nat → List PI
  | [], _ => []
  | _ :: P, 0 => P
  | it :: P, k + 1 => it :: rmP P k
theorem rmP_mem {it x : PI} : ∀ {P : List PI} {k : Nat}, x ∈ rmP P k → x ∈ P
  | [], _, h => h
  | _ :: P, 0, h => List.mem_cons_of_mem _ h
  | y :: P, k + 1, h => (List.mem_cons.1 h).elim (fun e => e ▸ List.mem_cons_self) fun h => List.mem_cons_of_mem _ (rmP_mem (it := it) h)
theorem getP_mem {it : PI} : ∀ {P : List PI} {k : Nat}, getP P k = some it → it ∈ P
  | [], _, h => by cases h
  | _ :: P, 0, h => by cases h; exact List.mem_cons_self
  | y :: P, k + 1, h => List.mem_cons_of_mem _ (getP_mem h)
theorem rmP_pw {P : List PI} (h : P.Pairwise (fun x y => x.j ≠ y.j ∧ x.d ≠ y.d)) : ∀ {k : Nat} {it : PI}, getP P k = some it → (rmP P k).Pairwise (fun x y => x.j ≠ y.j ∧ x.d ≠ y.d) ∧ ∀ x ∈ rmP P k, x.j ≠ it.j ∧ x.d ≠ it.d := by
  induction P with
  | nil => exact fun h => by cases h
  | cons y P ih =>
    intro k it hk
    rw [List.pairwise_cons] at h
    cases k with
    | zero => cases hk; exact ⟨h.2, fun x hx => ⟨Ne.symm (h.1 x hx).1, Ne.symm (h.1 x hx).2⟩⟩
    | succ k =>
      obtain ⟨i1, i2⟩ := ih h.2 hk
      refine ⟨List.pairwise_cons.2 ⟨fun x hx => h.1 x (rmP_mem (it := it) hx), i1⟩, fun x hx => ?_⟩
      rcases List.mem_cons.1 hx with rfl | hx
      · exact h.1 it (getP_mem hk)
      · exact i2 x hx
theorem rmP_doneL {listed : Array Bool} {D : Nat → Option Nat} {it : PI} : ∀ {P : List PI} {k : Nat}, P.Pairwise (fun x y => x.j ≠ y.j ∧ x.d ≠ y.d) → getP P k = some it → (D it.j = none → doneL listed D P = doneL listed D (rmP P k)) ∧ (∀ b, D it.j = some b → doneL listed D P = doneL (listed.setIfInBounds it.j true) D (rmP P k) ∧ left D P = left D (rmP P k))
  | [], _, _, h => by cases h
  | y :: P, 0, hd, h => by
    cases h
    rw [List.pairwise_cons] at hd
    refine ⟨fun h => ?_, fun b h => ?_⟩
    · show doneL listed D (_ :: P) = doneL listed D P
      conv => lhs; unfold doneL
      rw [h]
    · show doneL listed D (_ :: P) = doneL _ D P ∧ left D (_ :: P) = left D P
      rw [doneL_set fun x hx => Ne.symm (hd.1 x hx).1]
      constructor
      · conv => lhs; unfold doneL
        rw [h]
      · conv => lhs; unfold left
        rw [h]
  | y :: P, k + 1, hd, h => by
    rw [List.pairwise_cons] at hd
    obtain ⟨i1, i2⟩ := rmP_doneL (listed := listed) (D := D) hd.2 (show getP P k = some it from h)
    refine ⟨fun h => ?_, fun b h => ?_⟩
    · show doneL listed D (y :: P) = doneL listed D (y :: rmP P k)
      unfold doneL; rw [i1 h]
    · obtain ⟨j1, j2⟩ := i2 b h
      show doneL listed D (y :: P) = doneL _ D (y :: rmP P k) ∧ left D (y :: P) = left D (y :: rmP P k)
      unfold doneL left; rw [j1, j2]; exact ⟨rfl, rfl⟩
def Stop (C : Cx) (ops : Array Oper) (tl : List Nat) (s : List It) (S : World → Prop) (P : List PI) (fuel : Nat) (listed : Array Bool) (env : Env) (L : Locs) (R : Rows) (Γ : Facts) (it : PI) (k : Nat) : Prop :=
  (∀ w w', Kp emp w w' → S w → S w') → POk C ops listed env P → ∀ D a w b, D it.j = some b → SatD C env L R Γ a w D P → wpAnyT C.P ops (cont C s) S tl (fuel + left D (rmP P k)) (doneL (listed.setIfInBounds it.j true) D (rmP P k)) a w
theorem rmP_left {D : Nat → Option Nat} {it : PI} (hD : D it.j = none) : ∀ {P : List PI} {k : Nat}, getP P k = some it → left D P = left D (rmP P k) + 1
  | [], _, h => by cases h
  | y :: P, 0, h => by
    cases h
    show left D (_ :: P) = left D P + 1
    conv => lhs; unfold left
    rw [hD]
  | y :: P, k + 1, h => by
    have ih := rmP_left hD (show getP P k = some it from h)
    show left D (y :: P) = left D (y :: rmP P k) + 1
    unfold left
    cases D y.j <;> dsimp only <;> omega
theorem TXP.split {C : Cx} {ops : Array Oper} {tl : List Nat} {s : List It} {S : World → Prop} {P : List PI} {fuel : Nat} {listed : Array Bool} {env : Env} {L : Locs} {R : Rows} {Γ : Facts} {it : PI} (k : Nat) (hk : getP P k = some it) (no : TXP C ops tl s S (rmP P k) (fuel + 1) listed env L R Γ)
    (stop : Stop C ops tl s S P fuel listed env L R Γ it k) : TXP C ops tl s S P fuel listed env L R Γ := by
  intro hS hP D a w hSat
  cases hb : D it.j with
  | none =>
    obtain ⟨G, bs, hA, hI, hΓ, hF⟩ := hSat
    have := no hS ⟨fun x hx => hP.ok x (rmP_mem (it := it) hx), fun x hx => hP.free x (rmP_mem (it := it) hx), fun x hx => hP.sub x (rmP_mem (it := it) hx), fun x hx => hP.rdy x (rmP_mem (it := it) hx), (rmP_pw hP.dis hk).1⟩ D a w ⟨G, bs, hA, hI, hΓ, fun x hx b hb => by
      obtain ⟨q1, q2, q3, q4, q5, q6⟩ := hF x (rmP_mem (it := it) hx) b hb
      exact ⟨q1, q2, q3, q4, q5, fun y hy => q6 y (rmP_mem (it := it) hy)⟩⟩
    rw [rmP_left hb hk, (rmP_doneL hP.dis hk).1 hb, show fuel + (left D (rmP P k) + 1) = fuel + 1 + left D (rmP P k) by omega]
    exact this
  | some b =>
    obtain ⟨e1, e2⟩ := (rmP_doneL (listed := listed) (D := D) hP.dis hk).2 b hb
    rw [e1, e2]
    exact stop hS hP D a w b hb hSat
theorem POk.rm {C : Cx} {ops : Array Oper} {listed : Array Bool} {env : Env} {P : List PI} {k : Nat} {it : PI} {sv : SV} (hP : POk C ops listed env P) (hk : getP P k = some it) (hz : ((rmP P k).all fun x => envNo it.d x.env) = true) : POk C ops (listed.setIfInBounds it.j true) ((it.d, sv) :: env) (rmP P k) := by
  obtain ⟨p1, p2⟩ := rmP_pw hP.dis hk
  exact ⟨fun x hx => hP.ok x (rmP_mem (it := it) hx), fun x hx => by rw [look_cons, if_neg (Ne.symm (p2 x hx).2)]; exact hP.free x (rmP_mem (it := it) hx), fun x hx => envNo_sub (List.all_eq_true.1 hz x hx) (hP.sub x (rmP_mem (it := it) hx)), fun x hx => readyAt_set (hP.rdy x (rmP_mem (it := it) hx)) (p2 x hx).1, p1⟩
def PI.loc (j d : Nat) (l : Loc) : PI := ⟨j, d, lobj l, fun b => .pointer (some ⟨b, 0, none⟩), []⟩
def PI.lit (j d c T : Nat) (cs : List Value) (env : Env) : PI := ⟨j, d, .cells cs.toArray T (0, 0), fun b => .slice (some ⟨b, 0, none⟩) c c, env⟩
def elT (tt : TT) (T : Nat) : Option Nat := match elO tt T with | some (e, _) => some e | none => none
theorem run_bld2 {P : Program} {tt : TT} (ht : TabOk P tt) {n : Nat} {env : Env} {bs : Nat → Nat} {a : Act} (hA : At n env bs a) {T len kk e : Nat} {parts : Array (Nat × Operand)} {cs : List Value} (h : bldO tt env T len parts.toList = some (kk, cs)) (he : elT tt T = some e) (w : World) :
    (Instr.buildSlice T len (parts.map fun x => (x.1, a.eval x.2))).run P w = .ok (.slice (some ⟨w.heap.size, 0, none⟩) len len) (w.alloc (.cells cs.toArray e)) := by
  unfold bldO at h
  unfold elT at he
  split at h
  · rename_i e' kk' by_ z hel
    rw [hel] at he
    cases he
    split at h
    · rename_i hle
      split at h
      · rename_i q hq
        split at h
        · rename_i cs' hcs
          simp only [Option.some.injEq, Prod.mk.injEq] at h
          obtain ⟨rfl, rfl⟩ := h
          obtain ⟨hu, i, v, te, hE, hte, hi, h0, hs, _, hv, hzl, hpos⟩ := elO_some ht hel
          have hq' := zrepO_eq hq
          have hle' : len * kk' ≤ 16777216 := Nat.le_of_ble_eq_true hle
          have hfill := fillO_sound ht hA (place := fun i => some (i * kk', e)) (place' := fun i => some (i * kk', kk')) (fun j off T' ti' h1 h2 => by
            simp only [Option.some.injEq, Prod.mk.injEq] at h1
            obtain ⟨rfl, rfl⟩ := h1
            rw [hE] at h2; simp at h2; subst h2; rw [hte]) _ _ _ hcs
          have hvs : v.cells.size = kk' := by rw [← hzl, ← hv]; simp
          by_cases hl0 : len = 0
          · subst hl0
            have : q = [] := by rw [hq']; rfl
            subst this
            have hf' : Instr.fill (fun i => some (i * kk', kk')) #[] (List.map (fun x => (x.1, a.eval x.2)) parts.toList) = some cs'.toArray := hfill
            simp [Instr.buildSlice, run_underlying hu, sizeOf, typeInfo, zeroValue, hi, newRow, hs, Array.range_zero', hf']
          · have hne : ¬ (len * kk' = 0) := by
              intro h; rcases Nat.mul_eq_zero.1 h with h | h <;> omega
            have hr := zrep_range v.cells (by omega) len
            rw [hvs, hv, ← hq'] at hr
            have hq2 : (Array.range (len * kk')).map (fun i => v.cells[i % v.cells.size]!) = q.toArray := Array.ext' (by simpa [hvs] using hr)
            have hsm : ¬ (16777216 < len * kk') := by omega
            have hf' : Instr.fill (fun i => some (i * kk', kk')) ((Array.range (len * kk')).map (fun i => v.cells[i % v.cells.size]!)) (List.map (fun x => (x.1, a.eval x.2)) parts.toList) = some cs'.toArray := by rw [hq2]; exact hfill
            simp only [Instr.buildSlice, Sem.run_bind, run_underlying hu, Result.andThen_ok, run_sizeOf hi, hs, newRow]
            simp [hsm, hne, zeroValue, typeInfo, hi, h0, hf']
        · cases h
      · cases h
    · cases h
  · cases h
theorem lit_ok {C : Cx} {ops : Array Oper} {o : Oper} {j d T0 c kk T : Nat} {parts : Array (Nat × Operand)} {cs : List Value} {env : Env} (ht : TabOk C.P C.tt) (hi : getO ops.toList j = some o) (hg : gd ops [] o = some true) (hd : o.dst = some d) (hlt : Nat.blt d C.fn.ntmps = true) (ho : o.op = .buildSlice T0 c parts) (hb : bldO C.tt env T0 c parts.toList = some (kk, cs)) (he : elT C.tt T0 = some T) : PIok C ops (PI.lit j d c T cs env) := by
  rw [getO_eq] at hi
  refine ⟨o, show ops[j]? = some o by simpa using hi, hg, hd, show d < C.fn.ntmps by simpa [Nat.blt_eq] using hlt, fun a w bs hA => ?_⟩
  have hrun := run_bld2 (bs := bs) ht hA hb he w
  unfold execOp
  simp only [ho, Sem.run_bind, hrun, Result.andThen_ok, Sem.run_pure]
  rfl
theorem stopS {C : Cx} {ops : Array Oper} {tl : List Nat} {s : List It} {S : World → Prop} {P : List PI} {fuel j d c T : Nat} {cs : List Value} {e0 : Env} {listed : Array Bool} {env : Env} {L : Locs} {R : Rows} {Γ : Facts} {α : Type} [GoT α] {l : List α} (k m : Nat) (hk : getP P k = some (PI.lit j d c T cs e0)) (hlen : l.length = c) (hmax : Nat.ble c 1048576 = true) (hw : OwL emp cs l) (hz : ((rmP P k).all fun x => envNo d x.env) = true)
    (kk : ∀ p, TXP C ops tl s S (rmP P k) fuel (listed.setIfInBounds j true) ((d, .v (.slice p c c)) :: env) L R ((m, MF.rs .stb p c l) :: Γ)) : Stop C ops tl s S P fuel listed env L R Γ (PI.lit j d c T cs e0) k := by
  refine fun hS hP D a w b hb ⟨G, bs, hA, hI, hΓ, hF⟩ => ?_
  have hit := getP_mem hk
  obtain ⟨q1, q2, q3, q4, q5, q6⟩ := hF _ hit b hb
  have q2' : w.heap[b]? = some (.cells cs.toArray T (0, 0)) := q2
  refine kk (some ⟨b, 0, none⟩) hS (hP.rm hk hz) D a w ⟨join G (sgl b (.cells cs.toArray T (0, 0))), bs, ⟨hA.size, hA.dfr, fun e x hx => ?_⟩, hI.more q2' q5, ?_, fun x hx b' hb' => ?_⟩
  · rw [look_cons] at hx
    split at hx
    · rename_i he
      cases he
      cases hx
      exact q1
    · exact hA.slot e x hx
  · refine hΓ.new m _ (h := sgl b (.cells cs.toArray T (0, 0))) (le_join_l _ _) (le_join_r (sgl_dj q4).symm) (fun _ => sgl_dj q4) (fun h => by cases h) ?_
    have hc := Nat.le_of_ble_eq_true hmax
    have hx := cellsAt_row (G := sgl b (.cells cs.toArray T (0, 0))) (o := 0) (sgl_self b _) cs.length
    simp only [List.drop_zero, List.take_length] at hx
    exact (⟨by omega, by omega, cs, hx, hw.rd.mono (emp_le _)⟩ : RdSl _ (some ⟨b, 0, none⟩) c l)
  · obtain ⟨r1, r2, r3, r4, r5, r6⟩ := hF x (rmP_mem (it := x) hx) b' hb'
    have hne := (rmP_pw hP.dis hk).2 x hx
    exact ⟨r1, r2, r3, join_none r4 (sgl_ne _ (q6 x (rmP_mem (it := x) hx) b' hb' hne.1)), r5, fun y hy => r6 y (rmP_mem (it := y) hy)⟩
theorem TXP.splitS {C : Cx} {ops : Array Oper} {tl : List Nat} {s : List It} {S : World → Prop} {P : List PI} {fuel j d c T : Nat} {cs : List Value} {e0 : Env} {listed : Array Bool} {env : Env} {L : Locs} {R : Rows} {Γ : Facts} {α : Type} [GoT α] {l : List α} (k m : Nat) (hk : getP P k = some (PI.lit j d c T cs e0)) (hlen : l.length = c) (hmax : Nat.ble c 1048576 = true) (hw : OwL emp cs l) (hz : ((rmP P k).all fun x => envNo d x.env) = true)
    (no : TXP C ops tl s S (rmP P k) (fuel + 1) listed env L R Γ) (kk : ∀ p, TXP C ops tl s S (rmP P k) fuel (listed.setIfInBounds j true) ((d, .v (.slice p c c)) :: env) L R ((m, MF.rs .stb p c l) :: Γ)) : TXP C ops tl s S P fuel listed env L R Γ :=
  TXP.split k hk no (stopS k m hk hlen hmax hw hz kk)
theorem TXP.der {C : Cx} {ops : Array Oper} {tl : List Nat} {s : List It} {S : World → Prop} {P : List PI} {fuel : Nat} {listed : Array Bool} {env : Env} {L : Locs} {R : Rows} {Γ : Facts} (m : Nat) (f : MF) (hk : f.k = .der) (h : ∀ G, AllK C.M G Γ → f.p G)
    (k : TXP C ops tl s S P fuel listed env L R ((m, f) :: Γ)) : TXP C ops tl s S P fuel listed env L R Γ := fun hS hP D a w ⟨G, bs, hA, hI, hΓ, hF⟩ => k hS hP D a w ⟨G, bs, hA, hI, hΓ.der m f hk (h G hΓ), hF⟩
end Go.Stp

