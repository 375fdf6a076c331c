/-
  What the proof of one law needs: rules of the program logic, functions as Lean functions, contracts. No condition but what each says. Written by a program (pack.py) out of my own texts.
-/
import Derived.StillTail
import Derived.ChangeKeysEq
import Derived.Laws.Slices
import Derived.Laws.BytesString
import Derived.Laws.Small
import Derived.Laws.Cover3
import Derived.Laws.Strings
import Derived.Laws.CopyRow
import Derived.Lib.Overlaps
import Derived.Laws.IdiomStrings
import Derived.Test.YthdgpfbldbabmaaGreatDoorKFnAsks1
namespace Go.Stp
open GoT (X k ok sh fa oa)
section
variable {P : Program} {ops : Array Oper} {Q : Exit → Act → World → Prop} {S : World → Prop} {tl : List Nat}
def edgeB (ops : Array Oper) (j k : Nat) : Bool :=
 match ops[j]? with
 | some oj => oj.after.any fun e => Region.binds .any e && e.on == k
 | none => false
def ancL (ops : Array Oper) : Nat → List Nat → List Nat
 | 0, acc => acc
 | k + 1, acc => (match acc.any (fun m => edgeB ops m k) with | true => ancL ops k (k :: acc) | false => ancL ops k acc)
def waits (ops : Array Oper) (j i : Nat) : Bool := (ancL ops j [j]).contains i
def Closed (ops : Array Oper) (listed : Array Bool) : Prop := ∀ j o, ops[j]? = some o → listed.getD j false = true → ∀ e ∈ o.after, Region.binds .any e = true → listed.getD e.on false = true
theorem edgeB_spec {j k : Nat} (h : edgeB ops j k = true) : ∃ o, ops[j]? = some o ∧ ∃ e ∈ o.after, Region.binds .any e = true ∧ e.on = k := by
 unfold edgeB at h
 split at h
 ·rename_i oj ho
  obtain ⟨e, he, hb⟩ := Array.any_eq_true'.1 h
  simp only [Bool.and_eq_true, beq_iff_eq] at hb
  exact ⟨oj, ho, e, he, hb.1, hb.2⟩
 ·cases h
theorem ancL_spec {listed : Array Bool} {j : Nat} (hc : Closed ops listed) (hr : j ∈ Region.ready .any ops listed) : ∀ (k : Nat) (acc : List Nat), (∀ m ∈ acc, m = j ∨ listed.getD m false = true) → ∀ m ∈ ancL ops k acc, m = j ∨ listed.getD m false = true
 | 0, acc, h => h
 | k + 1, acc, h => by
  unfold ancL
  split
  ·rename_i ha
   obtain ⟨m, hm, he⟩ := List.any_eq_true.1 ha
   obtain ⟨o, ho, e, hE, hb, hk⟩ := edgeB_spec he
   refine ancL_spec hc hr k (k :: acc) fun x hx => ?_
   rcases List.mem_cons.1 hx with rfl | hx
   ·right
    rcases h m hm with rfl | hl
    ·obtain ⟨_, o', ho', hall⟩ := mem_ready.1 hr
     rw [ho] at ho'; cases ho'
     rw [← hk]; exact hall e hE hb
    ·rw [← hk]; exact hc m o ho hl e hE hb
   ·exact h x hx
  ·exact ancL_spec hc hr k acc h
theorem waits_spec {listed : Array Bool} {i j : Nat} (hc : Closed ops listed) (hw : waits ops j i = true) (hij : j ≠ i) (hi : listed.getD i true = false) (hr : j ∈ Region.ready .any ops listed) : False := by
 have hm : i ∈ ancL ops j [j] := by simpa [waits] using hw
 rcases ancL_spec hc hr j [j] (fun m hm => .inl (by simpa using hm)) i hm with h | h
 ·exact hij h.symm
 ·rcases Nat.lt_or_ge i listed.size with h' | h'
  ·simp [h'] at hi h; rw [hi] at h; cases h
  ·simp [Array.getElem?_eq_none h'] at h
theorem Closed.set {listed : Array Bool} {i : Nat} (hc : Closed ops listed) (hr : i ∈ Region.ready .any ops listed) : Closed ops (listed.setIfInBounds i true) := by
 intro j o ho hl e he hb
 by_cases hji : j = i
 ·subst hji
  obtain ⟨_, o', ho', hall⟩ := mem_ready.1 hr
  rw [ho] at ho'; cases ho'
  exact getD_set_true (hall e he hb)
 ·rw [getD_set_ne false (Ne.symm hji)] at hl
  exact getD_set_true (hc j o ho hl e he hb)
theorem closed_start (ops : Array Oper) : Closed ops (Array.replicate ops.size false) := by
 intro j o ho hl
 have : j < ops.size := (Array.getElem?_eq_some_iff.1 ho).1
 simp [this] at hl
def wpAnyT (P : Program) (ops : Array Oper) (Q : Exit → Act → World → Prop) (S : World → Prop) (tl : List Nat) : Nat → Array Bool → Act → World → Prop
 | 0, listed, a, w => Region.ready .any ops listed = [] ∧ Q .normal a w
 | fuel + 1, listed, a, w =>
  (Region.ready .any ops listed = [] → Q .normal a w) ∧
  ∀ i ∈ Region.ready .any ops listed, wpOp P ops Q i (fun a' w' => (tl.contains i = false → S w → S w') ∧ wpAnyT P ops Q S tl fuel (listed.setIfInBounds i true) a' w') a w
theorem wpAny_of_T : ∀ (fuel : Nat) (listed : Array Bool) (a : Act) (w : World), wpAnyT P ops Q S tl fuel listed a w → wpAny P .any ops Q fuel listed a w
 | 0, _, _, _, h => h
 | fuel + 1, _, _, _, h => ⟨h.1, fun i hi => wpOp_mono (fun a' w' h' => wpAny_of_T fuel _ a' w' h'.2) (h.2 i hi)⟩
theorem not_on {listed : Array Bool} {i : Nat} {oj : Oper} (hiun : listed.getD i true = false) (hall : ∀ e ∈ oj.after, Region.binds .any e = true → listed.getD e.on false = true) : ∀ e ∈ oj.after, Region.binds .any e = true → e.on ≠ i := fun e he hb heq => by
 have h1 := hall e he hb
 rw [heq] at h1
 rcases Nat.lt_or_ge i listed.size with h' | h'
 ·simp [h'] at hiun h1; rw [hiun] at h1; cases h1
 ·simp [Array.getElem?_eq_none h'] at h1
theorem wpAnyT_first {i : Nat} {oi : Oper} {v : Value} (hi : ops[i]? = some oi) (hit : tl.contains i = false) (hsel : ∀ (j : Nat) (o : Oper) cs b, ops[j]? = some o → o.op ≠ .select cs b)
  (hQ : ∀ c a w, Q (.panic c) (a.put oi.dst v) w → Q (.panic c) a w) :
  ∀ (fuel : Nat) (listed : Array Bool) (a : Act) (w : World), Closed ops listed → (∀ j ∈ tl, listed.getD j true = false → waits ops j i = true) →
   (∀ j oj, ops[j]? = some oj → j ≠ i → listed.getD j true = false → (∀ e ∈ oj.after, Region.binds .any e = true → e.on ≠ i) → oi.apart ops oj = true) →
   i ∈ Region.ready .any ops listed → YieldsIf P ops S oi v a → S w →
   wpAnyT P ops Q S tl fuel (listed.setIfInBounds i true) (a.put oi.dst v) w → wpAnyT P ops Q S tl (fuel + 1) listed a w := by
 intro fuel
 induction fuel with
 | zero =>
  intro listed a w _ _ _ hr hy hS H
  refine ⟨fun h => (by rw [h] at hr; cases hr), fun j hj => ?_⟩
  by_cases hji : j = i
  ·subst hji; exact hy.wpOp hi hS ⟨fun _ h => h, H⟩
  ·have := ready_mono hj hji
   rw [H.1] at this
   cases this
 | succ fuel ih =>
  intro listed a w hc hw hfree hr hy hS H
  refine ⟨fun h => (by rw [h] at hr; cases hr), fun j hj => ?_⟩
  by_cases hji : j = i
  ·subst hji; exact hy.wpOp hi hS ⟨fun _ h => h, H⟩
  ·have h1 := H.2 j (ready_mono hj hji)
   obtain ⟨hjun, oj, hoj, hall⟩ := mem_ready.1 hj
   have hiun := (mem_ready.1 hr).1
   have hnot := not_on (i := i) hiun hall
   have hjt : tl.contains j = false := by
    cases hb : tl.contains j with
    | false => rfl
    | true => exact (waits_spec hc (hw j (by simpa using hb) hjun) hji hiun hj).elim
   have h2 := wpOp_putIf hoj (hfree j oj hoj hji hjun hnot) (fun cs b => hsel i oi cs b hi) (fun cs b => hsel j oj cs b hoj) hQ hy
    (K := fun a' w' => S w' ∧ wpAnyT P ops Q S tl fuel ((listed.setIfInBounds j true).setIfInBounds i true) a' w') (by
     refine wpOp_mono (fun a' w' h3 => ?_) h1
     rw [Array.setIfInBounds_comm _ _ hji]
     exact ⟨h3.1 hjt hS, h3.2⟩)
   have hun : ∀ k, (listed.setIfInBounds j true).getD k true = false → listed.getD k true = false := fun k hk => by
    by_cases hjk : j = k
    ·subst hjk; exact hjun
    ·rw [getD_set_ne true hjk] at hk; exact hk
   exact wpOp_mono (fun a' w' h3 => ⟨fun _ _ => h3.2.1, ih (listed.setIfInBounds j true) a' w' (hc.set hj) (fun k hk hkn => hw k hk (hun k hkn)) (fun k ok hk hki hkn hno => hfree k ok hk hki (hun k hkn) hno) (ready_mono hr (Ne.symm hji)) h3.1 h3.2.1 h3.2.2⟩) h2
theorem wpAnyT_firstP {i : Nat} {oi : Oper} {v : Value} (hi : ops[i]? = some oi) (hsel : ∀ (j : Nat) (o : Oper) cs b, ops[j]? = some o → o.op ≠ .select cs b)
  (hQ : ∀ c a w, Q (.panic c) (a.put oi.dst v) w → Q (.panic c) a w) :
  ∀ (fuel : Nat) (listed : Array Bool) (a : Act) (w : World),
   (∀ j oj, ops[j]? = some oj → j ≠ i → listed.getD j true = false → (∀ e ∈ oj.after, Region.binds .any e = true → e.on ≠ i) → oi.apart ops oj = true) →
   i ∈ Region.ready .any ops listed → YieldsIf P ops (fun _ => True) oi v a →
   wpAnyT P ops Q S tl fuel (listed.setIfInBounds i true) (a.put oi.dst v) w → wpAnyT P ops Q S tl (fuel + 1) listed a w := by
 intro fuel
 induction fuel with
 | zero =>
  intro listed a w _ hr hy H
  refine ⟨fun h => (by rw [h] at hr; cases hr), fun j hj => ?_⟩
  by_cases hji : j = i
  ·subst hji; exact hy.wpOp hi trivial ⟨fun _ h => h, H⟩
  ·have := ready_mono hj hji
   rw [H.1] at this
   cases this
 | succ fuel ih =>
  intro listed a w hfree hr hy H
  refine ⟨fun h => (by rw [h] at hr; cases hr), fun j hj => ?_⟩
  by_cases hji : j = i
  ·subst hji; exact hy.wpOp hi trivial ⟨fun _ h => h, H⟩
  ·have h1 := H.2 j (ready_mono hj hji)
   obtain ⟨hjun, oj, hoj, hall⟩ := mem_ready.1 hj
   have hiun := (mem_ready.1 hr).1
   have hnot := not_on (i := i) hiun hall
   have h2 := wpOp_putIf hoj (hfree j oj hoj hji hjun hnot) (fun cs b => hsel i oi cs b hi) (fun cs b => hsel j oj cs b hoj) hQ hy
    (K := fun a' w' => (tl.contains j = false → S w → S w') ∧ wpAnyT P ops Q S tl fuel ((listed.setIfInBounds j true).setIfInBounds i true) a' w') (by
     refine wpOp_mono (fun a' w' h3 => ?_) h1
     rw [Array.setIfInBounds_comm _ _ hji]
     exact h3)
   have hun : ∀ k, (listed.setIfInBounds j true).getD k true = false → listed.getD k true = false := fun k hk => by
    by_cases hjk : j = k
    ·subst hjk; exact hjun
    ·rw [getD_set_ne true hjk] at hk; exact hk
   exact wpOp_mono (fun a' w' h3 => ⟨h3.2.1, ih (listed.setIfInBounds j true) a' w' (fun k ok hk hki hkn hno => hfree k ok hk hki (hun k hkn) hno) (ready_mono hr (Ne.symm hji)) h3.1 h3.2.2⟩) h2
def pickO (ops : List Oper) : List Nat → Option (List Oper)
 | [] => some []
 | i :: r => (match getO ops i with
  | some o => (match pickO ops r with | some q => some (o :: q) | none => none)
  | none => none)
def seqL (ops : Array Oper) (tl : List Nat) : List Nat → Array Bool → Bool
 | [], listed => (Region.ready .any ops listed).isEmpty
 | k :: r, listed => decide (Region.ready .any ops listed = [k]) && tl.contains k && seqL ops tl r (listed.setIfInBounds k true)
theorem wpAnyT_of_seq : ∀ (is : List Nat) (l : List Oper) (listed : Array Bool) (a : Act) (w : World), pickO ops.toList is = some l → seqL ops tl is listed = true → wpList P ops Q l a w → wpAnyT P ops Q S tl is.length listed a w
 | [], l, _, _, _, hl, hB, h => by simp [pickO] at hl; subst hl; exact ⟨by simpa [seqL] using hB, h⟩
 | k :: is, l, listed, a, w, hl, hB, h => by
  simp only [pickO] at hl
  split at hl
  ·rename_i o ho
   split at hl
   ·rename_i q hq
    simp at hl; subst hl
    rw [getO_eq] at ho
    have h0 : ops[k]? = some o := by simpa using ho
    simp only [seqL, Bool.and_eq_true, decide_eq_true_eq] at hB
    refine ⟨fun h1 => (by rw [hB.1.1] at h1; cases h1), fun i hi => ?_⟩
    rw [hB.1.1] at hi
    have hik : i = k := by simpa using hi
    subst hik
    have hw : wpOp P ops Q i (wpList P ops Q q) a w := by unfold wpOp; simp only [h0]; exact h
    exact wpOp_mono (fun a' w' h' => ⟨fun h => (by rw [hB.1.2] at h; cases h), wpAnyT_of_seq is q _ a' w' hq hB.2 h'⟩) hw
   ·cases hl
  ·cases hl
end
def SB (C : Cx) (bs : Nat → Nat) (G0 : GH) (L : Locs) (R : Rows) : World → Prop := fun w => ∃ G, Le G0 G ∧ HInv C w G bs L R
def DX (C : Cx) (ops : Array Oper) (tl : List Nat) (s : List It) (bs : Nat → Nat) (G0 : GH) (fuel : Nat) (listed : Array Bool) (env : Env) (L : Locs) (R : Rows) (Γ : Facts) : Prop :=
 Closed ops listed → ∀ a w G, Le G0 G → SatB C env L R Γ G bs a w → wpAnyT C.P ops (cont C s) (SB C bs G0 L R) tl fuel listed a w
theorem cont_panic (C : Cx) (s : List It) (c : List PanicEntry) (a : Act) (w : World) : cont C s (.panic c) a w → False := by
 induction s with
 | nil => rintro ⟨_, v, h, _⟩; cases h
 | cons x s ih => cases x <;> exact ih
theorem HInv.drew {C : Cx} {w : World} {G : GH} {bs : Nat → Nat} {L : Locs} {R : Rows} (h : HInv C w G bs L R) : HInv C { w with drawn := w.drawn + 1 } G bs L R :=
 ⟨⟨h.keep.os, h.keep.tape, h.keep.output, h.keep.size, h.keep.block⟩, h.le, h.loc, h.row, h.inj, h.dis, h.pin, h.nr⟩
theorem WX.draw {C : Cx} {id : Nat} {ops : Array Oper} {s : List It} {env : Env} {L : Locs} {R : Rows} {Γ : Facts} (tl : List Nat) (hm : C.P.follows .mixedOrders = true)
  (k : ∀ bs G0, AllK C.M G0 Γ → DX C ops tl s bs G0 ops.size (Array.replicate ops.size false) env L R Γ) : WX C (.code (.region id ops true) :: s) env L R Γ := by
 rintro a w ⟨G, bs, hA, hI, hΓ⟩
 show (Code.region id ops true).wp C.P (cont C s) a w
 exact wp_region_any hm (wpAny_of_T _ _ _ _ (k bs G hΓ (closed_start ops) a _ G (Le.refl _) ⟨hA, hI.drew, hΓ⟩))
def mayP (ops : Array Oper) (listed : Array Bool) (i : Nat) : Bool :=
 Region.noSelect ops && Region.free .any ops listed i && (Region.ready .any ops listed).contains i
def mayB (ops : Array Oper) (tl : List Nat) (listed : Array Bool) (i : Nat) : Bool :=
 mayP ops listed i && !tl.contains i && tl.all (fun j => listed.getD j true || waits ops j i)
theorem DX.take {C : Cx} {ops : Array Oper} {tl : List Nat} {s : List It} {bs : Nat → Nat} {G0 : GH} {fuel : Nat} {listed : Array Bool} {env : Env} {L : Locs} {R : Rows} {Γ : Facts} {i d : Nat} {o : Oper} {sv : SV} {b : Bool} (hb : mayB ops tl listed i = true) (hi : ops[i]? = some o) (hd : o.dst = some d) (hlt : d < C.fn.ntmps)
  (hg : gd ops env o = some b) (hl : b = true → Looks C env L R G0 o sv) (hu : b = false → sv = .v undef)
  (k : DX C ops tl s bs G0 fuel (listed.setIfInBounds i true) ((d, sv) :: env) L R Γ) : DX C ops tl s bs G0 (fuel + 1) listed env L R Γ := by
 intro hcl a w G hle ⟨hA, hI, hΓ⟩
 simp only [mayB, mayP, Bool.and_eq_true, Bool.not_eq_true', List.all_eq_true, Bool.or_eq_true] at hb
 obtain ⟨⟨⟨⟨h1, h4⟩, h5⟩, h3⟩, h6⟩ := hb
 have hr : i ∈ Region.ready .any ops listed := by simpa using h5
 refine wpAnyT_first hi h3 (Region.noSelect_spec h1) (fun c a w h => (cont_panic C s c _ _ h).elim) fuel listed a w hcl (fun j hj hun => (h6 j hj).resolve_left (by rw [hun]; simp)) (Region.free_spec hi h4) hr (v := conc bs sv) ?_ ⟨G, hle, hI⟩ ?_
 ·cases b with
  | true => exact .inl ⟨gd_sound hA hg, fun w' ⟨G', hle', hI'⟩ => hl rfl a w' G' bs hle' hA hI'⟩
  | false => exact .inr ⟨gd_sound hA hg, by rw [hu rfl]; rfl⟩
 ·rw [hd]
  exact k (hcl.set hr) _ _ G hle ⟨hA.put hlt sv, hI, hΓ⟩
theorem DX.takeP {C : Cx} {ops : Array Oper} {tl : List Nat} {s : List It} {bs : Nat → Nat} {G0 : GH} {fuel : Nat} {listed : Array Bool} {env : Env} {L : Locs} {R : Rows} {Γ : Facts} {i d : Nat} {o : Oper} {sv : SV} {b : Bool} (hb : mayP ops listed i = true) (hi : ops[i]? = some o) (hd : o.dst = some d) (hlt : d < C.fn.ntmps)
  (hg : gd ops env o = some b) (hl : b = true → ∀ a w bs, At C.fn.ntmps env bs a → (execOp a.eval o).run C.P w = .ok (.value (conc bs sv)) w) (hu : b = false → sv = .v undef)
  (k : DX C ops tl s bs G0 fuel (listed.setIfInBounds i true) ((d, sv) :: env) L R Γ) : DX C ops tl s bs G0 (fuel + 1) listed env L R Γ := by
 intro hcl a w G hle ⟨hA, hI, hΓ⟩
 simp only [mayP, Bool.and_eq_true] at hb
 obtain ⟨⟨h1, h4⟩, h5⟩ := hb
 have hr : i ∈ Region.ready .any ops listed := by simpa using h5
 refine wpAnyT_firstP hi (Region.noSelect_spec h1) (fun c a w h => (cont_panic C s c _ _ h).elim) fuel listed a w (Region.free_spec hi h4) hr (v := conc bs sv) ?_ ?_
 ·cases b with
  | true => exact .inl ⟨gd_sound hA hg, fun w' _ => hl rfl a w' bs hA⟩
  | false => exact .inr ⟨gd_sound hA hg, by rw [hu rfl]; rfl⟩
 ·rw [hd]
  exact k (hcl.set hr) _ _ G hle ⟨hA.put hlt sv, hI, hΓ⟩
theorem pureS_any {C : Cx} (ht : TabOk C.P C.tt) {env : Env} {bs : Nat → Nat} {a : Act} (w : World) (hA : At C.fn.ntmps env bs a) {o : Oper} {sv : SV} (h : pureS C.tt env [] o.op = some sv) : (execOp a.eval o).run C.P w = .ok (.value (conc bs sv)) w :=
 pureS_sound (C := ⟨C.P, C.fn, C.tt, w, emp, none, fun _ _ => True⟩) (L := []) (R := []) (G := emp) ht hA ⟨Kp.refl _ _, emp_le _, by simp [look], by simp [look], fun i j _ hi => by rcases hi with ⟨l, h⟩ | ⟨r, h, _⟩ <;> simp [look] at h, by simp [look], (fun b h => by cases h), by simp [look]⟩ h
def takesB (ops : Array Oper) (tl : List Nat) : Array Bool → List (Nat × Bool) → Bool
 | _, [] => true
 | listed, (i, p) :: r => (match p with | true => mayP ops listed i | false => mayB ops tl listed i) && takesB ops tl (listed.setIfInBounds i true) r
def setAll : Array Bool → List (Nat × Bool) → Array Bool
 | l, [] => l
 | l, (i, _) :: r => setAll (l.setIfInBounds i true) r
def takesE (tt : TT) (m : Nat) (ops : Array Oper) (L : Locs) : Env → List (Nat × Bool) → Option Env
 | env, [] => some env
 | env, (i, p) :: r => (match getO ops.toList i with
  | some o => (match o.dst with
   | some d => (match Nat.blt d m with
    | true => (match gd ops env o with
     | some true => (match pureS tt env (match p with | true => [] | false => L) o.op with
      | some sv => takesE tt m ops L ((d, sv) :: env) r
      | none => none)
     | some false => takesE tt m ops L ((d, .v undef) :: env) r
     | none => none)
    | false => none)
   | none => none)
  | none => none)
theorem DX.takes {C : Cx} {ops : Array Oper} {tl : List Nat} {s : List It} {bs : Nat → Nat} {G0 : GH} {L : Locs} {R : Rows} {Γ : Facts} (ht : TabOk C.P C.tt) : ∀ (is : List (Nat × Bool)) {fuel : Nat} {listed : Array Bool} {env env' : Env}, takesB ops tl listed is = true →
  takesE C.tt C.fn.ntmps ops L env is = some env' → DX C ops tl s bs G0 fuel (setAll listed is) env' L R Γ → DX C ops tl s bs G0 (fuel + is.length) listed env L R Γ
 | [], _, _, _, _, _, h, k => by simp [takesE] at h; subst h; exact k
 | (i, p) :: r, fuel, listed, env, env', hb, h, k => by
  simp only [takesB, Bool.and_eq_true] at hb
  simp only [takesE] at h
  split at h
  ·rename_i o ho
   rw [getO_eq] at ho
   have ho' : ops[i]? = some o := by simpa using ho
   split at h
   ·rename_i d hd
    split at h
    ·rename_i hlt
     have hlt' : d < C.fn.ntmps := by simpa [Nat.blt_eq] using hlt
     split at h
     ·rename_i hg
      split at h
      ·rename_i sv hsv
       cases p with
       | true => exact DX.takeP hb.1 ho' hd hlt' hg (fun _ a w bs' hA => pureS_any ht w hA hsv) (fun h => by cases h) (DX.takes ht r hb.2 h k)
       | false => exact DX.take hb.1 ho' hd hlt' hg (fun _ a w G' bs' hle hA hI => pureS_sound ht hA hI hsv) (fun h => by cases h) (DX.takes ht r hb.2 h k)
      ·cases h
     ·rename_i hg
      cases p with
      | true => exact DX.takeP hb.1 ho' hd hlt' hg (fun h => by cases h) (fun _ => rfl) (DX.takes ht r hb.2 h k)
      | false => exact DX.take hb.1 ho' hd hlt' hg (fun h => by cases h) (fun _ => rfl) (DX.takes ht r hb.2 h k)
     ·cases h
    ·cases h
   ·cases h
  ·cases h
theorem DX.tail {C : Cx} {ops : Array Oper} {tl : List Nat} {s : List It} {bs : Nat → Nat} {G0 : GH} {fuel : Nat} {listed : Array Bool} {env : Env} {L : Locs} {R : Rows} {Γ : Facts} {rest : List Oper} (is : List Nat) (hr : pickO ops.toList is = some rest) (hf : fuel = is.length) (hs : seqL ops tl is listed = true)
  (k : WX C (.ops ops rest :: s) env L R Γ) : DX C ops tl s bs G0 fuel listed env L R Γ := by
 intro _ a w G _ hS
 subst hf
 exact wpAnyT_of_seq is rest listed a w hr hs (k a w ⟨G, bs, hS⟩)
theorem DX.callG {C : Cx} {ops : Array Oper} {tl : List Nat} {st : List It} {bs : Nat → Nat} {G0 : GH} {fuel : Nat} {listed : Array Bool} {env : Env} {L : Locs} {R : Rows} {Γ : Facts} {o : Oper} (i : Nat) {f : Operand} {args : List Operand} {ats : Array TypeId} {g : FuncId} {sf : SV} {svs : List SV} {caps : (Nat → Nat) → List Value}
  {Ψ : World → Value → World → Prop} {d : Nat} (hit : tl.contains i = false) (hr : Region.ready .any ops listed = [i]) (hi : getO ops.toList i = some o) (hg : gd ops env o = some true) (hd : o.dst = some d) (ho : o.op = .call { callee := .value f, args := args.toArray, argTypes := ats })
  (hf : ev env f = some sf) (hsf : ∀ bs, conc bs sf = .func (.func g) #[] (caps bs).toArray) (hargs : evs env args = some svs)
  (hc : ∀ w G bs, HInv C w G bs L R → AllK C.M (hp w) Γ → Does C.P g (svs.map (conc bs) ++ caps bs).toArray w emp (Ψ w))
  (k : ∀ a w w' G v, Le G0 G → At C.fn.ntmps env bs a → HInv C w G bs L R → AllK C.M G Γ → Kp emp w w' → Ψ w v w' → SB C bs G0 L R w' ∧ (Closed ops (listed.setIfInBounds i true) → wpAnyT C.P ops (cont C st) (SB C bs G0 L R) tl fuel (listed.setIfInBounds i true) (a.put (some d) v) w')) : DX C ops tl st bs G0 (fuel + 1) listed env L R Γ := by
 intro hcl a w G hle ⟨hA, hI, hΓ⟩
 rw [getO_eq] at hi
 have hi' : ops[i]? = some o := by simpa using hi
 refine ⟨fun h => (by rw [hr] at h; cases h), fun j hj => ?_⟩
 have hcl' := hcl.set hj
 rw [hr] at hj
 obtain rfl : j = i := by simpa using hj
 unfold wpOp
 simp only [hi']
 rw [if_pos (gd_sound hA hg)]
 refine .inl ?_
 unfold Oper.wp
 obtain ⟨he, hcalls⟩ := hc w G bs hI (hΓ.mono hI.le)
 rw [exec_call he ho (by rw [ev_conc hA hf, hsf]) (evs_sound hA args svs hargs)]
 simp only [Oper.upon]
 refine hcalls.mono fun e w' ⟨v, hv, hb, hψ⟩ => ?_
 subst hv
 rw [hd]
 obtain ⟨q1, q2⟩ := k a w w' G v hle hA hI hΓ hb hψ
 exact ⟨fun _ _ => q1, q2 hcl'⟩
theorem DX.callV {C : Cx} {ops : Array Oper} {tl : List Nat} {st : List It} {bs : Nat → Nat} {G0 : GH} {fuel : Nat} {listed : Array Bool} {env : Env} {L : Locs} {R : Rows} {Γ : Facts} {o : Oper} (i : Nat) {f : Operand} {args : List Operand} {ats : Array TypeId} {g : FuncId} {sf : SV} {svs : List SV} {caps : (Nat → Nat) → List Value}
  {c : Value} {Q : Prop} {d : Nat} (hit : tl.contains i = false) (hr : Region.ready .any ops listed = [i]) (hi : getO ops.toList i = some o) (hg : gd ops env o = some true) (hd : o.dst = some d) (hlt : Nat.blt d C.fn.ntmps = true) (ho : o.op = .call { callee := .value f, args := args.toArray, argTypes := ats })
  (hf : ev env f = some sf) (hsf : ∀ bs, conc bs sf = .func (.func g) #[] (caps bs).toArray) (hargs : evs env args = some svs)
  (hc : ∀ w G bs, HInv C w G bs L R → AllK C.M (hp w) Γ → Does C.P g (svs.map (conc bs) ++ caps bs).toArray w emp fun v _ => v = c ∧ Q)
  (k : Q → DX C ops tl st bs G0 fuel (listed.setIfInBounds i true) ((d, .v c) :: env) L R Γ) : DX C ops tl st bs G0 (fuel + 1) listed env L R Γ :=
 DX.callG (Ψ := fun _ v _ => v = c ∧ Q) i hit hr hi hg hd ho hf hsf hargs hc fun a w w' G v hle hA hI hΓ hb ⟨hv, hq⟩ => by
  subst hv
  have hI' := (hI.called (emp_le _) (fun _ _ h => by cases h) hb (emp_le _) (fun _ _ h => by cases h)).1
  have hle' : Le G0 (join (cut G emp) emp) := hle.trans (le_join_l (cut G emp) emp)
  exact ⟨⟨_, hle', hI'⟩, fun hcl => k hq hcl _ _ _ hle' ⟨hA.put (by simpa [Nat.blt_eq] using hlt) (.v v), hI', hΓ.mono (le_join_l (cut G emp) emp)⟩⟩
theorem DX.callF {C : Cx} {ops : Array Oper} {tl : List Nat} {st : List It} {bs : Nat → Nat} {G0 : GH} {fuel : Nat} {listed : Array Bool} {env : Env} {L : Locs} {R : Rows} {Γ : Facts} {o : Oper} (i m : Nat) {f : Operand} {args : List Operand} {ats : Array TypeId} {g : FuncId} {sf : SV} {svs : List SV} {caps : (Nat → Nat) → List Value}
  {ι : Type} {val val' : ι → Value} {gs ds : ι → List MF} {Q : Prop} {d : Nat} {Γ' : ι → Facts} (hds : ∀ i h, Sep h (gs i) → All h (ds i)) (hdk : ∀ i, ∀ f ∈ ds i, f.k = .der) (hit : tl.contains i = false) (hr : Region.ready .any ops listed = [i]) (hi : getO ops.toList i = some o) (hg : gd ops env o = some true) (hd : o.dst = some d) (hlt : Nat.blt d C.fn.ntmps = true) (ho : o.op = .call { callee := .value f, args := args.toArray, argTypes := ats })
  (hf : ev env f = some sf) (hsf : ∀ bs, conc bs sf = .func (.func g) #[] (caps bs).toArray) (hargs : evs env args = some svs)
  (hc : ∀ w G bs, HInv C w G bs L R → AllK C.M (hp w) Γ → Does C.P g (svs.map (conc bs) ++ caps bs).toArray w emp (Post w emp val gs Q))
  (hv : ∀ i, normV (val i) = some (val' i)) (hΓ' : ∀ i, addF m (ds i ++ gs i) Γ = some (Γ' i))
  (k : ∀ j, Q → DX C ops tl st bs G0 fuel (listed.setIfInBounds i true) ((d, .v (val' j)) :: env) L R (Γ' j)) : DX C ops tl st bs G0 (fuel + 1) listed env L R Γ :=
 DX.callG (Ψ := fun w v w' => Post w emp val gs Q v w') i hit hr hi hg hd ho hf hsf hargs hc fun a w w' G v hle hA hI hΓ hb hv' => by
  obtain ⟨j, h, rfl, hq, hle1, hdom, hs⟩ := hv'
  rw [← normV_eq (hv j)]
  obtain ⟨hI', hdj⟩ := hI.called (emp_le _) (fun _ _ h => by cases h) hb hle1 hdom
  have hle' : Le G0 (join (cut G emp) h) := hle.trans (le_join_l (cut G emp) h)
  exact ⟨⟨_, hle', hI'⟩, fun hcl => k j hq hcl _ _ _ hle' ⟨hA.put (by simpa [Nat.blt_eq] using hlt) (.v _), hI', hΓ.after hdj (fun b o hb' => .inl ((hdom b o hb').elim (Nat.le_trans hI.keep.size) (fun h => absurd rfl h))) hs (hdk j) (hds j h hs) (hΓ' j)⟩⟩
theorem DX.idx {C : Cx} {ops : Array Oper} {tl : List Nat} {s : List It} {bs : Nat → Nat} {G0 : GH} {fuel : Nat} {listed : Array Bool} {env : Env} {L : Locs} {R : Rows} {Γ Γ0 : Facts} {o : Oper} {α : Type} [GoT α] {d : Nat} {x y : Operand} {T kk q c : Nat} {m : Int} {kd : Kd} {p : Option Addr} {l : List α} (i ℓ j : Nat) (ht : TabOk C.P C.tt) (h0 : AllK C.M G0 Γ0)
  (hb : mayB ops tl listed i = true) (hi : getO ops.toList i = some o) (hg : gd ops env o = some true) (hd : o.dst = some d) (hlt : Nat.blt d C.fn.ntmps = true) (ho : o.op = .indexAddr T x y)
  (hx : ev env x = some (.v (.slice p q c))) (hy : ev env y = some (.v (.int .i64 m))) (hk : elemO C.tt T = some kk) (hℓ : look Γ0 ℓ = some (MF.rs kd p c l)) (hq : q = l.length) (hm : m = (j : Int)) (hj : j < l.length)
  (k : ∀ ad, p = some ad → DX C ops tl s bs G0 fuel (listed.setIfInBounds i true) ((d, .e (some ad) j kk 0) :: env) L R Γ) : DX C ops tl s bs G0 (fuel + 1) listed env L R Γ := by
 obtain ⟨x', ad, rfl, _⟩ := RdSl.get (i := j) (h0.get ℓ hℓ : RdSl G0 p c l) (List.getElem?_eq_getElem hj)
 rw [getO_eq] at hi
 exact DX.take hb (by simpa using hi) hd (by simpa [Nat.blt_eq] using hlt) hg (fun _ => looks_idx ht ho hx hy hk hm (by omega)) (fun h => by cases h) (k ad rfl)
theorem DX.ldE {C : Cx} {ops : Array Oper} {tl : List Nat} {s : List It} {bs : Nat → Nat} {G0 : GH} {fuel : Nat} {listed : Array Bool} {env : Env} {L : Locs} {R : Rows} {Γ Γ0 : Facts} {o : Oper} {α : Type} [GoT α] {d : Nat} {x : Operand} {T c j off : Nat} {ti : TI} {ad : Addr} {kd : Kd} {l : List α} (i ℓ m : Nat) (a : α) {val : X α → Value} {Γ' : X α → Facts} (ht : TabOk C.P C.tt) (h0 : AllK C.M G0 Γ0)
  (hb : mayB ops tl listed i = true) (hi : getO ops.toList i = some o) (hg : gd ops env o = some true) (hd : o.dst = some d) (hlt : Nat.blt d C.fn.ntmps = true) (ho : o.op = .load T x)
  (hx : ev env x = some (.e (some ad) j (GoT.k α) off)) (hT : look C.tt T = some ti) (hℓ : look Γ0 ℓ = some (MF.rs kd (some ad) c l)) (ha : l[j]? = some a)
  (hv : ∀ x, asm ti (sh a x) off = some (val x)) (hf : ∀ x, addF m (fa .der a x) Γ = some (Γ' x))
  (k : ∀ x, DX C ops tl s bs G0 fuel (listed.setIfInBounds i true) ((d, .v (val x)) :: env) L R (Γ' x)) : DX C ops tl s bs G0 (fuel + 1) listed env L R Γ := by
 obtain ⟨x', ad', had, hfa, hc⟩ := RdSl.get (i := j) (h0.get ℓ hℓ : RdSl G0 (some ad) c l) ha
 simp at had; subst had
 rw [getO_eq] at hi
 intro hcl a' w G hle hS
 exact DX.take (Γ := Γ' x') hb (by simpa using hi) hd (by simpa [Nat.blt_eq] using hlt) hg (fun _ => looks_ldE ht ho hx hT hc (hv x')) (fun h => by cases h) (k x') hcl a' w G hle ⟨hS.1, hS.2.1, AllK.ders (hf x') (fun f hf => GoT.fak f hf) (hfa.mono hle) hS.2.2⟩
end Go.Stp

namespace Go.Stp
open GoT (X k ok sh fa oa)
theorem WX.see {C : Cx} {ops : Array Oper} {o : Oper} {r : List Oper} {s : List It} {env : Env} {L : Locs} {R : Rows} {Γ : Facts} {d : Nat} {sv : SV}
  (hg : gd ops env o = some true) (hd : o.dst = some d) (hlt : Nat.blt d C.fn.ntmps = true) (hl : ∀ G, AllK C.M G Γ → Looks C env L R G o sv)
  (k : WX C (.ops ops r :: s) ((d, sv) :: env) L R Γ) : WX C (.ops ops (o :: r) :: s) env L R Γ := WX.peek hg hd hlt fun G hΓ => ⟨sv, hl G hΓ, k⟩
theorem DX.see {C : Cx} {ops : Array Oper} {tl : List Nat} {s : List It} {bs : Nat → Nat} {G0 : GH} {fuel : Nat} {listed : Array Bool} {env : Env} {L : Locs} {R : Rows} {Γ : Facts} {d : Nat} {o : Oper} {sv : SV} (i : Nat) (hb : mayB ops tl listed i = true) (hi : getO ops.toList i = some o)
  (hg : gd ops env o = some true) (hd : o.dst = some d) (hlt : Nat.blt d C.fn.ntmps = true) (hl : Looks C env L R G0 o sv)
  (k : DX C ops tl s bs G0 fuel (listed.setIfInBounds i true) ((d, sv) :: env) L R Γ) : DX C ops tl s bs G0 (fuel + 1) listed env L R Γ := by
 rw [getO_eq] at hi
 exact DX.take hb (by simpa using hi) hd (by simpa [Nat.blt_eq] using hlt) hg (fun _ => hl) (fun h => by cases h) k
theorem DX.der {C : Cx} {ops : Array Oper} {tl : List Nat} {s : List It} {bs : Nat → Nat} {G0 : GH} {fuel : Nat} {listed : Array Bool} {env : Env} {L : Locs} {R : Rows} {Γ : Facts} (m : Nat) (f : MF) (hk : f.k = .der) (h : ∀ G, AllK C.M G Γ → f.p G)
  (k : DX C ops tl s bs G0 fuel listed env L R ((m, f) :: Γ)) : DX C ops tl s bs G0 fuel listed env L R Γ := by
 intro hcl a w G hle ⟨hA, hI, hΓ⟩
 exact k hcl a w G hle ⟨hA, hI, hΓ.der m f hk (h G hΓ)⟩
theorem DX.cases {C : Cx} {ops : Array Oper} {tl : List Nat} {s : List It} {bs : Nat → Nat} {G0 : GH} {fuel : Nat} {listed : Array Bool} {env : Env} {L : Locs} {R : Rows} {Γ : Facts} (d : Nat) {b : Bool} (h : look env d = some (.v (.bool b)))
  (kt : b = true → DX C ops tl s bs G0 fuel listed ((d, .T) :: env) L R Γ) (kf : b = false → DX C ops tl s bs G0 fuel listed ((d, .F) :: env) L R Γ) : DX C ops tl s bs G0 fuel listed env L R Γ := by
 have key : ∀ y : SV, conc bs y = conc bs (.v (.bool b)) → DX C ops tl s bs G0 fuel listed ((d, y) :: env) L R Γ → DX C ops tl s bs G0 fuel listed env L R Γ := fun y hy k hcl a w G hle ⟨hA, hI, hΓ⟩ => by
  refine k hcl a w G hle ⟨⟨hA.size, hA.dfr, fun i x' hx => ?_⟩, hI, hΓ⟩
  rw [look_cons] at hx
  split at hx
  ·rename_i he; subst he; simp at hx; subst hx; rw [hA.slot d _ h, hy]
  ·exact hA.slot i x' hx
 cases b with
 | true => exact key .T rfl (kt rfl)
 | false => exact key .F rfl (kf rfl)
theorem DX.slot {C : Cx} {ops : Array Oper} {tl : List Nat} {s : List It} {bs : Nat → Nat} {G0 : GH} {fuel : Nat} {listed : Array Bool} {env : Env} {L : Locs} {R : Rows} {Γ : Facts} (d : Nat) {x y : SV} (h : look env d = some x) (e : ∀ bs, conc bs x = conc bs y) (k : DX C ops tl s bs G0 fuel listed ((d, y) :: env) L R Γ) : DX C ops tl s bs G0 fuel listed env L R Γ := by
 intro hcl a w G hle ⟨hA, hI, hΓ⟩
 refine k hcl a w G hle ⟨⟨hA.size, hA.dfr, fun i x' hx => ?_⟩, hI, hΓ⟩
 rw [look_cons] at hx
 split at hx
 ·rename_i he; subst he; simp at hx; subst hx; rw [hA.slot d x h, e]
 ·exact hA.slot i x' hx
theorem WX.free {C : Cx} {s : List It} {env : Env} {L : Locs} {R : Rows} {Γ : Facts} (n : Nat) (f : MF) (hp : f.p emp) (k : WX C s env L R ((n, f) :: Γ)) : WX C s env L R Γ := by
 rintro a w ⟨G, bs, hA, hI, hΓ⟩
 exact k a w ⟨G, bs, hA, hI, hΓ.new n f (h := emp) (Le.refl _) (emp_le _) (fun _ => emp_dj _) (fun _ _ _ h => by cases h) hp⟩
theorem WX.row0 {C : Cx} {s : List It} {env : Env} {L : Locs} {R : Rows} {Γ : Facts} (ρ kk : Nat) (p : Option Addr) (hnl : labHas ρ env L R = false) (k : WX C s env L ((ρ, ⟨kk, p, 0, 0, []⟩) :: R) Γ) : WX C s env L R Γ := by
 rintro a w ⟨G, bs, hA, hI, hΓ⟩
 obtain ⟨l1, l2, l3, l4⟩ := labHas_not hnl
 refine k a w ⟨G, fun j => if j = ρ then 0 else bs j, hA.notH l1 (fun i hi => if_neg hi), ?_, hΓ⟩
 exact hI.upd (ρ := ρ) (b' := 0) (r' := ⟨kk, p, 0, 0, []⟩) l4 False (fun h => h.elim) (only_refl w _ _) (.inr (.inr rfl)) (fun j => look_cons _ _ _ _) (fun l h => keyHas_not l2 h rfl) ⟨by simp, .inl ⟨rfl, rfl⟩⟩
theorem kp_le {w w' : World} (h : Kp emp w w') : Le (hp w) (hp w') := fun b o hb => by
 have hlt : b < w.heap.size := (Array.getElem?_eq_some_iff.1 hb).1
 show w'.heap[b]? = some o
 rw [h.block b hlt rfl]; exact hb
theorem cap_eq {a : Addr} {k : Nat} : Value.pointer (some a) = Value.pointer (some ((a.add (0 * k)).add 0)) := by
 cases a; simp [Addr.add]
theorem rd_box {α : Type} [GoT α] {w : World} {b : Nat} {T : TypeId} {a : α} {x : GoT.X α} (hh : w.heap[b]? = some (.cells (GoT.sh a x).toArray T (0, 0))) (hf : All (hp w) (GoT.fa .der a x)) : RdSl (hp w) (some ⟨b, 0, none⟩) 1 [a] := by
 refine ⟨Nat.le_refl _, by simp, GoT.sh a x, ?_, ?_⟩
 ·intro j u hj
  refine ⟨_, rfl, ?_⟩
  have hh' : hp w b = some (.cells (GoT.sh a x).toArray T (0, 0)) := hh
  by_cases h0 : j = 0 <;> simp [gcell, Addr.add, h0, hh'] <;> simpa [h0] using hj
 ·exact ⟨x, [], by simp, hf, rfl⟩
def beqO (b : BinOp) (p q : Bool) : Option Bool :=
 match b with
 | .eql => some (p == q)
 | .neq => some (!(p == q))
 | _ => none
theorem looks_beq {C : Cx} {env : Env} {L : Locs} {R : Rows} {G : GH} {o : Oper} {b : BinOp} {x y : Operand} {T T' : Nat} {ti : TI} {p q c : Bool} (ht : TabOk C.P C.tt) (ho : o.op = .binOp b T x y T') (hT : look C.tt T = some ti) (hb : ti.desc = .bool)
  (hx : ev env x = some (.v (.bool p))) (hy : ev env y = some (.v (.bool q))) (hq : beqO b p q = some c) : Looks C env L R G o (.v (.bool c)) := by
 intro a w G' bs _ hA hI
 have hu : C.P.underlying T = some .bool := by rw [← hb]; exact (ht.get hT).1
 have he : (Op.equal T (.bool p) (.bool q)).run C.P w = .ok (p == q) w := run_equalIn_bool (P := C.P) w (Op.maxDepth - 1) T p q hu
 have hq' : (b = .eql ∧ c = (p == q)) ∨ (b = .neq ∧ c = !(p == q)) := by
  cases b <;> simp only [beqO, Option.some.injEq, reduceCtorEq] at hq
  ·exact .inl ⟨rfl, hq.symm⟩
  ·exact .inr ⟨rfl, hq.symm⟩
 unfold execOp
 simp only [ho, ev_conc hA hx, ev_conc hA hy, conc]
 rcases hq' with ⟨rfl, rfl⟩ | ⟨rfl, rfl⟩
 ·simp [eqGuard, binOp, Sem.run_bind, he]
 ·simp [eqGuard, binOp, Sem.run_bind, he]
theorem looks_nil {C : Cx} {env : Env} {L : Locs} {R : Rows} {G : GH} {o : Oper} {x : Operand} {T T' n c : Nat} {p : Option Addr} {ti : TI} {e : Nat} (ht : TabOk C.P C.tt) (ho : o.op = .binOp .eql T x (.const (.slice none 0 0)) T') (hT : look C.tt T = some ti) (hb : ti.desc = .slice e)
  (hx : ev env x = some (.v (.slice p n c))) : Looks C env L R G o (.v (.bool p.isNone)) := by
 intro a w G' bs _ hA hI
 have hu : C.P.underlying T = some (.slice e) := by rw [← hb]; exact (ht.get hT).1
 have he : (Op.equal T (.slice p n c) (.slice none 0 0)).run C.P w = .ok p.isNone w := by
  exact run_equal_slice_nil w T e p n c hu
 unfold execOp
 simp only [ho, ev_conc hA hx, conc]
 simp [eqGuard, binOp, Sem.run_bind, he, Act.eval]
theorem looks_cvt {C : Cx} {env : Env} {L : Locs} {R : Rows} {G : GH} {o : Oper} {x : Operand} {S T : Nat} {si ti : TI} {k q : IntKind} {sd : TypeDesc} {n : Int} (ht : TabOk C.P C.tt) (ho : o.op = .convert S T x) (hS : look C.tt S = some si) (hs : si.desc = sd) (hT : look C.tt T = some ti) (hk : ti.desc = .int k)
  (hx : ev env x = some (.v (.int q n))) : Looks C env L R G o (.v (.int k (k.wrap n))) := by
 intro a w G' bs _ hA hI
 have hu : C.P.underlying T = some (.int k) := by rw [← hk]; exact (ht.get hT).1
 have hv : C.P.underlying S = some sd := by rw [← hs]; exact (ht.get hS).1
 unfold execOp
 simp only [ho, ev_conc hA hx, conc]
 simp [convert, Conv.intToInt, Sem.run_bind, underlying, hu, hv]
def toU8 (n : Int) : UInt8 := UInt8.ofNat (n % 256).toNat
theorem u8_wrap (n : Int) : IntKind.u8.wrap n = ((toU8 n).toNat : Int) := by
 unfold toU8
 rw [UInt8.toNat_ofNat']
 simp [IntKind.wrap, IntKind.bits, IntKind.signed]
 omega
theorem looks_toU8 {C : Cx} {env : Env} {L : Locs} {R : Rows} {G : GH} {o : Oper} {x : Operand} {S T : Nat} {si ti : TI} {sd : TypeDesc} {n : Int} (ht : TabOk C.P C.tt) (ho : o.op = .convert S T x) (hS : look C.tt S = some si) (hs : si.desc = sd) (hT : look C.tt T = some ti) (hk : ti.desc = .int .u8)
  (hx : ev env x = some (.v (.int .i64 n))) : Looks C env L R G o (.v (.int .u8 ((toU8 n).toNat : Int))) := by
 rw [← u8_wrap]; exact looks_cvt ht ho hS hs hT hk hx
theorem looks_ofU8 {C : Cx} {env : Env} {L : Locs} {R : Rows} {G : GH} {o : Oper} {x : Operand} {S T : Nat} {si ti : TI} {sd : TypeDesc} {c : UInt8} (ht : TabOk C.P C.tt) (ho : o.op = .convert S T x) (hS : look C.tt S = some si) (hs : si.desc = sd) (hT : look C.tt T = some ti) (hk : ti.desc = .int .i64)
  (hx : ev env x = some (.v (.int .u8 (c.toNat : Int)))) : Looks C env L R G o (.v (.int .i64 (c.toNat : Int))) := by
 have h := looks_cvt (L := L) (R := R) (G := G) ht ho hS hs hT hk hx
 rwa [wrap_i64 (by have := c.toNat_lt; unfold I64; omega)] at h
theorem looks_strIdx {C : Cx} {env : Env} {L : Locs} {R : Rows} {G : GH} {o : Oper} {x y : Operand} {T : Nat} {ti : TI} {s : Str} {i : Nat} {c : UInt8} (ht : TabOk C.P C.tt) (ho : o.op = .index T x y) (hT : look C.tt T = some ti) (hk : ti.desc = .string)
  (hx : ev env x = some (.v (.string s))) (hy : ev env y = some (.v (.int .i64 (i : Int)))) (hc : s.data.toList[i]? = some c) : Looks C env L R G o (.v (.int .u8 c.toNat)) := by
 intro a w G' bs _ hA hI
 have hu : C.P.underlying T = some .string := by rw [← hk]; exact (ht.get hT).1
 have hc' : s[i]? = some c := by
  have h1 : s.data[i]? = some c := by simpa using hc
  obtain ⟨hlt, he⟩ := Array.getElem?_eq_some_iff.1 h1
  rw [getElem?_pos s i hlt]; rw [← he]; rfl
 unfold execOp
 simp only [ho, ev_conc hA hx, ev_conc hA hy, conc]
 simp [Instr.index, asIntOf, Sem.run_bind, underlying, hu, hc']
theorem looks_cat {C : Cx} {env : Env} {L : Locs} {R : Rows} {G : GH} {o : Oper} {x y : Operand} {T T' : Nat} {s t : Str} (ho : o.op = .binOp .add T x y T') (hx : ev env x = some (.v (.string s))) (hy : ev env y = some (.v (.string t))) (hl : s.size + t.size ≤ 9223372036854775807) : Looks C env L R G o (.v (.string (s ++ t))) := by
 intro a w G' bs _ hA hI
 unfold execOp
 have h1 : ¬ (s.size + t.size > maxLen) := by simp only [maxLen]; omega
 simp [ho, ev_conc hA hx, ev_conc hA hy, conc, eqGuard, binOp, Op.stringOp, h1]; omega
theorem i64_wrap (x : Int) : I64 (IntKind.i64.wrap x) := by
 unfold I64
 simp [IntKind.wrap, IntKind.bits, IntKind.signed]
 split <;> omega

theorem okl {α : Type} [GoT α] {n : Nat} {l : List α} (h : GoT.ok n l) : l.length ≤ bd n ∧ ∀ z ∈ l, GoT.ok n z := h
theorem okl_of {α : Type} [GoT α] {n : Nat} {l : List α} (h : l.length ≤ bd n ∧ ∀ z ∈ l, GoT.ok n z) : GoT.ok n l := h
theorem okl_mk {α : Type} [GoT α] {n : Nat} {l : List α} (h : l.length ≤ bd n) (k : ∀ z ∈ l, GoT.ok n z) : GoT.ok n l := ⟨h, k⟩
theorem ok_nil {α : Type} [GoT α] {n : Nat} : GoT.ok n ([] : List α) := ⟨Nat.zero_le _, fun _ h => by cases h⟩
inductive Ctl (ρ σ : Type) where
 | ret (r : ρ)
 | nxt (s : σ)
theorem drop_get {α : Type} {l : List α} {i : Nat} {e : α} (h : l[i]? = some e) : l.drop i = e :: l.drop (i + 1) := by
 obtain ⟨hi, rfl⟩ := List.getElem?_eq_some_iff.1 h
 exact List.drop_eq_getElem_cons hi
theorem all_cons {α : Type} {p : α → Prop} {a : α} {l : List α} (h : p a) (k : ∀ x ∈ l, p x) : ∀ x ∈ a :: l, p x := fun x hx => by
 rcases List.mem_cons.1 hx with rfl | hx
 ·exact h
 ·exact k x hx
theorem all_app {α : Type} {p : α → Prop} {l m : List α} (k : ∀ x ∈ l, p x) (h : ∀ x ∈ m, p x) : ∀ x ∈ l ++ m, p x := fun x hx => (List.mem_append.1 hx).elim (k x) (h x)
section
variable {α : Type} [GoT α]
theorem ol_one {h : GH} {a : α} {x : X α} (hs : Sep h (oa a x)) : Sep h [MF.ol (sh a x) [a]] := one_sep ⟨x, [], h, emp, by simp, Le.refl _, emp_le _, (emp_dj _).symm, hs, rfl⟩
theorem ol_snoc {h : GH} {xs : List Value} {l : List α} {a : α} {x : X α} (hs : Sep h (MF.ol xs l :: oa a x)) : Sep h [MF.ol (xs ++ sh a x) (l ++ [a])] := by
 obtain ⟨h1, h2, q1, q2, q3, q4, q5⟩ := hs
 exact one_sep (OwL.snoc q5 (q4 : OwL h1 xs l) q1 q2 q3)
theorem ol_app {h : GH} {xs ys : List Value} {l m : List α} (hs : Sep h [MF.ol xs l, MF.ol ys m]) : Sep h [MF.ol (xs ++ ys) (l ++ m)] := by
 obtain ⟨h1, h2, q1, q2, q3, q4, q5⟩ := hs
 exact one_sep (OwL.append (sep_one q5 : OwL h2 ys m) (q4 : OwL h1 xs l) q1 q2 q3)
theorem ol_flat {h : GH} {xs ys : List Value} {l m : List α} (hs : Sep h [MF.ol xs l]) (hf : ∀ h, OwL h ys m) : Sep h [MF.ol (xs ++ ys) (l ++ m)] :=
 one_sep (OwL.append (hf emp) (sep_one hs : OwL h xs l) (Le.refl _) (emp_le _) ((emp_dj _).symm))
theorem rdSl_none {G : GH} {c : Nat} {l : List α} (h : RdSl G none c l) : l = [] := by
 obtain ⟨_, _, xs, h1, h2⟩ := h
 have hl := h2.len
 have : xs = [] := by
  cases xs with
  | nil => rfl
  | cons u r => obtain ⟨a, ha, _⟩ := h1 0 u rfl; cases ha
 subst this
 have hp := GoT.pos (α := α)
 cases l with
 | nil => rfl
 | cons a r => simp only [List.length_nil, List.length_cons, Nat.add_mul] at hl; omega
end
theorem WX.appR1 {C : Cx} {ops : Array Oper} {o : Oper} {r : List Oper} {s : List It} {env : Env} {L : Locs} {R : Rows} {Γ : Facts} {d : Nat} {x y : Operand} {T kk by_ : Nat} {z : Value} {row src : Row} (ρ σ n' : Nat) {R' : Option Addr → Nat → Rows} (ht : TabOk C.P C.tt)
  (hg : gd ops env o = some true) (hd : o.dst = some d) (hlt : Nat.blt d C.fn.ntmps = true) (ho : o.op = .call { callee := .builtin .append, args := #[x, y], argTypes := #[T, T] })
  (hx : ev env x = some (.v (.slice row.p row.n row.c))) (hy : ev env y = some (.v (.slice src.p src.n src.c))) (hap : appO C.tt T = some (kk, by_, z)) (hz : z.cells.size = kk) (hρ : look R ρ = some row) (hσ : look R σ = some src) (hkk : row.k = kk) (hks : src.k = kk) (hfree : envFree ρ env = true)
  (hone : ∀ u ∈ src.xs, u.oneCell' = true) (hn : row.n + src.n = n') (hroom : n' * by_ ≤ 140737488355328) (hmax : n' ≤ 9223372036854775807)
  (hR : ∀ p' c', setRO R ρ ⟨row.k, p', n', c', row.xs ++ src.xs⟩ = some (R' p' c'))
  (k : ∀ p' c', WX C (.ops ops r :: s) ((d, .v (.slice p' n' c')) :: env) L (R' p' c') Γ) : WX C (.ops ops (o :: r) :: s) env L R Γ := by
 subst hn
 exact WX.appR ρ σ ht hg hd hlt ho hx hy hap hz hρ hσ hkk hks hfree hone hroom (by simp only [maxLen]; omega) hR k
theorem WX.appG1 {C : Cx} {ops : Array Oper} {o : Oper} {r : List Oper} {s : List It} {env : Env} {L : Locs} {R : Rows} {Γ : Facts} {d : Nat} {x y : Operand} {T by_ q c : Nat} {z : Value} {row : Row} {α : Type} [GoT α] {kd : Kd} {p : Option Addr} {l : List α} (ρ ℓ n n' : Nat) {R' : List Value → Option Addr → Nat → Rows} (ht : TabOk C.P C.tt)
  (hg : gd ops env o = some true) (hd : o.dst = some d) (hlt : Nat.blt d C.fn.ntmps = true) (ho : o.op = .call { callee := .builtin .append, args := #[x, y], argTypes := #[T, T] })
  (hx : ev env x = some (.v (.slice row.p row.n row.c))) (hy : ev env y = some (.v (.slice p q c))) (hq : q = l.length) (hap : appO C.tt T = some (GoT.k α, by_, z)) (hz : z.cells.size = GoT.k α) (hρ : look R ρ = some row) (hkk : row.k = GoT.k α) (hfree : envFree ρ env = true)
  (hℓ : look Γ ℓ = some (MF.rs kd p c l)) (hn : row.n + l.length = n') (hroom : n' * by_ ≤ 140737488355328) (hmax : n' ≤ 9223372036854775807)
  (hR : ∀ xs p' c', setRO R ρ ⟨row.k, p', n', c', row.xs ++ xs⟩ = some (R' xs p' c'))
  (k : ∀ xs p' c', WX C (.ops ops r :: s) ((d, .v (.slice p' n' c')) :: env) L (R' xs p' c') ((n, MF.rl .der xs l) :: Γ)) : WX C (.ops ops (o :: r) :: s) env L R Γ := by
 subst hn
 exact WX.appG ρ ℓ n ht hg hd hlt ho hx hy hq hap hz hρ hkk hfree hℓ hroom (by simp only [maxLen]; omega) hR k
end Go.Stp

namespace Go.Stp
open GoT (X k ok sh fa oa)
theorem HInv.respell {C : Cx} {w : World} {G : GH} {bs : Nat → Nat} {L : Locs} {R R' : Rows} (hI : HInv C w G bs L R) (h : ∀ i r, look R' i = some r → look R i = some r) : HInv C w G bs L R' := hI.sub (Sub.refl _) h
theorem look_setR_same {R : Rows} {ρ : Nat} {row : Row} (h : look R ρ = some row) : ∀ i r, look (setR R ρ row) i = some r → look R i = some r := fun i r hr => by
 rw [look_setR] at hr
 split at hr
 ·rename_i e; subst e; rw [h] at hr ⊢; simpa using hr
 ·exact hr
end Go.Stp

namespace Go.Stp
open GoT (X k ok sh fa oa)
theorem looks_quo {C : Cx} {env : Env} {L : Locs} {R : Rows} {G : GH} {o : Oper} {x y : Operand} {T T' : Nat} {m n : Int} (ho : o.op = .binOp .quo T x y T') (hx : ev env x = some (.v (.int .i64 m))) (hy : ev env y = some (.v (.int .i64 n))) (h0 : n ≠ 0) : Looks C env L R G o (.v (.int .i64 (IntKind.i64.wrap (m.tdiv n)))) := by
 intro a w G' bs _ hA hI
 unfold execOp
 simp [ho, ev_conc hA hx, ev_conc hA hy, conc, eqGuard, binOp, Op.intDiv, h0]
theorem looks_rem {C : Cx} {env : Env} {L : Locs} {R : Rows} {G : GH} {o : Oper} {x y : Operand} {T T' : Nat} {m n : Int} (ho : o.op = .binOp .rem T x y T') (hx : ev env x = some (.v (.int .i64 m))) (hy : ev env y = some (.v (.int .i64 n))) (h0 : n ≠ 0) : Looks C env L R G o (.v (.int .i64 (m.tmod n))) := by
 intro a w G' bs _ hA hI
 unfold execOp
 simp [ho, ev_conc hA hx, ev_conc hA hy, conc, eqGuard, binOp, Op.intDiv, h0]
theorem tmod_rng (x : Int) {y : Int} (h : 0 < y) : -y < x.tmod y ∧ x.tmod y < y := by
 have h1 := Int.tmod_lt_of_pos x h
 have h2 : -y < x.tmod y := by
  by_cases hx : 0 ≤ x
  ·have := Int.tmod_nonneg y hx; omega
  ·have h3 := Int.neg_tmod (a := x) (b := y)
   have h4 := Int.tmod_lt_of_pos (-x) h
   omega
 exact ⟨h2, h1⟩
theorem looks_shr {C : Cx} {env : Env} {L : Locs} {R : Rows} {G : GH} {o : Oper} {x y : Operand} {T T' : Nat} {m n : Int} {q : IntKind} (ho : o.op = .binOp .shr T x y T') (hx : ev env x = some (.v (.int .i64 m))) (hy : ev env y = some (.v (.int q n))) (h0 : 0 ≤ n) : Looks C env L R G o (.v (.int .i64 (m.fdiv (2 ^ (min n.toNat 64))))) := by
 intro a w G' bs _ hA hI
 unfold execOp
 have h1 : ¬ n < 0 := by omega
 simp [ho, ev_conc hA hx, ev_conc hA hy, conc, eqGuard, binOp, Op.shift, h1, IntKind.bits]
def bitO (b : BinOp) (x y : Int) : Int :=
 match b with
 | .and => IntKind.i64.wrap ((BitVec.ofInt 64 x &&& BitVec.ofInt 64 y).toNat : Int)
 | .or => IntKind.i64.wrap ((BitVec.ofInt 64 x ||| BitVec.ofInt 64 y).toNat : Int)
 | .xor => IntKind.i64.wrap ((BitVec.ofInt 64 x ^^^ BitVec.ofInt 64 y).toNat : Int)
 | _ => IntKind.i64.wrap ((BitVec.ofInt 64 x &&& ~~~ BitVec.ofInt 64 y).toNat : Int)
def isBit : BinOp → Bool
 | .and | .or | .xor | .andNot => true
 | _ => false
theorem bitO_I64 (b : BinOp) (x y : Int) : I64 (bitO b x y) := by
 unfold bitO; split <;> exact i64_wrap _
theorem looks_bits {C : Cx} {env : Env} {L : Locs} {R : Rows} {G : GH} {o : Oper} {b : BinOp} {x y : Operand} {T T' : Nat} {m n : Int} (ho : o.op = .binOp b T x y T') (hb : isBit b = true) (hx : ev env x = some (.v (.int .i64 m))) (hy : ev env y = some (.v (.int .i64 n))) : Looks C env L R G o (.v (.int .i64 (bitO b m n))) := by
 intro a w G' bs _ hA hI
 unfold execOp
 cases b <;> simp [isBit] at hb <;> simp only [ho, ev_conc hA hx, ev_conc hA hy, conc] <;> simp [eqGuard, binOp, Op.intBits, bitO] <;> rfl
def bstr (l : List UInt8) : Str := ⟨l.toArray⟩
theorem bstr_size (l : List UInt8) : (bstr l).size = l.length := by simp [bstr, ByteArray.size]
theorem foldl_push : ∀ (l : List UInt8) (s : ByteArray), (l.map fun c => ((c.toNat : Nat) : Int)).foldl (fun r n => r.push (UInt8.ofNat n.toNat)) s = ⟨s.data ++ l.toArray⟩
 | [], s => by simp
 | c :: l, s => by
  simp only [List.map_cons, List.foldl_cons]
  rw [foldl_push l]
  have : (s.push (UInt8.ofNat ((c.toNat : Int)).toNat)).data = s.data.push c := by
   show s.data.push _ = _
   simp
  rw [this]
  simp
theorem rdL_bytes {G : GH} : ∀ {xs : List Value} {l : List UInt8}, RdL G xs l → xs = l.map fun c => Value.int .u8 (c.toNat : Int)
 | xs, [], h => h
 | xs, c :: l, ⟨x, ys, e, _, r⟩ => by rw [e, rdL_bytes r]; rfl
theorem looks_toStr {C : Cx} {env : Env} {L : Locs} {R : Rows} {G : GH} {o : Oper} {x : Operand} {S T E n c : Nat} {si ti te : TI} {p : Option Addr} {l : List UInt8} (ht : TabOk C.P C.tt) (hr : RdSl G p c l) (ho : o.op = .convert S T x) (hS : look C.tt S = some si) (hs : si.desc = .slice E) (hE : look C.tt E = some te) (he : te.desc = .int .u8) (hT : look C.tt T = some ti) (hk : ti.desc = .string)
  (hx : ev env x = some (.v (.slice p n c))) (hn : n = l.length) : Looks C env L R G o (.v (.string (bstr l))) := by
 intro a w G' bs hle hA hI
 have hu : C.P.underlying T = some .string := by rw [← hk]; exact (ht.get hT).1
 have hv : C.P.underlying S = some (.slice E) := by rw [← hs]; exact (ht.get hS).1
 have hw : C.P.underlying E = some (.int .u8) := by rw [← he]; exact (ht.get hE).1
 unfold execOp
 simp only [ho, ev_conc hA hx, conc]
 simp only [Sem.run_bind, run_convert_bytes_string w S T E p n c hv hw hu]
 have hrun : (Conv.bytesToString (.slice p n c)).run C.P w = .ok (.string (bstr l)) w := by
  cases hp : p with
  | none =>
   subst hp
   rw [rdSl_none hr]
   simp [Conv.bytesToString, bstr]
   rfl
  | some ad =>
   subst hp
   obtain ⟨_, _, xs, h4, h5⟩ := hr
   have hxs := rdL_bytes h5
   have hld := run_loadCells_list (P := C.P) w ad xs (fun j u hj => by
    obtain ⟨a', ha, hg⟩ := h4 j u hj
    simp at ha; subst ha
    exact hI.le.cell (gcell_mono hle hg))
   have hlen : xs.length = n := by rw [hxs, hn]; simp
   rw [hlen, hxs] at hld
   have := run_bytesToString (P := C.P) w ad n c (l.map fun c => ((c.toNat : Nat) : Int)) (by rw [hld]; simp [Function.comp_def])
   rw [this, foldl_push]
   simp [bstr]
 rw [hrun]; rfl
end Go.Stp

namespace Go.Stp
structure Name where
 parts : List Str
instance : Inhabited Name := ⟨⟨default⟩⟩
instance : GoT Name := GoT.via fun e => e.parts
theorem ok_Name {n : Nat} {a : Name} (h : GoT.ok n a) : GoT.ok n a.parts := h
structure Pattern where
 parts : List Str
instance : Inhabited Pattern := ⟨⟨default⟩⟩
instance : GoT Pattern := GoT.via fun e => e.parts
theorem ok_Pattern {n : Nat} {a : Pattern} (h : GoT.ok n a) : GoT.ok n a.parts := h
structure Binding where
 letter : Str
 value : Str
instance : Inhabited Binding := ⟨⟨default, default⟩⟩
instance : GoT Binding := GoT.via fun e => (e.letter, e.value)
instance : Flat Binding := ⟨fun a x => Flat.f (let e := a; (e.letter, e.value)) x, fun a x => Flat.o (let e := a; (e.letter, e.value)) x⟩
structure TableEntry where
 name : Name
 value : Int
instance : Inhabited TableEntry := ⟨⟨default, default⟩⟩
instance : GoT TableEntry := GoT.via fun e => (e.name, e.value)
structure Interest where
 name : Name
 nonce : Int
 hopLimit : Int
 lifetime : Int
instance : Inhabited Interest := ⟨⟨default, default, default, default⟩⟩
instance : GoT Interest := GoT.via fun e => (e.name, e.nonce, e.hopLimit, e.lifetime)
theorem ok_Interest {n : Nat} {a : Interest} (h : GoT.ok n a) : GoT.ok n a.name ∧ GoT.ok n a.nonce ∧ GoT.ok n a.hopLimit ∧ GoT.ok n a.lifetime := h
structure DataP where
 name : Name
 content : List UInt8
 keyName : Name
 freshUntil : Int
 signature : Int
instance : Inhabited DataP := ⟨⟨default, default, default, default, default⟩⟩
instance : GoT DataP := GoT.via fun e => (e.name, e.content, e.keyName, e.freshUntil, e.signature)
theorem ok_DataP {n : Nat} {a : DataP} (h : GoT.ok n a) : GoT.ok n a.name ∧ GoT.ok n a.content ∧ GoT.ok n a.keyName ∧ GoT.ok n a.freshUntil ∧ GoT.ok n a.signature := h
structure Key where
 name : Name
 secret : Int
instance : Inhabited Key := ⟨⟨default, default⟩⟩
instance : GoT Key := GoT.via fun e => (e.name, e.secret)
theorem ok_Key {n : Nat} {a : Key} (h : GoT.ok n a) : GoT.ok n a.name ∧ GoT.ok n a.secret := h
structure Rule where
 dataPattern : Pattern
 keyPattern : Pattern
instance : Inhabited Rule := ⟨⟨default, default⟩⟩
instance : GoT Rule := GoT.via fun e => (e.dataPattern, e.keyPattern)
theorem ok_Rule {n : Nat} {a : Rule} (h : GoT.ok n a) : GoT.ok n a.dataPattern ∧ GoT.ok n a.keyPattern := h
structure TrustPolicy where
 keys : List Key
 rules : List Rule
 anchors : List Name
 certificates : List DataP
instance : Inhabited TrustPolicy := ⟨⟨default, default, default, default⟩⟩
instance : GoT TrustPolicy := GoT.via fun e => (e.keys, e.rules, e.anchors, e.certificates)
theorem ok_TrustPolicy {n : Nat} {a : TrustPolicy} (h : GoT.ok n a) : GoT.ok n a.keys ∧ GoT.ok n a.rules ∧ GoT.ok n a.anchors ∧ GoT.ok n a.certificates := h
structure CacheEntry where
 data : DataP
 lastUsed : Int
instance : Inhabited CacheEntry := ⟨⟨default, default⟩⟩
instance : GoT CacheEntry := GoT.via fun e => (e.data, e.lastUsed)
structure ContentStore where
 capacity : Int
 entries : List CacheEntry
instance : Inhabited ContentStore := ⟨⟨default, default⟩⟩
instance : GoT ContentStore := GoT.via fun e => (e.capacity, e.entries)
structure Requester where
 face : Int
 nonce : Int
 expiry : Int
instance : Inhabited Requester := ⟨⟨default, default, default⟩⟩
instance : GoT Requester := GoT.via fun e => (e.face, e.nonce, e.expiry)
instance : Flat Requester := ⟨fun a x => Flat.f (let e := a; (e.face, e.nonce, e.expiry)) x, fun a x => Flat.o (let e := a; (e.face, e.nonce, e.expiry)) x⟩
structure PendingInterest where
 name : Name
 requesters : List Requester
 lastSent : Int
instance : Inhabited PendingInterest := ⟨⟨default, default, default⟩⟩
instance : GoT PendingInterest := GoT.via fun e => (e.name, e.requesters, e.lastSent)
structure SeenNonce where
 name : Name
 nonce : Int
instance : Inhabited SeenNonce := ⟨⟨default, default⟩⟩
instance : GoT SeenNonce := GoT.via fun e => (e.name, e.nonce)
structure Route where
 pfx : Name
 face : Int
 cost : Int
instance : Inhabited Route := ⟨⟨default, default, default⟩⟩
instance : GoT Route := GoT.via fun e => (e.pfx, e.face, e.cost)
structure Measurement where
 pfx : Name
 face : Int
 failures : Int
instance : Inhabited Measurement := ⟨⟨default, default, default⟩⟩
instance : GoT Measurement := GoT.via fun e => (e.pfx, e.face, e.failures)
structure NodeP where
 locl : List DataP
 cache : ContentStore
 pending : List PendingInterest
 seen : List SeenNonce
 routes : List Route
 measurements : List Measurement
 dropped : Int
instance : Inhabited NodeP := ⟨⟨default, default, default, default, default, default, default⟩⟩
instance : GoT NodeP := GoT.via fun e => (e.locl, e.cache, e.pending, e.seen, e.routes, e.measurements, e.dropped)
structure Outgoing where
 face : Int
 isInterest : Bool
 interest : Interest
 data : DataP
instance : Inhabited Outgoing := ⟨⟨default, default, default, default⟩⟩
instance : GoT Outgoing := GoT.via fun e => (e.face, e.isInterest, e.interest, e.data)
structure Action where
 node : NodeP
 outgoing : List Outgoing
instance : Inhabited Action := ⟨⟨default, default⟩⟩
instance : GoT Action := GoT.via fun e => (e.node, e.outgoing)
structure Link where
 a : Int
 b : Int
instance : Inhabited Link := ⟨⟨default, default⟩⟩
instance : GoT Link := GoT.via fun e => (e.a, e.b)
instance : Flat Link := ⟨fun a x => Flat.f (let e := a; (e.a, e.b)) x, fun a x => Flat.o (let e := a; (e.a, e.b)) x⟩
structure Topology where
 size : Int
 links : List Link
instance : Inhabited Topology := ⟨⟨default, default⟩⟩
instance : GoT Topology := GoT.via fun e => (e.size, e.links)
structure Advertisement where
 origin : Int
 version : Int
 neighbors : List Int
 prefixes : List Name
instance : Inhabited Advertisement := ⟨⟨default, default, default, default⟩⟩
instance : GoT Advertisement := GoT.via fun e => (e.origin, e.version, e.neighbors, e.prefixes)
structure Manifest where
 segmentSize : Int
 length : Int
 digests : List Int
instance : Inhabited Manifest := ⟨⟨default, default, default⟩⟩
instance : GoT Manifest := GoT.via fun e => (e.segmentSize, e.length, e.digests)
structure Segment where
 content : List UInt8
instance : Inhabited Segment := ⟨⟨default⟩⟩
instance : GoT Segment := GoT.via fun e => e.content
structure Fetcher where
 manifest : Manifest
 received : Int
 segments : List Segment
 outstanding : Int
 window : Int
 threshold : Int
 losses : Int
instance : Inhabited Fetcher := ⟨⟨default, default, default, default, default, default, default⟩⟩
instance : GoT Fetcher := GoT.via fun e => (e.manifest, e.received, e.segments, e.outstanding, e.window, e.threshold, e.losses)
structure Grant where
 name : Name
 secret : Int
instance : Inhabited Grant := ⟨⟨default, default⟩⟩
instance : GoT Grant := GoT.via fun e => (e.name, e.secret)
structure Reader where
 node : Int
 name : Name
 epoch : Int
instance : Inhabited Reader := ⟨⟨default, default, default⟩⟩
instance : GoT Reader := GoT.via fun e => (e.node, e.name, e.epoch)
structure StateVector where
 entries : List TableEntry
instance : Inhabited StateVector := ⟨⟨default⟩⟩
instance : GoT StateVector := GoT.via fun e => e.entries
structure Publication where
 publisher : Name
 seq : Int
 content : List UInt8
instance : Inhabited Publication := ⟨⟨default, default, default⟩⟩
instance : GoT Publication := GoT.via fun e => (e.publisher, e.seq, e.content)
structure Member where
 name : Name
 vector : StateVector
 publications : List Publication
instance : Inhabited Member := ⟨⟨default, default, default⟩⟩
instance : GoT Member := GoT.via fun e => (e.name, e.vector, e.publications)
structure Record where
 kind : Int
 data : DataP
instance : Inhabited Record := ⟨⟨default, default⟩⟩
instance : GoT Record := GoT.via fun e => (e.kind, e.data)
structure Log where
 durable : List Record
 volatile : List Record
instance : Inhabited Log := ⟨⟨default, default⟩⟩
instance : GoT Log := GoT.via fun e => (e.durable, e.volatile)
structure Repository where
 log : Log
 quota : Int
instance : Inhabited Repository := ⟨⟨default, default⟩⟩
instance : GoT Repository := GoT.via fun e => (e.log, e.quota)
structure Consumer where
 node : Int
 index : Int
 name : Name
 attempts : Int
 wait : Int
 satisfied : Bool
 data : DataP
instance : Inhabited Consumer := ⟨⟨default, default, default, default, default, default, default⟩⟩
instance : GoT Consumer := GoT.via fun e => (e.node, e.index, e.name, e.attempts, e.wait, e.satisfied, e.data)
theorem ok_Consumer {n : Nat} {a : Consumer} (h : GoT.ok n a) : GoT.ok n a.node ∧ GoT.ok n a.index ∧ GoT.ok n a.name ∧ GoT.ok n a.attempts ∧ GoT.ok n a.wait ∧ GoT.ok n a.satisfied ∧ GoT.ok n a.data := h
structure PacketInFlight where
 to : Int
 face : Int
 isInterest : Bool
 interest : Interest
 data : DataP
instance : Inhabited PacketInFlight := ⟨⟨default, default, default, default, default⟩⟩
instance : GoT PacketInFlight := GoT.via fun e => (e.to, e.face, e.isInterest, e.interest, e.data)
structure Network where
 topology : Topology
 trust : TrustPolicy
 producers : List TableEntry
 nodes : List NodeP
 downNodes : Int
 failedLinks : List Int
 inFlight : List PacketInFlight
 consumers : List Consumer
 now : Int
 dropped : Int
instance : Inhabited Network := ⟨⟨default, default, default, default, default, default, default, default, default, default⟩⟩
instance : GoT Network := GoT.via fun e => (e.topology, e.trust, e.producers, e.nodes, e.downNodes, e.failedLinks, e.inFlight, e.consumers, e.now, e.dropped)
structure EventP where
 kind : Int
 n : Int
 name : Name
 forged : PacketInFlight
instance : Inhabited EventP := ⟨⟨default, default, default, default⟩⟩
instance : GoT EventP := GoT.via fun e => (e.kind, e.n, e.name, e.forged)
structure SyncGroup where
 topology : Topology
 members : List Member
instance : Inhabited SyncGroup := ⟨⟨default, default⟩⟩
instance : GoT SyncGroup := GoT.via fun e => (e.topology, e.members)
structure AccessController where
 keys : List Key
 master : Int
 epoch : Int
 readers : List Reader
instance : Inhabited AccessController := ⟨⟨default, default, default, default⟩⟩
instance : GoT AccessController := GoT.via fun e => (e.keys, e.master, e.epoch, e.readers)
end Go.Stp

namespace Go.Stp
class Sz (α : Type) [GoT α] where
 n : α → Nat
 low : ∀ {a : α}, GoT.ok 10 a → n a ≤ 1048576 → GoT.ok 0 a
def sz {α : Type} [GoT α] [Sz α] (a : α) : Nat := Sz.n a
instance : Sz ByteArray := ⟨fun s => s.size, fun _ h => h⟩
instance : Sz UInt8 := ⟨fun _ => 0, fun _ _ => trivial⟩
instance : Sz Bool := ⟨fun _ => 0, fun _ _ => trivial⟩
instance : Sz Int := ⟨fun _ => 0, fun h _ => h⟩
def szL {α : Type} [GoT α] [Sz α] (l : List α) : Nat := (l.map sz).sum
theorem sz_le_sum {α : Type} [GoT α] [Sz α] : ∀ {l : List α} {a : α}, a ∈ l → sz a ≤ szL l
 | b :: l, a, h => by
  unfold szL
  simp only [List.map_cons, List.sum_cons]
  rcases List.mem_cons.1 h with rfl | h
  ·omega
  ·have := sz_le_sum h; unfold szL at this; omega
instance {α : Type} [GoT α] [Sz α] : Sz (List α) := ⟨fun l => l.length + szL l, fun h hs => ⟨by rw [bd_0]; omega, fun a ha => Sz.low (h.2 a ha) (by have := sz_le_sum ha; unfold sz at this; omega)⟩⟩
instance {α β : Type} [GoT α] [GoT β] [Sz α] [Sz β] : Sz (α × β) := ⟨fun a => sz a.1 + sz a.2, fun h hs => ⟨Sz.low h.1 (by unfold sz at hs; omega), Sz.low h.2 (by unfold sz at hs; omega)⟩⟩
@[reducible] def Sz.via {α β : Type} [GoT β] [Sz β] (e : α → β) : @Sz α (GoT.via e) := @Sz.mk α (GoT.via e) (fun a => sz (e a)) (fun {a} h hs => Sz.low (a := e a) h hs)
instance : Sz Name := Sz.via (fun e : Name => e.parts)
instance : Sz Pattern := Sz.via (fun e : Pattern => e.parts)
instance : Sz Binding := Sz.via (fun e : Binding => (e.letter, e.value))
instance : Sz TableEntry := Sz.via (fun e : TableEntry => (e.name, e.value))
instance : Sz Interest := Sz.via (fun e : Interest => (e.name, e.nonce, e.hopLimit, e.lifetime))
instance : Sz DataP := Sz.via (fun e : DataP => (e.name, e.content, e.keyName, e.freshUntil, e.signature))
instance : Sz Key := Sz.via (fun e : Key => (e.name, e.secret))
instance : Sz Rule := Sz.via (fun e : Rule => (e.dataPattern, e.keyPattern))
instance : Sz TrustPolicy := Sz.via (fun e : TrustPolicy => (e.keys, e.rules, e.anchors, e.certificates))
instance : Sz CacheEntry := Sz.via (fun e : CacheEntry => (e.data, e.lastUsed))
instance : Sz ContentStore := Sz.via (fun e : ContentStore => (e.capacity, e.entries))
instance : Sz Requester := Sz.via (fun e : Requester => (e.face, e.nonce, e.expiry))
instance : Sz PendingInterest := Sz.via (fun e : PendingInterest => (e.name, e.requesters, e.lastSent))
instance : Sz SeenNonce := Sz.via (fun e : SeenNonce => (e.name, e.nonce))
instance : Sz Route := Sz.via (fun e : Route => (e.pfx, e.face, e.cost))
instance : Sz Measurement := Sz.via (fun e : Measurement => (e.pfx, e.face, e.failures))
instance : Sz NodeP := Sz.via (fun e : NodeP => (e.locl, e.cache, e.pending, e.seen, e.routes, e.measurements, e.dropped))
instance : Sz Outgoing := Sz.via (fun e : Outgoing => (e.face, e.isInterest, e.interest, e.data))
instance : Sz Action := Sz.via (fun e : Action => (e.node, e.outgoing))
instance : Sz Link := Sz.via (fun e : Link => (e.a, e.b))
instance : Sz Topology := Sz.via (fun e : Topology => (e.size, e.links))
instance : Sz Advertisement := Sz.via (fun e : Advertisement => (e.origin, e.version, e.neighbors, e.prefixes))
instance : Sz Manifest := Sz.via (fun e : Manifest => (e.segmentSize, e.length, e.digests))
instance : Sz Segment := Sz.via (fun e : Segment => e.content)
instance : Sz Fetcher := Sz.via (fun e : Fetcher => (e.manifest, e.received, e.segments, e.outstanding, e.window, e.threshold, e.losses))
instance : Sz Grant := Sz.via (fun e : Grant => (e.name, e.secret))
instance : Sz Reader := Sz.via (fun e : Reader => (e.node, e.name, e.epoch))
instance : Sz StateVector := Sz.via (fun e : StateVector => e.entries)
instance : Sz Publication := Sz.via (fun e : Publication => (e.publisher, e.seq, e.content))
instance : Sz Member := Sz.via (fun e : Member => (e.name, e.vector, e.publications))
instance : Sz Record := Sz.via (fun e : Record => (e.kind, e.data))
instance : Sz Log := Sz.via (fun e : Log => (e.durable, e.volatile))
instance : Sz Repository := Sz.via (fun e : Repository => (e.log, e.quota))
instance : Sz Consumer := Sz.via (fun e : Consumer => (e.node, e.index, e.name, e.attempts, e.wait, e.satisfied, e.data))
instance : Sz PacketInFlight := Sz.via (fun e : PacketInFlight => (e.to, e.face, e.isInterest, e.interest, e.data))
instance : Sz Network := Sz.via (fun e : Network => (e.topology, e.trust, e.producers, e.nodes, e.downNodes, e.failedLinks, e.inFlight, e.consumers, e.now, e.dropped))
instance : Sz EventP := Sz.via (fun e : EventP => (e.kind, e.n, e.name, e.forged))
instance : Sz SyncGroup := Sz.via (fun e : SyncGroup => (e.topology, e.members))
instance : Sz AccessController := Sz.via (fun e : AccessController => (e.keys, e.master, e.epoch, e.readers))
end Go.Stp

namespace Go.Stp
open GoT (X k ok sh fa oa)
def offP (p : Option Addr) (c lo kk : Nat) : Option Addr := if c = lo then p else p.map (·.add (lo * kk))
section
variable {α : Type} [GoT α]
theorem RdL.take {G : GH} : ∀ {xs : List Value} {l : List α} (i : Nat), RdL G xs l → RdL G (xs.take (i * k α)) (l.take i)
 | xs, [], i, h => by
  have : xs = [] := h
  subst this
  simp only [List.take_nil]; rfl
 | xs, a :: l, 0, _ => by simp only [Nat.zero_mul, List.take_zero]; rfl
 | xs, a :: l, i + 1, ⟨x, ys, h1, h2, h3⟩ => by
  refine ⟨x, ys.take (i * k α), ?_, h2, h3.take i⟩
  rw [h1, Nat.add_mul, Nat.one_mul, List.take_append, GoT.len, List.take_of_length_le (by rw [GoT.len]; omega), Nat.add_sub_cancel]
theorem RdL.drop {G : GH} : ∀ {xs : List Value} {l : List α} (i : Nat), RdL G xs l → RdL G (xs.drop (i * k α)) (l.drop i)
 | xs, [], i, h => by
  have : xs = [] := h
  subst this
  simp only [List.drop_nil]; rfl
 | xs, a :: l, 0, h => by simp only [Nat.zero_mul, List.drop_zero]; exact h
 | xs, a :: l, i + 1, ⟨x, ys, h1, h2, h3⟩ => by
  have := h3.drop i
  rw [h1, Nat.add_mul, Nat.one_mul, List.drop_append, GoT.len, List.drop_eq_nil_of_le (by rw [GoT.len]; omega), Nat.add_sub_cancel]
  exact this
theorem RdSl.pre {G : GH} {p : Option Addr} {c : Nat} {l : List α} (h : RdSl G p c l) (i : Nat) : RdSl G p c (l.take i) := by
 obtain ⟨h1, h2, xs, h3, h4⟩ := h
 refine ⟨by rw [List.length_take]; omega, by rw [List.length_take]; omega, xs.take (i * k α), fun j u hj => h3 j u ?_, h4.take i⟩
 rw [List.getElem?_take] at hj
 split at hj
 ·exact hj
 ·cases hj
theorem RdSl.suf {G : GH} {p : Option Addr} {c : Nat} {l : List α} (h : RdSl G p c l) (i : Nat) : RdSl G (offP p c i (k α)) (c - i) (l.drop i) := by
 obtain ⟨h1, h2, xs, h3, h4⟩ := h
 refine ⟨by rw [List.length_drop]; omega, by rw [List.length_drop]; omega, xs.drop (i * k α), fun j u hj => ?_, h4.drop i⟩
 rw [List.getElem?_drop] at hj
 obtain ⟨a, ha, hg⟩ := h3 _ u hj
 unfold offP
 split
 ·rename_i e
  have : xs.length = l.length * k α := h4.len
  have hlt := (List.getElem?_eq_some_iff.1 hj).1
  have : l.length * k α ≤ i * k α := Nat.mul_le_mul_right _ (by omega)
  omega
 ·exact ⟨a.add (i * k α), by rw [ha]; rfl, by rw [addr_add_add]; exact hg⟩
end
theorem elemO_info {P : Program} {tt : TT} (ht : TabOk P tt) {T kk : Nat} (h : elemO tt T = some kk) (w : World) : P.underlying T = some (.slice (P.elem T)) ∧ (sizeOf (P.elem T)).run P w = .ok kk w := by
 unfold elemO at h
 split at h
 ·rename_i ti hT
  split at h
  ·rename_i e hd
   split at h
   ·rename_i te hE
    simp only [Option.some.injEq] at h; subst h
    obtain ⟨hu, _⟩ := ht.get hT
    obtain ⟨_, inf, hinf, _, hs, _⟩ := ht.get hE
    rw [hd] at hu
    have he : P.elem T = e := by simp [Program.elem, hu]
    rw [he]
    exact ⟨hu, by rw [run_sizeOf hinf, hs]⟩
   ·cases h
  ·cases h
 ·cases h
theorem addr_add0 (a : Addr) : a.add 0 = a := by simp [Addr.add]
theorem looks_slH {C : Cx} {env : Env} {L : Locs} {R : Rows} {G : GH} {o : Oper} {x y : Operand} {T n c kk : Nat} {p : Option Addr} {h : Int} (m : Nat) (ht : TabOk C.P C.tt) (ho : o.op = .slice T x none (some y) none) (hT : elemO C.tt T = some kk)
  (hx : ev env x = some (.v (.slice p n c))) (hy : ev env y = some (.v (.int .i64 h))) (h0 : h = (m : Int)) (h1 : m ≤ c) : Looks C env L R G o (.v (.slice p m c)) := by
 intro a w G' bs _ hA hI
 subst h0
 obtain ⟨hu, hs⟩ := elemO_info ht hT w
 unfold execOp
 simp only [ho, Option.map, ev_conc hA hx, ev_conc hA hy, conc, Sem.run_bind, run_sliceAt_slice w T _ _ _ _ hu, run_slice_h w T p n c hu .i64 (m : Int) (by omega) (by omega), hs, Result.andThen_ok]
 simp only [sliced, Nat.zero_mul, Nat.sub_zero, Int.toNat_natCast]
 cases p <;> simp [addr_add0] <;> rfl
theorem looks_slL {C : Cx} {env : Env} {L : Locs} {R : Rows} {G : GH} {o : Oper} {x y : Operand} {T n c kk : Nat} {p : Option Addr} {h : Int} (m : Nat) (ht : TabOk C.P C.tt) (ho : o.op = .slice T x (some y) none none) (hT : elemO C.tt T = some kk)
  (hx : ev env x = some (.v (.slice p n c))) (hy : ev env y = some (.v (.int .i64 h))) (h0 : h = (m : Int)) (h1 : m ≤ n) : Looks C env L R G o (.v (.slice (offP p c m kk) (n - m) (c - m))) := by
 intro a w G' bs _ hA hI
 subst h0
 obtain ⟨hu, hs⟩ := elemO_info ht hT w
 unfold execOp
 simp only [ho, Option.map, ev_conc hA hx, ev_conc hA hy, conc, Sem.run_bind, run_sliceAt_slice w T _ _ _ _ hu, run_slice_l w T p n c hu .i64 (m : Int) (by omega) (by omega), hs, Result.andThen_ok]
 simp only [sliced, Int.toNat_natCast, offP]
 rfl
end Go.Stp

namespace Go.Stp
open GoT (X k ok sh fa oa)
theorem WX.did {C : Cx} {ops : Array Oper} {o : Oper} {r : List Oper} {s : List It} {env : Env} {L : Locs} {R : Rows} {Γ : Facts} {ι : Type} {env' : ι → Env} {R' : ι → Rows} {Γ' : ι → Facts} (hg : gd ops env o = some true)
  (h : ∀ a w G bs, At C.fn.ntmps env bs a → HInv C w G bs L R → AllK C.M G Γ → ∃ v w' i, (execOp a.eval o).run C.P w = .ok (.value v) w' ∧ Sat C (env' i) L (R' i) (Γ' i) (a.put o.dst v) w')
  (k : ∀ i, WX C (.ops ops r :: s) (env' i) L (R' i) (Γ' i)) : WX C (.ops ops (o :: r) :: s) env L R Γ := by
 rintro a w ⟨G, bs, hA, hI, hΓ⟩
 obtain ⟨v, w', i, hrun, hS⟩ := h a w G bs hA hI hΓ
 show wpList C.P ops (cont C s) (o :: r) a w
 unfold wpList
 rw [if_pos (gd_sound hA hg)]
 refine .inl ?_
 unfold Oper.wp
 rw [hrun]
 simp only [Oper.upon]
 exact k i _ _ hS
theorem HInv.wr {C : Cx} {w : World} {G : GH} {bs : Nat → Nat} {L : Locs} {R : Rows} (hI : HInv C w G bs L R) {ρ : Nat} {row : Row} (hρ : look R ρ = some row) {o1 T : Nat} {cur cur' : Array Value} (hp : row.p = some ⟨bs ρ, o1, none⟩) (hc0 : row.c ≠ 0)
  (hh : w.heap[bs ρ]? = some (.cells cur T (0, 0))) (hcs : o1 + row.c * row.k ≤ cur.size) (hsz : cur'.size = cur.size) {n' : Nat} {xs' : List Value} (hn' : n' ≤ row.c) (hl : xs'.length = n' * row.k) (hxs : (cur'.toList.drop o1).take (n' * row.k) = xs') :
  HInv C (w.setRow (bs ρ) cur') G bs L (setR R ρ ⟨row.k, row.p, n', row.c, xs'⟩) := by
 have hrow := hI.row ρ row hρ
 obtain ⟨hBb, hGb, hcm⟩ : C.M (bs ρ) ∧ G (bs ρ) = none ∧ row.c ≤ maxLen := by
  rcases hrow.2 with ⟨h0, _⟩ | ⟨_, _, h1, h2, _, h5, _⟩
  ·exact absurd h0 hc0
  ·exact ⟨h1, h2, h5⟩
 have hLρ : ∀ l, look L ρ ≠ some l := fun l hl => hI.dis ρ l row hl hρ
 have h999 : ρ ≠ 999 := fun e => by subst e; exact hI.nr row hρ
 have hrow' : RowOk C.M (w.setRow (bs ρ) cur') G (bs ρ) ⟨row.k, row.p, n', row.c, xs'⟩ :=
  ⟨hl, .inr ⟨o1, hp, hBb, hGb, hn', hcm, cur', T, setRow_heap w _ cur _ T _ hh, by rw [hsz]; exact hcs, hxs⟩⟩
 have honly : Only w (w.setRow (bs ρ) cur') (bs ρ) (row.c ≠ 0) := ⟨rfl, rfl, rfl, by simp [World.setRow], fun j hj hne => setRow_other w _ j _ (hne hc0)⟩
 have hlook : ∀ j, look (setR R ρ ⟨row.k, row.p, n', row.c, xs'⟩) j = if ρ = j then some ⟨row.k, row.p, n', row.c, xs'⟩ else look R j := by
  intro j
  rw [look_setR]
  split
  ·rename_i e; subst e; rw [hρ]; rfl
  ·rfl
 have hI' := hI.upd (ρ := ρ) (b' := bs ρ) h999 (row.c ≠ 0) (fun _ => ⟨.inr ⟨row, hρ, hc0⟩, hBb, hGb⟩) honly (.inl ⟨rfl, hc0⟩) hlook hLρ hrow'
 have hbs : (fun j => if j = ρ then bs ρ else bs j) = bs := by funext j; split <;> simp_all
 rwa [hbs] at hI'
theorem zeroCells_zrep (z : Array Value) (n : Nat) (hz : 0 < z.size) : (Builtin.zeroCells z n).toList = zrep n z.toList := zrep_range z hz n
section
variable {α : Type}
def keepC (kk : Nat) (f : α → Bool) : List α → List Value → List Value
 | [], _ => []
 | a :: l, xs => bif f a then keepC kk f l (xs.drop kk) else xs.take kk ++ keepC kk f l (xs.drop kk)
theorem keepC_snoc (kk : Nat) (f : α → Bool) : ∀ (l : List α) (a : α) (xs : List Value), keepC kk f (l ++ [a]) xs = keepC kk f l xs ++ (bif f a then [] else (xs.drop (l.length * kk)).take kk)
 | [], a, xs => by cases hf : f a <;> simp [keepC, hf]
 | b :: l, a, xs => by
  have e : (b :: l).length * kk = kk + l.length * kk := by rw [List.length_cons, Nat.add_mul]; omega
  simp only [List.cons_append, keepC, keepC_snoc kk f l a, e, ← List.drop_drop]
  cases f b <;> simp
end
section
variable {α : Type} [GoT α]
theorem OwL.keep (f : α → Bool) : ∀ {h : GH} {xs : List Value} {l : List α}, OwL h xs l → OwL h (keepC (k α) f l xs) (l.filter fun a => !f a)
 | h, xs, [], _ => rfl
 | h, xs, a :: l, ⟨x, ys, q1, q2, e, r1, r2, r3, r4, r5⟩ => by
  have h1 : xs.take (k α) = sh a x := by rw [e, ← GoT.len a x, List.take_left]
  have h2 : xs.drop (k α) = ys := by rw [e, ← GoT.len a x, List.drop_left]
  simp only [keepC, h1, h2]
  cases hf : f a
  ·rw [List.filter_cons_of_pos (by simp [hf])]
   exact ⟨x, _, q1, q2, rfl, r1, r2, r3, r4, OwL.keep f r5⟩
  ·rw [List.filter_cons_of_neg (by simp [hf])]
   exact (OwL.keep f r5).mono r2
structure DelInv (f : α → Bool) (l : List α) (xs0 : List Value) (i j : Nat) (xs : List Value) : Prop where
 ij : i < j
 jn : j ≤ l.length
 len : xs.length = l.length * k α
 pre : xs.take (i * k α) = keepC (k α) f (l.take j) xs0
 cnt : i = ((l.take j).filter fun a => !f a).length
 rest : ∀ m, j * k α ≤ m → xs[m]? = xs0[m]?
theorem DelInv.skip {f : α → Bool} {l : List α} {xs0 xs : List Value} {i j : Nat} {a : α} (h : DelInv f l xs0 i j xs) (hj : l[j]? = some a) (ha : f a = true) : DelInv f l xs0 i (j + 1) xs := by
 have hlt := (List.getElem?_eq_some_iff.1 hj).1
 have htk : l.take (j + 1) = l.take j ++ [a] := by rw [List.take_add_one, hj]; rfl
 refine ⟨by have := h.ij; omega, by omega, h.len, ?_, ?_, fun m hm => h.rest m (by rw [Nat.add_mul] at hm; omega)⟩
 ·rw [htk, keepC_snoc, ha, cond_true, List.append_nil]; exact h.pre
 ·rw [htk, List.filter_append]; simp only [List.filter_cons, ha, Bool.not_true, Bool.false_eq_true, if_false, List.filter_nil, List.append_nil]; exact h.cnt
theorem DelInv.keep {f : α → Bool} {l : List α} {xs0 xs vs : List Value} {i j : Nat} {a : α} (h0 : xs0.length = l.length * k α) (h : DelInv f l xs0 i j xs) (hj : l[j]? = some a) (ha : f a = false) (hv : vs.length = k α) (hx : ∀ q u, vs[q]? = some u → xs0[j * k α + q]? = some u) :
  DelInv f l xs0 (i + 1) (j + 1) (xs.take (i * k α + 0) ++ vs ++ xs.drop (i * k α + 0 + vs.length)) := by
 have hlt := (List.getElem?_eq_some_iff.1 hj).1
 have htk : l.take (j + 1) = l.take j ++ [a] := by rw [List.take_add_one, hj]; rfl
 have htj : (l.take j).length = j := by simp; omega
 have hij := h.ij
 have hik : (i + 1) * k α ≤ j * k α := Nat.mul_le_mul_right _ hij
 have hjk : (j + 1) * k α ≤ l.length * k α := Nat.mul_le_mul_right _ hlt
 have hlen := h.len
 rw [Nat.add_mul, Nat.one_mul] at hik hjk
 have hvs : vs = (xs0.drop (j * k α)).take (k α) := by
  apply List.ext_getElem?
  intro q
  by_cases hq : q < k α
  ·rw [List.getElem?_take, if_pos hq, List.getElem?_drop]
   have : vs[q]? = some (vs[q]'(by omega)) := List.getElem?_eq_getElem (by omega)
   rw [this]; exact (hx q _ this).symm
  ·rw [List.getElem?_eq_none (by omega), List.getElem?_eq_none (by simp; omega)]
 have hlt1 : (xs.take (i * k α) ++ vs).length = (i + 1) * k α := by rw [Nat.add_mul, Nat.one_mul, List.length_append, List.length_take, hv]; omega
 refine ⟨by omega, by omega, ?_, ?_, ?_, fun m hm => ?_⟩
 ·simp only [List.length_append, List.length_take, List.length_drop]; omega
 ·rw [Nat.add_zero (i * k α), ← hlt1, List.take_left, htk, keepC_snoc, ha, cond_false, h.pre, htj, hvs]
 ·rw [htk, List.filter_append]; simp only [List.filter_cons, ha, Bool.not_false, if_true, List.filter_nil, List.length_append, List.length_cons, List.length_nil]; rw [← h.cnt]
 ·rw [Nat.add_mul, Nat.one_mul] at hm
  rw [Nat.add_zero (i * k α), List.getElem?_append_right (by rw [hlt1, Nat.add_mul, Nat.one_mul]; omega), List.getElem?_drop, hlt1, hv, Nat.add_mul, Nat.one_mul, show i * k α + k α + (m - (i * k α + k α)) = m by omega]
  exact h.rest m (by omega)
theorem DelInv.done {f : α → Bool} {l : List α} {xs0 xs : List Value} {i j : Nat} (h : DelInv f l xs0 i j xs) (hj : ¬ j < l.length) : xs.take (i * k α) = keepC (k α) f l xs0 ∧ i = (l.filter fun a => !f a).length := by
 have : l.take j = l := List.take_of_length_le (by omega)
 have h1 := h.pre
 have h2 := h.cnt
 rw [this] at h1 h2
 exact ⟨h1, h2⟩
end
theorem Kp.lent {H : GH} {w w1 w2 : World} (h : Kp H w w1) (k : Kp emp w1 w2) : Kp H w w2 := h.trans (k.wide fun _ _ _ => rfl)
end Go.Stp

namespace Go.Stp
open GoT (X k ok sh fa oa)
theorem WX.cap {C : Cx} {s : List It} {env : Env} {L : Locs} {R : Rows} {Γ : Facts} {row : Row} (ρ : Nat) (hρ : look R ρ = some row) (k : row.n ≤ row.c → WX C s env L R Γ) : WX C s env L R Γ := by
 rintro a w ⟨G, bs, hA, hI, hΓ⟩
 refine k ?_ a w ⟨G, bs, hA, hI, hΓ⟩
 rcases (hI.row ρ row hρ).2 with ⟨h1, h2⟩ | ⟨_, _, _, _, h, _⟩ <;> omega
def LooksP (C : Cx) (env : Env) (o : Oper) (sv : SV) : Prop := ∀ a w bs, At C.fn.ntmps env bs a → (execOp a.eval o).run C.P w = .ok (.value (conc bs sv)) w
theorem DX.seeP {C : Cx} {ops : Array Oper} {tl : List Nat} {s : List It} {bs : Nat → Nat} {G0 : GH} {fuel : Nat} {listed : Array Bool} {env : Env} {L : Locs} {R : Rows} {Γ : Facts} {d : Nat} {o : Oper} {sv : SV} (i : Nat) (hb : mayP ops listed i = true) (hi : getO ops.toList i = some o)
  (hg : gd ops env o = some true) (hd : o.dst = some d) (hlt : Nat.blt d C.fn.ntmps = true) (hl : LooksP C env o sv)
  (k : DX C ops tl s bs G0 fuel (listed.setIfInBounds i true) ((d, sv) :: env) L R Γ) : DX C ops tl s bs G0 (fuel + 1) listed env L R Γ := by
 rw [getO_eq] at hi
 exact DX.takeP hb (by simpa using hi) hd (by simpa [Nat.blt_eq] using hlt) hg (fun _ => hl) (fun h => by cases h) k
theorem looksP_arith {C : Cx} {env : Env} {o : Oper} {b : BinOp} {x y : Operand} {T T' : Nat} {m n q : Int} (ho : o.op = .binOp b T x y T')
  (hx : ev env x = some (.v (.int .i64 m))) (hy : ev env y = some (.v (.int .i64 n))) (hq : arithO b m n = some q) (hr : I64 q) : LooksP C env o (.v (.int .i64 q)) := by
 intro a w bs hA
 unfold execOp
 simp only [ho, ev_conc hA hx, ev_conc hA hy, conc]
 have := wrap_i64 hr
 cases b <;> simp [arithO] at hq <;> subst hq <;> simp [eqGuard, binOp, Op.intArith, this]
theorem looksP_wrap {C : Cx} {env : Env} {o : Oper} {b : BinOp} {x y : Operand} {T T' : Nat} {m n q : Int} (ho : o.op = .binOp b T x y T')
  (hx : ev env x = some (.v (.int .i64 m))) (hy : ev env y = some (.v (.int .i64 n))) (hq : arithO b m n = some q) : LooksP C env o (.v (.int .i64 (IntKind.i64.wrap q))) := by
 intro a w bs hA
 unfold execOp
 simp only [ho, ev_conc hA hx, ev_conc hA hy, conc]
 cases b <;> simp [arithO] at hq <;> subst hq <;> simp [eqGuard, binOp, Op.intArith]
section
variable {α : Type} [GoT α]
end
theorem WX.freeze {C : Cx} {s : List It} {env : Env} {L : Locs} {R : Rows} {Γ Γ1 : Facts} {fs : List MF} (ks : List Nat) (n : Nat) (f : MF) (hks : giveK ks Γ = some (fs, Γ1)) (hk : f.k = .stb) (h : ∀ h, Sep h fs → f.p h) (k : WX C s env L R ((n, f) :: Γ1)) : WX C s env L R Γ := by
 rintro a w ⟨G, bs, hA, hI, hΓ⟩
 obtain ⟨H, q1, q2, q3, q4⟩ := giveK_spec hks hΓ
 refine k a w ⟨G, bs, hA, hI, ?_⟩
 exact q4.new n f (h := H) (cut_le G H) q1 (fun _ => (cut_dj G H).symm) (fun h => by rw [hk] at h; cases h) (h H q3)
theorem AllK.stbOf2 {M : Nat → Prop} {G : GH} {Γ : Facts} (hΓ : AllK M G Γ) (n : Nat) (f : MF) (hk : f.k = .stb) (i j : Nat) {g g' : MF} (hi : look Γ i = some g) (hg : g.k = .stb) (hj : look Γ j = some g') (hg' : g'.k = .stb) (hp : ∀ G, g.p G → g'.p G → f.p G) : AllK M G ((n, f) :: Γ) := by
 obtain ⟨S, q, k⟩ := hΓ
 refine ⟨S, q, k.sle, k.hle, k.dj, k.own, fun m e he hk' => ?_, fun m e he hk' => ?_, ?_⟩
 ·rcases List.mem_cons.1 he with he | he
  ·cases he; exact hp S (k.stb i g (look_mem hi) hg) (k.stb j g' (look_mem hj) hg')
  ·exact k.stb m e he hk'
 ·rcases List.mem_cons.1 he with he | he
  ·cases he; rw [hk] at hk'; cases hk'
  ·exact k.der m e he hk'
 ·simp only [lins, hk]; exact k.lin
theorem WX.stb2 {C : Cx} {s : List It} {env : Env} {L : Locs} {R : Rows} {Γ : Facts} {g g' : MF} (n : Nat) (f : MF) (hk : f.k = .stb) (i j : Nat) (hi : look Γ i = some g) (hg : g.k = .stb) (hj : look Γ j = some g') (hg' : g'.k = .stb) (h : ∀ G, g.p G → g'.p G → f.p G) (k : WX C s env L R ((n, f) :: Γ)) : WX C s env L R Γ := by
 rintro a w ⟨G, bs, hA, hI, hΓ⟩
 exact k a w ⟨G, bs, hA, hI, hΓ.stbOf2 n f hk i j hi hg hj hg' h⟩
theorem WX.sealS {C : Cx} {s : List It} {env : Env} {L : Locs} {R R' : Rows} {Γ : Facts} {α : Type} [GoT α] {row : Row} {l : List α} (ρ ℓ n : Nat) (hρ : look R ρ = some row) (hk : row.k = GoT.k α) (hn : row.n = l.length)
  (hℓ : look Γ ℓ = some (MF.rl .stb row.xs l)) (hR : delRO R ρ = some R') (k : WX C s env L R' ((n, MF.rs .stb row.p row.c l) :: Γ)) : WX C s env L R Γ := by
 rintro a w ⟨G, bs, hA, hI, hΓ⟩
 obtain ⟨hsub, hgone⟩ := delRO_sub hR
 obtain ⟨S, q, hK⟩ := hΓ
 have hrl : RdL S row.xs l := hK.stb ℓ _ (look_mem hℓ) rfl
 obtain ⟨h1, h2⟩ := hI.row ρ row hρ
 have triv : row.n = 0 → WX C s env L R' ((n, MF.rs .stb row.p row.c l) :: Γ) → cont C s .normal a w := fun hn0 k => by
  have hl : l = [] := List.eq_nil_of_length_eq_zero (by omega)
  refine k a w ⟨G, bs, hA, hI.sub (Sub.refl _) hsub, ?_⟩
  refine AllK.new ⟨S, q, hK⟩ n (MF.rs .stb row.p row.c l) (h := emp) (Le.refl _) (emp_le _) (fun _ => emp_dj _) (fun _ _ _ h => by cases h) ?_
  subst hl
  exact rdSl_nil _ _ _
 rcases h2 with ⟨hc, hn0⟩ | ⟨o1, hpp, hB, hGb, hnc, hcm, cur, T, hh, hcs, htk⟩
 ·exact triv hn0 k
 ·by_cases hc0 : row.c = 0
  ·exact triv (by omega) k
  ·have hI' := hI.give hρ hc0 hR
   have hSb : S (bs ρ) = none := by
    cases hx : S (bs ρ) with
    | none => rfl
    | some z => rw [hK.sle _ _ hx] at hGb; cases hGb
   have hqb : q (bs ρ) = none := by
    cases hx : q (bs ρ) with
    | none => rfl
    | some z => rw [hK.hle _ _ hx] at hGb; cases hGb
   have hblk : Le (fun b => if b = bs ρ then hp w b else none) (join G (fun b => if b = bs ρ then hp w b else none)) := le_join_r (fun b => by
    by_cases he : b = bs ρ
    ·subst he; exact .inl hGb
    ·right; simp [he])
   have hdS : Dj S (fun b => if b = bs ρ then hp w b else none) := fun b => by
    by_cases he : b = bs ρ
    ·subst he; exact .inl hSb
    ·right; simp [he]
   refine k a w ⟨_, bs, hA, hI', join S (fun b => if b = bs ρ then hp w b else none), q, join_le (hK.sle.trans (le_join_l _ _)) hblk, hK.hle.trans (le_join_l _ _), join_dj hK.dj (fun b => ?_), hK.own, fun m e he hk' => ?_, fun m e he hk' => ?_, ?_⟩
   ·by_cases he : b = bs ρ
    ·subst he; exact .inr hqb
    ·left; simp [he]
   ·rcases List.mem_cons.1 he with he | he
    ·cases he
     refine ⟨by omega, by have := hcm; simp only [maxLen] at this; omega, row.xs, fun j u hj => ?_, hrl.mono (le_join_l _ _)⟩
     refine ⟨_, hpp, ?_⟩
     refine gcell_mono (le_join_r hdS) ?_
     rw [← htk, List.getElem?_take, List.getElem?_drop] at hj
     split at hj
     ·simp only [gcell, Addr.add_lit, if_true]
      have hh' : hp w (bs ρ) = some (.cells cur T (0, 0)) := hh
      simp only [hh']
      simpa using hj
     ·cases hj
    ·exact e.m (le_join_l _ _) (hK.stb m e he hk')
   ·rcases List.mem_cons.1 he with he | he
    ·cases he; cases hk'
    ·exact e.m (le_join_l _ _) (hK.der m e he hk')
   ·simp only [lins, MF.rs]; exact hK.lin
end Go.Stp

namespace Go.Stp
open GoT (X k ok sh fa oa)
def Gr {α : Type} (P : Program) (m : Sem α) : Prop := ∀ w v w', m.run P w = .ok v w' → Kp emp w w'
theorem Gr.bind {α β : Type} {P : Program} {m : Sem α} {f : α → Sem β} (hm : Gr P m) (hf : ∀ v, Gr P (f v)) : Gr P (m >>= f) := fun w v w' h => by
 rw [Sem.run_bind] at h
 cases hr : m.run P w with
 | ok x w1 => rw [hr] at h; exact (hm w x w1 hr).trans (hf x w1 v w' h)
 | _ => rw [hr] at h; cases h
theorem gr_pure {α : Type} {P : Program} (x : α) : Gr P (pure x : Sem α) := fun w v w' h => by
 rw [Sem.run_pure] at h; cases h; exact Kp.refl _ _
theorem gr_halt {α : Type} {P : Program} (x : Halt) : Gr P (.halt x : Sem α) := fun w v w' h => by cases h
theorem gr_program {P : Program} : Gr P program := fun w v w' h => by cases h; exact Kp.refl _ _
theorem gr_underlying {P : Program} (t : TypeId) : Gr P (underlying t) := Gr.bind gr_program fun _ => by
 split
 ·exact gr_pure _
 ·exact gr_halt _
theorem gr_typeInfo {P : Program} (t : TypeId) : Gr P (typeInfo t) := Gr.bind gr_program fun _ => by
 split
 ·exact gr_pure _
 ·exact gr_halt _
theorem gr_sizeOf {P : Program} (t : TypeId) : Gr P (Go.sizeOf t) := Gr.bind (gr_typeInfo t) fun _ => gr_pure _
theorem gr_zeroValue {P : Program} (t : TypeId) : Gr P (zeroValue t) := Gr.bind (gr_typeInfo t) fun _ => by
 split
 ·exact gr_pure _
 ·exact gr_halt _
theorem gr_newRow {P : Program} (e : TypeId) (cs : Array Value) : Gr P (newRow e cs) := Gr.bind (fun w v w' h => by
 have h' : Result.ok w.heap.size (w.alloc (Obj.cells cs e)) = .ok v w' := h
 cases h'
 exact (Kp.refl emp w).alloc _) fun _ => gr_pure _
theorem gr_buildSlice {P : Program} (t : TypeId) (n : Nat) (ps : Array (Nat × Value)) : Gr P (Instr.buildSlice t n ps) := by
 unfold Instr.buildSlice
 refine Gr.bind (gr_underlying _) fun d => ?_
 split
 ·rename_i el
  refine Gr.bind (gr_sizeOf _) fun size => ?_
  have key : ∀ z : Array Value, Gr P (match Instr.fill (fun i => some (i * size, size)) ((Array.range (n * size)).map (z[· % z.size]!)) ps.toList with
    | some cells => do pure (Value.slice (some (← newRow el cells)) n n)
    | _ => stuck "buildSlice: a part of the wrong size") := fun z => by
   split
   ·exact Gr.bind (gr_newRow _ _) fun _ => gr_pure _
   ·exact gr_halt _
  have rest : Gr P (do
    let zero ← if n * size = 0 then pure #[] else do pure (← zeroValue el).cells
    match Instr.fill (fun i => some (i * size, size)) ((Array.range (n * size)).map (zero[· % zero.size]!)) ps.toList with
    | some cells => do pure (Value.slice (some (← newRow el cells)) n n)
    | _ => stuck "buildSlice: a part of the wrong size") := by
   by_cases h2 : n * size = 0
   ·rw [if_pos h2]; exact Gr.bind (gr_pure _) fun z => key z
   ·rw [if_neg h2]; first | exact Gr.bind (gr_zeroValue el) fun v => key v.cells | exact Gr.bind (m := (do pure (← zeroValue el).cells)) (Gr.bind (gr_zeroValue el) fun _ => gr_pure _) fun z => key z | exact Gr.bind (gr_zeroValue el) fun v => Gr.bind (gr_pure _) fun z => key z
  by_cases h2 : n * size = 0
  ·simp only [if_pos h2] at rest ⊢
   by_cases h1 : n * size > 2 ^ 24
   ·rw [if_pos h1]; exact Gr.bind (gr_halt _) fun _ => rest
   ·rw [if_neg h1]; exact rest
  ·simp only [if_neg h2] at rest ⊢
   by_cases h1 : n * size > 2 ^ 24
   ·rw [if_pos h1]; exact Gr.bind (gr_halt _) fun _ => rest
   ·rw [if_neg h1]; exact rest
 ·exact gr_halt _
def presO : Op → Bool
 | .alloc _ => true
 | .box _ _ => true
 | .buildSlice _ _ _ => true
 | _ => false
theorem gr_pres {P : Program} {ev : Operand → Value} {o : Oper} (h : presO o.op = true) : Gr P (execOp ev o) := by
 unfold execOp
 cases ho : o.op <;> rw [ho] at h <;> simp only [presO, Bool.false_eq_true] at h
 ·exact Gr.bind (Gr.bind (gr_zeroValue _) fun _ => Gr.bind (gr_newRow _ _) fun _ => gr_pure _) fun _ => gr_pure _
 ·exact Gr.bind (Gr.bind (gr_newRow _ _) fun _ => gr_pure _) fun _ => gr_pure _
 ·exact Gr.bind (gr_buildSlice _ _ _) fun _ => gr_pure _
theorem presO_enter {P : Program} {ev : Operand → Value} {o : Oper} (h : presO o.op = true) {w w' : World} {x : Next} (hr : (execOp ev o).run P w = .ok x w') : ∃ v, x = .value v := by
 unfold execOp at hr
 cases ho : o.op <;> rw [ho] at h <;> simp only [presO, Bool.false_eq_true] at h <;> rw [ho] at hr <;> simp only [Sem.run_bind] at hr
 all_goals (
  revert hr
  generalize (Sem.run P _ w) = q
  intro hr
  cases q with
  | ok y w1 => simp only [Result.andThen_ok, Sem.run_pure] at hr; cases hr; exact ⟨_, rfl⟩
  | _ => cases hr)
theorem wpOp_pres {P : Program} {ops : Array Oper} {Q : Exit → Act → World → Prop} {k : Nat} {o : Oper} (ho : ops[k]? = some o) (hp : presO o.op = true) {K : Act → World → Prop} {a : Act} {w : World} (h : wpOp P ops Q k K a w) : wpOp P ops Q k (fun a' w' => Kp emp w w' ∧ K a' w') a w := by
 unfold wpOp at h ⊢
 simp only [ho] at h ⊢
 split at h
 ·rename_i hw
  rw [if_pos hw]
  refine h.imp (fun h => ?_) id
  unfold Oper.wp at h ⊢
  generalize hr : (execOp a.eval o).run P w = r at h ⊢
  cases r with
  | ok x w' =>
   obtain ⟨v, rfl⟩ := presO_enter hp hr
   exact ⟨gr_pres hp _ _ _ hr, h⟩
  | halt x w' => cases x <;> exact h
 ·rename_i hw
  rw [if_neg hw]
  exact ⟨Kp.refl _ _, h⟩
def presB (ops : Array Oper) (k : Nat) : Bool := match getO ops.toList k with | some o => presO o.op | none => false
def seqL2 (ops : Array Oper) (tl : List Nat) : List Nat → Array Bool → Bool
 | [], listed => (Region.ready .any ops listed).isEmpty
 | k :: r, listed => decide (Region.ready .any ops listed = [k]) && (tl.contains k || presB ops k) && seqL2 ops tl r (listed.setIfInBounds k true)
theorem wpAnyT_of_seq2 {P : Program} {ops : Array Oper} {Q : Exit → Act → World → Prop} {S : World → Prop} {tl : List Nat} (hS : ∀ w w', Kp emp w w' → S w → S w') : ∀ (is : List Nat) (l : List Oper) (listed : Array Bool) (a : Act) (w : World), pickO ops.toList is = some l → seqL2 ops tl is listed = true → wpList P ops Q l a w → wpAnyT P ops Q S tl is.length listed a w
 | [], l, _, _, _, hl, hB, h => by simp [pickO] at hl; subst hl; exact ⟨by simpa [seqL2] using hB, h⟩
 | k :: is, l, listed, a, w, hl, hB, h => by
  simp only [pickO] at hl
  split at hl
  ·rename_i o ho
   split at hl
   ·rename_i q hq
    simp at hl; subst hl
    have ho2 := ho
    rw [getO_eq] at ho
    have h0 : ops[k]? = some o := by simpa using ho
    simp only [seqL2, Bool.and_eq_true, decide_eq_true_eq, Bool.or_eq_true] at hB
    refine ⟨fun h1 => (by rw [hB.1.1] at h1; cases h1), fun i hi => ?_⟩
    rw [hB.1.1] at hi
    have hik : i = k := by simpa using hi
    subst hik
    have hw : wpOp P ops Q i (wpList P ops Q q) a w := by unfold wpOp; simp only [h0]; exact h
    rcases hB.1.2 with ht | hp
    ·exact wpOp_mono (fun a' w' h' => ⟨fun h => (by rw [ht] at h; cases h), wpAnyT_of_seq2 hS is q _ a' w' hq hB.2 h'⟩) hw
    ·have hp' : presO o.op = true := by unfold presB at hp; rw [ho2] at hp; exact hp
     exact wpOp_mono (fun a' w' h' => ⟨fun _ => hS _ _ h'.1, wpAnyT_of_seq2 hS is q _ a' w' hq hB.2 h'.2⟩) (wpOp_pres h0 hp' hw)
   ·cases hl
  ·cases hl
theorem SB.keep {C : Cx} {bs : Nat → Nat} {G0 : GH} {L : Locs} {R : Rows} {w w' : World} (hb : Kp emp w w') (h : SB C bs G0 L R w) : SB C bs G0 L R w' := by
 obtain ⟨G, hle, hI⟩ := h
 exact ⟨_, hle.trans (le_join_l (cut G emp) emp), (hI.called (emp_le _) (fun _ _ h => by cases h) hb (emp_le _) (fun _ _ h => by cases h)).1⟩
theorem DX.tail2 {C : Cx} {ops : Array Oper} {tl : List Nat} {s : List It} {bs : Nat → Nat} {G0 : GH} {fuel : Nat} {listed : Array Bool} {env : Env} {L : Locs} {R : Rows} {Γ : Facts} {rest : List Oper} (is : List Nat) (hr : pickO ops.toList is = some rest) (hf : fuel = is.length) (hs : seqL2 ops tl is listed = true)
  (k : WX C (.ops ops rest :: s) env L R Γ) : DX C ops tl s bs G0 fuel listed env L R Γ := by
 intro _ a w G _ hS
 subst hf
 exact wpAnyT_of_seq2 (fun _ _ hb h => h.keep hb) is rest listed a w hr hs (k a w ⟨G, bs, hS⟩)
def DXS (C : Cx) (ops : Array Oper) (tl : List Nat) (s : List It) (S : World → Prop) (bs : Nat → Nat) (G0 : GH) (fuel : Nat) (listed : Array Bool) (env : Env) (L : Locs) (R : Rows) (Γ : Facts) : Prop :=
 Closed ops listed → ∀ a w G, Le G0 G → SatB C env L R Γ G bs a w → wpAnyT C.P ops (cont C s) S tl fuel listed a w
structure DXA (C : Cx) (ops : Array Oper) (tl : List Nat) (s : List It) (bs : Nat → Nat) (G0 : GH) (fuel : Nat) (listed : Array Bool) (env : Env) (L : Locs) (R : Rows) (Γ : Facts) (j d : Nat) (l : Loc) : Prop where
 no : DXS C ops tl s (SB C bs G0 L R) bs G0 (fuel + 1) listed env L R Γ
 yes : ∀ b, DXS C ops tl s (SB C bs G0 L R) (fun i => if i = d then b else bs i) G0 fuel (listed.setIfInBounds j true) ((d, .p d 0) :: env) ((d, l) :: L) R Γ
theorem DX.pend {C : Cx} {ops : Array Oper} {tl : List Nat} {s : List It} {bs : Nat → Nat} {G0 : GH} {fuel : Nat} {listed : Array Bool} {env : Env} {L : Locs} {R : Rows} {Γ : Facts} (j d : Nat) (l : Loc) (k : DXA C ops tl s bs G0 fuel listed env L R Γ j d l) : DX C ops tl s bs G0 (fuel + 1) listed env L R Γ := k.no
theorem HInv.unalloc {C : Cx} {w : World} {G : GH} {bs : Nat → Nat} {L : Locs} {R : Rows} {d b : Nat} {l : Loc} (hI : HInv C w G (fun i => if i = d then b else bs i) ((d, l) :: L) R) (hL : keyHas d L = false) (hR : keyHas d R = false) (h999 : d ≠ 999) : HInv C w G bs L R := by
 have hnL : ∀ {i : Nat} {x : Loc}, look L i = some x → i ≠ d := fun h => keyHas_not hL h
 have hnR : ∀ {i : Nat} {x : Row}, look R i = some x → i ≠ d := fun h => keyHas_not hR h
 have hup : ∀ {i : Nat} {x : Loc}, look L i = some x → look ((d, l) :: L) i = some x := fun h => by rw [look_cons, if_neg (Ne.symm (hnL h))]; exact h
 have hact : ∀ {i : Nat}, Acts L R i → Acts ((d, l) :: L) R i ∧ i ≠ d := fun h => by
  rcases h with ⟨x, hx⟩ | ⟨r, hr, hc⟩
  ·exact ⟨.inl ⟨x, hup hx⟩, hnL hx⟩
  ·exact ⟨.inr ⟨r, hr, hc⟩, hnR hr⟩
 refine ⟨hI.keep, hI.le, fun i x hx => ?_, fun i r hr => ?_, fun i j hij hi hj => ?_, fun i x r hx hr => hI.dis i x r (hup hx) hr, fun b' hb' => ?_, hI.nr⟩
 ·have := hI.loc i x (hup hx)
  simpa only [if_neg (hnL hx)] using this
 ·have := hI.row i r hr
  simpa only [if_neg (hnR hr)] using this
 ·obtain ⟨h1, h2⟩ := hact hi
  obtain ⟨h3, h4⟩ := hact hj
  have := hI.inj i j hij h1 h3
  simpa only [if_neg h2, if_neg h4] using this
 ·have := hI.pin b' hb'
  simpa only [if_neg (Ne.symm h999)] using this
theorem At.less {n d : Nat} {s : SV} {env : Env} {bs : Nat → Nat} {a : Act} (h : At n ((d, s) :: env) bs a) (hd : look env d = none) : At n env bs a := by
 refine ⟨h.size, h.dfr, fun e x hx => h.slot e x ?_⟩
 rw [look_cons]
 split
 ·rename_i he; subst he; rw [hd] at hx; cases hx
 ·exact hx
theorem At.swap {n d e : Nat} {s t : SV} {env : Env} {bs : Nat → Nat} {a : Act} (h : At n ((e, t) :: (d, s) :: env) bs a) (hde : Nat.beq e d = false) : At n ((d, s) :: (e, t) :: env) bs a := by
 have hne : e ≠ d := fun h => by subst h; simp at hde
 refine ⟨h.size, h.dfr, fun i x hx => h.slot i x ?_⟩
 rw [look_cons] at hx ⊢
 split
 ·rename_i he; subst he
  rw [if_neg (Ne.symm hne), look_cons, if_pos rfl] at hx; exact hx
 ·rename_i he
  rw [look_cons]
  split
  ·rename_i hd; subst hd; rw [if_pos rfl] at hx; exact hx
  ·rename_i hd; rw [if_neg hd, look_cons, if_neg he] at hx; exact hx
theorem pend_step {C : Cx} {ops : Array Oper} {tl : List Nat} {s : List It} {bs : Nat → Nat} {G0 G : GH} {fuel : Nat} {listed : Array Bool} {env : Env} {L : Locs} {R : Rows} {Γ : Facts} {j d : Nat} {l : Loc} {oj : Oper} {a : Act} {w : World} (ht : TabOk C.P C.tt) (hj : ops[j]? = some oj) (hd : oj.dst = some d) (hlt : d < C.fn.ntmps) (hg : gd ops env oj = some true) (hl : ladd C.tt env oj.op = some l) (hnl : labHas d env L R = false)
  (hle : Le G0 G) (hS : SatB C env L R Γ G bs a w) (hc : Closed ops (listed.setIfInBounds j true))
  (k : ∀ b, DXS C ops tl s (SB C bs G0 L R) (fun i => if i = d then b else bs i) G0 fuel (listed.setIfInBounds j true) ((d, .p d 0) :: env) ((d, l) :: L) R Γ) :
  wpOp C.P ops (cont C s) j (fun a' w' => (tl.contains j = false → SB C bs G0 L R w → SB C bs G0 L R w') ∧ wpAnyT C.P ops (cont C s) (SB C bs G0 L R) tl fuel (listed.setIfInBounds j true) a' w') a w := by
 obtain ⟨hA, hI, hΓ⟩ := hS
 unfold wpOp
 simp only [hj]
 rw [if_pos (gd_sound hA hg)]
 refine .inl ?_
 unfold Oper.wp
 rw [ladd_sound ht hA hl]
 simp only [Oper.upon, hd]
 have hI' := hI.alloc d (labHas_not hnl).2.2.2 (labHas_not hnl).2.1 (labHas_not hnl).2.2.1 l
 have hA' := (hA.notH (d := d) (bs' := fun j => if j = d then w.heap.size else bs j) (labHas_not hnl).1 (fun i hi => if_neg hi)).put hlt (.p d 0)
 simp only [conc, if_true] at hA'
 exact ⟨fun _ _ => ⟨G, hle, hI'.unalloc (labHas_not hnl).2.1 (labHas_not hnl).2.2.1 (labHas_not hnl).2.2.2⟩, k _ hc _ _ G hle ⟨hA', hI', hΓ⟩⟩
theorem DXA.tail {C : Cx} {ops : Array Oper} {tl : List Nat} {s : List It} {bs : Nat → Nat} {G0 : GH} {fuel : Nat} {listed : Array Bool} {env : Env} {L : Locs} {R : Rows} {Γ : Facts} {j d : Nat} {l : Loc} {oj : Oper} {rest : List Oper} (is : List Nat) (ht : TabOk C.P C.tt) (hj : getO ops.toList j = some oj) (hd : oj.dst = some d) (hlt : Nat.blt d C.fn.ntmps = true) (hg : gd ops env oj = some true) (hl : ladd C.tt env oj.op = some l) (hnl : labHas d env L R = false)
  (hr : Region.ready .any ops listed = [j]) (hp : pickO ops.toList is = some rest) (hf : fuel = is.length) (hs : seqL2 ops tl is (listed.setIfInBounds j true) = true) (k : WX C (.ops ops rest :: s) ((d, .p d 0) :: env) ((d, l) :: L) R Γ) : DXA C ops tl s bs G0 fuel listed env L R Γ j d l := by
 rw [getO_eq] at hj
 have hj' : ops[j]? = some oj := by simpa using hj
 have yes : ∀ b, DXS C ops tl s (SB C bs G0 L R) (fun i => if i = d then b else bs i) G0 fuel (listed.setIfInBounds j true) ((d, .p d 0) :: env) ((d, l) :: L) R Γ := fun b _ a w G _ hS => by
  subst hf
  exact wpAnyT_of_seq2 (fun _ _ hb h => h.keep hb) is rest _ a w hp hs (k a w ⟨G, _, hS⟩)
 refine ⟨fun hc a w G hle hS => ⟨fun h => (by rw [hr] at h; cases h), fun i hi => ?_⟩, yes⟩
 have hc' := hc.set hi
 rw [hr] at hi
 obtain rfl : i = j := by simpa using hi
 exact pend_step ht hj' hd (by simpa [Nat.blt_eq] using hlt) hg hl hnl hle hS hc' yes
theorem DXA.take {C : Cx} {ops : Array Oper} {tl : List Nat} {s : List It} {bs : Nat → Nat} {G0 : GH} {fuel : Nat} {listed : Array Bool} {env : Env} {L : Locs} {R : Rows} {Γ : Facts} {j d e : Nat} {l : Loc} {o : Oper} {sv : SV} (i : Nat) (hb : mayP ops listed i = true) (hb2 : mayP ops (listed.setIfInBounds j true) i = true) (hij : Nat.beq i j = false) (hi : getO ops.toList i = some o)
  (hg : gd ops env o = some true) (hg2 : gd ops ((d, .p d 0) :: env) o = some true) (he : o.dst = some e) (hlt : Nat.blt e C.fn.ntmps = true) (hed : Nat.beq e d = false) (hnd : look env d = none) (hl : LooksP C env o sv)
  (k : DXA C ops tl s bs G0 fuel (listed.setIfInBounds i true) ((e, sv) :: env) L R Γ j d l) : DXA C ops tl s bs G0 (fuel + 1) listed env L R Γ j d l := by
 rw [getO_eq] at hi
 have hi' : ops[i]? = some o := by simpa using hi
 have hne : i ≠ j := fun h => by subst h; simp at hij
 have hlt' : e < C.fn.ntmps := by simpa [Nat.blt_eq] using hlt
 have first : ∀ {bs' : Nat → Nat} {env' : Env} {L' : Locs} {f : Nat} {li : Array Bool}, mayP ops li i = true → gd ops env' o = some true → (∀ a w bs'', At C.fn.ntmps env' bs'' a → (execOp a.eval o).run C.P w = .ok (.value (conc bs'' sv)) w) →
   DXS C ops tl s (SB C bs G0 L R) bs' G0 f (li.setIfInBounds i true) ((e, sv) :: env') L' R Γ → DXS C ops tl s (SB C bs G0 L R) bs' G0 (f + 1) li env' L' R Γ := by
  intro bs' env' L' f li hm hgd hlk kk hcl a w G hle hS
  obtain ⟨hA, hI, hΓ⟩ := hS
  simp only [mayP, Bool.and_eq_true] at hm
  obtain ⟨⟨h1, h4⟩, h5⟩ := hm
  have hr : i ∈ Region.ready .any ops li := by simpa using h5
  refine wpAnyT_firstP hi' (Region.noSelect_spec h1) (fun c a w h => (cont_panic C s c _ _ h).elim) f li a w (Region.free_spec hi' h4) hr (v := conc bs' sv) (.inl ⟨gd_sound hA hgd, fun w' _ => hlk a w' bs' hA⟩) ?_
  rw [he]
  exact kk (hcl.set hr) _ _ G hle ⟨hA.put hlt' sv, hI, hΓ⟩
 refine ⟨first hb hg hl k.no, fun b => first hb2 hg2 (fun a w bs'' hA => hl a w bs'' (hA.less hnd)) ?_⟩
 intro hcl a w G hle ⟨hA, hI, hΓ⟩
 have := k.yes b
 rw [Array.setIfInBounds_comm _ _ (Ne.symm hne)] at hcl ⊢
 exact this hcl a w G hle ⟨hA.swap hed, hI, hΓ⟩
theorem DXA.der {C : Cx} {ops : Array Oper} {tl : List Nat} {s : List It} {bs : Nat → Nat} {G0 : GH} {fuel : Nat} {listed : Array Bool} {env : Env} {L : Locs} {R : Rows} {Γ : Facts} {j d : Nat} {l : Loc} (m : Nat) (f : MF) (hk : f.k = .der) (h : ∀ G, AllK C.M G Γ → f.p G)
  (k : DXA C ops tl s bs G0 fuel listed env L R ((m, f) :: Γ) j d l) : DXA C ops tl s bs G0 fuel listed env L R Γ j d l :=
 ⟨fun hcl a w G hle ⟨hA, hI, hΓ⟩ => k.no hcl a w G hle ⟨hA, hI, hΓ.der m f hk (h G hΓ)⟩, fun b hcl a w G hle ⟨hA, hI, hΓ⟩ => k.yes b hcl a w G hle ⟨hA, hI, hΓ.der m f hk (h G hΓ)⟩⟩
theorem DXA.callG {C : Cx} {ops : Array Oper} {tl : List Nat} {st : List It} {bs : Nat → Nat} {G0 : GH} {fuel : Nat} {listed : Array Bool} {env : Env} {L : Locs} {R : Rows} {Γ : Facts} {j d e : Nat} {l : Loc} {o oj : Oper} (i : Nat) {f : Operand} {args : List Operand} {ats : Array TypeId} {g : FuncId} {sf : SV} {svs : List SV} {caps : (Nat → Nat) → List Value}
  {ι : Type} {Q : Prop} {val : ι → Value} {Γ' : ι → Facts} {Ψ : World → Value → World → Prop} (ht : TabOk C.P C.tt) (hj : getO ops.toList j = some oj) (hd : oj.dst = some d) (hlt : Nat.blt d C.fn.ntmps = true) (hg : gd ops env oj = some true) (hl : ladd C.tt env oj.op = some l) (hnl : labHas d env L R = false) (hnd : look env d = none)
  (hr : (Region.ready .any ops listed).all (fun x => Nat.beq x i || Nat.beq x j) = true) (hr1 : (Region.ready .any ops listed).contains i = true) (hr2 : Region.ready .any ops (listed.setIfInBounds j true) = [i]) (hij : Nat.beq i j = false)
  (hi : getO ops.toList i = some o) (hgi : gd ops env o = some true) (hgi2 : gd ops ((d, .p d 0) :: env) o = some true) (he : o.dst = some e) (hlte : Nat.blt e C.fn.ntmps = true) (hed : Nat.beq e d = false) (ho : o.op = .call { callee := .value f, args := args.toArray, argTypes := ats })
  (hf : ev env f = some sf) (hf2 : ev ((d, .p d 0) :: env) f = some sf) (hsf : ∀ bs, conc bs sf = .func (.func g) #[] (caps bs).toArray) (hargs : evs env args = some svs) (hargs2 : evs ((d, .p d 0) :: env) args = some svs)
  (hc : ∀ w G bs, HInv C w G bs L R → AllK C.M (hp w) Γ → Does C.P g (svs.map (conc bs) ++ caps bs).toArray w emp (Ψ w))
  (hΨ : ∀ w v w' G bs (L : Locs) (R : Rows), HInv C w G bs L R → AllK C.M G Γ → Kp emp w w' → Ψ w v w' → ∃ x G', Q ∧ v = val x ∧ Le G G' ∧ HInv C w' G' bs L R ∧ AllK C.M G' (Γ' x))
  (k : ∀ x, Q → DXA C ops tl st bs G0 fuel (listed.setIfInBounds i true) ((e, .v (val x)) :: env) L R (Γ' x) j d l) : DXA C ops tl st bs G0 (fuel + 1) listed env L R Γ j d l := by
 rw [getO_eq] at hi hj
 have hi' : ops[i]? = some o := by simpa using hi
 have hj' : ops[j]? = some oj := by simpa using hj
 have hne : i ≠ j := fun h => by subst h; simp at hij
 have hlte' : e < C.fn.ntmps := by simpa [Nat.blt_eq] using hlte
 obtain ⟨l1, l2, l3, l4⟩ := labHas_not hnl
 have step : ∀ {bs' : Nat → Nat} {env' : Env} {L' : Locs} {fu : Nat} {li : Array Bool} {a : Act} {w : World} {G : GH}, gd ops env' o = some true → ev env' f = some sf → evs env' args = some svs → Le G0 G → SatB C env' L' R Γ G bs' a w → (∀ w G, HInv C w G bs' L' R → HInv C w G bs' L R) → (∀ w G, HInv C w G bs' L' R → HInv C w G bs L R) → Closed ops (li.setIfInBounds i true) →
   (∀ x, Q → DXS C ops tl st (SB C bs G0 L R) bs' G0 fu (li.setIfInBounds i true) ((e, .v (val x)) :: env') L' R (Γ' x)) →
   wpOp C.P ops (cont C st) i (fun a' w' => (tl.contains i = false → SB C bs G0 L R w → SB C bs G0 L R w') ∧ wpAnyT C.P ops (cont C st) (SB C bs G0 L R) tl fu (li.setIfInBounds i true) a' w') a w := by
  intro bs' env' L' fu li a w G h1 h2 h3 hle hS hsub hsub2 hcl kk
  obtain ⟨hA, hI, hΓ⟩ := hS
  unfold wpOp
  simp only [hi']
  rw [if_pos (gd_sound hA h1)]
  refine .inl ?_
  unfold Oper.wp
  obtain ⟨hen, hcalls⟩ := hc w G bs' (hsub w G hI) (hΓ.mono hI.le)
  rw [exec_call hen ho (by rw [ev_conc hA h2, hsf]) (evs_sound hA args svs h3)]
  simp only [Oper.upon]
  refine hcalls.mono fun ee w' ⟨v, hv, hb, hψ⟩ => ?_
  subst hv
  rw [he]
  obtain ⟨x, G', hq, hv, hGG, hI', hΓ'⟩ := hΨ w v w' G bs' L' R hI hΓ hb hψ
  subst hv
  exact ⟨fun _ _ => ⟨G', hle.trans hGG, hsub2 w' G' hI'⟩, kk x hq hcl _ _ G' (hle.trans hGG) ⟨hA.put hlte' (.v (val x)), hI', hΓ'⟩⟩
 have yes : ∀ b, DXS C ops tl st (SB C bs G0 L R) (fun i => if i = d then b else bs i) G0 (fuel + 1) (listed.setIfInBounds j true) ((d, .p d 0) :: env) ((d, l) :: L) R Γ := fun b hcl a w G hle hS => by
  refine ⟨fun h => (by rw [hr2] at h; cases h), fun x hx => ?_⟩
  have hcl' := hcl.set hx
  rw [hr2] at hx
  obtain rfl : x = i := by simpa using hx
  refine step hgi2 hf2 hargs2 hle hS (fun w G h => h.sub (fun q y hy => by rw [look_cons, if_neg (Ne.symm (keyHas_not l2 hy))]; exact hy) (Sub.refl _)) (fun w G h => h.unalloc l2 l3 l4) hcl' (fun x hq => ?_)
  intro hcl2 a w G hle ⟨hA, hI, hΓ⟩
  have := (k x hq).yes b
  rw [Array.setIfInBounds_comm _ _ (Ne.symm hne)] at hcl2 ⊢
  exact this hcl2 a w G hle ⟨hA.swap hed, hI, hΓ⟩
 refine ⟨fun hcl a w G hle hS => ⟨fun h => (by rw [h] at hr1; simp at hr1), fun x hx => ?_⟩, yes⟩
 have hcl' := hcl.set hx
 have hx' := List.all_eq_true.1 hr x hx
 simp only [Bool.or_eq_true] at hx'
 rcases hx' with h | h
 ·have := Nat.eq_of_beq_eq_true h
  subst this
  exact step hgi hf hargs hle hS (fun _ _ h => h) (fun _ _ h => h) hcl' (fun x hq => (k x hq).no)
 ·have := Nat.eq_of_beq_eq_true h
  subst this
  exact pend_step ht hj' hd (by simpa [Nat.blt_eq] using hlt) hg hl hnl hle hS hcl' yes
theorem DXA.callV {C : Cx} {ops : Array Oper} {tl : List Nat} {st : List It} {bs : Nat → Nat} {G0 : GH} {fuel : Nat} {listed : Array Bool} {env : Env} {L : Locs} {R : Rows} {Γ : Facts} {j d e : Nat} {l : Loc} {o oj : Oper} (i : Nat) {f : Operand} {args : List Operand} {ats : Array TypeId} {g : FuncId} {sf : SV} {svs : List SV} {caps : (Nat → Nat) → List Value}
  {c : Value} {Q : Prop} (ht : TabOk C.P C.tt) (hj : getO ops.toList j = some oj) (hd : oj.dst = some d) (hlt : Nat.blt d C.fn.ntmps = true) (hg : gd ops env oj = some true) (hl : ladd C.tt env oj.op = some l) (hnl : labHas d env L R = false) (hnd : look env d = none)
  (hr : (Region.ready .any ops listed).all (fun x => Nat.beq x i || Nat.beq x j) = true) (hr1 : (Region.ready .any ops listed).contains i = true) (hr2 : Region.ready .any ops (listed.setIfInBounds j true) = [i]) (hij : Nat.beq i j = false)
  (hi : getO ops.toList i = some o) (hgi : gd ops env o = some true) (hgi2 : gd ops ((d, .p d 0) :: env) o = some true) (he : o.dst = some e) (hlte : Nat.blt e C.fn.ntmps = true) (hed : Nat.beq e d = false) (ho : o.op = .call { callee := .value f, args := args.toArray, argTypes := ats })
  (hf : ev env f = some sf) (hf2 : ev ((d, .p d 0) :: env) f = some sf) (hsf : ∀ bs, conc bs sf = .func (.func g) #[] (caps bs).toArray) (hargs : evs env args = some svs) (hargs2 : evs ((d, .p d 0) :: env) args = some svs)
  (hc : ∀ w G bs, HInv C w G bs L R → AllK C.M (hp w) Γ → Does C.P g (svs.map (conc bs) ++ caps bs).toArray w emp fun v _ => v = c ∧ Q)
  (k : Q → DXA C ops tl st bs G0 fuel (listed.setIfInBounds i true) ((e, .v c) :: env) L R Γ j d l) : DXA C ops tl st bs G0 (fuel + 1) listed env L R Γ j d l :=
 DXA.callG (ι := Unit) (Q := Q) (val := fun _ => c) (Γ' := fun _ => Γ) (Ψ := fun _ v _ => v = c ∧ Q) i ht hj hd hlt hg hl hnl hnd hr hr1 hr2 hij hi hgi hgi2 he hlte hed ho hf hf2 hsf hargs hargs2 hc
  (fun w v w' G bs L R hI hΓ hb ⟨hv, hq⟩ => ⟨(), join (cut G emp) emp, hq, hv, le_join_l (cut G emp) emp, (hI.called (emp_le _) (fun _ _ h => by cases h) hb (emp_le _) (fun _ _ h => by cases h)).1, hΓ.mono (le_join_l (cut G emp) emp)⟩) (fun _ => k)
theorem DXA.callF {C : Cx} {ops : Array Oper} {tl : List Nat} {st : List It} {bs : Nat → Nat} {G0 : GH} {fuel : Nat} {listed : Array Bool} {env : Env} {L : Locs} {R : Rows} {Γ : Facts} {j d e : Nat} {l : Loc} {o oj : Oper} (i m : Nat) {f : Operand} {args : List Operand} {ats : Array TypeId} {g : FuncId} {sf : SV} {svs : List SV} {caps : (Nat → Nat) → List Value}
  {ι : Type} {val val' : ι → Value} {gs ds : ι → List MF} {Q : Prop} {Γ' : ι → Facts} (hds : ∀ i h, Sep h (gs i) → All h (ds i)) (hdk : ∀ i, ∀ f ∈ ds i, f.k = .der) (ht : TabOk C.P C.tt) (hj : getO ops.toList j = some oj) (hd : oj.dst = some d) (hlt : Nat.blt d C.fn.ntmps = true) (hg : gd ops env oj = some true) (hl : ladd C.tt env oj.op = some l) (hnl : labHas d env L R = false) (hnd : look env d = none)
  (hr : (Region.ready .any ops listed).all (fun x => Nat.beq x i || Nat.beq x j) = true) (hr1 : (Region.ready .any ops listed).contains i = true) (hr2 : Region.ready .any ops (listed.setIfInBounds j true) = [i]) (hij : Nat.beq i j = false)
  (hi : getO ops.toList i = some o) (hgi : gd ops env o = some true) (hgi2 : gd ops ((d, .p d 0) :: env) o = some true) (he : o.dst = some e) (hlte : Nat.blt e C.fn.ntmps = true) (hed : Nat.beq e d = false) (ho : o.op = .call { callee := .value f, args := args.toArray, argTypes := ats })
  (hf : ev env f = some sf) (hf2 : ev ((d, .p d 0) :: env) f = some sf) (hsf : ∀ bs, conc bs sf = .func (.func g) #[] (caps bs).toArray) (hargs : evs env args = some svs) (hargs2 : evs ((d, .p d 0) :: env) args = some svs)
  (hc : ∀ w G bs, HInv C w G bs L R → AllK C.M (hp w) Γ → Does C.P g (svs.map (conc bs) ++ caps bs).toArray w emp (Post w emp val gs Q))
  (hv : ∀ i, normV (val i) = some (val' i)) (hΓ' : ∀ i, addF m (ds i ++ gs i) Γ = some (Γ' i))
  (k : ∀ x, Q → DXA C ops tl st bs G0 fuel (listed.setIfInBounds i true) ((e, .v (val' x)) :: env) L R (Γ' x) j d l) : DXA C ops tl st bs G0 (fuel + 1) listed env L R Γ j d l :=
 DXA.callG (ι := ι) (Q := Q) (val := val') (Γ' := Γ') (Ψ := fun w v w' => Post w emp val gs Q v w') i ht hj hd hlt hg hl hnl hnd hr hr1 hr2 hij hi hgi hgi2 he hlte hed ho hf hf2 hsf hargs hargs2 hc
  (fun w v w' G bs L R hI hΓ hb hv' => by
   obtain ⟨x, h, rfl, hq, hle1, hdom, hs⟩ := hv'
   obtain ⟨hI', hdj⟩ := hI.called (emp_le _) (fun _ _ h => by cases h) hb hle1 hdom
   exact ⟨x, join (cut G emp) h, hq, (normV_eq (hv x)).symm, le_join_l (cut G emp) h, hI', hΓ.after hdj (fun b o hb' => .inl ((hdom b o hb').elim (Nat.le_trans hI.keep.size) (fun h => absurd rfl h))) hs (hdk x) (hds x h hs) (hΓ' x)⟩) k
end Go.Stp

namespace Go.Stp
open GoT (X k ok sh fa oa)
theorem looks_cap {C : Cx} {env : Env} {L : Locs} {R : Rows} {G : GH} {o : Oper} {x : Operand} {T n c e : Nat} {p : Option Addr} {ti : TI} (ht : TabOk C.P C.tt) (ho : o.op = .call { callee := .builtin .cap, args := #[x], argTypes := #[T] }) (hT : look C.tt T = some ti) (hd : ti.desc = .slice e)
  (hx : ev env x = some (.v (.slice p n c))) : Looks C env L R G o (.v (.int .i64 (c : Int))) := by
 intro a w G' bs _ hA hI
 have hu : C.P.underlying T = some (.slice e) := by rw [← hd]; exact (ht.get hT).1
 unfold execOp
 simp [ho, resolve, invoke, builtin, ev_conc hA hx, conc, Builtin.cap_, run_underlying hu, goInt]
theorem run_append_zeros {P : Program} (w : World) (t tn ty e : TypeId) (i : TypeInfo) (z : Value) (kn : IntKind) (ht : P.underlying t = some (.slice e)) (htn : P.underlying tn = some (.int kn)) (hi : P.info? e = some i) (hz : i.zero = some z) (base : Option Addr) (sLen sCap : Nat) (olds : List Value)
  (hold : (Builtin.firstCells i.size sLen (.slice base sLen sCap)).run P w.drew = .ok olds.toArray w.drew) (n : Nat) (h0 : 0 < n) (hs : 0 < i.size) (hg : sCap < sLen + n) (h63 : ((sLen + n : Nat) : Int) ≤ 9223372036854775807) (h48 : n * i.bytes ≤ 281474976710656) (hfit : Builtin.nextslicecap (sLen + n) sCap * i.bytes ≤ 281474976710656) :
  (Builtin.append_ #[t, tn] ty #[.slice base sLen sCap, .int .i64 n]).run P w = .ok (.slice (some ⟨w.heap.size, 0, none⟩) (sLen + n) (grownCap w (sLen + n) sCap e))
   (w.drew.alloc (.cells (olds.toArray ++ Builtin.zeroCells z.cells n ++ Builtin.zeroCells z.cells (grownCap w (sLen + n) sCap e - (sLen + n))) e)) := by
 have hn : n ≠ 0 := by omega
 have hw : IntKind.i64.wrap (n : Int) = n := wrap_i64 (by unfold I64; omega)
 have hnr : ¬ (sLen + n ≤ sCap) := by omega
 have h63' : ¬ (9223372036854775807 < ((sLen : Int) + (n : Int))) := by omega
 have h48' : ¬ (281474976710656 < Builtin.nextslicecap (sLen + n) sCap * i.bytes) := by omega
 have h48i : ¬ (281474976710656 < (n : Int) * (i.bytes : Int)) := by rw [← Int.natCast_mul]; omega
 have hneg : ¬ ((n : Int) < 0) := by omega
 have hns : ¬ (n * i.size = 0) := Nat.mul_ne_zero hn (by omega)
 simp [Builtin.append_, run_underlying ht, run_underlying htn, sizeOf, typeInfo, zeroValue, hi, hz, asInt, asIntOf, hw, hn, hneg, hns, hnr, h63', h48', h48i, Question.forced, hold, newRow, grownCap]
theorem WX.appZ {C : Cx} {ops : Array Oper} {o : Oper} {r : List Oper} {s : List It} {env : Env} {L : Locs} {R : Rows} {Γ : Facts} {d : Nat} {x y : Operand} {T tn e kk by_ : Nat} {z : List Value} {row : Row} {tin : TI} {kn : IntKind} {q : Int} (ρ i m : Nat) (ht : TabOk C.P C.tt)
  (hg : gd ops env o = some true) (hd : o.dst = some d) (hlt : Nat.blt d C.fn.ntmps = true) (ho : o.op = .call { callee := .builtin .append, args := #[x, y], argTypes := #[T, tn] }) (hel : elO C.tt T = some (e, kk, by_, z)) (htn : look C.tt tn = some tin) (hkn : tin.desc = .int kn)
  (hx : ev env x = some (.v (.slice row.p i row.c))) (hy : ev env y = some (.v (.int .i64 q))) (hq : q = (m : Int)) (hρ : look R ρ = some row) (hkk : row.k = kk) (hi : i ≤ row.n) (hm : 0 < m) (hcap : row.c < i + m) (hroom : (i + m) * by_ ≤ 140737488355328) (hmax : i + m ≤ 4611686018427387904) (hnl : labHas d env L R = false)
  (k : ∀ p' c', WX C (.ops ops r :: s) ((d, .v (.slice p' (i + m) c')) :: env) L ((d, ⟨kk, p', i + m, c', row.xs.take (i * kk) ++ zrep m z⟩) :: R) Γ) : WX C (.ops ops (o :: r) :: s) env L R Γ := by
 subst hq
 refine WX.did (ι := Option Addr × Nat) (env' := fun pc => ((d, .v (.slice pc.1 (i + m) pc.2)) :: env)) (R' := fun pc => ((d, ⟨kk, pc.1, i + m, pc.2, row.xs.take (i * kk) ++ zrep m z⟩) :: R)) (Γ' := fun _ => Γ) hg (fun a w G bs hA hI hΓ => ?_) (fun pc => k pc.1 pc.2)
 obtain ⟨hu, inf, v, te, hE, hte, hinf, h0, hs, hby, hv, hzl, hpos⟩ := elO_some ht hel
 have hun : C.P.underlying tn = some (.int kn) := by rw [← hkn]; exact (ht.get htn).1
 have hrow := hI.row ρ row hρ
 subst hkk
 have hvs : v.cells.size = row.k := by rw [← hzl, ← hv]; simp
 have hil : (row.xs.take (i * row.k)).length = i * row.k := by rw [List.length_take, hrow.1]; exact Nat.min_eq_left (Nat.mul_le_mul_right _ hi)
 have hold : (Builtin.firstCells inf.size i (.slice row.p i row.c)).run C.P w.drew = .ok (row.xs.take (i * row.k)).toArray w.drew := by
  rcases hrow.2 with ⟨hc, hn⟩ | ⟨o1, hp, _, _, _, _, cur, T', hh, _, htk⟩
  ·have hi0 : i = 0 := by omega
   subst hi0
   cases hpp : row.p <;> simp [Builtin.firstCells, loadCells, loadCellsFrom]
  ·rw [hp]
   refine run_firstCells_some (P := C.P) w.drew inf.size i ⟨bs ρ, o1, none⟩ i row.c _ (by rw [hil, hs]) (fun j u hj => ?_)
   rw [Addr.add_lit]
   show w.cell? _ = _
   rw [cell_of_row w _ _ cur T' _ hh]
   rw [List.getElem?_take] at hj
   split at hj
   ·rw [← htk, List.getElem?_take, List.getElem?_drop] at hj
    split at hj
    ·simpa using hj
    ·cases hj
   ·cases hj
 have hby2 : m * inf.bytes ≤ (i + m) * inf.bytes := Nat.mul_le_mul_right _ (by omega)
 rw [← hby] at hroom
 have hrun := run_append_zeros (P := C.P) w T tn o.type e inf v kn hu hun hinf h0 row.p i row.c _ hold m hm (by omega) hcap (by omega) (by omega) (growslice_fits (by omega) hroom)
 have hge := grownCap_ge w (i + m) row.c e
 have hcm := grownCap_le_maxLen w (i + m) row.c e (show i + m ≤ maxLen by simp only [maxLen]; omega)
 have hz1 : (Builtin.zeroCells v.cells m).toList = zrep m z := by rw [← hv]; exact zeroCells_zrep v.cells m (by omega)
 have hzm : (Builtin.zeroCells v.cells m).size = m * row.k := by rw [← Array.length_toList, hz1, zrep_len, hzl]
 have hexec : (execOp a.eval o).run C.P w = .ok (.value (.slice (some ⟨w.heap.size, 0, none⟩) (i + m) (grownCap w (i + m) row.c e))) (w.drew.alloc (.cells ((row.xs.take (i * row.k)).toArray ++ Builtin.zeroCells v.cells m ++ Builtin.zeroCells v.cells (grownCap w (i + m) row.c e - (i + m))) e)) := by
  unfold execOp
  simp only [ho, resolve, invoke, builtin, Sem.run_bind, Sem.run_pure, Result.andThen_ok, List.map_toArray, List.map_cons, List.map_nil, ev_conc hA hx, ev_conc hA hy, conc_v, hrun]
 refine ⟨_, _, (some ⟨w.heap.size, 0, none⟩, grownCap w (i + m) row.c e), hexec, G, fun j => if j = d then w.heap.size else bs j, ?_, ?_, hΓ⟩
 ·rw [hd]
  exact (hA.notH (d := d) (labHas_not hnl).1 (fun i hi => if_neg hi)).put (by simpa [Nat.blt_eq] using hlt) (.v _)
 ·have hlen : (row.xs.take (i * row.k) ++ zrep m z).length = (i + m) * row.k := by rw [List.length_append, hil, zrep_len, hzl, Nat.add_mul]
  refine hI.upd (ρ := d) (labHas_not hnl).2.2.2 False (fun h => h.elim) ⟨rfl, rfl, rfl, by simp, fun j hj _ => heap_alloc_old w.drew _ j hj⟩ (.inr (.inl (Nat.le_refl _))) (fun j => look_cons _ _ _ _) (fun l h => keyHas_not (labHas_not hnl).2.1 h rfl) ⟨hlen, .inr ⟨0, rfl, .inl hI.keep.size, hI.le.new, hge, hcm, _, e, heap_alloc_new w.drew _, ?_, ?_⟩⟩
  ·simp only [Array.size_append, List.size_toArray, size_zeroCells, hvs, hil, ← Nat.add_mul, Nat.zero_add]
   exact Nat.mul_le_mul_right _ (by omega)
  ·simp only [Array.toList_append, List.drop_zero, hz1]
   rw [← hlen]
   exact List.take_left
end Go.Stp

namespace Go.Stp
def TX (C : Cx) (ops : Array Oper) (tl : List Nat) (s : List It) (S : World → Prop) (fuel : Nat) (listed : Array Bool) (env : Env) (L : Locs) (R : Rows) (Γ : Facts) : Prop :=
 (∀ w w', Kp emp w w' → S w → S w') → ∀ a w, Sat C env L R Γ a w → wpAnyT C.P ops (cont C s) S tl fuel listed a w
theorem DX.toTX {C : Cx} {ops : Array Oper} {tl : List Nat} {s : List It} {bs : Nat → Nat} {G0 : GH} {fuel : Nat} {listed : Array Bool} {env : Env} {L : Locs} {R : Rows} {Γ : Facts} (k : ∀ S, TX C ops tl s S fuel listed env L R Γ) : DX C ops tl s bs G0 fuel listed env L R Γ :=
 fun _ a w G _ hS => k _ (fun _ _ hb h => h.keep hb) a w ⟨G, bs, hS⟩
def TXI (C : Cx) (ops : Array Oper) (tl : List Nat) (s : List It) (S : World → Prop) (fuel : Nat) (listed : Array Bool) : Act → World → Prop := fun a w => (∀ w w', Kp emp w w' → S w → S w') → wpAnyT C.P ops (cont C s) S tl fuel listed a w
theorem upon_then {P : Program} {o : Oper} {a : Act} {next I : Act → World → Prop} {Q : Exit → Act → World → Prop} {r : Result Next} (h : o.upon P a next (Exit.then I Q) r) : o.upon P a next Q r := by
 cases r with
 | ok x w => cases x <;> exact h
 | halt x w => cases x <;> exact h
theorem TX.step {C : Cx} {ops : Array Oper} {tl : List Nat} {s : List It} {S : World → Prop} {fuel : Nat} {listed : Array Bool} {env : Env} {L : Locs} {R : Rows} {Γ : Facts} {x : Nat} {o : Oper} (hS : ∀ w w', Kp emp w w' → S w → S w') (hi : ops[x]? = some o) (hp : tl.contains x = true ∨ presO o.op = true)
  (kx : WX C (.ops ops [o] :: .iter (TXI C ops tl s S fuel (listed.setIfInBounds x true)) :: s) env L R Γ) {a : Act} {w : World} (hSat : Sat C env L R Γ a w) :
  wpOp C.P ops (cont C s) x (fun a' w' => (tl.contains x = false → S w → S w') ∧ wpAnyT C.P ops (cont C s) S tl fuel (listed.setIfInBounds x true) a' w') a w := by
 have h : wpOp C.P ops (cont C s) x (TXI C ops tl s S fuel (listed.setIfInBounds x true)) a w := by
  have h1 : wpList C.P ops (Exit.then (TXI C ops tl s S fuel (listed.setIfInBounds x true)) (cont C s)) [o] a w := kx a w hSat
  unfold wpOp
  simp only [hi]
  unfold wpList at h1
  split at h1
  ·rename_i hw
   rw [if_pos hw]
   exact h1.imp (fun h => upon_then (o := o) h) id
  ·rename_i hw
   rw [if_neg hw]
   exact h1
 rcases hp with ht | hp
 ·exact wpOp_mono (fun a' w' h' => ⟨fun h => (by rw [ht] at h; cases h), h' hS⟩) h
 ·exact wpOp_mono (fun a' w' h' => ⟨fun _ => hS _ _ h'.1, h'.2 hS⟩) (wpOp_pres hi hp h)
def tlB (ops : Array Oper) (tl : List Nat) (x : Nat) : Bool := tl.contains x || presB ops x
theorem tlB_spec {ops : Array Oper} {tl : List Nat} {x : Nat} {o : Oper} (hi : getO ops.toList x = some o) (h : tlB ops tl x = true) : ops[x]? = some o ∧ (tl.contains x = true ∨ presO o.op = true) := by
 unfold tlB presB at h
 rw [hi] at h
 rw [getO_eq] at hi
 exact ⟨by simpa using hi, by simpa using h⟩
theorem TX.one {C : Cx} {ops : Array Oper} {tl : List Nat} {s : List It} {S : World → Prop} {fuel : Nat} {listed : Array Bool} {env : Env} {L : Locs} {R : Rows} {Γ : Facts} {o : Oper} (x : Nat) (hr : Region.ready .any ops listed = [x]) (hi : getO ops.toList x = some o) (hp : tlB ops tl x = true)
  (kx : WX C (.ops ops [o] :: .iter (TXI C ops tl s S fuel (listed.setIfInBounds x true)) :: s) env L R Γ) : TX C ops tl s S (fuel + 1) listed env L R Γ := fun hS a w hSat => by
 obtain ⟨h1, h2⟩ := tlB_spec hi hp
 refine ⟨fun h => (by rw [hr] at h; cases h), fun j hj => ?_⟩
 rw [hr] at hj
 obtain rfl : j = x := by simpa using hj
 exact TX.step hS h1 h2 kx hSat
theorem WX.back0 {C : Cx} {ops : Array Oper} {tl : List Nat} {s : List It} {S : World → Prop} {fuel : Nat} {listed : Array Bool} {env : Env} {L : Locs} {R : Rows} {Γ : Facts} (k : TX C ops tl s S fuel listed env L R Γ) : WX C (.iter (TXI C ops tl s S fuel listed) :: s) env L R Γ :=
 fun a w hSat hS => k hS a w hSat
theorem TX.tail {C : Cx} {ops : Array Oper} {tl : List Nat} {s : List It} {S : World → Prop} {fuel : Nat} {listed : Array Bool} {env : Env} {L : Locs} {R : Rows} {Γ : Facts} {rest : List Oper} (is : List Nat) (hr : pickO ops.toList is = some rest) (hf : fuel = is.length) (hs : seqL2 ops tl is listed = true)
  (k : WX C (.ops ops rest :: s) env L R Γ) : TX C ops tl s S fuel listed env L R Γ := fun hS a w hSat => by
 subst hf
 exact wpAnyT_of_seq2 hS is rest listed a w hr hs (k a w hSat)
end Go.Stp

namespace Go.Stp
def TS (C : Cx) (ops : Array Oper) (tl : List Nat) (s : List It) (S : World → Prop) (fuel : Nat) (listed : Array Bool) (env : Env) (L : Locs) (R : Rows) (Γ : Facts) (x : Nat) : Prop :=
 (∀ w w', Kp emp w w' → S w → S w') → ∀ a w, Sat C env L R Γ a w → wpOp C.P ops (cont C s) x (fun a' w' => (tl.contains x = false → S w → S w') ∧ wpAnyT C.P ops (cont C s) S tl fuel (listed.setIfInBounds x true) a' w') a w
theorem TS.op {C : Cx} {ops : Array Oper} {tl : List Nat} {s : List It} {S : World → Prop} {fuel : Nat} {listed : Array Bool} {env : Env} {L : Locs} {R : Rows} {Γ : Facts} {o : Oper} (x : Nat) (hi : getO ops.toList x = some o) (hp : tlB ops tl x = true)
  (kx : WX C (.ops ops [o] :: .iter (TXI C ops tl s S fuel (listed.setIfInBounds x true)) :: s) env L R Γ) : TS C ops tl s S fuel listed env L R Γ x := fun hS a w hSat => by
 obtain ⟨h1, h2⟩ := tlB_spec hi hp
 exact TX.step hS h1 h2 kx hSat
theorem TX.all1 {C : Cx} {ops : Array Oper} {tl : List Nat} {s : List It} {S : World → Prop} {fuel : Nat} {listed : Array Bool} {env : Env} {L : Locs} {R : Rows} {Γ : Facts} (x : Nat) (hr : Region.ready .any ops listed = [x]) (kx : TS C ops tl s S fuel listed env L R Γ x) : TX C ops tl s S (fuel + 1) listed env L R Γ := fun hS a w hSat => by
 refine ⟨fun h => (by rw [hr] at h; cases h), fun j hj => ?_⟩
 rw [hr] at hj
 obtain rfl : j = x := by simpa using hj
 exact kx hS a w hSat
theorem TX.all2 {C : Cx} {ops : Array Oper} {tl : List Nat} {s : List It} {S : World → Prop} {fuel : Nat} {listed : Array Bool} {env : Env} {L : Locs} {R : Rows} {Γ : Facts} (x y : Nat) (hr : Region.ready .any ops listed = [x, y]) (kx : TS C ops tl s S fuel listed env L R Γ x) (ky : TS C ops tl s S fuel listed env L R Γ y) : TX C ops tl s S (fuel + 1) listed env L R Γ := fun hS a w hSat => by
 refine ⟨fun h => (by rw [hr] at h; cases h), fun j hj => ?_⟩
 rw [hr] at hj
 rcases List.mem_cons.1 hj with rfl | hj
 ·exact kx hS a w hSat
 ·obtain rfl : j = y := by simpa using hj
  exact ky hS a w hSat
theorem TX.all3 {C : Cx} {ops : Array Oper} {tl : List Nat} {s : List It} {S : World → Prop} {fuel : Nat} {listed : Array Bool} {env : Env} {L : Locs} {R : Rows} {Γ : Facts} (x y z : Nat) (hr : Region.ready .any ops listed = [x, y, z]) (kx : TS C ops tl s S fuel listed env L R Γ x) (ky : TS C ops tl s S fuel listed env L R Γ y) (kz : TS C ops tl s S fuel listed env L R Γ z) : TX C ops tl s S (fuel + 1) listed env L R Γ := fun hS a w hSat => by
 refine ⟨fun h => (by rw [hr] at h; cases h), fun j hj => ?_⟩
 rw [hr] at hj
 rcases List.mem_cons.1 hj with rfl | hj
 ·exact kx hS a w hSat
 rcases List.mem_cons.1 hj with rfl | hj
 ·exact ky hS a w hSat
 ·obtain rfl : j = z := by simpa using hj
  exact kz hS a w hSat
theorem TS.callG {C : Cx} {ops : Array Oper} {tl : List Nat} {st : List It} {S : World → Prop} {fuel : Nat} {listed : Array Bool} {env : Env} {L : Locs} {R : Rows} {Γ : Facts} {o : Oper} (i : Nat) {f : Operand} {args : List Operand} {ats : Array TypeId} {g : FuncId} {sf : SV} {svs : List SV} {caps : (Nat → Nat) → List Value}
  {Ψ : World → Value → World → Prop} {d : Nat} (hi : getO ops.toList i = some o) (hg : gd ops env o = some true) (hd : o.dst = some d) (ho : o.op = .call { callee := .value f, args := args.toArray, argTypes := ats })
  (hf : ev env f = some sf) (hsf : ∀ bs, conc bs sf = .func (.func g) #[] (caps bs).toArray) (hargs : evs env args = some svs)
  (hc : ∀ w G bs, HInv C w G bs L R → AllK C.M (hp w) Γ → Does C.P g (svs.map (conc bs) ++ caps bs).toArray w emp (Ψ w))
  (k : ∀ a w w' G bs v, (∀ w w', Kp emp w w' → S w → S w') → At C.fn.ntmps env bs a → HInv C w G bs L R → AllK C.M G Γ → Kp emp w w' → Ψ w v w' → wpAnyT C.P ops (cont C st) S tl fuel (listed.setIfInBounds i true) (a.put (some d) v) w') : TS C ops tl st S fuel listed env L R Γ i := by
 intro hS a w ⟨G, bs, hA, hI, hΓ⟩
 rw [getO_eq] at hi
 have hi' : ops[i]? = some o := by simpa using hi
 unfold wpOp
 simp only [hi']
 rw [if_pos (gd_sound hA hg)]
 refine .inl ?_
 unfold Oper.wp
 obtain ⟨he, hcalls⟩ := hc w G bs hI (hΓ.mono hI.le)
 rw [exec_call he ho (by rw [ev_conc hA hf, hsf]) (evs_sound hA args svs hargs)]
 simp only [Oper.upon]
 refine hcalls.mono fun e w' ⟨v, hv, hb, hψ⟩ => ?_
 subst hv
 rw [hd]
 exact ⟨fun _ hs => hS _ _ hb hs, k a w w' G bs v hS hA hI hΓ hb hψ⟩
theorem TS.callV {C : Cx} {ops : Array Oper} {tl : List Nat} {st : List It} {S : World → Prop} {fuel : Nat} {listed : Array Bool} {env : Env} {L : Locs} {R : Rows} {Γ : Facts} {o : Oper} (i : Nat) {f : Operand} {args : List Operand} {ats : Array TypeId} {g : FuncId} {sf : SV} {svs : List SV} {caps : (Nat → Nat) → List Value}
  {c : Value} {Q : Prop} {d : Nat} (hi : getO ops.toList i = some o) (hg : gd ops env o = some true) (hd : o.dst = some d) (hlt : Nat.blt d C.fn.ntmps = true) (ho : o.op = .call { callee := .value f, args := args.toArray, argTypes := ats })
  (hf : ev env f = some sf) (hsf : ∀ bs, conc bs sf = .func (.func g) #[] (caps bs).toArray) (hargs : evs env args = some svs)
  (hc : ∀ w G bs, HInv C w G bs L R → AllK C.M (hp w) Γ → Does C.P g (svs.map (conc bs) ++ caps bs).toArray w emp fun v _ => v = c ∧ Q)
  (k : Q → TX C ops tl st S fuel (listed.setIfInBounds i true) ((d, .v c) :: env) L R Γ) : TS C ops tl st S fuel listed env L R Γ i :=
 TS.callG (Ψ := fun _ v _ => v = c ∧ Q) i hi hg hd ho hf hsf hargs hc fun a w w' G bs v hS hA hI hΓ hb ⟨hv, hq⟩ => by
  subst hv
  have hI' := (hI.called (emp_le _) (fun _ _ h => by cases h) hb (emp_le _) (fun _ _ h => by cases h)).1
  exact k hq hS _ _ ⟨_, _, hA.put (by simpa [Nat.blt_eq] using hlt) (.v v), hI', hΓ.mono (le_join_l (cut G emp) emp)⟩
theorem TS.callF {C : Cx} {ops : Array Oper} {tl : List Nat} {st : List It} {S : World → Prop} {fuel : Nat} {listed : Array Bool} {env : Env} {L : Locs} {R : Rows} {Γ : Facts} {o : Oper} (i m : Nat) {f : Operand} {args : List Operand} {ats : Array TypeId} {g : FuncId} {sf : SV} {svs : List SV} {caps : (Nat → Nat) → List Value}
  {ι : Type} {val val' : ι → Value} {gs ds : ι → List MF} {Q : Prop} {d : Nat} {Γ' : ι → Facts} (hds : ∀ i h, Sep h (gs i) → All h (ds i)) (hdk : ∀ i, ∀ f ∈ ds i, f.k = .der) (hi : getO ops.toList i = some o) (hg : gd ops env o = some true) (hd : o.dst = some d) (hlt : Nat.blt d C.fn.ntmps = true) (ho : o.op = .call { callee := .value f, args := args.toArray, argTypes := ats })
  (hf : ev env f = some sf) (hsf : ∀ bs, conc bs sf = .func (.func g) #[] (caps bs).toArray) (hargs : evs env args = some svs)
  (hc : ∀ w G bs, HInv C w G bs L R → AllK C.M (hp w) Γ → Does C.P g (svs.map (conc bs) ++ caps bs).toArray w emp (Post w emp val gs Q))
  (hv : ∀ i, normV (val i) = some (val' i)) (hΓ' : ∀ i, addF m (ds i ++ gs i) Γ = some (Γ' i))
  (k : ∀ j, Q → TX C ops tl st S fuel (listed.setIfInBounds i true) ((d, .v (val' j)) :: env) L R (Γ' j)) : TS C ops tl st S fuel listed env L R Γ i :=
 TS.callG (Ψ := fun w v w' => Post w emp val gs Q v w') i hi hg hd ho hf hsf hargs hc fun a w w' G bs v hS hA hI hΓ hb hv' => by
  obtain ⟨j, h, rfl, hq, hle1, hdom, hs⟩ := hv'
  rw [← normV_eq (hv j)]
  obtain ⟨hI', hdj⟩ := hI.called (emp_le _) (fun _ _ h => by cases h) hb hle1 hdom
  exact k j hq hS _ _ ⟨_, _, hA.put (by simpa [Nat.blt_eq] using hlt) (.v _), hI', hΓ.after hdj (fun b o hb' => .inl ((hdom b o hb').elim (Nat.le_trans hI.keep.size) (fun h => absurd rfl h))) hs (hdk j) (hds j h hs) (hΓ' j)⟩
theorem TX.der {C : Cx} {ops : Array Oper} {tl : List Nat} {s : List It} {S : World → Prop} {fuel : Nat} {listed : Array Bool} {env : Env} {L : Locs} {R : Rows} {Γ : Facts} (m : Nat) (f : MF) (hk : f.k = .der) (h : ∀ G, AllK C.M G Γ → f.p G)
  (k : TX C ops tl s S fuel listed env L R ((m, f) :: Γ)) : TX C ops tl s S fuel listed env L R Γ := fun hS a w ⟨G, bs, hA, hI, hΓ⟩ => k hS a w ⟨G, bs, hA, hI, hΓ.der m f hk (h G hΓ)⟩
theorem TS.der {C : Cx} {ops : Array Oper} {tl : List Nat} {s : List It} {S : World → Prop} {fuel : Nat} {listed : Array Bool} {env : Env} {L : Locs} {R : Rows} {Γ : Facts} {x : Nat} (m : Nat) (f : MF) (hk : f.k = .der) (h : ∀ G, AllK C.M G Γ → f.p G)
  (k : TS C ops tl s S fuel listed env L R ((m, f) :: Γ) x) : TS C ops tl s S fuel listed env L R Γ x := fun hS a w ⟨G, bs, hA, hI, hΓ⟩ => k hS a w ⟨G, bs, hA, hI, hΓ.der m f hk (h G hΓ)⟩
end Go.Stp

namespace Go.Stp
def NN (x : Int) : Prop := 0 ≤ x ∧ x ≤ 9223372036854775807
theorem NN.i64 {x : Int} (h : NN x) : -9223372036854775808 ≤ x ∧ x ≤ 9223372036854775807 := ⟨by have := h.1; omega, h.2⟩
open GoT (X k ok sh fa oa)
def sgl (b : Nat) (o : Obj) : GH := fun x => if x = b then some o else none
theorem sgl_self (b : Nat) (o : Obj) : sgl b o b = some o := by simp [sgl]
theorem sgl_ne {b x : Nat} (o : Obj) (h : x ≠ b) : sgl b o x = none := by simp [sgl, h]
theorem sgl_le {b : Nat} {o : Obj} {G : GH} (h : G b = some o) : Le (sgl b o) G := fun x q hx => by
 by_cases hb : x = b
 ·subst hb; rw [sgl_self] at hx; cases hx; exact h
 ·rw [sgl_ne o hb] at hx; cases hx
theorem sgl_dj {b : Nat} {o : Obj} {G : GH} (h : G b = none) : Dj (sgl b o) G := fun x => by
 by_cases hb : x = b
 ·subst hb; exact .inr h
 ·exact .inl (sgl_ne o hb)
theorem cut_none' {G h : GH} {b : Nat} (hg : G b = none) : cut G h b = none := by
 unfold cut; cases h b <;> simp [hg]
theorem cut_some' {G h : GH} {b : Nat} {o : Obj} (hg : h b = some o) : cut G h b = none := by
 unfold cut; rw [hg]
theorem RowOk.less {M : Nat → Prop} {w : World} {G G' : GH} {b : Nat} {r : Row} (h : RowOk M w G b r) (hg : r.c ≠ 0 → G b = none → G' b = none) : RowOk M w G' b r := by
 refine ⟨h.1, ?_⟩
 rcases h.2 with h0 | ⟨o, h1, h2, h3, h4⟩
 ·exact .inl h0
 ·by_cases hc : r.c = 0
  ·exact .inl ⟨hc, by omega⟩
  ·exact .inr ⟨o, h1, h2, hg hc h3, h4⟩
def delL : Locs → Nat → Locs
 | [], _ => []
 | (j, l) :: r, i => (match Nat.beq j i with | true => delL r i | false => (j, l) :: delL r i)
theorem look_delL : ∀ (L : Locs) (i j : Nat), look (delL L i) j = if i = j then none else look L j
 | [], i, j => by simp [delL, look]
 | (m, l) :: r, i, j => by
  simp only [delL]
  split
  ·rename_i h
   have hm : m = i := Nat.eq_of_beq_eq_true h
   subst hm
   rw [look_delL r, look_cons]
   by_cases h2 : m = j <;> simp [h2]
  ·rename_i h
   have hm : m ≠ i := Nat.ne_of_beq_eq_false h
   rw [look_cons, look_cons, look_delL r]
   by_cases h2 : m = j
   ·subst h2; simp [Ne.symm hm]
   ·simp [h2]
abbrev lobj (l : Loc) : Obj := .cells l.cs.toArray l.T (0, 0)
theorem HInv.drop {C : Cx} {w : World} {G : GH} {bs : Nat → Nat} {L : Locs} {R : Rows} (hI : HInv C w G bs L R) {i : Nat} {l : Loc} (hl : look L i = some l) : HInv C w (join G (sgl (bs i) (lobj l))) bs (delL L i) R := by
 obtain ⟨h1, h2, h3⟩ := hI.loc i l hl
 have up : ∀ {j : Nat} {x : Loc}, look (delL L i) j = some x → i ≠ j ∧ look L j = some x := fun {j x} h => by
  rw [look_delL] at h
  by_cases hij : i = j
  ·simp [hij] at h
  ·simp [hij] at h; exact ⟨hij, h⟩
 have act : ∀ {j : Nat}, Acts (delL L i) R j → Acts L R j := fun h => by
  rcases h with ⟨x, hx⟩ | h
  ·exact .inl ⟨x, (up hx).2⟩
  ·exact .inr h
 have none : ∀ {j : Nat}, i ≠ j → Acts L R j → G (bs j) = none → join G (sgl (bs i) (lobj l)) (bs j) = none := fun {j} hij ha hg => by
  unfold join; rw [hg]
  exact sgl_ne _ (fun e => hI.inj i j hij (.inl ⟨l, hl⟩) ha e.symm)
 refine ⟨hI.keep, join_le hI.le (sgl_le h1), fun j x hx => ?_, fun j r hr => ?_, fun j m hjm ha hb => hI.inj j m hjm (act ha) (act hb), fun j x r hx hr => hI.dis j x r (up hx).2 hr, hI.pin, hI.nr⟩
 ·obtain ⟨hij, hx'⟩ := up hx
  obtain ⟨q1, q2, q3⟩ := hI.loc j x hx'
  exact ⟨q1, q2, none hij (.inl ⟨x, hx'⟩) q3⟩
 ·exact (hI.row j r hr).less fun hc hg => none (fun e => by subst e; exact hI.dis i l r hl hr) (.inr ⟨r, hr, hc⟩) hg
theorem HInv.take {C : Cx} {w : World} {G : GH} {bs : Nat → Nat} {L L' : Locs} {R : Rows} (hI : HInv C w G bs L R) {i : Nat} {l : Loc} (hL : ∀ j, look L' j = if i = j then some l else look L j) (hR : ∀ r, look R i ≠ some r) (hg : G (bs i) = some (lobj l)) (hM : C.M (bs i)) : HInv C w (cut G (sgl (bs i) (lobj l))) bs L' R := by
 have hcut : ∀ b, G b = none → cut G (sgl (bs i) (lobj l)) b = none := fun b h => cut_none' h
 have ne : ∀ {j : Nat}, G (bs j) = none → bs i ≠ bs j := fun h e => by rw [← e, hg] at h; cases h
 have gn : ∀ {j : Nat}, Acts L R j → G (bs j) = none := fun {j} ha => by
  rcases ha with ⟨x, hx⟩ | ⟨r, hr, hc⟩
  ·exact (hI.loc j x hx).2.2
  ·rcases (hI.row j r hr).2 with ⟨h0, _⟩ | ⟨_, _, _, h3, _⟩
   ·exact absurd h0 hc
   ·exact h3
 have act : ∀ {j : Nat}, i ≠ j → Acts L' R j → Acts L R j := fun {j} hij h => by
  rcases h with ⟨x, hx⟩ | h
  ·rw [hL, if_neg hij] at hx; exact .inl ⟨x, hx⟩
  ·exact .inr h
 refine ⟨hI.keep, (cut_le _ _).trans hI.le, fun j x hx => ?_, fun j r hr => (hI.row j r hr).less fun _ h => hcut _ h, fun j m hjm ha hb => ?_, fun j x r hx hr => ?_, hI.pin, hI.nr⟩
 ·rw [hL] at hx
  by_cases hij : i = j
  ·subst hij; simp at hx; subst hx
   exact ⟨hI.le _ _ hg, hM, cut_some' (sgl_self _ _)⟩
  ·simp [hij] at hx
   obtain ⟨q1, q2, q3⟩ := hI.loc j x hx
   exact ⟨q1, q2, hcut _ q3⟩
 ·by_cases hij : i = j
  ·subst hij
   exact ne (gn (act hjm hb))
  ·by_cases him : i = m
   ·subst him
    exact fun e => ne (gn (act hij ha)) e.symm
   ·exact hI.inj j m hjm (act hij ha) (act him hb)
 ·rw [hL] at hx
  by_cases hij : i = j
  ·subst hij; exact hR r hr
  ·simp [hij] at hx; exact hI.dis j x r hx hr
theorem WX.callP {C : Cx} {ops : Array Oper} {o : Oper} {r : List Oper} {s : List It} {env : Env} {L : Locs} {R : Rows} {Γ : Facts} {f : Operand} {args : List Operand} {ats : Array TypeId} {g : FuncId} {sf : SV} {svs : List SV} {caps : (Nat → Nat) → List Value} {T : Nat} {cs : List Value}
    {ι : Type} {val val' : ι → Value} {cs' : ι → List Value} {gs ds : ι → List MF} {Q : Prop} {d : Nat} {Γ' : ι → Facts} (lab n : Nat) (hl : look L lab = some ⟨T, cs⟩) (hds : ∀ i h, Sep h (gs i) → All h (ds i)) (hdk : ∀ i, ∀ f ∈ ds i, f.k = .der) (hg : gd ops env o = some true) (hd : o.dst = some d) (hlt : Nat.blt d C.fn.ntmps = true) (ho : o.op = .call { callee := .value f, args := args.toArray, argTypes := ats })
    (hf : ev env f = some sf) (hsf : ∀ bs, conc bs sf = .func (.func g) #[] (caps bs).toArray) (hargs : evs env args = some svs)
    (hc : ∀ w G bs H, HInv C w G bs L R → Le H (hp w) → Sep H [MF.bx (bs lab) T cs] → AllK C.M (cut (hp w) H) Γ → Does C.P g (svs.map (conc bs) ++ caps bs).toArray w H (Post w H val (fun i => MF.bx (bs lab) T (cs' i) :: gs i) Q))
    (hv : ∀ i, normV (val i) = some (val' i)) (hΓ' : ∀ i, addF n (ds i ++ gs i) Γ = some (Γ' i))
    (k : ∀ i, Q → WX C (.ops ops r :: s) ((d, .v (val' i)) :: env) (setL L lab (cs' i)) R (Γ' i)) : WX C (.ops ops (o :: r) :: s) env L R Γ := by
  rintro a w ⟨G, bs, hA, hI, hΓ⟩
  show wpList C.P ops (cont C s) (o :: r) a w
  unfold wpList
  rw [if_pos (gd_sound hA hg)]
  refine .inl ?_
  unfold Oper.wp
  obtain ⟨h1, h2, h3⟩ := hI.loc lab _ hl
  have hGH : Le G (cut (hp w) (sgl (bs lab) (lobj ⟨T, cs⟩))) := le_cut hI.le (sgl_dj h3).symm
  obtain ⟨he, hcalls⟩ := hc w G bs (sgl (bs lab) (lobj ⟨T, cs⟩)) hI (sgl_le h1) ⟨_, emp, Le.refl _, emp_le _, (emp_dj _).symm, sgl_self _ _, trivial⟩ (hΓ.mono hGH)
  rw [exec_call he ho (by rw [ev_conc hA hf, hsf]) (evs_sound hA args svs hargs)]
  simp only [Oper.upon]
  refine hcalls.mono fun e w' ⟨v, hve, hb, hψ⟩ => ?_
  subst hve
  obtain ⟨i, h, rfl, hq, hle, hdom, ha, hr, a1, a2, a3, a4, a5⟩ := hψ
  have a4' : ha (bs lab) = some (lobj ⟨T, cs' i⟩) := a4
  rw [hd, ← normV_eq (hv i)]
  obtain ⟨hI', hdj⟩ := (hI.drop hl).called (Hc := sgl (bs lab) (lobj ⟨T, cs⟩)) (le_join_r (sgl_dj h3).symm) (fun b q hx => by
    by_cases hbb : b = bs lab
    · subst hbb; exact h2
    · rw [sgl_ne _ hbb] at hx; cases hx) hb hle hdom
  have hG1 : Le G (cut (join G (sgl (bs lab) (lobj ⟨T, cs⟩))) (sgl (bs lab) (lobj ⟨T, cs⟩))) := le_cut (le_join_l _ _) (sgl_dj h3).symm
  have hlab : h (bs lab) = some (lobj ⟨T, cs' i⟩) := a1 _ _ a4'
  have hG2 : join (cut (join G (sgl (bs lab) (lobj ⟨T, cs⟩))) (sgl (bs lab) (lobj ⟨T, cs⟩))) h (bs lab) = some (lobj ⟨T, cs' i⟩) := le_join_r hdj.symm _ _ hlab
  have hI2 := hI'.take (i := lab) (l := ⟨T, cs' i⟩) (L' := setL L lab (cs' i)) (fun j => by
    rw [look_setL, look_delL]
    by_cases hij : lab = j
    · subst hij; simp [hl]
    · simp [hij]) (fun r hr' => hI.dis lab _ r hl hr') hG2 h2
  have hdr : Dj hr G := hdj.mono a2 hG1
  have hΓ2 := hΓ.after (h := hr) (n := n) (ds := ds i) hdr (fun b q hx => by
    rcases hdom b q (a2 b q hx) with h4 | h4
    · exact .inl (Nat.le_trans hI.keep.size h4)
    · by_cases hbb : b = bs lab
      · subst hbb; exact h2
      · exact absurd (sgl_ne _ hbb) h4) a5 (hdk i) (hds i hr a5) (hΓ' i)
  refine k i hq _ _ ⟨_, bs, hA.put (by simpa [Nat.blt_eq] using hlt) (.v _), hI2, hΓ2.mono (join_le ?_ ?_)⟩
  · exact le_cut (hG1.trans (le_join_l _ _)) (sgl_dj h3).symm
  · refine le_cut (a2.trans (le_join_r hdj.symm)) (sgl_dj ?_).symm
    cases hx : hr (bs lab) with
    | none => rfl
    | some q => rcases a3 (bs lab) with h5 | h5
                · rw [a4'] at h5; cases h5
                · rw [hx] at h5; cases h5
theorem Post.ofL {C : Cx} {w : World} {G : GH} {bs : Nat → Nat} {L : Locs} {R : Rows} {Γ Γ1 : Facts} {ι : Type} {val : ι → Value} {gs : ι → List MF} {Q : Prop} {v : Value} {fs : List MF} {T : Nat} {cs : List Value} (lab : Nat) (ks : List Nat) (i : ι) (hI : HInv C w G bs L R) (hΓ : AllK C.M G Γ) (hl : look L lab = some ⟨T, cs⟩) (hk : giveK ks Γ = some (fs, Γ1)) (hv : v = val i) (hf : gs i = MF.bx (bs lab) T cs :: fs) (hq : Q) : Post C.w0 C.H val gs Q v w := by
 obtain ⟨H, q1, q2, q3, q4⟩ := giveK_spec hk hΓ
 obtain ⟨h1, h2, h3⟩ := hI.loc lab _ hl
 have hd : Dj (sgl (bs lab) (lobj ⟨T, cs⟩)) H := (sgl_dj h3).mono (Le.refl _) q1
 refine ⟨i, join (sgl (bs lab) (lobj ⟨T, cs⟩)) H, hv, hq, join_le (sgl_le h1) (q1.trans hI.le), fun b o hx => ?_, ?_⟩
 ·by_cases hbb : b = bs lab
  ·subst hbb; exact h2
  ·unfold join at hx; rw [sgl_ne _ hbb] at hx; exact q2 b o hx
 ·rw [hf]
  exact ⟨_, H, le_join_l _ _, le_join_r hd, hd, sgl_self _ _, q3⟩
theorem WX.adopt {C : Cx} {s : List It} {env : Env} {L : Locs} {R : Rows} {Γ Γ1 : Facts} {b T : Nat} {cs : List Value} (d n : Nat) (hsl : look env d = some (.v (.pointer (some ⟨b, 0, none⟩)))) (hn : labHas d env L R = false) (hks : giveK [n] Γ = some ([MF.bx b T cs], Γ1))
  (k : WX C s ((d, .p d 0) :: env) ((d, ⟨T, cs⟩) :: L) R Γ1) : WX C s env L R Γ := by
 rintro a w ⟨G, bs, hA, hI, hΓ⟩
 obtain ⟨H, q1, q2, q3, q4⟩ := giveK_spec hks hΓ
 obtain ⟨h1, _, a1, _, _, a4, _⟩ := q3
 have a4' : h1 b = some (lobj ⟨T, cs⟩) := a4
 have hHb := a1 _ _ a4'
 have hGb := q1 _ _ hHb
 obtain ⟨n1, n2, n3, n4⟩ := labHas_not hn
 have hnL : ∀ {i : Nat} {x : Loc}, look L i = some x → i ≠ d := fun h => keyHas_not n2 h
 have hnR : ∀ {i : Nat} {x : Row}, look R i = some x → i ≠ d := fun h => keyHas_not n3 h
 have act : ∀ {i : Nat}, i ≠ d → Acts ((d, (⟨T, cs⟩ : Loc)) :: L) R i → Acts L R i := fun {i} hne h => by
  rcases h with ⟨x, hx⟩ | h
  ·rw [look_cons, if_neg (Ne.symm hne)] at hx; exact .inl ⟨x, hx⟩
  ·exact .inr h
 have gn : ∀ {j : Nat}, Acts L R j → G (bs j) = none := fun {j} ha => by
  rcases ha with ⟨x, hx⟩ | ⟨r, hr, hc⟩
  ·exact (hI.loc j x hx).2.2
  ·rcases (hI.row j r hr).2 with ⟨h0, _⟩ | ⟨_, _, _, h3, _⟩
   ·exact absurd h0 hc
   ·exact h3
 have ne : ∀ {j : Nat}, Acts L R j → b ≠ bs j := fun ha e => by have := gn ha; rw [← e, hGb] at this; cases this
 refine k a w ⟨cut G H, fun j => if j = d then b else bs j, ?_, ⟨hI.keep, (cut_le _ _).trans hI.le, fun i l hl => ?_, fun i r hr => ?_, fun i j hij hi hj => ?_, fun i l r hl hr => ?_, fun b' hb' => by simp only [if_neg (Ne.symm n4)]; exact hI.pin b' hb', hI.nr⟩, q4⟩
 ·have hA' := hA.notH (d := d) (bs' := fun j => if j = d then b else bs j) n1 (fun i hi => if_neg hi)
  refine ⟨hA'.size, hA'.dfr, fun e x hx => ?_⟩
  rw [look_cons] at hx
  split at hx
  ·rename_i he; subst he
   simp at hx; subst hx
   have := hA.slot d _ hsl
   rw [this]; simp [conc]
  ·exact hA'.slot e x hx
 ·rw [look_cons] at hl
  split at hl
  ·rename_i he; subst he
   simp at hl; subst hl
   simp only [if_true]
   exact ⟨hI.le _ _ hGb, q2 _ _ hHb, cut_some' hHb⟩
  ·rename_i he
   obtain ⟨p1, p2, p3⟩ := hI.loc i l hl
   simp only [if_neg (Ne.symm he)]
   exact ⟨p1, p2, cut_none' p3⟩
 ·simp only [if_neg (hnR hr)]
  exact (hI.row i r hr).less fun _ h => cut_none' h
 ·by_cases hid : i = d
  ·subst hid
   simp only [if_true, if_neg (Ne.symm hij)]
   exact ne (act (Ne.symm hij) hj)
  ·by_cases hjd : j = d
   ·subst hjd
    simp only [if_true, if_neg hid]
    exact fun e => ne (act hid hi) e.symm
   ·simp only [if_neg hid, if_neg hjd]
    exact hI.inj i j hij (act hid hi) (act hjd hj)
 ·rw [look_cons, if_neg (Ne.symm (hnR hr))] at hl
  exact hI.dis i l r hl hr
def resQ (env : Env) : List ResultVar → Option (List SV)
 | [] => some []
 | .tmp t :: r => (match look env t with
  | some sv => (match resQ env r with | some q => some (sv :: q) | none => none)
  | none => none)
 | .cell _ _ :: _ => none
theorem resQ_sound {C : Cx} {env : Env} {bs : Nat → Nat} {a : Act} {w : World} (hA : At C.fn.ntmps env bs a) :
  ∀ (rs : List ResultVar) (ss : List SV), resQ env rs = some ss →
   (rs.mapM (m := Sem) fun | .tmp t => pure (a.tmps.getD t undef) | .cell x t => do loadVar t (← asAddr (a.tmps.getD x undef))).run C.P w = .ok (ss.map (conc bs)) w
 | [], ss, h => by simp [resQ] at h; subst h; simp
 | .tmp t :: r, ss, h => by
  simp only [resQ] at h
  split at h
  ·rename_i sv hsv
   split at h
   ·rename_i q hq
    simp only [Option.some.injEq] at h; subst h
    have ih := resQ_sound (w := w) hA r q hq
    have hs := hA.slot t _ hsv
    simp only [List.mapM_cons, Sem.run_bind, Sem.run_pure, Result.andThen_ok, ih, hs, List.map_cons]
   ·cases h
  ·cases h
 | .cell _ _ :: _, ss, h => by simp [resQ] at h
theorem WX.retQ {C : Cx} {s : List It} {env : Env} {L : Locs} {R : Rows} {Γ : Facts} {ss : List SV} (hv : resQ env C.fn.results.toList = some ss)
  (k : ∀ w G bs, HInv C w G bs L R → AllK C.M G Γ → C.Φ (tup (ss.map (conc bs))) w) : WX C (.code .ret :: s) env L R Γ := by
 rintro a w ⟨G, bs, hA, hI, hΓ⟩
 show Code.ret.wp C.P (cont C s) a w
 refine wp_ret ?_
 have key : ∀ s : List It, bodyPost C.P C.fn (Ret C.w0 C.H C.Φ) .ret a w → cont C s .ret a w := by
  intro s h
  induction s with
  | nil => exact h
  | cons x s ih => cases x <;> exact ih
 exact key s ⟨hA.dfr, tup (ss.map (conc bs)), results_run (resQ_sound hA _ _ hv), tup (ss.map (conc bs)), rfl, hI.keep, k w G bs hI hΓ⟩
end Go.Stp

namespace Go.Stp
open GoT (X k ok sh fa oa)
theorem RdL.bytes (G : GH) : ∀ (l : List UInt8), RdL G (l.map fun b => Value.int .u8 b.toNat) l
 | [] => rfl
 | _ :: l => ⟨(), _, rfl, All.nil, RdL.bytes G l⟩
theorem toB_run {P : Program} {tt : TT} (ht : TabOk P tt) {S D E : Nat} {ts td te : TI} (hS : look tt S = some ts) (hSd : ts.desc = .string) (hD : look tt D = some td) (hDd : td.desc = .slice E) (hE : look tt E = some te) (hEd : te.desc = .int .u8) (w : World) (s : ByteArray) (hmax : s.size ≤ 9223372036854775807) :
  ∃ c w' h, (convert S D (.string s)).run P w = .ok (.slice (some ⟨w.heap.size, 0, none⟩) s.size c) w' ∧ Kp emp w w' ∧ Le h (hp w') ∧ (∀ x o, h x = some o → w.heap.size ≤ x) ∧ RdSl h (some ⟨w.heap.size, 0, none⟩) c s.data.toList := by
 have hu1 : P.underlying S = some .string := by rw [← hSd]; exact (ht.get hS).1
 have hu2 : P.underlying D = some (.slice E) := by rw [← hDd]; exact (ht.get hD).1
 have hu3 : P.underlying E = some (.int .u8) := by rw [← hEd]; exact (ht.get hE).1
 have hrun := run_bytes_of_string (P := P) w S D E s hu1 hu2 hu3
 generalize hc : grownCap w s.size 0 E = c at hrun
 have hge : s.size ≤ c := hc ▸ grownCap_ge w s.size 0 E
 generalize hob : Obj.cells (bytesRow s c) E ((bytesRow s c).size, (bytesRow s c).size + 1) = ob at hrun
 have hk : Kp emp w (w.drew.alloc ob) := by
  have h1 : Kp emp w w.drew := ⟨rfl, rfl, rfl, Nat.le_refl _, fun _ _ _ => rfl⟩
  exact h1.trans ((Kp.refl emp w.drew).alloc _)
 have hat : hp (w.drew.alloc ob) w.heap.size = some ob := by
  show (w.heap.push ob)[w.heap.size]? = some ob
  simp
 refine ⟨c, w.drew.alloc ob, sgl w.heap.size ob, hrun, hk, sgl_le hat, fun x o hx => ?_, hge, hmax, s.data.toList.map (fun b => Value.int .u8 b.toNat), fun j u hj => ⟨_, rfl, ?_⟩, RdL.bytes _ _⟩
 ·by_cases hxx : x = w.heap.size
  ·omega
  ·rw [sgl_ne _ hxx] at hx; cases hx
 ·have hlt : j < s.data.size := by
   have := (List.getElem?_eq_some_iff.1 hj).1
   simpa using this
  subst hob
  rw [Addr.add_lit]
  simp only [gcell, sgl_self, bytesRow]
  rw [List.getElem?_map] at hj
  simp only [Nat.zero_add, Option.isSome_none, Bool.false_eq_true, if_false]
  rw [Array.getElem?_append_left (by simpa using hlt), Array.getElem?_map]
  simpa using hj
theorem WX.toB {C : Cx} {ops : Array Oper} {o : Oper} {r : List Oper} {st : List It} {env : Env} {L : Locs} {R : Rows} {Γ : Facts} {x : Operand} {S D E d : Nat} {ts td te : TI} {s : ByteArray} (n : Nat) (ht : TabOk C.P C.tt) (hg : gd ops env o = some true) (hd : o.dst = some d) (hlt : Nat.blt d C.fn.ntmps = true) (ho : o.op = .convert S D x)
  (hS : look C.tt S = some ts) (hSd : ts.desc = .string) (hD : look C.tt D = some td) (hDd : td.desc = .slice E) (hE : look C.tt E = some te) (hEd : te.desc = .int .u8) (hx : ev env x = some (.v (.string s))) (hmax : s.size ≤ 9223372036854775807)
  (k : ∀ p c, WX C (.ops ops r :: st) ((d, .v (.slice (some p) (s.data.toList).length c)) :: env) L R ((n, MF.rs .stb (some p) c s.data.toList) :: Γ)) : WX C (.ops ops (o :: r) :: st) env L R Γ := by
 rintro a w ⟨G, bs, hA, hI, hΓ⟩
 show wpList C.P ops (cont C st) (o :: r) a w
 unfold wpList
 rw [if_pos (gd_sound hA hg)]
 refine .inl ?_
 unfold Oper.wp
 obtain ⟨c, w', h, hrun, hk, hle, hdom, hrd⟩ := toB_run ht hS hSd hD hDd hE hEd w s hmax
 have hexec : (execOp a.eval o).run C.P w = .ok (.value (.slice (some ⟨w.heap.size, 0, none⟩) s.size c)) w' := by
  unfold execOp
  simp only [ho, ev_conc hA hx, conc_v, Sem.run_bind, Sem.run_pure, Result.andThen_ok, hrun]
 rw [hexec]
 simp only [Oper.upon, hd]
 obtain ⟨hI', hdj⟩ := hI.called (emp_le _) (fun _ _ h => by cases h) hk hle (fun b o hb => .inl (hdom b o hb))
 refine k _ c _ _ ⟨_, bs, hA.put (by simpa [Nat.blt_eq] using hlt) (.v _), hI', ?_⟩
 exact AllK.new (G := cut G emp) hΓ n (MF.rs .stb _ c s.data.toList) (le_join_l _ _) (le_join_r hdj.symm) (fun _ => hdj) (fun hk => by cases hk) hrd
theorem u8_ofInt (p : UInt8) : BitVec.ofInt 8 (p.toNat : Int) = p.toBitVec := by
 apply BitVec.eq_of_toNat_eq
 have := UInt8.toNat_lt p
 simp only [BitVec.toNat_ofInt]
 show ((p.toNat : Int) % ((2 ^ 8 : Nat) : Int)).toNat = p.toBitVec.toNat
 have : p.toBitVec.toNat = p.toNat := rfl
 omega
theorem looks_orU8 {C : Cx} {env : Env} {L : Locs} {R : Rows} {G : GH} {o : Oper} {x y : Operand} {T T' : Nat} {m n : Int} {p q : UInt8} (ho : o.op = .binOp .or T x y T') (hx : ev env x = some (.v (.int .u8 m))) (hy : ev env y = some (.v (.int .u8 n))) (hm : m = (p.toNat : Int)) (hn : n = (q.toNat : Int)) : Looks C env L R G o (.v (.int .u8 ((p ||| q).toNat : Int))) := by
 intro a w G' bs _ hA hI
 subst hm hn
 have h2 : ∀ z : Nat, z < 256 → IntKind.u8.wrap (z : Int) = (z : Int) := fun z hz => by
  simp [IntKind.wrap, IntKind.bits, IntKind.signed]
  omega
 have h1 : IntKind.u8.wrap ((BitVec.ofInt 8 (p.toNat : Int) ||| BitVec.ofInt 8 (q.toNat : Int)).toNat : Int) = ((p ||| q).toNat : Int) := by
  rw [u8_ofInt, u8_ofInt]
  exact h2 (p ||| q).toNat (UInt8.toNat_lt _)
 unfold execOp
 simp only [ho, ev_conc hA hx, ev_conc hA hy, conc]
 simp only [eqGuard, binOp, Op.intBits, IntKind.bits]
 simp
 rw [← UInt8.toNat_or]
 exact h2 (p ||| q).toNat (UInt8.toNat_lt _)
end Go.Stp

namespace Go.Stp
theorem looks_strB {C : Cx} {env : Env} {L : Locs} {R : Rows} {G : GH} {o : Oper} {x y z : Operand} {T : Nat} {ti : TI} {s : Str} {l h : Int} (m m2 : Nat) (ht : TabOk C.P C.tt) (ho : o.op = .slice T x (some y) (some z) none) (hT : look C.tt T = some ti) (hk : ti.desc = .string)
  (hx : ev env x = some (.v (.string s))) (hy : ev env y = some (.v (.int .i64 l))) (hz : ev env z = some (.v (.int .i64 h))) (h0 : l = (m : Int)) (h1 : h = (m2 : Int)) (h2 : m ≤ m2) (h3 : m2 ≤ s.size) : Looks C env L R G o (.v (.string (s.extract m m2))) := by
 intro a w G' bs _ hA hI
 subst h0 h1
 have hu : C.P.underlying T = some .string := by rw [← hk]; exact (ht.get hT).1
 unfold execOp
 simp only [ho, Option.map, ev_conc hA hx, ev_conc hA hy, ev_conc hA hz, conc, Sem.run_bind, run_sliceAt_string w T _ _ _ _ hu]
 simp [Instr.slice, Instr.sliceBounds, run_underlying hu, run_sliceBound, Sem.run_bind, h2, h3]
section
open GoT (k X sh oa)
variable {α : Type} [GoT α]
theorem OwL.take {h : GH} : ∀ {xs : List Value} {l : List α} (i : Nat), OwL h xs l → OwL h (xs.take (i * k α)) (l.take i)
 | xs, [], i, e => by
  have : xs = [] := e
  subst this
  simp only [List.take_nil]; rfl
 | xs, a :: l, 0, _ => by simp only [Nat.zero_mul, List.take_zero]; rfl
 | xs, a :: l, i + 1, ⟨x, ys, h1, h2, e, q1, q2, q3, q4, q5⟩ => by
  refine ⟨x, ys.take (i * k α), h1, h2, ?_, q1, q2, q3, q4, q5.take i⟩
  rw [e, Nat.add_mul, Nat.one_mul, List.take_append, GoT.len, List.take_of_length_le (by rw [GoT.len]; omega), Nat.add_sub_cancel]
theorem OwL.drop {h : GH} : ∀ {xs : List Value} {l : List α} (i : Nat), OwL h xs l → OwL h (xs.drop (i * k α)) (l.drop i)
 | xs, [], i, e => by
  have : xs = [] := e
  subst this
  simp only [List.drop_nil]; rfl
 | xs, a :: l, 0, e => by simpa using e
 | xs, a :: l, i + 1, ⟨x, ys, h1, h2, e, q1, q2, q3, q4, q5⟩ => by
  have := (q5.drop i).mono q2
  rw [e, Nat.add_mul, Nat.one_mul, List.drop_append, GoT.len, List.drop_eq_nil_of_le (by rw [GoT.len]; omega), Nat.add_sub_cancel, List.nil_append]
  simpa using this
theorem os_suf {p : Option Addr} {c : Nat} {l : List α} {h : GH} (m : Nat) (hm : m ≤ l.length) (hs : Sep h [MF.os p c l]) : Sep h [MF.os (offP p c m (k α)) (c - m) (l.drop m)] := by
 refine one_sep (?_ : OwSl h _ _ (l.drop m))
 rcases (sep_one hs : OwSl h p c l) with ⟨h1, h2⟩ | ⟨b, o, T, cur, h', k1, k2, k3, k4, k5, k6, k7, k8⟩
 ·exact .inl ⟨by omega, by rw [h2, List.drop_nil]⟩
 ·by_cases hc : c = m
  ·exact .inl ⟨by omega, List.drop_eq_nil_of_le (by omega)⟩
  ·subst k1
   have h0 : m * k α + (c - m) * k α = c * k α := by rw [← Nat.add_mul]; congr 1; omega
   refine .inr ⟨b, o + m * k α, T, cur, h', by unfold offP; rw [if_neg hc]; show some (Addr.add ⟨b, o, none⟩ (m * k α)) = _; rw [Addr.add_lit], k2, k3, k4, by rw [List.length_drop]; omega, by omega, by omega, ?_⟩
   have := k8.drop m
   rw [List.drop_take, List.drop_drop] at this
   rw [List.length_drop, Nat.sub_mul]
   exact this
end
def pickE (env : Env) : List Nat → Option Env
 | [] => some []
 | d :: ds => (match look env d with
  | some x => (match pickE env ds with | some q => some ((d, x) :: q) | none => none)
  | none => none)
theorem pickE_look {env : Env} : ∀ {ds : List Nat} {env' : Env}, pickE env ds = some env' → ∀ d x, look env' d = some x → look env d = some x
 | [], env', h, d, x, hx => by simp [pickE] at h; subst h; simp [look] at hx
 | e :: ds, env', h, d, x, hx => by
  simp only [pickE] at h
  split at h
  ·rename_i y hy
   split at h
   ·rename_i q hq
    simp only [Option.some.injEq] at h; subst h
    rw [look_cons] at hx
    split at hx
    ·rename_i hed; subst hed; rw [← hx]; exact hy
    ·exact pickE_look hq d x hx
   ·cases h
  ·cases h
theorem WX.trim {C : Cx} {s : List It} {env env' : Env} {L : Locs} {R : Rows} {Γ Γ' : Facts} (ds ks : List Nat) (he : pickE env ds = some env') (hk : pickK ks Γ = some Γ') (k : WX C s env' L R Γ') : WX C s env L R Γ := by
 rintro a w ⟨G, bs, hA, hI, hΓ⟩
 exact k a w ⟨G, bs, ⟨hA.size, hA.dfr, fun d x hx => hA.slot d x (pickE_look he d x hx)⟩, hI, hΓ.pick hk⟩
theorem WX.meet {C : Cx} {c : Code} {s : List It} {env : Env} {L : Locs} {R : Rows} {Γ : Facts} {ι : Type} (H : Head ι) (k1 : WX C (.code c :: .iter (H.I C 1) :: s) env L R Γ)
  (k2 : ∀ i, H.pre i → WX C s (H.env i) (H.L i) (H.R i) (H.Γ i)) : WX C (.code c :: s) env L R Γ := by
 intro a w hS
 show c.wp C.P (cont C s) a w
 intro b kk cs
 have hw : c.wp C.P (cont C (.iter (H.I C 1) :: s)) a w := k1 a w hS
 obtain ⟨e, a', w', hq, harr⟩ := hw b kk cs
 refine ⟨e, a', w', ?_, harr⟩
 cases e with
 | normal =>
  obtain ⟨i, hp, _, hs⟩ := (hq : H.I C 1 a' w')
  exact k2 i hp a' w' hs
 | exit id => exact hq
 | goto l => exact hq
 | ret => exact hq
 | panic ch => exact hq
 | outgrown => exact hq
theorem TX.share {C : Cx} {ops : Array Oper} {tl : List Nat} {s : List It} {S : World → Prop} {fuel : Nat} {listed : Array Bool} {env : Env} {L : Locs} {R : Rows} {Γ : Facts} {ι : Type} (H : Head ι) (fuel' : Nat) (listed' : Array Bool)
  (k1 : ∀ i, H.pre i → TX C ops tl s S fuel' listed' (H.env i) (H.L i) (H.R i) (H.Γ i)) (k2 : (∀ i, H.pre i → TX C ops tl s S fuel' listed' (H.env i) (H.L i) (H.R i) (H.Γ i)) → TX C ops tl s S fuel listed env L R Γ) : TX C ops tl s S fuel listed env L R Γ := k2 k1
theorem TX.use {C : Cx} {ops : Array Oper} {tl : List Nat} {s : List It} {S : World → Prop} {fuel : Nat} {listed listed' : Array Bool} {env : Env} {L : Locs} {R : Rows} {Γ : Facts} {ι : Type} {H : Head ι} (hN : ∀ i, H.pre i → TX C ops tl s S fuel listed' (H.env i) (H.L i) (H.R i) (H.Γ i)) (i : ι) (hi : H.pre i) (hl : listed' = listed)
  (he : Sub (H.env i) env) (hL : Sub (H.L i) L) (hR : Sub (H.R i) R) (ks : List Nat) (hΓ : pickK ks Γ = some (H.Γ i)) : TX C ops tl s S fuel listed env L R Γ := by
 subst hl
 exact fun hS a w h => hN i hi hS a w (h.sub he hL hR hΓ)
theorem WX.narrow {C : Cx} {s : List It} {env : Env} {L : Locs} {R R' : Rows} {Γ : Facts} {row : Row} (ρ n' : Nat) (hρ : look R ρ = some row) (hn : n' ≤ row.n) (hR : setRO R ρ ⟨row.k, row.p, n', row.c, row.xs.take (n' * row.k)⟩ = some R')
  (k : WX C s env L R' Γ) : WX C s env L R Γ := by
 rintro a w ⟨G, bs, hA, hI, hΓ⟩
 refine k a w ⟨G, bs, hA, ?_, hΓ⟩
 rw [setRO_eq hR]
 have hrow := hI.row ρ row hρ
 have triv : row.n = 0 → HInv C w G bs L (setR R ρ ⟨row.k, row.p, n', row.c, row.xs.take (n' * row.k)⟩) := fun h1 => by
  have h2 : n' = 0 := by omega
  have : (⟨row.k, row.p, n', row.c, row.xs.take (n' * row.k)⟩ : Row) = row := by
   have hx : row.xs = [] := List.eq_nil_of_length_eq_zero (by rw [hrow.1, h1]; simp)
   rw [h2, hx]
   cases row
   simp only at h1 hx ⊢
   subst h1
   subst hx
   simp
  rw [this]
  exact hI.respell (look_setR_same hρ)
 rcases hrow.2 with ⟨h0, hn0⟩ | ⟨o1, hp, _, _, hnc, _, cur, T, hh, hcs, htk⟩
 ·exact triv hn0
 ·by_cases hc0 : row.c = 0
  ·exact triv (by omega)
  ·have hn1 : n' * row.k ≤ row.n * row.k := Nat.mul_le_mul_right _ hn
   have hn2 : row.n * row.k ≤ row.c * row.k := Nat.mul_le_mul_right _ hnc
   have hl : ((cur.toList.drop o1).take (n' * row.k)).length = n' * row.k := by simp; omega
   have hx : row.xs.take (n' * row.k) = (cur.toList.drop o1).take (n' * row.k) := by rw [← htk, List.take_take, Nat.min_eq_left hn1]
   rw [hx]
   have := hI.wr hρ hp hc0 hh hcs rfl (Nat.le_trans hn hnc) hl rfl
   rwa [setRow_self w (bs ρ) cur T (0, 0) hh] at this
end Go.Stp

namespace Go.Stp
def readyAt (ops : Array Oper) (listed : Array Bool) (i : Nat) : Bool :=
 !listed.getD i true && (match ops[i]? with | some o => o.after.all (fun e => !Region.binds .any e || listed.getD e.on false) | none => false)
theorem readyAt_mem {ops : Array Oper} {listed : Array Bool} {i : Nat} (h : readyAt ops listed i = true) : (Region.ready .any ops listed).contains i = true := by
 unfold readyAt at h
 rw [List.contains_iff_mem]
 unfold Region.ready
 rw [List.mem_filter, List.mem_range]
 cases ho : ops[i]? with
 | none => simp [ho] at h
 | some o =>
  refine ⟨(Array.getElem?_eq_some_iff.1 ho).1, ?_⟩
  simpa [ho] using h
def onB (o : Oper) (i : Nat) : Bool := o.after.any (fun e => Region.binds .any e && e.on == i)
def freeRow (ops : Array Oper) (i : Nat) (oi : Oper) : Nat → List Oper → Bool
 | _, [] => true
 | j, oj :: r => (j == i || onB oj i || onB oi j || oi.apart ops oj) && freeRow ops i oi (j + 1) r
def freeTab (ops : Array Oper) : Nat → List Oper → Bool
 | _, [] => true
 | i, oi :: r => freeRow ops i oi 0 ops.toList && freeTab ops (i + 1) r
def freeAll (ops : Array Oper) : Bool := Region.noSelect ops && freeTab ops 0 ops.toList
theorem freeRow_get {ops : Array Oper} {i : Nat} {oi : Oper} : ∀ {l : List Oper} {j k : Nat} {oj : Oper}, freeRow ops i oi j l = true → l[k]? = some oj → (j + k == i || onB oj i || onB oi (j + k) || oi.apart ops oj) = true
 | [], _, _, _, _, h => by simp at h
 | o :: r, j, k, oj, h, hk => by
  simp only [freeRow, Bool.and_eq_true] at h
  cases k with
  | zero => simp at hk; subst hk; simpa using h.1
  | succ k =>
   have := freeRow_get h.2 (show r[k]? = some oj by simpa using hk)
   rwa [Nat.add_assoc, Nat.add_comm 1 k] at this
theorem freeTab_get {ops : Array Oper} : ∀ {l : List Oper} {i k : Nat} {o : Oper}, freeTab ops i l = true → l[k]? = some o → freeRow ops (i + k) o 0 ops.toList = true
 | [], _, _, _, _, h => by simp at h
 | o :: r, i, k, oj, h, hk => by
  simp only [freeTab, Bool.and_eq_true] at h
  cases k with
  | zero => simp at hk; subst hk; simpa using h.1
  | succ k =>
   have := freeTab_get h.2 (show r[k]? = some oj by simpa using hk)
   rwa [Nat.add_assoc, Nat.add_comm 1 k] at this
theorem freeAll_free {ops : Array Oper} {listed : Array Bool} {i : Nat} (h : freeAll ops = true) (hr : readyAt ops listed i = true) : Region.free .any ops listed i = true := by
 simp only [freeAll, Bool.and_eq_true] at h
 simp only [readyAt, Bool.and_eq_true] at hr
 unfold Region.free
 cases ho : ops[i]? with
 | none => simp [ho] at hr
 | some oi =>
  simp only [ho] at hr
  rw [List.all_eq_true]
  intro j hj
  have hj' : j < ops.size := by simpa using hj
  have hoj : ops[j]? = some ops[j] := by simp [hj']
  have h1 := freeRow_get (freeTab_get h.2 (show ops.toList[i]? = some oi by simpa using ho)) (show ops.toList[j]? = some ops[j] by simp [hj'])
  simp only [Nat.zero_add] at h1
  simp only [hoj]
  cases hji : (j == i) with
  | true => simp
  | false =>
   simp only [hji, Bool.false_or]
   cases hl : listed.getD j true with
   | true => simp
   | false =>
    simp only [Bool.false_or]
    simp only [hji, Bool.false_or, Bool.or_eq_true] at h1
    rcases h1 with (h1 | h1) | h1
    ·simp only [onB] at h1; simp [h1]
    ·exfalso
     obtain ⟨e, he, hb⟩ := Array.any_eq_true'.1 h1
     simp only [Bool.and_eq_true, beq_iff_eq] at hb
     have h2 := Array.all_eq_true_iff_forall_mem.1 hr.2 e he
     simp only [hb.1, Bool.not_true, Bool.false_or, hb.2] at h2
     rw [Array.getD_eq_getD_getElem?] at hl h2
     cases hx : listed[j]? with
     | none => simp [hx] at h2
     | some b => simp [hx] at h2 hl; rw [h2] at hl; cases hl
    ·simp [h1]
def takesR (ops : Array Oper) (tl : List Nat) : Array Bool → List (Nat × Bool) → Bool
 | _, [] => true
 | listed, (i, p) :: r => (readyAt ops listed i && (match p with | true => true | false => !tl.contains i && tl.all (fun j => listed.getD j true || waits ops j i))) && takesR ops tl (listed.setIfInBounds i true) r
theorem freeAll_mayP {ops : Array Oper} {listed : Array Bool} {i : Nat} (h : freeAll ops = true) (hr : readyAt ops listed i = true) : mayP ops listed i = true := by
 have h1 := freeAll_free h hr
 simp only [freeAll, Bool.and_eq_true] at h
 simp only [mayP, h.1, h1, readyAt_mem hr, Bool.and_self]
theorem takesB_of {ops : Array Oper} {tl : List Nat} (hs : freeAll ops = true) : ∀ {is : List (Nat × Bool)} {listed : Array Bool}, takesR ops tl listed is = true → takesB ops tl listed is = true
 | [], _, _ => rfl
 | (i, p) :: r, listed, h => by
  simp only [takesR, Bool.and_eq_true] at h
  obtain ⟨⟨h2, h3⟩, h4⟩ := h
  simp only [takesB, Bool.and_eq_true]
  refine ⟨?_, takesB_of hs h4⟩
  cases p with
  | true => exact freeAll_mayP hs h2
  | false =>
   simp only [Bool.and_eq_true] at h3
   simp only [mayB, freeAll_mayP hs h2, h3.1, h3.2, Bool.and_self]
def mayR (ops : Array Oper) (tl : List Nat) (listed : Array Bool) (i : Nat) : Bool := readyAt ops listed i && (!tl.contains i && tl.all (fun j => listed.getD j true || waits ops j i))
theorem mayB_of {ops : Array Oper} {tl : List Nat} {listed : Array Bool} {i : Nat} (hs : freeAll ops = true) (h : mayR ops tl listed i = true) : mayB ops tl listed i = true := by
 simp only [mayR, Bool.and_eq_true] at h
 simp only [mayB, freeAll_mayP hs h.1, h.2.1, h.2.2, Bool.and_self]
theorem DX.tab {C : Cx} {ops : Array Oper} {tl : List Nat} {s : List It} {bs : Nat → Nat} {G0 : GH} {fuel : Nat} {listed : Array Bool} {env : Env} {L : Locs} {R : Rows} {Γ : Facts} (h : freeAll ops = true)
  (k : freeAll ops = true → DX C ops tl s bs G0 fuel listed env L R Γ) : DX C ops tl s bs G0 fuel listed env L R Γ := k h
section
open GoT (X k ok sh fa oa)
theorem der_last {α β : Type} [GoT α] [GoT β] {G : GH} {xs : List Value} {l : List α} {a : α} {b : List β} {p : Option Addr} {c : Nat} (hk : k α = 1)
  (hsh : ∀ x : X α, ∃ q : Option Addr × Nat, sh a x = [.slice q.1 b.length q.2] ∧ fa .der a x = [MF.rs .der q.1 q.2 b])
  (h : RdL G (xs ++ [.slice p b.length c]) (l ++ [a])) : RdSl G p c b := by
 have hl := h.len
 rw [List.length_append, List.length_append, hk] at hl
 simp only [List.length_cons, List.length_nil] at hl
 obtain ⟨x, h1, h2⟩ := h.get (i := l.length) (a := a) (by simp)
 obtain ⟨q, e1, e2⟩ := hsh x
 rw [e1] at h2
 rw [e2] at h1
 have h3 := h2 0 _ rfl
 have e3 : l.length * k α + 0 = xs.length := by rw [hk]; omega
 rw [e3, List.getElem?_append_right (Nat.le_refl _)] at h3
 simp only [Nat.sub_self, List.getElem?_cons_zero, Option.some.injEq] at h3
 injection h3 with h4 h5 h6
 have h7 : RdSl G q.1 q.2 b := h1 _ (List.mem_singleton.2 rfl)
 rw [← h4, ← h6] at h7
 exact h7
end
end Go.Stp

namespace Go.Stp
open GoT (X k ok sh fa oa)
def SY (C : Cx) (bs : Nat → Nat) (G0 : GH) (L0 : Locs) (R : Rows) : World → Prop := fun w => ∃ G, Le G0 G ∧ G (bs 999) = none ∧ HInv C w G bs L0 R
structure YOk (C : Cx) (bs : Nat → Nat) (L0 L : Locs) (R : Rows) : Prop where
 act : ∀ j, Acts L0 R j → bs j ≠ bs 999
 sub : ∀ j x, look L0 j = some x → look L j = some x
 lab : ∃ l, look L 999 = some l
theorem HInv.more {C : Cx} {w : World} {G : GH} {bs : Nat → Nat} {L : Locs} {R : Rows} (hI : HInv C w G bs L R) {b : Nat} {o : Obj} (hh : w.heap[b]? = some o) (ha : ∀ j, Acts L R j → bs j ≠ b) : HInv C w (join G (sgl b o)) bs L R := by
 have none : ∀ {j : Nat}, Acts L R j → G (bs j) = none → join G (sgl b o) (bs j) = none := fun {j} h hg => by
  unfold join; rw [hg]; exact sgl_ne _ (ha j h)
 refine ⟨hI.keep, join_le hI.le (sgl_le hh), fun j x hx => ?_, fun j r hr => ?_, hI.inj, hI.dis, hI.pin, hI.nr⟩
 ·obtain ⟨q1, q2, q3⟩ := hI.loc j x hx
  exact ⟨q1, q2, none (.inl ⟨x, hx⟩) q3⟩
 ·exact (hI.row j r hr).less fun hc hg => none (.inr ⟨r, hr, hc⟩) hg
theorem SY.keep {C : Cx} {bs : Nat → Nat} {G0 : GH} {L0 : Locs} {R : Rows} {w w' : World} (hb : Kp emp w w') (h : SY C bs G0 L0 R w) : SY C bs G0 L0 R w' := by
 obtain ⟨G, hle, hn, hI⟩ := h
 refine ⟨join (cut G emp) emp, hle.trans (le_join_l (cut G emp) emp), ?_, (hI.called (emp_le _) (fun _ _ h => by cases h) hb (emp_le _) (fun _ _ h => by cases h)).1⟩
 unfold join
 rw [cut_none' hn]
 rfl
theorem SY.cur {C : Cx} {bs : Nat → Nat} {G0 : GH} {L0 : Locs} {R : Rows} {w w' : World} {b : Nat} {o : Obj} (ha : ∀ j, Acts L0 R j → bs j ≠ bs 999) (hb : bs 999 = b) (hM : C.M b) (hh : w.heap[b]? = some o) (hk : Kp (sgl b o) w w') (h : SY C bs G0 L0 R w) : SY C bs G0 L0 R w' := by
 subst hb
 obtain ⟨G, hle, hn, hI⟩ := h
 have h1 := ((hI.more hh ha).called (Hc := sgl (bs 999) o) (h := emp) (le_join_r (sgl_dj hn).symm) (fun b q hx => by
  by_cases hbb : b = bs 999
  ·subst hbb; exact hM
  ·rw [sgl_ne _ hbb] at hx; cases hx) hk (emp_le _) (fun _ _ h => by cases h)).1
 refine ⟨_, hle.trans ((le_cut (le_join_l _ _) (sgl_dj hn).symm).trans (le_join_l _ _)), ?_, h1⟩
 unfold join
 rw [cut_some' (sgl_self _ _)]
 rfl
theorem SY.of {C : Cx} {bs : Nat → Nat} {G G0 : GH} {L0 L : Locs} {R : Rows} {w : World} (hy : YOk C bs L0 L R) (hle : Le G0 G) (hI : HInv C w G bs L R) : SY C bs G0 L0 R w := by
 obtain ⟨l, hl⟩ := hy.lab
 exact ⟨G, hle, (hI.loc 999 l hl).2.2, hI.sub hy.sub (Sub.refl _)⟩
def DY (C : Cx) (ops : Array Oper) (tl : List Nat) (s : List It) (bs : Nat → Nat) (G0 : GH) (L0 : Locs) (fuel : Nat) (listed : Array Bool) (env : Env) (L : Locs) (R : Rows) (Γ : Facts) : Prop :=
 YOk C bs L0 L R → Closed ops listed → ∀ a w G, Le G0 G → SatB C env L R Γ G bs a w → wpAnyT C.P ops (cont C s) (SY C bs G0 L0 R) tl fuel listed a w
theorem WX.drawY {C : Cx} {id : Nat} {ops : Array Oper} {s : List It} {env : Env} {L : Locs} {R : Rows} {Γ : Facts} {l : Loc} (tl : List Nat) (hm : C.P.follows .mixedOrders = true) (hl : look L 999 = some l)
  (k : ∀ bs G0, AllK C.M G0 Γ → DY C ops tl s bs G0 (delL L 999) ops.size (Array.replicate ops.size false) env L R Γ) : WX C (.code (.region id ops true) :: s) env L R Γ := by
 rintro a w ⟨G, bs, hA, hI, hΓ⟩
 show (Code.region id ops true).wp C.P (cont C s) a w
 have hsub : ∀ j x, look (delL L 999) j = some x → look L j = some x := fun j x hx => by
  rw [look_delL] at hx
  split at hx
  ·cases hx
  ·exact hx
 refine wp_region_any hm (wpAny_of_T _ _ _ _ (k bs G hΓ ⟨fun j hj => ?_, hsub, ⟨l, hl⟩⟩ (closed_start ops) a _ G (Le.refl _) ⟨hA, hI.drew, hΓ⟩))
 have hne : j ≠ 999 := by
  rintro rfl
  rcases hj with ⟨x, hx⟩ | ⟨r, hr, _⟩
  ·rw [look_delL] at hx; simp at hx
  ·exact hI.nr r hr
 exact hI.inj j 999 hne (hj.imp (fun ⟨x, hx⟩ => ⟨x, hsub _ _ hx⟩) (fun h => h)) (.inl ⟨l, hl⟩)
theorem DY.take {C : Cx} {ops : Array Oper} {tl : List Nat} {s : List It} {bs : Nat → Nat} {G0 : GH} {L0 : Locs} {fuel : Nat} {listed : Array Bool} {env : Env} {L : Locs} {R : Rows} {Γ : Facts} {i d : Nat} {o : Oper} {sv : SV} {b : Bool} (hb : mayB ops tl listed i = true) (hi : ops[i]? = some o) (hd : o.dst = some d) (hlt : d < C.fn.ntmps)
  (hg : gd ops env o = some b) (hl : b = true → Looks C env L0 R G0 o sv) (hu : b = false → sv = .v undef)
  (k : DY C ops tl s bs G0 L0 fuel (listed.setIfInBounds i true) ((d, sv) :: env) L R Γ) : DY C ops tl s bs G0 L0 (fuel + 1) listed env L R Γ := by
 intro hy hcl a w G hle ⟨hA, hI, hΓ⟩
 simp only [mayB, mayP, Bool.and_eq_true, Bool.not_eq_true', List.all_eq_true, Bool.or_eq_true] at hb
 obtain ⟨⟨⟨⟨h1, h4⟩, h5⟩, h3⟩, h6⟩ := hb
 have hr : i ∈ Region.ready .any ops listed := by simpa using h5
 refine wpAnyT_first hi h3 (Region.noSelect_spec h1) (fun c a w h => (cont_panic C s c _ _ h).elim) fuel listed a w hcl (fun j hj hun => (h6 j hj).resolve_left (by rw [hun]; simp)) (Region.free_spec hi h4) hr (v := conc bs sv) ?_ (SY.of hy hle hI) ?_
 ·cases b with
  | true => exact .inl ⟨gd_sound hA hg, fun w' ⟨G', hle', _, hI'⟩ => hl rfl a w' G' bs hle' hA hI'⟩
  | false => exact .inr ⟨gd_sound hA hg, by rw [hu rfl]; rfl⟩
 ·rw [hd]
  exact k hy (hcl.set hr) _ _ G hle ⟨hA.put hlt sv, hI, hΓ⟩
theorem DY.takeP {C : Cx} {ops : Array Oper} {tl : List Nat} {s : List It} {bs : Nat → Nat} {G0 : GH} {L0 : Locs} {fuel : Nat} {listed : Array Bool} {env : Env} {L : Locs} {R : Rows} {Γ : Facts} {i d : Nat} {o : Oper} {sv : SV} {b : Bool} (hb : mayP ops listed i = true) (hi : ops[i]? = some o) (hd : o.dst = some d) (hlt : d < C.fn.ntmps)
  (hg : gd ops env o = some b) (hl : b = true → ∀ a w bs, At C.fn.ntmps env bs a → (execOp a.eval o).run C.P w = .ok (.value (conc bs sv)) w) (hu : b = false → sv = .v undef)
  (k : DY C ops tl s bs G0 L0 fuel (listed.setIfInBounds i true) ((d, sv) :: env) L R Γ) : DY C ops tl s bs G0 L0 (fuel + 1) listed env L R Γ := by
 intro hy hcl a w G hle ⟨hA, hI, hΓ⟩
 simp only [mayP, Bool.and_eq_true] at hb
 obtain ⟨⟨h1, h4⟩, h5⟩ := hb
 have hr : i ∈ Region.ready .any ops listed := by simpa using h5
 refine wpAnyT_firstP hi (Region.noSelect_spec h1) (fun c a w h => (cont_panic C s c _ _ h).elim) fuel listed a w (Region.free_spec hi h4) hr (v := conc bs sv) ?_ ?_
 ·cases b with
  | true => exact .inl ⟨gd_sound hA hg, fun w' _ => hl rfl a w' bs hA⟩
  | false => exact .inr ⟨gd_sound hA hg, by rw [hu rfl]; rfl⟩
 ·rw [hd]
  exact k hy (hcl.set hr) _ _ G hle ⟨hA.put hlt sv, hI, hΓ⟩
theorem DY.takes {C : Cx} {ops : Array Oper} {tl : List Nat} {s : List It} {bs : Nat → Nat} {G0 : GH} {L0 : Locs} {L : Locs} {R : Rows} {Γ : Facts} (ht : TabOk C.P C.tt) : ∀ (is : List (Nat × Bool)) {fuel : Nat} {listed : Array Bool} {env env' : Env}, takesB ops tl listed is = true →
  takesE C.tt C.fn.ntmps ops L0 env is = some env' → DY C ops tl s bs G0 L0 fuel (setAll listed is) env' L R Γ → DY C ops tl s bs G0 L0 (fuel + is.length) listed env L R Γ
 | [], _, _, _, _, _, h, k => by simp [takesE] at h; subst h; exact k
 | (i, p) :: r, fuel, listed, env, env', hb, h, k => by
  simp only [takesB, Bool.and_eq_true] at hb
  simp only [takesE] at h
  split at h
  ·rename_i o ho
   rw [getO_eq] at ho
   have ho' : ops[i]? = some o := by simpa using ho
   split at h
   ·rename_i d hd
    split at h
    ·rename_i hlt
     have hlt' : d < C.fn.ntmps := by simpa [Nat.blt_eq] using hlt
     split at h
     ·rename_i hg
      split at h
      ·rename_i sv hsv
       cases p with
       | true => exact DY.takeP hb.1 ho' hd hlt' hg (fun _ a w bs' hA => pureS_any ht w hA hsv) (fun h => by cases h) (DY.takes ht r hb.2 h k)
       | false => exact DY.take hb.1 ho' hd hlt' hg (fun _ a w G' bs' hle hA hI => pureS_sound ht hA hI hsv) (fun h => by cases h) (DY.takes ht r hb.2 h k)
      ·cases h
     ·rename_i hg
      cases p with
      | true => exact DY.takeP hb.1 ho' hd hlt' hg (fun h => by cases h) (fun _ => rfl) (DY.takes ht r hb.2 h k)
      | false => exact DY.take hb.1 ho' hd hlt' hg (fun h => by cases h) (fun _ => rfl) (DY.takes ht r hb.2 h k)
     ·cases h
    ·cases h
   ·cases h
  ·cases h
def CurK (C : Cx) (S : World → Prop) : Prop := ∀ b w w' o, C.pin = some b → C.M b → w.heap[b]? = some o → Kp (sgl b o) w w' → S w → S w'
theorem DY.toTX {C : Cx} {ops : Array Oper} {tl : List Nat} {s : List It} {bs : Nat → Nat} {G0 : GH} {L0 : Locs} {fuel : Nat} {listed : Array Bool} {env : Env} {L : Locs} {R : Rows} {Γ : Facts} (k : ∀ S, CurK C S → TX C ops tl s S fuel listed env L R Γ) : DY C ops tl s bs G0 L0 fuel listed env L R Γ :=
 fun hy _ a w G _ hS => k _ (fun b _ _ _ hp hM hh hk h => h.cur hy.act (hS.2.1.pin b hp) hM hh hk) (fun _ _ hb h => h.keep hb) a w ⟨G, bs, hS⟩
theorem TX.takeP {C : Cx} {ops : Array Oper} {tl : List Nat} {s : List It} {S : World → Prop} {fuel : Nat} {listed : Array Bool} {env : Env} {L : Locs} {R : Rows} {Γ : Facts} {i d : Nat} {o : Oper} {sv : SV} {b : Bool} (hb : mayP ops listed i = true) (hi : ops[i]? = some o) (hd : o.dst = some d) (hlt : d < C.fn.ntmps)
  (hg : gd ops env o = some b) (hl : b = true → ∀ a w bs, At C.fn.ntmps env bs a → (execOp a.eval o).run C.P w = .ok (.value (conc bs sv)) w) (hu : b = false → sv = .v undef)
  (k : TX C ops tl s S fuel (listed.setIfInBounds i true) ((d, sv) :: env) L R Γ) : TX C ops tl s S (fuel + 1) listed env L R Γ := by
 intro hS a w ⟨G, bs, hA, hI, hΓ⟩
 simp only [mayP, Bool.and_eq_true] at hb
 obtain ⟨⟨h1, h4⟩, h5⟩ := hb
 have hr : i ∈ Region.ready .any ops listed := by simpa using h5
 refine wpAnyT_firstP hi (Region.noSelect_spec h1) (fun c a w h => (cont_panic C s c _ _ h).elim) fuel listed a w (Region.free_spec hi h4) hr (v := conc bs sv) ?_ ?_
 ·cases b with
  | true => exact .inl ⟨gd_sound hA hg, fun w' _ => hl rfl a w' bs hA⟩
  | false => exact .inr ⟨gd_sound hA hg, by rw [hu rfl]; rfl⟩
 ·rw [hd]
  exact k hS _ _ ⟨G, bs, hA.put hlt sv, hI, hΓ⟩
theorem TX.takes {C : Cx} {ops : Array Oper} {tl : List Nat} {s : List It} {S : World → Prop} {L : Locs} {R : Rows} {Γ : Facts} (ht : TabOk C.P C.tt) : ∀ (is : List Nat) {fuel : Nat} {listed : Array Bool} {env env' : Env}, takesB ops tl listed (is.map fun i => (i, true)) = true →
  takesE C.tt C.fn.ntmps ops [] env (is.map fun i => (i, true)) = some env' → TX C ops tl s S fuel (setAll listed (is.map fun i => (i, true))) env' L R Γ → TX C ops tl s S (fuel + is.length) listed env L R Γ
 | [], _, _, _, _, _, h, k => by simp [takesE] at h; subst h; exact k
 | i :: r, fuel, listed, env, env', hb, h, k => by
  simp only [List.map_cons, takesB, Bool.and_eq_true] at hb
  simp only [List.map_cons, takesE] at h
  split at h
  ·rename_i o ho
   rw [getO_eq] at ho
   have ho' : ops[i]? = some o := by simpa using ho
   split at h
   ·rename_i d hd
    split at h
    ·rename_i hlt
     have hlt' : d < C.fn.ntmps := by simpa [Nat.blt_eq] using hlt
     split at h
     ·rename_i hg
      split at h
      ·rename_i sv hsv
       exact TX.takeP hb.1 ho' hd hlt' hg (fun _ a w bs' hA => pureS_any ht w hA hsv) (fun h => by cases h) (TX.takes ht r hb.2 h k)
      ·cases h
     ·rename_i hg
      exact TX.takeP hb.1 ho' hd hlt' hg (fun h => by cases h) (fun _ => rfl) (TX.takes ht r hb.2 h k)
     ·cases h
    ·cases h
   ·cases h
  ·cases h
theorem TX.seeP {C : Cx} {ops : Array Oper} {tl : List Nat} {s : List It} {S : World → Prop} {fuel : Nat} {listed : Array Bool} {env : Env} {L : Locs} {R : Rows} {Γ : Facts} {d : Nat} {o : Oper} {sv : SV} (i : Nat) (hb : mayP ops listed i = true) (hi : getO ops.toList i = some o) (hg : gd ops env o = some true) (hd : o.dst = some d) (hlt : Nat.blt d C.fn.ntmps = true)
  (hl : LooksP C env o sv) (k : TX C ops tl s S fuel (listed.setIfInBounds i true) ((d, sv) :: env) L R Γ) : TX C ops tl s S (fuel + 1) listed env L R Γ := by
 rw [getO_eq] at hi
 exact TX.takeP hb (by simpa using hi) hd (by simpa [Nat.blt_eq] using hlt) hg (fun _ a w bs hA => hl a w bs hA) (fun h => by cases h) k
theorem TS.peek {C : Cx} {ops : Array Oper} {tl : List Nat} {s : List It} {S : World → Prop} {fuel : Nat} {listed : Array Bool} {env : Env} {L : Locs} {R : Rows} {Γ : Facts} {d : Nat} {o : Oper} (i : Nat) (hi : getO ops.toList i = some o) (hg : gd ops env o = some true) (hd : o.dst = some d) (hlt : Nat.blt d C.fn.ntmps = true)
  (k : ∀ G, AllK C.M G Γ → ∃ sv Γ', Looks C env L R G o sv ∧ (AllK C.M G Γ → AllK C.M G Γ') ∧ TX C ops tl s S fuel (listed.setIfInBounds i true) ((d, sv) :: env) L R Γ') : TS C ops tl s S fuel listed env L R Γ i := by
 intro hS a w ⟨G, bs, hA, hI, hΓ⟩
 obtain ⟨sv, Γ', hl, hΓ', hk⟩ := k G hΓ
 rw [getO_eq] at hi
 have hi' : ops[i]? = some o := by simpa using hi
 unfold wpOp
 simp only [hi']
 rw [if_pos (gd_sound hA hg)]
 refine .inl ?_
 unfold Oper.wp
 rw [hl a w G bs (Le.refl _) hA hI]
 simp only [Oper.upon, hd]
 exact ⟨fun _ h => h, hk hS _ _ ⟨G, bs, hA.put (by simpa [Nat.blt_eq] using hlt) sv, hI, hΓ' hΓ⟩⟩
theorem TS.see {C : Cx} {ops : Array Oper} {tl : List Nat} {s : List It} {S : World → Prop} {fuel : Nat} {listed : Array Bool} {env : Env} {L : Locs} {R : Rows} {Γ : Facts} {d : Nat} {o : Oper} {sv : SV} (i : Nat) (hi : getO ops.toList i = some o) (hg : gd ops env o = some true) (hd : o.dst = some d) (hlt : Nat.blt d C.fn.ntmps = true)
  (hl : ∀ G, AllK C.M G Γ → Looks C env L R G o sv) (k : TX C ops tl s S fuel (listed.setIfInBounds i true) ((d, sv) :: env) L R Γ) : TS C ops tl s S fuel listed env L R Γ i :=
 TS.peek i hi hg hd hlt fun G hΓ => ⟨sv, Γ, hl G hΓ, fun h => h, k⟩
theorem TS.callP {C : Cx} {ops : Array Oper} {tl : List Nat} {st : List It} {S : World → Prop} {fuel : Nat} {listed : Array Bool} {env : Env} {L : Locs} {R : Rows} {Γ : Facts} {o : Oper} (hcur : CurK C S) (i : Nat) {f : Operand} {args : List Operand} {ats : Array TypeId} {g : FuncId} {sf : SV} {svs : List SV} {caps : (Nat → Nat) → List Value} {T : Nat} {cs : List Value}
    {ι : Type} {val val' : ι → Value} {cs' : ι → List Value} {gs ds : ι → List MF} {Q : Prop} {d : Nat} {Γ' : ι → Facts} (n : Nat) (hpin : ∃ b, C.pin = some b) (hl : look L 999 = some ⟨T, cs⟩) (hds : ∀ i h, Sep h (gs i) → All h (ds i)) (hdk : ∀ i, ∀ f ∈ ds i, f.k = .der) (hi : getO ops.toList i = some o) (hg : gd ops env o = some true) (hd : o.dst = some d) (hlt : Nat.blt d C.fn.ntmps = true) (ho : o.op = .call { callee := .value f, args := args.toArray, argTypes := ats })
    (hf : ev env f = some sf) (hsf : ∀ bs, conc bs sf = .func (.func g) #[] (caps bs).toArray) (hargs : evs env args = some svs)
    (hc : ∀ w G bs H, HInv C w G bs L R → Le H (hp w) → Sep H [MF.bx (bs 999) T cs] → AllK C.M (cut (hp w) H) Γ → Does C.P g (svs.map (conc bs) ++ caps bs).toArray w H (Post w H val (fun i => MF.bx (bs 999) T (cs' i) :: gs i) Q))
    (hv : ∀ i, normV (val i) = some (val' i)) (hΓ' : ∀ i, addF n (ds i ++ gs i) Γ = some (Γ' i))
    (k : ∀ j, Q → TX C ops tl st S fuel (listed.setIfInBounds i true) ((d, .v (val' j)) :: env) (setL L 999 (cs' j)) R (Γ' j)) : TS C ops tl st S fuel listed env L R Γ i := by
  intro hS a w ⟨G, bs, hA, hI, hΓ⟩
  rw [getO_eq] at hi
  have hi' : ops[i]? = some o := by simpa using hi
  unfold wpOp
  simp only [hi']
  rw [if_pos (gd_sound hA hg)]
  refine .inl ?_
  unfold Oper.wp
  obtain ⟨h1, h2, h3⟩ := hI.loc 999 _ hl
  have hGH : Le G (cut (hp w) (sgl (bs 999) (lobj ⟨T, cs⟩))) := le_cut hI.le (sgl_dj h3).symm
  obtain ⟨he, hcalls⟩ := hc w G bs (sgl (bs 999) (lobj ⟨T, cs⟩)) hI (sgl_le h1) ⟨_, emp, Le.refl _, emp_le _, (emp_dj _).symm, sgl_self _ _, trivial⟩ (hΓ.mono hGH)
  rw [exec_call he ho (by rw [ev_conc hA hf, hsf]) (evs_sound hA args svs hargs)]
  simp only [Oper.upon]
  refine hcalls.mono fun e w' ⟨v, hve, hb, hψ⟩ => ?_
  subst hve
  refine ⟨fun _ hs => ?_, ?_⟩
  · obtain ⟨b, hpb⟩ := hpin
    have := hI.pin b hpb
    subst this
    exact hcur _ _ _ _ hpb h2 h1 hb hs
  obtain ⟨j, h, rfl, hq, hle, hdom, ha, hr, a1, a2, a3, a4, a5⟩ := hψ
  have a4' : ha (bs 999) = some (lobj ⟨T, cs' j⟩) := a4
  rw [hd, ← normV_eq (hv j)]
  obtain ⟨hI', hdj⟩ := (hI.drop hl).called (Hc := sgl (bs 999) (lobj ⟨T, cs⟩)) (le_join_r (sgl_dj h3).symm) (fun b q hx => by
    by_cases hbb : b = bs 999
    · subst hbb; exact h2
    · rw [sgl_ne _ hbb] at hx; cases hx) hb hle hdom
  have hG1 : Le G (cut (join G (sgl (bs 999) (lobj ⟨T, cs⟩))) (sgl (bs 999) (lobj ⟨T, cs⟩))) := le_cut (le_join_l _ _) (sgl_dj h3).symm
  have hlab : h (bs 999) = some (lobj ⟨T, cs' j⟩) := a1 _ _ a4'
  have hG2 : join (cut (join G (sgl (bs 999) (lobj ⟨T, cs⟩))) (sgl (bs 999) (lobj ⟨T, cs⟩))) h (bs 999) = some (lobj ⟨T, cs' j⟩) := le_join_r hdj.symm _ _ hlab
  have hI2 := hI'.take (i := 999) (l := ⟨T, cs' j⟩) (L' := setL L 999 (cs' j)) (fun x => by
    rw [look_setL, look_delL]
    by_cases hij : 999 = x
    · subst hij; simp [hl]
    · simp [hij]) (fun r hr' => hI.dis 999 _ r hl hr') hG2 h2
  have hdr : Dj hr G := hdj.mono a2 hG1
  have hΓ2 := hΓ.after (h := hr) (n := n) (ds := ds j) hdr (fun b q hx => by
    rcases hdom b q (a2 b q hx) with h4 | h4
    · exact .inl (Nat.le_trans hI.keep.size h4)
    · by_cases hbb : b = bs 999
      · subst hbb; exact h2
      · exact absurd (sgl_ne _ hbb) h4) a5 (hdk j) (hds j hr a5) (hΓ' j)
  refine k j hq hS _ _ ⟨_, bs, hA.put (by simpa [Nat.blt_eq] using hlt) (.v _), hI2, hΓ2.mono (join_le ?_ ?_)⟩
  · exact le_cut (hG1.trans (le_join_l _ _)) (sgl_dj h3).symm
  · refine le_cut (a2.trans (le_join_r hdj.symm)) (sgl_dj ?_).symm
    cases hx : hr (bs 999) with
    | none => rfl
    | some q => rcases a3 (bs 999) with h5 | h5
                · rw [a4'] at h5; cases h5
                · rw [hx] at h5; cases h5
end Go.Stp

