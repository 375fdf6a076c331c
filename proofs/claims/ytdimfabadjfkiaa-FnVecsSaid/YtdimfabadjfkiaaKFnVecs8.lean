/-
  FnVecs: the law returns true at all arguments; conditions: those of the statement, no others. Written by a program (pack.py, mklaw2.py).
-/
import Derived.Carry
import Derived.ChangeArms
import Derived.ProofKit
import Derived.OpenShut
import Derived.JoinedCond
import Derived.Test.YtdimfabadjfkiaaKFnVecs7
namespace Go.Stp
set_option linter.unusedVariables false
set_option linter.unusedSimpArgs false
theorem bent_len (c : List UInt8) (i h : Int) (b : List UInt8) : (spec_l1Bent c i h b).1.length ≤ b.length + 1 := by
  unfold spec_l1Bent
  rcases spec_l1Below c i h 6 with ⟨u1, u2, u3⟩
  dsimp only
  cases (u1 == 0)
  · simp only [cond_false]
    cases (u1 == 1)
    · simp only [cond_false]
      cases (u1 == 2)
      · simp only [cond_false]; omega
      · simp only [cond_true]
        rcases spec_l1Int c u2 u3 ([0, 1, 128, 255]) with ⟨x, y, z⟩
        simp only [List.length_append, List.length_cons, List.length_nil]; omega
    · simp only [cond_true]
      rcases spec_l1Below c u2 u3 (((b.length : Nat) : Int) + 1) with ⟨x, y, z⟩
      dsimp only
      rw [List.length_take]; omega
  · simp only [cond_true]
    cases decide (((b.length : Nat) : Int) > 0)
    · simp only [cond_false]; omega
    · simp only [cond_true]
      rcases spec_l1Below c u2 u3 ((b.length : Nat) : Int) with ⟨x, y, z⟩
      dsimp only
      rcases spec_l1Below c y z 256 with ⟨x2, y2, z2⟩
      dsimp only
      cases b[x.toNat]? with
      | none => exact Nat.zero_le _
      | some e => simp only [List.length_set]; omega
theorem len_specEVL : ∀ (l : List TableEntry) (b : List UInt8), (spec_EncodeVector_L1 l b).length ≤ b.length + 96 * l.length
  | [], b => by simp [spec_EncodeVector_L1]
  | e :: l, b => by
    simp only [spec_EncodeVector_L1, List.length_cons]
    have h1 := len_specEVL l (spec_AppendVarint (spec_AppendName b e.name) e.value)
    have h2 := len_specAV (spec_AppendName b e.name) e.value
    have h3 := len_specAN b e.name
    omega
theorem len_specEV (v : StateVector) : (spec_EncodeVector v).length ≤ 6 + 96 * v.entries.length := by
  unfold spec_EncodeVector
  cases (!(spec_ValidVector v))
  · simp only [cond_false]
    have h1 := len_specEVL v.entries (spec_AppendVarint [] ((v.entries.length : Nat) : Int))
    have h2 := len_specAV [] ((v.entries.length : Nat) : Int)
    simp only [List.length_nil] at h2
    omega
  · simp
theorem drawDec_len (code : List UInt8) : (spec_DrawDecodeVector code).length ≤ 400 := by
  unfold spec_DrawDecodeVector
  rcases spec_l1New code with ⟨a, b⟩
  dsimp only
  have h1 := l27Draw_len code a b
  rcases e : spec_l27Draw code a b with ⟨v, i, j⟩
  rw [e] at h1
  dsimp only at h1 ⊢
  have h2 := bent_len code i j (spec_EncodeVector v)
  have h3 := len_specEV v
  omega

def laws_FnVecs (code : (List UInt8)) : Bool :=
  bif (laws_big code) then
    true
  else
    bif (!(laws_sameRows ((impl_JoinVectors ((spec_DrawJoinVectors code).1) ((spec_DrawJoinVectors code).2)).entries) ((spec_JoinVectors ((spec_DrawJoinVectors code).1) ((spec_DrawJoinVectors code).2)).entries))) then
      false
    else
      bif (!((impl_VectorLeq ((spec_DrawVectorLeq code).1) ((spec_DrawVectorLeq code).2)) == (spec_VectorLeq ((spec_DrawVectorLeq code).1) ((spec_DrawVectorLeq code).2)))) then
        false
      else
        bif (!(laws_sameRows (impl_NewerThan ((spec_DrawNewerThan code).1) ((spec_DrawNewerThan code).2)) (spec_NewerThan ((spec_DrawNewerThan code).1) ((spec_DrawNewerThan code).2)))) then
          false
        else
          bif (!(laws_same (impl_EncodeVector (spec_DrawEncodeVector code)) (spec_EncodeVector (spec_DrawEncodeVector code)))) then
            false
          else
            bif (!(laws_sameRows ((impl_DecodeVector (spec_DrawDecodeVector code)).1.entries) ((spec_DecodeVector (spec_DrawDecodeVector code)).1.entries))) then
              false
            else
              bif (!(((impl_DecodeVector (spec_DrawDecodeVector code)).2) == ((spec_DecodeVector (spec_DrawDecodeVector code)).2))) then
                false
              else
                bif ((impl_SeqOf ((spec_DrawSeqOf code).1) ((spec_DrawSeqOf code).2)) != (spec_SeqOf ((spec_DrawSeqOf code).1) ((spec_DrawSeqOf code).2))) then
                  false
                else
                  bif ((impl_VectorSum (spec_DrawEncodeVector code)) != (spec_VectorSum (spec_DrawEncodeVector code))) then
                    false
                  else
                    bif (!((impl_ValidVector (spec_DrawEncodeVector code)) == (spec_ValidVector (spec_DrawEncodeVector code)))) then
                      false
                    else
                      bif (!(((impl_DecodeVector (impl_EncodeVector (spec_DrawEncodeVector code))).2) == (impl_ValidVector (spec_DrawEncodeVector code)))) then
                        false
                      else
                        bif (impl_DecodeVector (impl_EncodeVector (spec_DrawEncodeVector code))).2 then
                          bif (!(laws_sameRows ((impl_DecodeVector (impl_EncodeVector (spec_DrawEncodeVector code))).1.entries) ((spec_DrawEncodeVector code).entries))) then
                            false
                          else
                            bif (impl_DecodeVector (spec_DrawDecodeVector code)).2 then
                              bif (!(laws_same (impl_EncodeVector ((impl_DecodeVector (spec_DrawDecodeVector code)).1)) (spec_DrawDecodeVector code))) then
                                false
                              else
                                bif (laws_sameRows ((impl_JoinVectors (impl_JoinVectors ((spec_DrawVecs code).1) ((spec_DrawVecs code).2.1)) ((spec_DrawVecs code).2.2)).entries) ((impl_JoinVectors ((spec_DrawVecs code).1) (impl_JoinVectors ((spec_DrawVecs code).2.1) ((spec_DrawVecs code).2.2))).entries)) then
                                  bif (laws_sameRows ((impl_JoinVectors ((spec_DrawVecs code).1) ((spec_DrawVecs code).2.1)).entries) ((impl_JoinVectors ((spec_DrawVecs code).2.1) ((spec_DrawVecs code).1)).entries)) then
                                    bif (laws_sameRows ((impl_JoinVectors ((spec_DrawVecs code).1) ((spec_DrawVecs code).1)).entries) ((spec_DrawVecs code).1.entries)) then
                                      bif (impl_VectorLeq ((spec_DrawVecs code).1) (impl_JoinVectors ((spec_DrawVecs code).1) ((spec_DrawVecs code).2.1))) then
                                        bif (impl_VectorLeq ((spec_DrawVecs code).2.1) (impl_JoinVectors ((spec_DrawVecs code).1) ((spec_DrawVecs code).2.1))) then
                                          bif (impl_ValidVector (impl_JoinVectors ((spec_DrawVecs code).1) ((spec_DrawVecs code).2.1))) then
                                            bif ((impl_VectorLeq ((spec_DrawVecs code).1) ((spec_DrawVecs code).2.1)) == (laws_sameRows ((impl_JoinVectors ((spec_DrawVecs code).1) ((spec_DrawVecs code).2.1)).entries) ((spec_DrawVecs code).2.1.entries))) then
                                              ((((((impl_NewerThan ((spec_DrawVecs code).1) ((spec_DrawVecs code).2.1))).length : Nat) : Int) == 0) == (impl_VectorLeq ((spec_DrawVecs code).1) ((spec_DrawVecs code).2.1)))
                                            else
                                              false
                                          else
                                            false
                                        else
                                          false
                                      else
                                        false
                                    else
                                      false
                                  else
                                    false
                                else
                                  false
                            else
                              bif (laws_sameRows ((impl_JoinVectors (impl_JoinVectors ((spec_DrawVecs code).1) ((spec_DrawVecs code).2.1)) ((spec_DrawVecs code).2.2)).entries) ((impl_JoinVectors ((spec_DrawVecs code).1) (impl_JoinVectors ((spec_DrawVecs code).2.1) ((spec_DrawVecs code).2.2))).entries)) then
                                bif (laws_sameRows ((impl_JoinVectors ((spec_DrawVecs code).1) ((spec_DrawVecs code).2.1)).entries) ((impl_JoinVectors ((spec_DrawVecs code).2.1) ((spec_DrawVecs code).1)).entries)) then
                                  bif (laws_sameRows ((impl_JoinVectors ((spec_DrawVecs code).1) ((spec_DrawVecs code).1)).entries) ((spec_DrawVecs code).1.entries)) then
                                    bif (impl_VectorLeq ((spec_DrawVecs code).1) (impl_JoinVectors ((spec_DrawVecs code).1) ((spec_DrawVecs code).2.1))) then
                                      bif (impl_VectorLeq ((spec_DrawVecs code).2.1) (impl_JoinVectors ((spec_DrawVecs code).1) ((spec_DrawVecs code).2.1))) then
                                        bif (impl_ValidVector (impl_JoinVectors ((spec_DrawVecs code).1) ((spec_DrawVecs code).2.1))) then
                                          bif ((impl_VectorLeq ((spec_DrawVecs code).1) ((spec_DrawVecs code).2.1)) == (laws_sameRows ((impl_JoinVectors ((spec_DrawVecs code).1) ((spec_DrawVecs code).2.1)).entries) ((spec_DrawVecs code).2.1.entries))) then
                                            ((((((impl_NewerThan ((spec_DrawVecs code).1) ((spec_DrawVecs code).2.1))).length : Nat) : Int) == 0) == (impl_VectorLeq ((spec_DrawVecs code).1) ((spec_DrawVecs code).2.1)))
                                          else
                                            false
                                        else
                                          false
                                      else
                                        false
                                    else
                                      false
                                  else
                                    false
                                else
                                  false
                              else
                                false
                        else
                          bif (impl_DecodeVector (spec_DrawDecodeVector code)).2 then
                            bif (!(laws_same (impl_EncodeVector ((impl_DecodeVector (spec_DrawDecodeVector code)).1)) (spec_DrawDecodeVector code))) then
                              false
                            else
                              bif (laws_sameRows ((impl_JoinVectors (impl_JoinVectors ((spec_DrawVecs code).1) ((spec_DrawVecs code).2.1)) ((spec_DrawVecs code).2.2)).entries) ((impl_JoinVectors ((spec_DrawVecs code).1) (impl_JoinVectors ((spec_DrawVecs code).2.1) ((spec_DrawVecs code).2.2))).entries)) then
                                bif (laws_sameRows ((impl_JoinVectors ((spec_DrawVecs code).1) ((spec_DrawVecs code).2.1)).entries) ((impl_JoinVectors ((spec_DrawVecs code).2.1) ((spec_DrawVecs code).1)).entries)) then
                                  bif (laws_sameRows ((impl_JoinVectors ((spec_DrawVecs code).1) ((spec_DrawVecs code).1)).entries) ((spec_DrawVecs code).1.entries)) then
                                    bif (impl_VectorLeq ((spec_DrawVecs code).1) (impl_JoinVectors ((spec_DrawVecs code).1) ((spec_DrawVecs code).2.1))) then
                                      bif (impl_VectorLeq ((spec_DrawVecs code).2.1) (impl_JoinVectors ((spec_DrawVecs code).1) ((spec_DrawVecs code).2.1))) then
                                        bif (impl_ValidVector (impl_JoinVectors ((spec_DrawVecs code).1) ((spec_DrawVecs code).2.1))) then
                                          bif ((impl_VectorLeq ((spec_DrawVecs code).1) ((spec_DrawVecs code).2.1)) == (laws_sameRows ((impl_JoinVectors ((spec_DrawVecs code).1) ((spec_DrawVecs code).2.1)).entries) ((spec_DrawVecs code).2.1.entries))) then
                                            ((((((impl_NewerThan ((spec_DrawVecs code).1) ((spec_DrawVecs code).2.1))).length : Nat) : Int) == 0) == (impl_VectorLeq ((spec_DrawVecs code).1) ((spec_DrawVecs code).2.1)))
                                          else
                                            false
                                        else
                                          false
                                      else
                                        false
                                    else
                                      false
                                  else
                                    false
                                else
                                  false
                              else
                                false
                          else
                            bif (laws_sameRows ((impl_JoinVectors (impl_JoinVectors ((spec_DrawVecs code).1) ((spec_DrawVecs code).2.1)) ((spec_DrawVecs code).2.2)).entries) ((impl_JoinVectors ((spec_DrawVecs code).1) (impl_JoinVectors ((spec_DrawVecs code).2.1) ((spec_DrawVecs code).2.2))).entries)) then
                              bif (laws_sameRows ((impl_JoinVectors ((spec_DrawVecs code).1) ((spec_DrawVecs code).2.1)).entries) ((impl_JoinVectors ((spec_DrawVecs code).2.1) ((spec_DrawVecs code).1)).entries)) then
                                bif (laws_sameRows ((impl_JoinVectors ((spec_DrawVecs code).1) ((spec_DrawVecs code).1)).entries) ((spec_DrawVecs code).1.entries)) then
                                  bif (impl_VectorLeq ((spec_DrawVecs code).1) (impl_JoinVectors ((spec_DrawVecs code).1) ((spec_DrawVecs code).2.1))) then
                                    bif (impl_VectorLeq ((spec_DrawVecs code).2.1) (impl_JoinVectors ((spec_DrawVecs code).1) ((spec_DrawVecs code).2.1))) then
                                      bif (impl_ValidVector (impl_JoinVectors ((spec_DrawVecs code).1) ((spec_DrawVecs code).2.1))) then
                                        bif ((impl_VectorLeq ((spec_DrawVecs code).1) ((spec_DrawVecs code).2.1)) == (laws_sameRows ((impl_JoinVectors ((spec_DrawVecs code).1) ((spec_DrawVecs code).2.1)).entries) ((spec_DrawVecs code).2.1.entries))) then
                                          ((((((impl_NewerThan ((spec_DrawVecs code).1) ((spec_DrawVecs code).2.1))).length : Nat) : Int) == 0) == (impl_VectorLeq ((spec_DrawVecs code).1) ((spec_DrawVecs code).2.1)))
                                        else
                                          false
                                      else
                                        false
                                    else
                                      false
                                  else
                                    false
                                else
                                  false
                              else
                                false
                            else
                              false
end Go.Stp

namespace Go.Stp
def readyAt (ops : Array Oper) (listed : Array Bool) (i : Nat) : Bool :=
  !listed.getD i true && (match ops[i]? with | some o => o.after.all (fun e => !Region.binds .any e || listed.getD e.on false) | none => false)
theorem readyAt_mem {ops : Array Oper} {listed : Array Bool} {i : Nat} (h : readyAt ops listed i = true) : (Region.ready .any ops listed).contains i = true := by
  unfold readyAt at h
  rw [List.contains_iff_mem]
  unfold Region.ready
  rw [List.mem_filter, List.mem_range]
  cases ho : ops[i]? with
  | none => simp [ho] at h
  | some o =>
    refine ⟨(Array.getElem?_eq_some_iff.1 ho).1, ?_⟩
    simpa [ho] using h
def onB (o : Oper) (i : Nat) : Bool := o.after.any (fun e => Region.binds .any e && e.on == i)
def freeRow (ops : Array Oper) (i : Nat) (oi : Oper) : Nat → List Oper → Bool
  | _, [] => true
  | j, oj :: r => (j == i || onB oj i || onB oi j || oi.apart ops oj) && freeRow ops i oi (j + 1) r
def freeTab (ops : Array Oper) : Nat → List Oper → Bool
  | _, [] => true
  | i, oi :: r => freeRow ops i oi 0 ops.toList && freeTab ops (i + 1) r
def freeAll (ops : Array Oper) : Bool := Region.noSelect ops && freeTab ops 0 ops.toList
theorem freeRow_get {ops : Array Oper} {i : Nat} {oi : Oper} : ∀ {l : List Oper} {j k : Nat} {oj : Oper}, freeRow ops i oi j l = true → l[k]? = some oj → (j + k == i || onB oj i || onB oi (j + k) || oi.apart ops oj) = true
  | [], _, _, _, _, h => by simp at h
  | o :: r, j, k, oj, h, hk => by
    simp only [freeRow, Bool.and_eq_true] at h
    cases k with
    | zero => simp at hk; subst hk; simpa using h.1
    | succ k =>
      have := freeRow_get h.2 (show r[k]? = some oj by simpa using hk)
      rwa [Nat.add_assoc, Nat.add_comm 1 k] at this
theorem freeTab_get {ops : Array Oper} : ∀ {l : List Oper} {i k : Nat} {o : Oper}, freeTab ops i l = true → l[k]? = some o → freeRow ops (i + k) o 0 ops.toList = true
  | [], _, _, _, _, h => by simp at h
  | o :: r, i, k, oj, h, hk => by
    simp only [freeTab, Bool.and_eq_true] at h
    cases k with
    | zero => simp at hk; subst hk; simpa using h.1
    | succ k =>
      have := freeTab_get h.2 (show r[k]? = some oj by simpa using hk)
      rwa [Nat.add_assoc, Nat.add_comm 1 k] at this
theorem freeAll_free {ops : Array Oper} {listed : Array Bool} {i : Nat} (h : freeAll ops = true) (hr : readyAt ops listed i = true) : Region.free .any ops listed i = true := by
  simp only [freeAll, Bool.and_eq_true] at h
  simp only [readyAt, Bool.and_eq_true] at hr
  unfold Region.free
  cases ho : ops[i]? with
  | none => simp [ho] at hr
  | some oi =>
    simp only [ho] at hr
    rw [List.all_eq_true]
    intro j hj
    have hj' : j < ops.size := by simpa using hj
    have hoj : ops[j]? = some ops[j] := by simp [hj']
    have h1 := freeRow_get (freeTab_get h.2 (show ops.toList[i]? = some oi by simpa using ho)) (show ops.toList[j]? = some ops[j] by simp [hj'])
    simp only [Nat.zero_add] at h1
    simp only [hoj]
    cases hji : (j == i) with
    | true => simp
    | false =>
      simp only [hji, Bool.false_or]
      cases hl : listed.getD j true with
      | true => simp
      | false =>
        simp only [Bool.false_or]
        simp only [hji, Bool.false_or, Bool.or_eq_true] at h1
        rcases h1 with (h1 | h1) | h1
        · simp only [onB] at h1; simp [h1]
        · exfalso
          obtain ⟨e, he, hb⟩ := Array.any_eq_true'.1 h1
          simp only [Bool.and_eq_true, beq_iff_eq] at hb
          have h2 := Array.all_eq_true_iff_forall_mem.1 hr.2 e he
          simp only [hb.1, Bool.not_true, Bool.false_or, hb.2] at h2
          rw [Array.getD_eq_getD_getElem?] at hl h2
          cases hx : listed[j]? with
          | none => simp [hx] at h2
          | some b => simp [hx] at h2 hl; rw [h2] at hl; cases hl
        · simp [h1]
def takesR (ops : Array Oper) (tl : List Nat) : Array Bool → List (Nat × Bool) → Bool
  | _, [] => true
  | listed, (i, p) :: r => (readyAt ops listed i && (match p with | true => true | false => !tl.contains i && tl.all (fun j => listed.getD j true || waits ops j i))) && takesR ops tl (listed.setIfInBounds i true) r
theorem freeAll_mayP {ops : Array Oper} {listed : Array Bool} {i : Nat} (h : freeAll ops = true) (hr : readyAt ops listed i = true) : mayP ops listed i = true := by
  have h1 := freeAll_free h hr
  simp only [freeAll, Bool.and_eq_true] at h
  simp only [mayP, h.1, h1, readyAt_mem hr, Bool.and_self]
theorem takesB_of {ops : Array Oper} {tl : List Nat} (hs : freeAll ops = true) : ∀ {is : List (Nat × Bool)} {listed : Array Bool}, takesR ops tl listed is = true → takesB ops tl listed is = true
  | [], _, _ => rfl
  | (i, p) :: r, listed, h => by
    simp only [takesR, Bool.and_eq_true] at h
    obtain ⟨⟨h2, h3⟩, h4⟩ := h
    simp only [takesB, Bool.and_eq_true]
    refine ⟨?_, takesB_of hs h4⟩
    cases p with
    | true => exact freeAll_mayP hs h2
    | false =>
      simp only [Bool.and_eq_true] at h3
      simp only [mayB, freeAll_mayP hs h2, h3.1, h3.2, Bool.and_self]
def mayR (ops : Array Oper) (tl : List Nat) (listed : Array Bool) (i : Nat) : Bool := readyAt ops listed i && (!tl.contains i && tl.all (fun j => listed.getD j true || waits ops j i))
theorem mayB_of {ops : Array Oper} {tl : List Nat} {listed : Array Bool} {i : Nat} (hs : freeAll ops = true) (h : mayR ops tl listed i = true) : mayB ops tl listed i = true := by
  simp only [mayR, Bool.and_eq_true] at h
  simp only [mayB, freeAll_mayP hs h.1, h.2.1, h.2.2, Bool.and_self]
theorem DX.tab {C : Cx} {ops : Array Oper} {tl : List Nat} {s : List It} {bs : Nat → Nat} {G0 : GH} {fuel : Nat} {listed : Array Bool} {env : Env} {L : Locs} {R : Rows} {Γ : Facts} (h : freeAll ops = true)
    (k : freeAll ops = true → DX C ops tl s bs G0 fuel listed env L R Γ) : DX C ops tl s bs G0 fuel listed env L R Γ := k h
end Go.Stp

namespace Go.Stp
theorem mid {α : Type} (p : List α) (e : α) (l : List α) : (p ++ e :: l)[p.length]? = some e := by simp
theorem mid_app {α : Type} (p : List α) (e : α) (l : List α) : (p ++ [e]) ++ l = p ++ e :: l := by simp
theorem mid_len {α : Type} (p : List α) (e : α) : (p ++ [e]).length = p.length + 1 := by simp
def SzR (r left : Int) (s : Nat) : Prop := r = -1 ∨ ((s : Int) ≤ left ∧ r = left - s)
theorem SzR.pos {r left : Int} {s : Nat} (h : SzR r left s) (hr : 0 ≤ r) : (s : Int) ≤ left ∧ r = left - s := by
  rcases h with h | h
  · omega
  · exact h
theorem dT {x : Int} (h : x < 0) : decide (x < 0) = true := decide_eq_true h
theorem szL_cons {α : Type} [GoT α] [Sz α] (a : α) (l : List α) : szL (a :: l) = sz a + szL l := by simp [szL]
theorem szL_nil {α : Type} [GoT α] [Sz α] : szL ([] : List α) = 0 := rfl
theorem bne_self_F {α : Type} [BEq α] [LawfulBEq α] (a : α) : (a != a) = false := by simp
theorem nbeq_self_F {α : Type} [BEq α] [LawfulBEq α] (a : α) : (!(a == a)) = false := by simp
theorem bytesLess_self : ∀ l : List UInt8, Op.bytesLess l l = false
  | [] => rfl
  | a :: l => by simp [Op.bytesLess, bytesLess_self l]
theorem l4_zero (a b : List UInt8) : ((bif Op.bytesLess a b then (-1) else bif (!(Op.bytesLess a b || a == b)) then 1 else 0 : Int) = 0) ↔ a = b := by
  cases h : Op.bytesLess a b
  · by_cases e : a = b
    · simp [e]
    · have : (a == b) = false := by simpa using e
      simp [this, e]
  · constructor
    · intro x; simp at x
    · intro e; rw [e, bytesLess_self] at h; cases h
end Go.Stp

namespace Go.Stp
set_option linter.unusedVariables false
set_option linter.unusedSimpArgs false
theorem same_In (a b c : Int) : impl_InRange a b c = spec_l1In a b c := rfl
theorem sEqL_string : ∀ (a b p : List Str), a.length = b.length → slices_Equal_string_L1 (p ++ b) a p.length = (if a.map (fun z : Str => z.toList) = b.map (fun z : Str => z.toList) then none else some false)
  | [], [], p, _ => by simp [slices_Equal_string_L1]
  | x :: a, y :: b, p, h => by
    have ih := sEqL_string a b (p ++ [y]) (by simpa using h)
    rw [mid_app, mid_len] at ih
    simp only [slices_Equal_string_L1, mid]
    by_cases hxy : x.toList = y.toList
    · simp [hxy, ih]
    · have hb : (x.toList == y.toList) = false := by simpa using hxy
      simp [hb, hxy]
theorem sEq_string (a b : List Str) : slices_Equal_string a b = decide (a.map (fun z : Str => z.toList) = b.map (fun z : Str => z.toList)) := by
  unfold slices_Equal_string
  by_cases hl : a.length = b.length
  · have h := sEqL_string a b [] hl
    simp only [List.nil_append, List.length_nil] at h
    simp only [hl, bne_self_F, cond_false, h]
    split <;> simp_all
  · have hne : a.map (fun z : Str => z.toList) ≠ b.map (fun z : Str => z.toList) := fun h => hl (by simpa using congrArg List.length h)
    have hn : ((a.length : Int) != (b.length : Int)) = true := by simp; omega
    simp [hn, hne]
theorem cNL : ∀ (a b p : List Str), match spec_CompareNames_L1 ⟨p ++ b⟩ a p.length with
    | some k => k ≠ 0 ∧ a.map (fun z : Str => z.toList) ≠ b.map (fun z : Str => z.toList)
    | none => a.length = b.length → a.map (fun z : Str => z.toList) = b.map (fun z : Str => z.toList)
  | [], b, p => by
    simp only [spec_CompareNames_L1]
    intro h
    cases b with
    | nil => rfl
    | cons => simp at h
  | x :: a, [], p => by simp [spec_CompareNames_L1]
  | x :: a, y :: b, p => by
    have ih := cNL a b (p ++ [y])
    rw [mid_app, mid_len] at ih
    have hlt : decide (((p.length : Nat) : Int) < (((p ++ y :: b).length : Nat) : Int)) = true := by simp; omega
    simp only [spec_CompareNames_L1, hlt, cond_true, mid]
    by_cases hk : spec_l4Cmp x y = 0
    · have e : x.toList = y.toList := (l4_zero _ _).1 hk
      rw [hk]
      simp only [bne_self_F, cond_false]
      revert ih
      cases spec_CompareNames_L1 ⟨p ++ y :: b⟩ a (p.length + 1) with
      | none => intro ih h; simp [e, ih (by simpa using h)]
      | some k => intro ih; exact ⟨ih.1, fun h => ih.2 (by simpa [e] using h)⟩
    · have hn : (spec_l4Cmp x y != 0) = true := by simpa using hk
      simp only [hn, cond_true]
      exact ⟨hk, fun h => hk ((l4_zero _ _).2 (by simp at h; exact h.1))⟩
theorem same_EqualNames (a b : Name) : impl_EqualNames a b = spec_EqualNames a b := by
  unfold impl_EqualNames spec_EqualNames spec_CompareNames
  rw [sEq_string]
  have h : match spec_CompareNames_L1 b a.parts 0 with
    | some k => k ≠ 0 ∧ a.parts.map (fun z : Str => z.toList) ≠ b.parts.map (fun z : Str => z.toList)
    | none => a.parts.length = b.parts.length → a.parts.map (fun z : Str => z.toList) = b.parts.map (fun z : Str => z.toList) := cNL a.parts b.parts []
  revert h
  cases spec_CompareNames_L1 b a.parts 0 with
  | some k => intro ⟨h1, h2⟩; simp [h1, h2]
  | none =>
    intro h
    by_cases hl : a.parts.length = b.parts.length
    · simp [h hl, hl]
    · have ne : a.parts.map (fun z : Str => z.toList) ≠ b.parts.map (fun z : Str => z.toList) := fun h => hl (by simpa using congrArg List.length h)
      rcases Nat.lt_or_gt_of_ne hl with c | c
      · simp [ne, c]
      · have c' : ¬ a.parts.length < b.parts.length := by omega
        simp [ne, c, c']
theorem vPL : ∀ l : List UInt8, impl_ValidPart_L1 l = spec_ValidPart_L1 l ∧ (spec_ValidPart_L1 l = none ∨ spec_ValidPart_L1 l = some false)
  | [] => ⟨rfl, .inl rfl⟩
  | c :: l => by
    obtain ⟨h1, h2⟩ := vPL l
    simp only [impl_ValidPart_L1, spec_ValidPart_L1, h1, spec_l1In, ge_iff_le]
    cases decide ((97 : Int) ≤ (c.toNat : Int)) <;> cases decide ((c.toNat : Int) ≤ 122) <;> cases decide ((48 : Int) ≤ (c.toNat : Int)) <;> cases decide ((c.toNat : Int) ≤ 57) <;> cases hc : ((c.toNat : Int) == 45) <;> simp [bne, hc, h2]
theorem same_ValidPart (s : Str) : impl_ValidPart s = spec_ValidPart s := by
  unfold impl_ValidPart spec_ValidPart
  obtain ⟨h1, h2⟩ := vPL s.data.toList
  rw [h1, same_In]
  rcases h2 with h | h <;> rw [h] <;> cases spec_l1In (((s).size : Nat) : Int) 1 8 <;> rfl
theorem iF_string : ∀ (f : Str → Bool) (l : List Str) (i : Nat), (slices_IndexFunc_string_L1 f l i = none ∧ l.any f = false) ∨ ∃ j : Nat, slices_IndexFunc_string_L1 f l i = some (j : Int) ∧ l.any f = true
  | f, [], i => .inl ⟨rfl, rfl⟩
  | f, x :: l, i => by
    simp only [slices_IndexFunc_string_L1, List.any_cons]
    cases hx : f x
    · simpa using iF_string f l (i + 1)
    · exact .inr ⟨i, rfl, rfl⟩
theorem cF_string (l : List Str) (f : Str → Bool) : slices_ContainsFunc_string l f = l.any f := by
  unfold slices_ContainsFunc_string slices_IndexFunc_string
  rcases iF_string f l 0 with ⟨h1, h2⟩ | ⟨j, h1, h2⟩ <;> simp [h1, h2]
theorem vNL : ∀ l : List Str, spec_ValidName_L1 l = bif l.any (fun e => !(spec_ValidPart e)) then some false else none
  | [] => rfl
  | x :: l => by
    simp only [spec_ValidName_L1, List.any_cons]
    cases (!(spec_ValidPart x)) <;> simp [vNL l]
theorem same_ValidName (a : Name) : impl_ValidName a = spec_ValidName a := by
  unfold impl_ValidName spec_ValidName impl_ValidName_c1
  rw [cF_string, vNL]
  simp only [same_ValidPart]
  cases a.parts.any (fun e => !(spec_ValidPart e)) <;> cases decide ((((a.parts).length : Nat) : Int) ≤ 6) <;> rfl
theorem cmp_l4 (x y : Str) : cmp_Compare_string x y = spec_l4Cmp x y := by
  simp [cmp_Compare_string, cmp_isNaN_string, spec_l4Cmp]
theorem cCL : ∀ (a b p : List Str), (slices_Compare_string_L1 (p ++ b) a p.length = spec_CompareNames_L1 ⟨p ++ b⟩ a p.length ∧ (spec_CompareNames_L1 ⟨p ++ b⟩ a p.length = none → a.length ≤ b.length)) ∨ (slices_Compare_string_L1 (p ++ b) a p.length = some 1 ∧ spec_CompareNames_L1 ⟨p ++ b⟩ a p.length = none ∧ b.length < a.length)
  | [], b, p => .inl ⟨rfl, fun _ => Nat.zero_le _⟩
  | x :: a, [], p => .inr (by simp [slices_Compare_string_L1, spec_CompareNames_L1])
  | x :: a, y :: b, p => by
    have ih := cCL a b (p ++ [y])
    rw [mid_app, mid_len] at ih
    have hlt : decide (((p.length : Nat) : Int) < (((p ++ y :: b).length : Nat) : Int)) = true := by simp; omega
    have hge : decide (((p.length : Nat) : Int) ≥ (((p ++ y :: b).length : Nat) : Int)) = false := by simp; omega
    simp only [spec_CompareNames_L1, slices_Compare_string_L1, hlt, hge, cond_true, cond_false, mid, cmp_l4, List.length_cons]
    cases (spec_l4Cmp x y != 0)
    · simp only [cond_false]
      rcases ih with ⟨h1, h2⟩ | ⟨h1, h2, h3⟩
      · exact .inl ⟨h1, fun h => by have := h2 h; omega⟩
      · exact .inr ⟨h1, h2, by omega⟩
    · exact .inl ⟨rfl, fun h => by cases h⟩
theorem same_CompareNames (a b : Name) : impl_CompareNames a b = spec_CompareNames a b := by
  unfold impl_CompareNames slices_Compare_string spec_CompareNames
  have h : (slices_Compare_string_L1 b.parts a.parts 0 = spec_CompareNames_L1 b a.parts 0 ∧ (spec_CompareNames_L1 b a.parts 0 = none → a.parts.length ≤ b.parts.length)) ∨ (slices_Compare_string_L1 b.parts a.parts 0 = some 1 ∧ spec_CompareNames_L1 b a.parts 0 = none ∧ b.parts.length < a.parts.length) := cCL a.parts b.parts []
  rcases h with ⟨h1, h2⟩ | ⟨h1, h2, h3⟩
  · rw [h1]
    cases hs : spec_CompareNames_L1 b a.parts 0 with
    | some k => rfl
    | none =>
      have := h2 hs
      have c : decide ((((a.parts).length : Nat) : Int) > (((b.parts).length : Nat) : Int)) = false := by simp; omega
      simp only [c, cond_false]
  · rw [h1, h2]
    have c : decide ((((a.parts).length : Nat) : Int) > (((b.parts).length : Nat) : Int)) = true := by simp; omega
    have d : decide ((((a.parts).length : Nat) : Int) < (((b.parts).length : Nat) : Int)) = false := by simp; omega
    simp only [c, d, cond_false, cond_true]
theorem vTL (l : List TableEntry) : ∀ (r : List TableEntry) (i : Nat), impl_ValidTable_L1 l r i = spec_ValidTable_L1 l r i
  | [], _ => rfl
  | x :: r, i => by simp only [impl_ValidTable_L1, spec_ValidTable_L1, same_ValidName, same_CompareNames, vTL l r]
theorem same_ValidTable (l : List TableEntry) : impl_ValidTable l = spec_ValidTable l := by
  unfold impl_ValidTable spec_ValidTable
  rw [vTL]
theorem iF_TableEntry : ∀ (f : TableEntry → Bool) (l : List TableEntry) (i : Nat), (slices_IndexFunc_TableEntry_L1 f l i = none ∧ l.any f = false) ∨ ∃ j : Nat, slices_IndexFunc_TableEntry_L1 f l i = some (j : Int) ∧ l.any f = true
  | f, [], i => .inl ⟨rfl, rfl⟩
  | f, x :: l, i => by
    simp only [slices_IndexFunc_TableEntry_L1, List.any_cons]
    cases hx : f x
    · simpa using iF_TableEntry f l (i + 1)
    · exact .inr ⟨i, rfl, rfl⟩
theorem cF_TableEntry (l : List TableEntry) (f : TableEntry → Bool) : slices_ContainsFunc_TableEntry l f = l.any f := by
  unfold slices_ContainsFunc_TableEntry slices_IndexFunc_TableEntry
  rcases iF_TableEntry f l 0 with ⟨h1, h2⟩ | ⟨j, h1, h2⟩ <;> simp [h1, h2]
theorem vVL : ∀ l : List TableEntry, spec_ValidVector_L1 l = bif l.any (fun e => !(spec_l1In e.value 1 1000)) then some false else none
  | [] => rfl
  | x :: l => by
    simp only [spec_ValidVector_L1, List.any_cons]
    cases (!(spec_l1In x.value 1 1000)) <;> simp [vVL l]
theorem same_ValidVector' (a : StateVector) : impl_ValidVector a = spec_ValidVector a := by
  unfold impl_ValidVector spec_ValidVector impl_ValidVector_c1
  rw [cF_TableEntry, vVL, same_ValidTable]
  simp only [same_In]
  cases a.entries.any (fun e => !(spec_l1In e.value 1 1000)) <;> cases spec_ValidTable a.entries <;> rfl
theorem ixL (n_ : Name) : ∀ (l : List TableEntry) (i : Nat), slices_IndexFunc_TableEntry_L1 (fun e0_ => impl_indexOfName_c1 n_ e0_) l i = spec_l6Find_L1 n_ l i
  | [], i => rfl
  | x :: l, i => by
    simp only [slices_IndexFunc_TableEntry_L1, spec_l6Find_L1]
    rw [ixL n_ l (i + 1), show impl_indexOfName_c1 n_ x = spec_EqualNames x.name n_ from same_EqualNames _ _]
theorem same_indexOfName (l : List TableEntry) (n_ : Name) : impl_indexOfName l n_ = spec_l6Find l n_ := by
  unfold impl_indexOfName slices_IndexFunc_TableEntry spec_l6Find
  rw [ixL] <;> (cases spec_l6Find_L1 n_ l 0 <;> rfl)
theorem same_LookupEntry (l : List TableEntry) (n_ : Name) : impl_LookupEntry l n_ = spec_LookupEntry l n_ := by
  simp only [impl_LookupEntry, spec_LookupEntry, same_indexOfName]
theorem same_SeqOf' (v : StateVector) (n_ : Name) : impl_SeqOf v n_ = spec_SeqOf v n_ := by
  simp only [impl_SeqOf, spec_SeqOf, same_LookupEntry]
theorem nTL (a : StateVector) (e1 : TableEntry) (m : Nat) (o : List TableEntry) (k : Int) (hm : 20 - o.length = m) : impl_NewerThan_L2 a e1 o k = spec_NewerThan_L2 a e1 o k := by
  rw [impl_NewerThan_L2, spec_NewerThan_L2, same_SeqOf']
  by_cases h1 : k < spec_SeqOf a e1.name
  · by_cases h2 : ((o.length : Nat) : Int) < 20
    · simp only [h1, h2, ↓reduceIte]
      exact nTL a e1 (m - 1) _ _ (by simp; omega)
    · simp only [h1, h2, ↓reduceIte]
  · simp only [h1, ↓reduceIte]
termination_by m
decreasing_by omega
theorem nTL1 (a b : StateVector) : ∀ (l o : List TableEntry), impl_NewerThan_L1 a b l o = spec_NewerThan_L1 a b l o
  | [], o => rfl
  | e :: l, o => by
    simp only [impl_NewerThan_L1, spec_NewerThan_L1, same_SeqOf', nTL a e _ o _ rfl]
    exact nTL1 a b l _
theorem same_NewerThan' (a b : StateVector) : impl_NewerThan a b = spec_NewerThan a b := by
  simp only [impl_NewerThan, spec_NewerThan, nTL1]
theorem vSL : ∀ (l : List TableEntry) (s : Int), impl_VectorSum_L1 l s = spec_VectorSum_L1 l s
  | [], _ => rfl
  | x :: l, s => vSL l _
theorem same_VectorSum' (v : StateVector) : impl_VectorSum v = spec_VectorSum v := vSL v.entries 0
theorem spL1 (l : List TableEntry) (n_ : Name) : ∀ (m i : Nat), l.length - i = m → i ≤ l.length → spec_PutEntry_L1 l n_ i = i + (l.drop i).findIdx (fun e => !decide (spec_CompareNames e.name n_ < 0))
  | 0, i, hm, hi => by
    rw [spec_PutEntry_L1, cT_spec]
    rw [if_neg (by omega), List.drop_eq_nil_of_le (by omega)]
    simp
  | m + 1, i, hm, hi => by
    have hlt : i < l.length := by omega
    have hg : l[i]? = some l[i] := List.getElem?_eq_getElem hlt
    rw [spec_PutEntry_L1, cT_spec]
    rw [if_pos (by omega), List.drop_eq_getElem_cons hlt, List.findIdx_cons]
    simp only [hg]
    by_cases hc : spec_CompareNames l[i].name n_ < 0
    · rw [if_pos hc, spL1 l n_ m (i + 1) (by omega) (by omega)]
      simp only [hc, decide_true, Bool.not_true, cond_false]
      omega
    · rw [if_neg hc]
      simp only [hc, decide_false, Bool.not_false, cond_true, Nat.add_zero]
theorem ifF (f : TableEntry → Bool) : ∀ (l : List TableEntry) (i : Nat), slices_IndexFunc_TableEntry_L1 f l i = if l.findIdx f < l.length then some ((i + l.findIdx f : Nat) : Int) else none
  | [], i => by simp [slices_IndexFunc_TableEntry_L1]
  | x :: l, i => by
    simp only [slices_IndexFunc_TableEntry_L1, List.findIdx_cons, List.length_cons]
    cases hx : f x
    · simp only [cond_false]
      rw [ifF f l (i + 1)]
      by_cases h : l.findIdx f < l.length
      · rw [if_pos h, if_pos (by omega), show i + 1 + l.findIdx f = i + (l.findIdx f + 1) by omega]
      · rw [if_neg h, if_neg (by omega)]
    · simp only [cond_true, Nat.add_zero]
      rw [if_pos (by omega)]
theorem fiC {f g : TableEntry → Bool} : ∀ {l : List TableEntry}, (∀ a ∈ l, f a = g a) → l.findIdx f = l.findIdx g
  | [], _ => rfl
  | x :: l, h => by
    rw [List.findIdx_cons, List.findIdx_cons, h x List.mem_cons_self, fiC (fun a ha => h a (List.mem_cons_of_mem _ ha))]
theorem l6N (n_ : Name) : ∀ (l : List TableEntry) (i : Nat), spec_l6Find_L1 n_ l i = none → ∀ a ∈ l, spec_EqualNames a.name n_ = false
  | [], i, h, a, ha => by cases ha
  | x :: l, i, h, a, ha => by
    simp only [spec_l6Find_L1] at h
    cases hx : spec_EqualNames x.name n_
    · rw [hx, cond_false] at h
      rcases List.mem_cons.1 ha with rfl | ha
      · exact hx
      · exact l6N n_ l (i + 1) h a ha
    · rw [hx, cond_true] at h
      cases h
theorem l6S (n_ : Name) : ∀ (l : List TableEntry) (i : Nat) (j : Int), spec_l6Find_L1 n_ l i = some j → 0 ≤ j
  | [], i, j, h => by cases h
  | x :: l, i, j, h => by
    simp only [spec_l6Find_L1] at h
    cases hx : spec_EqualNames x.name n_
    · rw [hx, cond_false] at h
      exact l6S n_ l (i + 1) j h
    · rw [hx, cond_true] at h
      cases h
      omega
theorem same_PutEntry (l : List TableEntry) (n_ : Name) (v : Int) : impl_PutEntry l n_ v = spec_PutEntry l n_ v := by
  unfold impl_PutEntry spec_PutEntry
  rw [cT_impl, cT_spec, same_indexOfName]
  cases hd : decide (spec_l6Find l n_ ≥ 0)
  · have hno : ∀ a ∈ l, spec_EqualNames a.name n_ = false := by
      cases hx : spec_l6Find_L1 n_ l 0 with
      | none => exact l6N n_ l 0 hx
      | some j =>
        have h1 := l6S n_ l 0 j hx
        have h2 := of_decide_eq_false hd
        have h3 : spec_l6Find l n_ = j := by unfold spec_l6Find; rw [hx]
        omega
    have hF : l.findIdx (fun e0_ => impl_PutEntry_c1 n_ e0_) = l.findIdx (fun e => !decide (spec_CompareNames e.name n_ < 0)) := fiC fun a ha => by
      have h1 := hno a ha
      unfold spec_EqualNames at h1
      have h2 : spec_CompareNames a.name n_ ≠ 0 := by simpa using h1
      unfold impl_PutEntry_c1
      rw [same_CompareNames]
      by_cases hc : spec_CompareNames a.name n_ < 0
      · rw [decide_eq_false (show ¬ spec_CompareNames a.name n_ > 0 by omega), decide_eq_true hc]; rfl
      · rw [decide_eq_true (show spec_CompareNames a.name n_ > 0 by omega), decide_eq_false hc]; rfl
    have hS := spL1 l n_ l.length 0 (Nat.sub_zero _) (Nat.zero_le _)
    rw [Nat.zero_add, List.drop_zero, ← hF] at hS
    have hle : l.findIdx (fun e0_ => impl_PutEntry_c1 n_ e0_) ≤ l.length := List.findIdx_le_length
    have hI := ifF (fun e0_ => impl_PutEntry_c1 n_ e0_) l 0
    simp only [cond_false, same_ValidTable, hS]
    by_cases hlt : l.findIdx (fun e0_ => impl_PutEntry_c1 n_ e0_) < l.length
    · rw [if_pos hlt, Nat.zero_add] at hI
      have hJ : slices_IndexFunc_TableEntry l (fun e0_ => impl_PutEntry_c1 n_ e0_) = ((l.findIdx (fun e0_ => impl_PutEntry_c1 n_ e0_) : Nat) : Int) := by unfold slices_IndexFunc_TableEntry; rw [hI]
      rw [hJ, decide_eq_false (show ¬ ((l.findIdx (fun e0_ => impl_PutEntry_c1 n_ e0_) : Nat) : Int) < 0 by omega), cond_false]
      unfold slices_Insert_TableEntry
      rw [Int.toNat_natCast]
      rfl
    · rw [if_neg hlt] at hI
      have hJ : slices_IndexFunc_TableEntry l (fun e0_ => impl_PutEntry_c1 n_ e0_) = -1 := by unfold slices_IndexFunc_TableEntry; rw [hI]
      have hE : l.findIdx (fun e0_ => impl_PutEntry_c1 n_ e0_) = l.length := by omega
      rw [hJ, show decide ((-1 : Int) < 0) = true from rfl, cond_true, hE]
      unfold slices_Insert_TableEntry
      rw [Int.toNat_natCast]
      rfl
  · simp only [cond_true, same_ValidTable]
theorem szL_append {α : Type} [GoT α] [Sz α] (a b : List α) : szL (a ++ b) = szL a + szL b := by simp [szL]
theorem szL_set {α : Type} [GoT α] [Sz α] (x y : α) (hxy : sz x = sz y) : ∀ (l : List α) (i : Nat), l[i]? = some y → szL (l.set i x) = szL l
  | [], i, h => by simp at h
  | z :: l, 0, h => by
    simp at h; subst h
    rw [List.set_cons_zero, szL_cons, szL_cons, hxy]
  | z :: l, i + 1, h => by
    rw [List.set_cons_succ, szL_cons, szL_cons, szL_set x y hxy l i (by simpa using h)]
theorem PutShape.size {l r : List TableEntry} {n_ : Name} {v : Int} (h : PutShape l n_ v r) : sz r ≤ sz l + 1 + sz n_ := by
  cases h with
  | same => omega
  | nil => simp [sz_list, szL_nil]
  | set i e h =>
    have := szL_set ⟨e.name, v⟩ e (by rw [sz_TableEntry, sz_TableEntry]) l i h
    rw [sz_list, sz_list, List.length_set, this]; omega
  | ins i =>
    have h1 := szL_append (l.take i) (l.drop i)
    rw [List.take_append_drop] at h1
    have h2 : szL [(⟨n_, v⟩ : TableEntry)] = sz n_ := by simp [szL, sz_TableEntry]
    rw [sz_list, sz_list, szL_append, szL_append, h2]
    simp only [List.length_append, List.length_take, List.length_drop, List.length_cons, List.length_nil]
    omega
theorem jvL : ∀ (l o : List TableEntry), impl_JoinVectors_L1 l o = spec_JoinVectors_L1 l o
  | [], o => rfl
  | x :: l, o => by
    simp only [impl_JoinVectors_L1, spec_JoinVectors_L1, same_SeqOf', same_PutEntry]
    cases decide (x.value > spec_SeqOf (StateVector.mk o) x.name) <;> exact jvL l _
theorem same_JoinVectors' (a b : StateVector) : impl_JoinVectors a b = spec_JoinVectors a b := by
  simp only [impl_JoinVectors, spec_JoinVectors, cT_impl, cT_spec, jvL]
end Go.Stp

namespace Go.Stp
set_option linter.unusedVariables false
set_option linter.unusedSimpArgs false
set_option maxRecDepth 100000 in
theorem m128 : ∀ m : Fin 256, m.val ||| 128 = ((m.val &&& 127) ||| 128) := by decide
theorem byteE {n : Int} (h : 0 ≤ n ∧ n ≤ 1000000000000) : ((toU8 n) ||| (128 : UInt8)) = toU8 (bitO .or (bitO .and n 127) 128) := by
  apply UInt8.toNat_inj.1
  have a1 : bitO .and n 127 = ((n.toNat &&& 127 : Nat) : Int) := by
    have h2 : (BitVec.ofInt 64 (127 : Int)).toNat = 127 := by decide
    have h3 : n.toNat &&& 127 ≤ 127 := Nat.and_le_right
    simp only [bitO, BitVec.toNat_and, ofI64 (x := n) (by omega), h2]
    exact i64w (by omega)
  have h3 : n.toNat &&& 127 ≤ 127 := Nat.and_le_right
  have h4 : (n.toNat &&& 127) ||| 128 < 2 ^ 8 := Nat.or_lt_two_pow (by omega) (by decide)
  have a2 : bitO .or (bitO .and n 127) 128 = ((((n.toNat &&& 127) ||| 128 : Nat)) : Int) := by
    have h2 : (BitVec.ofInt 64 (128 : Int)).toNat = 128 := by decide
    rw [a1]
    simp only [bitO, BitVec.toNat_or, ofI64 (x := ((n.toNat &&& 127 : Nat) : Int)) (by omega), h2, Int.toNat_natCast]
    exact i64w (by omega)
  rw [a2, UInt8.toNat_or]
  have b1 : (toU8 n).toNat = n.toNat % 256 := by
    unfold toU8
    rw [UInt8.toNat_ofNat']
    omega
  have b2 : (toU8 ((((n.toNat &&& 127) ||| 128 : Nat)) : Int)).toNat = (n.toNat &&& 127) ||| 128 := by
    unfold toU8
    rw [UInt8.toNat_ofNat']
    omega
  have b3 : ((128 : UInt8)).toNat = 128 := rfl
  rw [b1, b2, b3]
  have h5 := m128 ⟨n.toNat % 256, Nat.mod_lt _ (by decide)⟩
  dsimp only at h5
  rw [h5]
  have h6 : n.toNat % 256 &&& 127 = n.toNat &&& 127 := by
    rw [show (127 : Nat) = 2 ^ 7 - 1 from rfl, Nat.and_two_pow_sub_one_eq_mod, Nat.and_two_pow_sub_one_eq_mod]
    omega
  rw [h6]
theorem avE : ∀ (m : Nat) (n : Int) (out : List UInt8) (k : Nat), avI n k → 5 - k = m → impl_AppendVarint_L1 n out = spec_AppendVarint_L1 n out
  | 0, n, out, k, h, hm => by
    have h1 := avI_len h
    have h2 : n < 128 := by unfold avI at h; omega
    rw [impl_AppendVarint_L1, spec_AppendVarint_L1, if_neg (by omega), if_neg (by omega)]
  | m + 1, n, out, k, h, hm => by
    rw [impl_AppendVarint_L1, spec_AppendVarint_L1]
    by_cases hn : n ≥ 128
    · rw [if_pos hn, if_pos (by omega), sh7, byteE (avI_rng h)]
      exact avE m (n / 128) _ (k + 1) (avI_step h hn) (by omega)
    · rw [if_neg hn, if_neg (by omega)]
theorem same_AppendVarint (b : List UInt8) (n_ : Int) : impl_AppendVarint b n_ = spec_AppendVarint b n_ := by
  unfold impl_AppendVarint spec_AppendVarint
  rw [same_In]
  cases hr : spec_l1In n_ 0 1000000000000
  · rfl
  · rw [avE 5 n_ b 0 (avI_0 (inR_specP hr)) rfl]
theorem same_AppendBytes (b s : List UInt8) : impl_AppendBytes b s = spec_AppendBytes b s := by
  simp only [impl_AppendBytes, spec_AppendBytes, same_AppendVarint]
theorem anE : ∀ (l : List Str) (o : List UInt8), impl_AppendName_L1 l o = spec_AppendName_L1 l o
  | [], o => rfl
  | x :: l, o => by simp only [impl_AppendName_L1, spec_AppendName_L1, same_AppendBytes, anE l]
theorem same_AppendName (b : List UInt8) (n_ : Name) : impl_AppendName b n_ = spec_AppendName b n_ := by
  simp only [impl_AppendName, spec_AppendName, same_ValidName, same_AppendVarint, anE]
theorem evE : ∀ (l : List TableEntry) (o : List UInt8), impl_EncodeVector_L1 l o = spec_EncodeVector_L1 l o
  | [], o => rfl
  | x :: l, o => by simp only [impl_EncodeVector_L1, spec_EncodeVector_L1, same_AppendName, same_AppendVarint, evE l]
theorem same_EncodeVector' (v : StateVector) : impl_EncodeVector v = spec_EncodeVector v := by
  simp only [impl_EncodeVector, spec_EncodeVector, same_ValidVector', same_AppendVarint, evE]
theorem rvE (b : List UInt8) (at_ : Int) (ha : 0 ≤ at_) : ∀ (m i : Nat) (n_ : Int), (∃ r, impl_ReadVarint_L1 b m i (at_ + ((i : Nat) : Int)) n_ = .ret r ∧ spec_ReadVarint_L1 b at_ m i n_ = .ret r) ∨ ((∃ x, impl_ReadVarint_L1 b m i (at_ + ((i : Nat) : Int)) n_ = .nxt x) ∧ (spec_ReadVarint_L1 b at_ m i n_ = .ret (0, 0, false) ∨ ∃ y, spec_ReadVarint_L1 b at_ m i n_ = .nxt y))
  | 0, i, n_ => .inr ⟨⟨_, rfl⟩, .inr ⟨_, rfl⟩⟩
  | m + 1, i, n_ => by
    have ih := rvE b at_ ha m (i + 1)
    rw [show at_ + (((i + 1 : Nat)) : Int) = at_ + ((i : Nat) : Int) + 1 by omega] at ih
    simp only [impl_ReadVarint_L1, spec_ReadVarint_L1]
    rw [decide_eq_false (show ¬ at_ < 0 by omega), cond_false]
    by_cases hlt : at_ + ((i : Nat) : Int) < ((b.length : Nat) : Int)
    · rw [decide_eq_true hlt, decide_eq_false (show ¬ at_ ≥ ((b.length : Nat) : Int) - ((i : Nat) : Int) by omega), cond_true, cond_false]
      cases b[(at_ + ((i : Nat) : Int)).toNat]? with
      | none => exact .inl ⟨_, rfl, rfl⟩
      | some e1 =>
        dsimp only
        generalize bitO .or n_ (IntKind.i64.wrap ((bitO .and ((e1).toNat : Int) 127) * 2 ^ (min (Int.toNat (7 * ((i : Nat) : Int))) 64))) = v
        cases decide (((e1).toNat : Int) < 128)
        · exact ih v
        · cases (((e1).toNat : Int) == 0) <;> cases decide (((i : Nat) : Int) > 0) <;> cases decide (v > 1000000000000) <;> exact .inl ⟨_, rfl, rfl⟩
    · rw [decide_eq_false hlt, decide_eq_true (show at_ ≥ ((b.length : Nat) : Int) - ((i : Nat) : Int) by omega), cond_true, cond_false]
      exact .inr ⟨⟨_, rfl⟩, .inl rfl⟩
theorem same_ReadVarint (b : List UInt8) (at_ : Int) : impl_ReadVarint b at_ = spec_ReadVarint b at_ := by
  unfold impl_ReadVarint spec_ReadVarint
  by_cases ha : at_ < 0
  · rw [decide_eq_true ha, cond_true]
    have : spec_ReadVarint_L1 b at_ 6 0 0 = .ret (0, 0, false) := by
      simp only [spec_ReadVarint_L1]
      rw [decide_eq_true ha, cond_true]
    rw [this]
  · rw [decide_eq_false ha, cond_false]
    have h := rvE b at_ (by omega) 6 0 0
    rw [show at_ + (((0 : Nat)) : Int) = at_ by omega] at h
    rcases h with ⟨r, h1, h2⟩ | ⟨⟨x, h1⟩, h2 | ⟨y, h2⟩⟩
    · rw [h1, h2]
    · rw [h1, h2]
    · rw [h1, h2]
theorem same_ReadBytes (b : List UInt8) (at_ most : Int) : impl_ReadBytes b at_ most = spec_ReadBytes b at_ most := by
  simp only [impl_ReadBytes, spec_ReadBytes, same_ReadVarint]
theorem rnE (b : List UInt8) : ∀ (m : Nat) (nx : Int) (o : List Str), impl_ReadName_L1 b m nx o = spec_ReadName_L1 b m nx o
  | 0, nx, o => rfl
  | m + 1, nx, o => by simp only [impl_ReadName_L1, spec_ReadName_L1, same_ReadBytes, rnE b m]
theorem same_ReadName (b : List UInt8) (at_ : Int) : impl_ReadName b at_ = spec_ReadName b at_ := by
  simp only [impl_ReadName, spec_ReadName, same_ReadVarint, same_ValidName, rnE]
theorem dvE (b : List UInt8) : ∀ (m : Nat) (a : Int) (v : List TableEntry), impl_DecodeVector_L1 b m a v = spec_DecodeVector_L1 b m a v
  | 0, a, v => rfl
  | m + 1, a, v => by simp only [impl_DecodeVector_L1, spec_DecodeVector_L1, same_ReadName, same_ReadVarint, dvE b m]
theorem same_DecodeVector' (b : List UInt8) : impl_DecodeVector b = spec_DecodeVector b := by
  simp only [impl_DecodeVector, spec_DecodeVector, same_ReadVarint, same_ValidVector', dvE]
end Go.Stp

namespace Go.Stp
set_option linter.unusedVariables false
set_option linter.unusedSimpArgs false
theorem str_ext {x y : Str} (h : x.toList = y.toList) : x = y := by
  cases x with
  | mk a =>
    cases y with
    | mk b =>
      rw [ByteArray.toList_mk, ByteArray.toList_mk] at h
      rw [Array.toList_inj.1 h]
theorem bL_trans : ∀ a b c : List UInt8, Op.bytesLess a b = true → Op.bytesLess b c = true → Op.bytesLess a c = true
  | _, [], _, h, _ => by simp [Op.bytesLess] at h
  | [], _ :: _, [], _, h => by simp [Op.bytesLess] at h
  | [], _ :: _, _ :: _, _, _ => rfl
  | _ :: _, _ :: _, [], _, h => by simp [Op.bytesLess] at h
  | a :: x, b :: y, c :: z, h1, h2 => by
    simp only [Op.bytesLess, Bool.or_eq_true, Bool.and_eq_true, decide_eq_true_eq, beq_iff_eq] at h1 h2 ⊢
    rcases h1 with h1 | ⟨e1, h1⟩
    · rcases h2 with h2 | ⟨e2, h2⟩
      · exact .inl (UInt8.lt_trans h1 h2)
      · exact .inl (e2 ▸ h1)
    · rcases h2 with h2 | ⟨e2, h2⟩
      · exact .inl (e1 ▸ h2)
      · exact .inr ⟨e1.trans e2, bL_trans x y z h1 h2⟩
theorem bL_tot : ∀ a b : List UInt8, Op.bytesLess a b = false → a ≠ b → Op.bytesLess b a = true
  | [], [], _, h => absurd rfl h
  | [], _ :: _, h, _ => by simp [Op.bytesLess] at h
  | _ :: _, [], _, _ => rfl
  | a :: x, b :: y, h, hn => by
    simp only [Op.bytesLess, Bool.or_eq_false_iff, Bool.and_eq_false_iff, decide_eq_false_iff_not, beq_eq_false_iff_ne] at h
    simp only [Op.bytesLess, Bool.or_eq_true, Bool.and_eq_true, decide_eq_true_eq, beq_iff_eq]
    by_cases e : a = b
    · subst e
      exact .inr ⟨rfl, bL_tot x y (h.2.resolve_left (fun h => h rfl)) (fun e => hn (by rw [e]))⟩
    · exact .inl (UInt8.lt_of_le_of_ne (UInt8.not_lt.1 h.1) (fun h => e h.symm))
theorem l4_lt {x y : Str} (h : Op.bytesLess x.toList y.toList = true) : spec_l4Cmp x y = -1 := by unfold spec_l4Cmp; rw [h]; rfl
theorem l4_eq (x : Str) : spec_l4Cmp x x = 0 := by unfold spec_l4Cmp; rw [bytesLess_self]; simp
theorem l4_gt {x y : Str} (h : Op.bytesLess y.toList x.toList = true) : spec_l4Cmp x y = 1 := by
  unfold spec_l4Cmp
  cases h2 : Op.bytesLess x.toList y.toList
  · have hn : (x.toList == y.toList) = false := by
      simp only [beq_eq_false_iff_ne]
      intro e
      rw [e, bytesLess_self] at h
      cases h
    rw [hn]; rfl
  · have := bL_trans _ _ _ h h2
    rw [bytesLess_self] at this
    cases this
theorem l4_cases (x y : Str) : (spec_l4Cmp x y = -1 ∧ Op.bytesLess x.toList y.toList = true) ∨ (spec_l4Cmp x y = 0 ∧ x = y) ∨ (spec_l4Cmp x y = 1 ∧ Op.bytesLess y.toList x.toList = true) := by
  cases h : Op.bytesLess x.toList y.toList
  · by_cases e : x.toList = y.toList
    · have := str_ext e
      subst this
      exact .inr (.inl ⟨l4_eq x, rfl⟩)
    · have h2 := bL_tot _ _ h e
      exact .inr (.inr ⟨l4_gt h2, h2⟩)
  · exact .inl ⟨l4_lt h, rfl⟩
def kc : List Str → List Str → Int
  | [], [] => 0
  | [], _ :: _ => -1
  | _ :: _, [] => 1
  | x :: a, y :: b => bif spec_l4Cmp x y != 0 then spec_l4Cmp x y else kc a b
theorem kc_lt {x y : Str} {a b : List Str} (h : spec_l4Cmp x y = -1) : kc (x :: a) (y :: b) = -1 := by simp [kc, h]
theorem kc_gt {x y : Str} {a b : List Str} (h : spec_l4Cmp x y = 1) : kc (x :: a) (y :: b) = 1 := by simp [kc, h]
theorem kc_eq (x : Str) (a b : List Str) : kc (x :: a) (x :: b) = kc a b := by simp [kc, l4_eq]
theorem kc_self : ∀ a : List Str, kc a a = 0
  | [] => rfl
  | x :: a => by rw [kc_eq, kc_self a]
theorem kc_zero : ∀ {a b : List Str}, kc a b = 0 → a = b
  | [], [], _ => rfl
  | [], _ :: _, h => by simp [kc] at h
  | _ :: _, [], h => by simp [kc] at h
  | x :: a, y :: b, h => by
    rcases l4_cases x y with ⟨e, _⟩ | ⟨_, e⟩ | ⟨e, _⟩
    · rw [kc_lt e] at h; cases h
    · subst e; rw [kc_eq] at h; rw [kc_zero h]
    · rw [kc_gt e] at h; cases h
theorem kc_anti : ∀ a b : List Str, kc b a = - kc a b
  | [], [] => rfl
  | [], _ :: _ => rfl
  | _ :: _, [] => rfl
  | x :: a, y :: b => by
    rcases l4_cases x y with ⟨e, l⟩ | ⟨_, e⟩ | ⟨e, l⟩
    · rw [kc_lt e, kc_gt (l4_gt l)]; rfl
    · subst e; rw [kc_eq, kc_eq, kc_anti a b]
    · rw [kc_gt e, kc_lt (l4_lt l)]
theorem kc_trans : ∀ {a b c : List Str}, kc a b < 0 → kc b c < 0 → kc a c < 0
  | [], [], _, h, _ => by simp [kc] at h
  | [], _ :: _, [], _, h => by simp [kc] at h
  | [], _ :: _, _ :: _, _, _ => by simp [kc]
  | _ :: _, [], _, h, _ => by simp [kc] at h
  | _ :: _, _ :: _, [], _, h => by simp [kc] at h
  | x :: a, y :: b, z :: c, h1, h2 => by
    rcases l4_cases x y with ⟨e, l⟩ | ⟨_, e⟩ | ⟨e, _⟩
    · rcases l4_cases y z with ⟨e2, l2⟩ | ⟨_, e2⟩ | ⟨e2, _⟩
      · rw [kc_lt (l4_lt (bL_trans _ _ _ l l2))]; decide
      · subst e2; rw [kc_lt e]; decide
      · rw [kc_gt e2] at h2; exact absurd h2 (by decide)
    · subst e
      rcases l4_cases x z with ⟨e2, l2⟩ | ⟨_, e2⟩ | ⟨e2, _⟩
      · rw [kc_lt e2]; decide
      · subst e2; rw [kc_eq] at h1 h2 ⊢; exact kc_trans h1 h2
      · rw [kc_gt e2] at h2; exact absurd h2 (by decide)
    · rw [kc_gt e] at h1; exact absurd h1 (by decide)
theorem kc_irr {a : List Str} (h : kc a a < 0) : False := by rw [kc_self] at h; exact absurd h (by decide)
theorem kcL : ∀ (a b p : List Str), (match spec_CompareNames_L1 ⟨p ++ b⟩ a p.length with
    | some r => r
    | none => bif decide (((p.length + a.length : Nat) : Int) < (((p ++ b).length : Nat) : Int)) then -1 else bif decide (((p.length + a.length : Nat) : Int) > (((p ++ b).length : Nat) : Int)) then 1 else 0) = kc a b
  | [], [], p => by simp [spec_CompareNames_L1, kc]
  | [], y :: b, p => by
    have : decide (((p.length + ([] : List Str).length : Nat) : Int) < (((p ++ y :: b).length : Nat) : Int)) = true := by simp; omega
    simp only [spec_CompareNames_L1, this, cond_true, kc]
  | x :: a, [], p => by
    have h0 : decide (((p.length : Nat) : Int) < (((p ++ ([] : List Str)).length : Nat) : Int)) = false := by simp
    have h1 : decide (((p.length + (x :: a).length : Nat) : Int) < (((p ++ ([] : List Str)).length : Nat) : Int)) = false := by simp; omega
    have h2 : decide (((p.length + (x :: a).length : Nat) : Int) > (((p ++ ([] : List Str)).length : Nat) : Int)) = true := by simp; omega
    simp only [spec_CompareNames_L1, h0, h1, h2, cond_true, cond_false, kc]
  | x :: a, y :: b, p => by
    have ih := kcL a b (p ++ [y])
    rw [mid_app, mid_len] at ih
    have hlt : decide (((p.length : Nat) : Int) < (((p ++ y :: b).length : Nat) : Int)) = true := by simp; omega
    have hl : p.length + (x :: a).length = p.length + 1 + a.length := by simp; omega
    rw [hl]
    simp only [spec_CompareNames_L1, hlt, cond_true, mid, kc]
    cases h : (spec_l4Cmp x y != 0)
    · simp only [cond_false]; exact ih
    · simp only [cond_true]
theorem cmpN (a b : Name) : spec_CompareNames a b = kc a.parts b.parts := by
  have h := kcL a.parts b.parts []
  simp only [List.nil_append, List.length_nil, Nat.zero_add] at h
  exact h
theorem eqN (a b : Name) : spec_EqualNames a b = decide (a.parts = b.parts) := by
  unfold spec_EqualNames
  rw [cmpN]
  by_cases e : a.parts = b.parts
  · rw [e, kc_self]; simp
  · have : (kc a.parts b.parts == 0) = false := by
      simp only [beq_eq_false_iff_ne]
      exact fun h => e (kc_zero h)
    rw [this]; simp [e]
def sq : List TableEntry → List Str → Int
  | [], _ => 0
  | e :: l, k => if e.name.parts = k then e.value else sq l k
theorem sq_none : ∀ {l : List TableEntry} {k : List Str}, (∀ e ∈ l, e.name.parts ≠ k) → sq l k = 0
  | [], k, _ => rfl
  | e :: l, k, h => by rw [sq, if_neg (h e List.mem_cons_self), sq_none (fun d hd => h d (List.mem_cons_of_mem _ hd))]
theorem sq_at : ∀ {l : List TableEntry} {k : List Str} {j : Nat} {e : TableEntry}, l[j]? = some e → e.name.parts = k → (∀ d ∈ l.take j, d.name.parts ≠ k) → sq l k = e.value
  | e :: l, k, 0, e', h, hk, _ => by
    simp at h; subst h
    rw [sq, if_pos hk]
  | d :: l, k, j + 1, e, h, hk, hn => by
    rw [sq, if_neg (hn d (by rw [List.take_succ_cons]; exact List.mem_cons_self)), sq_at (by simpa using h) hk (fun x hx => hn x (by rw [List.take_succ_cons]; exact List.mem_cons_of_mem _ hx))]
theorem l6F (n : Name) : ∀ (l : List TableEntry) (i : Nat), (spec_l6Find_L1 n l i = none ∧ ∀ e ∈ l, e.name.parts ≠ n.parts) ∨ ∃ j e, spec_l6Find_L1 n l i = some ((i + j : Nat) : Int) ∧ l[j]? = some e ∧ e.name.parts = n.parts ∧ ∀ d ∈ l.take j, d.name.parts ≠ n.parts
  | [], i => .inl ⟨rfl, fun e h => by cases h⟩
  | x :: l, i => by
    simp only [spec_l6Find_L1, eqN]
    by_cases hx : x.name.parts = n.parts
    · exact .inr ⟨0, x, by simp [hx], rfl, hx, fun d hd => by simp at hd⟩
    · rcases l6F n l (i + 1) with ⟨h1, h2⟩ | ⟨j, e, h1, h2, h3, h4⟩
      · refine .inl ⟨by simp [hx, h1], fun e he => ?_⟩
        rcases List.mem_cons.1 he with rfl | he
        · exact hx
        · exact h2 e he
      · refine .inr ⟨j + 1, e, by simp only [hx, decide_false, cond_false, h1]; congr 2; omega, by simpa using h2, h3, fun d hd => ?_⟩
        rw [List.take_succ_cons] at hd
        rcases List.mem_cons.1 hd with rfl | hd
        · exact hx
        · exact h4 d hd
theorem l6Fd (n : Name) (l : List TableEntry) : (spec_l6Find l n = -1 ∧ ∀ e ∈ l, e.name.parts ≠ n.parts) ∨ ∃ j e, spec_l6Find l n = ((j : Nat) : Int) ∧ l[j]? = some e ∧ e.name.parts = n.parts ∧ ∀ d ∈ l.take j, d.name.parts ≠ n.parts := by
  unfold spec_l6Find
  rcases l6F n l 0 with ⟨h1, h2⟩ | ⟨j, e, h1, h2⟩
  · rw [h1]; exact .inl ⟨rfl, h2⟩
  · rw [h1]; exact .inr ⟨j, e, by simp, h2⟩
theorem seqOf (v : StateVector) (n : Name) : spec_SeqOf v n = sq v.entries n.parts := by
  unfold spec_SeqOf spec_LookupEntry
  rcases l6Fd n v.entries with ⟨h1, h2⟩ | ⟨j, e, h1, h2, h3, h4⟩
  · rw [h1, sq_none h2]; rfl
  · rw [h1, sq_at h2 h3 h4]
    have : decide (((j : Nat) : Int) < 0) = false := by simp
    simp only [this, cond_false, Int.toNat_natCast, h2]
def Srt (l : List TableEntry) : Prop := (l.map (fun e => e.name.parts)).Pairwise (fun a b => kc a b < 0)
theorem Srt.cons {e : TableEntry} {l : List TableEntry} : Srt (e :: l) ↔ (∀ d ∈ l, kc e.name.parts d.name.parts < 0) ∧ Srt l := by
  unfold Srt
  rw [List.map_cons, List.pairwise_cons]
  constructor
  · exact fun h => ⟨fun d hd => h.1 _ (List.mem_map_of_mem hd), h.2⟩
  · refine fun h => ⟨fun k hk => ?_, h.2⟩
    obtain ⟨d, hd, rfl⟩ := List.mem_map.1 hk
    exact h.1 d hd
theorem vtL : ∀ (r p : List TableEntry), (∀ e ∈ r, spec_ValidName e.name = true) → Srt (p ++ r) → spec_ValidTable_L1 (p ++ r) r p.length = none
  | [], p, _, _ => rfl
  | e :: r, p, hv, hs => by
    have ih := vtL r (p ++ [e]) (fun d hd => hv d (List.mem_cons_of_mem _ hd)) (by rw [mid_app]; exact hs)
    rw [mid_app, mid_len] at ih
    have h1 : (!(spec_ValidName e.name)) = false := by rw [hv e List.mem_cons_self]; rfl
    simp only [spec_ValidTable_L1, h1, cond_false, ih]
    rcases List.eq_nil_or_concat p with rfl | ⟨q, d, rfl⟩
    · rfl
    · have h2 : decide ((((q.concat d).length : Nat) : Int) > 0) = true := by first | (simp; done) | (simp; omega)
      have h3 : (q.concat d ++ e :: r)[((((q.concat d).length : Nat) : Int) - 1).toNat]? = some d := by
        rw [show ((((q.concat d).length : Nat) : Int) - 1).toNat = q.length by simp, List.concat_eq_append, List.append_assoc]
        exact mid q d _
      have h4 : kc d.name.parts e.name.parts < 0 := by
        unfold Srt at hs
        rw [List.map_append, List.pairwise_append] at hs
        exact hs.2.2 _ (List.mem_map_of_mem (show d ∈ q.concat d by simp)) _ (List.mem_map_of_mem List.mem_cons_self)
      have h5 : decide (spec_CompareNames d.name e.name ≥ 0) = false := by
        rw [cmpN]
        exact decide_eq_false (by omega)
      simp only [h2, cond_true, h3, h5, cond_false]
theorem vt_of {l : List TableEntry} (hv : ∀ e ∈ l, spec_ValidName e.name = true) (hs : Srt l) (hl : l.length ≤ 20) : spec_ValidTable l = true := by
  unfold spec_ValidTable
  have h := vtL l [] hv hs
  simp only [List.nil_append, List.length_nil] at h
  rw [h]
  exact decide_eq_true (by omega)
def insT (x : TableEntry) : List TableEntry → List TableEntry
  | [] => [x]
  | e :: l => if kc e.name.parts x.name.parts < 0 then e :: insT x l else x :: e :: l
theorem mem_insT {x d : TableEntry} : ∀ {l : List TableEntry}, d ∈ insT x l → d = x ∨ d ∈ l
  | [], h => .inl (List.mem_singleton.1 h)
  | e :: l, h => by
    rw [insT] at h
    split at h
    · rcases List.mem_cons.1 h with rfl | h
      · exact .inr List.mem_cons_self
      · exact (mem_insT h).imp id (List.mem_cons_of_mem _)
    · exact (List.mem_cons.1 h)
theorem insT_idx (x : TableEntry) : ∀ l : List TableEntry, l.take (l.findIdx (fun e => !decide (spec_CompareNames e.name x.name < 0))) ++ [x] ++ l.drop (l.findIdx (fun e => !decide (spec_CompareNames e.name x.name < 0))) = insT x l
  | [] => rfl
  | e :: l => by
    rw [List.findIdx_cons, insT, cmpN]
    by_cases h : kc e.name.parts x.name.parts < 0
    · simp only [h, decide_true, Bool.not_true, cond_false, if_true, List.take_succ_cons, List.drop_succ_cons, List.cons_append]
      rw [insT_idx x l]
    · simp only [h, decide_false, Bool.not_false, cond_true, if_false, List.take_zero, List.drop_zero, List.nil_append, List.cons_append]
theorem insT_srt (x : TableEntry) : ∀ {l : List TableEntry}, Srt l → (∀ e ∈ l, e.name.parts ≠ x.name.parts) → Srt (insT x l)
  | [], _, _ => Srt.cons.2 ⟨fun d h => (by cases h), List.Pairwise.nil⟩
  | e :: l, hs, hn => by
    obtain ⟨h1, h2⟩ := Srt.cons.1 hs
    rw [insT]
    split
    · rename_i h
      refine Srt.cons.2 ⟨fun d hd => ?_, insT_srt x h2 (fun d hd => hn d (List.mem_cons_of_mem _ hd))⟩
      rcases mem_insT hd with rfl | hd
      · exact h
      · exact h1 d hd
    · rename_i h
      have h0 : kc x.name.parts e.name.parts < 0 := by
        have := kc_anti e.name.parts x.name.parts
        have h3 : kc e.name.parts x.name.parts ≠ 0 := fun hz => hn e List.mem_cons_self (kc_zero hz)
        omega
      refine Srt.cons.2 ⟨fun d hd => ?_, hs⟩
      rcases List.mem_cons.1 hd with rfl | hd
      · exact h0
      · exact kc_trans h0 (h1 d hd)
theorem insT_sq (x : TableEntry) (k : List Str) : ∀ {l : List TableEntry}, (∀ e ∈ l, e.name.parts ≠ x.name.parts) → sq (insT x l) k = if x.name.parts = k then x.value else sq l k
  | [], _ => rfl
  | e :: l, hn => by
    rw [insT]
    split
    · rw [sq, insT_sq x k (fun d hd => hn d (List.mem_cons_of_mem _ hd)), sq]
      by_cases h1 : e.name.parts = k
      · rw [if_pos h1, if_pos h1, if_neg (fun h2 => hn e List.mem_cons_self (h1.trans h2.symm))]
      · rw [if_neg h1, if_neg h1]
    · rw [sq]
theorem insT_len (x : TableEntry) : ∀ l : List TableEntry, (insT x l).length = l.length + 1
  | [] => rfl
  | e :: l => by
    rw [insT]
    split
    · rw [List.length_cons, insT_len x l, List.length_cons]
    · rfl
theorem set_names {l : List TableEntry} {j : Nat} {e : TableEntry} (v : Int) (h : l[j]? = some e) : (l.set j ⟨e.name, v⟩).map (fun e => e.name.parts) = l.map (fun e => e.name.parts) := by
  apply List.ext_getElem?
  intro i
  rw [List.getElem?_map, List.getElem?_map, List.getElem?_set]
  by_cases hij : j = i
  · subst hij
    obtain ⟨hlt, h9⟩ := List.getElem?_eq_some_iff.1 h
    simp [hlt, h9]
  · simp [hij]
theorem set_sq (v : Int) (k : List Str) : ∀ {l : List TableEntry} {j : Nat} {e : TableEntry}, l[j]? = some e → (∀ d ∈ l.take j, d.name.parts ≠ e.name.parts) → sq (l.set j ⟨e.name, v⟩) k = if e.name.parts = k then v else sq l k
  | d :: l, 0, e, h, _ => by
    simp at h; subst h
    rw [List.set_cons_zero, sq, sq]
    by_cases h1 : d.name.parts = k
    · rw [if_pos h1, if_pos h1]
    · rw [if_neg h1, if_neg h1, if_neg h1]
  | d :: l, j + 1, e, h, hn => by
    rw [List.set_cons_succ, sq, set_sq v k (l := l) (j := j) (by simpa using h) (fun x hx => hn x (by rw [List.take_succ_cons]; exact List.mem_cons_of_mem _ hx)), sq]
    by_cases h1 : d.name.parts = k
    · rw [if_pos h1, if_pos h1, if_neg (fun h2 => hn d (by rw [List.take_succ_cons]; exact List.mem_cons_self) (h1.trans h2.symm))]
    · rw [if_neg h1, if_neg h1]
def Gd (m : Nat) (l : List TableEntry) : Prop := (∀ e ∈ l, spec_ValidName e.name = true ∧ 1 ≤ e.value ∧ e.value ≤ 1000) ∧ Srt l ∧ l.length ≤ m
theorem Gd.nil : Gd 0 [] := ⟨fun e h => (by cases h), List.Pairwise.nil, Nat.le_refl _⟩
theorem Gd.mono {m n : Nat} {l : List TableEntry} (h : Gd m l) (hmn : m ≤ n) : Gd n l := ⟨h.1, h.2.1, Nat.le_trans h.2.2 hmn⟩
theorem Gd.vt {m : Nat} {l : List TableEntry} (h : Gd m l) (hm : m ≤ 20) : spec_ValidTable l = true := vt_of (fun e he => (h.1 e he).1) h.2.1 (Nat.le_trans h.2.2 hm)
theorem put_gd {m : Nat} {l : List TableEntry} (h : Gd m l) (hm : m + 1 ≤ 20) (n : Name) (v : Int) (hn : spec_ValidName n = true) (hv : 1 ≤ v ∧ v ≤ 1000) :
    Gd (m + 1) (spec_PutEntry l n v).1 ∧ ∀ k, sq (spec_PutEntry l n v).1 k = if n.parts = k then v else sq l k := by
  unfold spec_PutEntry
  rw [cT_spec]
  rcases l6Fd n l with ⟨h1, h2⟩ | ⟨j, e, h1, h2, h3, h4⟩
  · have hd : decide (spec_l6Find l n ≥ 0) = false := by rw [h1]; rfl
    have hc : spec_l4Copy n = n := rfl
    have hi := spL1 l n l.length 0 rfl (Nat.zero_le _)
    rw [Nat.zero_add, List.drop_zero] at hi
    rw [hd, hi, hc]
    simp only [cond_false]
    rw [insT_idx ⟨n, v⟩ l]
    have hg : Gd (m + 1) (insT ⟨n, v⟩ l) := ⟨fun e he => by
      rcases mem_insT he with rfl | he
      · exact ⟨hn, hv⟩
      · exact h.1 e he, insT_srt _ h.2.1 h2, by rw [insT_len]; have := h.2.2; omega⟩
    rw [hg.vt hm]
    simp only [Bool.not_true, cond_false]
    exact ⟨hg, fun k => insT_sq _ k h2⟩
  · have hd : decide (spec_l6Find l n ≥ 0) = true := by rw [h1]; simp
    rw [hd, h1]
    simp only [cond_true, Int.toNat_natCast, h2]
    have hg : Gd (m + 1) (l.set j ⟨e.name, v⟩) := ⟨fun d hd => by
      rcases List.mem_or_eq_of_mem_set hd with hd | rfl
      · exact h.1 d hd
      · exact ⟨(h.1 e (List.mem_of_getElem? h2)).1, hv⟩, by unfold Srt; rw [set_names v h2]; exact h.2.1, by rw [List.length_set]; have := h.2.2; omega⟩
    rw [hg.vt hm]
    simp only [Bool.not_true, cond_false]
    exact ⟨hg, fun k => by rw [set_sq v k h2 (fun d hd => by rw [h3]; exact h4 d hd), h3]⟩
theorem sq_nn {m : Nat} {l : List TableEntry} (h : Gd m l) (k : List Str) : 0 ≤ sq l k := by
  have h1 := h.1
  clear h
  induction l with
  | nil => exact Int.le_refl _
  | cons e l ih =>
    rw [sq]
    split
    · have := (h1 e List.mem_cons_self).2.1; omega
    · exact ih (fun d hd => h1 d (List.mem_cons_of_mem _ hd))
theorem sq_mem {m : Nat} {l : List TableEntry} (h : Gd m l) {e : TableEntry} (he : e ∈ l) : sq l e.name.parts = e.value := by
  have h2 := h.2.1
  clear h
  induction l with
  | nil => cases he
  | cons d l ih =>
    obtain ⟨h3, h4⟩ := Srt.cons.1 h2
    rw [sq]
    rcases List.mem_cons.1 he with rfl | he
    · rw [if_pos rfl]
    · rw [if_neg (fun e0 => kc_irr (by have := h3 e he; rw [e0] at this; exact this)), ih he h4]
theorem Gd.tail {m : Nat} {e : TableEntry} {l : List TableEntry} (h : Gd m (e :: l)) : Gd m l := ⟨fun d hd => h.1 d (List.mem_cons_of_mem _ hd), (Srt.cons.1 h.2.1).2, by have := h.2.2; rw [List.length_cons] at this; omega⟩
theorem sq_out {m : Nat} {e : TableEntry} {l : List TableEntry} (h : Gd m (e :: l)) {k : List Str} (hk : k = e.name.parts ∨ kc k e.name.parts < 0) : sq l k = 0 := by
  refine sq_none fun d hd e0 => ?_
  have h1 := (Srt.cons.1 h.2.1).1 d hd
  rw [e0] at h1
  rcases hk with rfl | hk
  · exact kc_irr h1
  · exact kc_irr (kc_trans hk h1)
theorem gd_ext : ∀ {m n : Nat} {l l' : List TableEntry}, Gd m l → Gd n l' → (∀ k, sq l k = sq l' k) → l = l'
  | m, n, [], [], _, _, _ => rfl
  | m, n, [], e :: l', _, h, he => by
    have h1 := he e.name.parts
    rw [sq_mem h List.mem_cons_self] at h1
    have := (h.1 e List.mem_cons_self).2.1
    have h2 : sq [] e.name.parts = 0 := rfl
    omega
  | m, n, e :: l, [], h, _, he => by
    have h1 := he e.name.parts
    rw [sq_mem h List.mem_cons_self] at h1
    have := (h.1 e List.mem_cons_self).2.1
    have h2 : sq [] e.name.parts = 0 := rfl
    omega
  | m, n, e :: l, e' :: l', h, h', he => by
    have p1 := (h.1 e List.mem_cons_self).2.1
    have p2 := (h'.1 e' List.mem_cons_self).2.1
    have k1 := he e.name.parts
    have k2 := he e'.name.parts
    rw [sq_mem h List.mem_cons_self] at k1
    rw [sq_mem h' List.mem_cons_self] at k2
    by_cases hk : e.name.parts = e'.name.parts
    · have hv : e.value = e'.value := by rw [k1, hk, sq_mem h' List.mem_cons_self]
      have hee : e = e' := by
        cases e with
        | mk ne ve =>
          cases e' with
          | mk ne' ve' =>
            cases ne
            cases ne'
            simp only at hk hv
            subst hk
            subst hv
            rfl
      subst hee
      rw [gd_ext h.tail h'.tail (fun k => by
        by_cases h0 : k = e.name.parts
        · rw [sq_out h (.inl h0), sq_out h' (.inl h0)]
        · have := he k
          rw [sq, sq, if_neg (fun z => h0 z.symm), if_neg (fun z => h0 z.symm)] at this
          exact this)]
    · exfalso
      by_cases hlt : kc e.name.parts e'.name.parts < 0
      · rw [sq, if_neg (fun z => hk z.symm), sq_out h' (.inr hlt)] at k1
        omega
      · have hgt : kc e'.name.parts e.name.parts < 0 := by
          have a1 := kc_anti e.name.parts e'.name.parts
          have a2 : kc e.name.parts e'.name.parts ≠ 0 := fun z => hk (kc_zero z)
          omega
        rw [sq, if_neg hk, sq_out h (.inr hgt)] at k2
        omega
def mx : List TableEntry → List Str → Int
  | [], _ => 0
  | e :: l, k => max (if e.name.parts = k then e.value else 0) (mx l k)
theorem mx_sq {m : Nat} : ∀ {l : List TableEntry}, Gd m l → ∀ k, mx l k = sq l k
  | [], _, k => rfl
  | e :: l, h, k => by
    rw [mx, mx_sq h.tail k, sq]
    have h0 := sq_nn h.tail k
    have h1 := (h.1 e List.mem_cons_self).2.1
    by_cases hk : e.name.parts = k
    · rw [if_pos hk, if_pos hk, sq_out h (.inl hk.symm)]; omega
    · rw [if_neg hk, if_neg hk]; omega
theorem joinL : ∀ (bs : List TableEntry) {m : Nat} {l : List TableEntry}, Gd m l → m + bs.length ≤ 20 → (∀ e ∈ bs, spec_ValidName e.name = true ∧ 1 ≤ e.value ∧ e.value ≤ 1000) →
    Gd (m + bs.length) (spec_JoinVectors_L1 bs l) ∧ ∀ k, sq (spec_JoinVectors_L1 bs l) k = max (sq l k) (mx bs k)
  | [], m, l, h, _, _ => ⟨h, fun k => by
    have := sq_nn h k
    show sq l k = max (sq l k) 0
    omega⟩
  | e :: bs, m, l, h, hm, hb => by
    rw [List.length_cons] at hm ⊢
    obtain ⟨v1, v2, v3⟩ := hb e List.mem_cons_self
    have hb' : ∀ d ∈ bs, spec_ValidName d.name = true ∧ 1 ≤ d.value ∧ d.value ≤ 1000 := fun d hd => hb d (List.mem_cons_of_mem _ hd)
    simp only [spec_JoinVectors_L1, seqOf]
    by_cases hc : e.value > sq l e.name.parts
    · obtain ⟨g1, g2⟩ := put_gd h (by omega) e.name e.value v1 ⟨v2, v3⟩
      obtain ⟨q1, q2⟩ := joinL bs g1 (by omega) hb'
      simp only [hc, decide_true, cond_true]
      refine ⟨q1.mono (by omega), fun k => ?_⟩
      rw [q2 k, g2 k, mx]
      have h0 := sq_nn h k
      by_cases hk : e.name.parts = k
      · subst hk; rw [if_pos rfl, if_pos rfl]; omega
      · rw [if_neg hk, if_neg hk]; omega
    · obtain ⟨q1, q2⟩ := joinL bs h (by omega) hb'
      simp only [hc, decide_false, cond_false]
      refine ⟨q1.mono (by omega), fun k => ?_⟩
      rw [q2 k, mx]
      have h0 := sq_nn h k
      by_cases hk : e.name.parts = k
      · subst hk; rw [if_pos rfl]; omega
      · rw [if_neg hk]; omega
theorem join_gd {m n : Nat} {a b : StateVector} (ha : Gd m a.entries) (hb : Gd n b.entries) (h : m + n ≤ 20) : Gd (m + n) (spec_JoinVectors a b).entries ∧ ∀ k, sq (spec_JoinVectors a b).entries k = max (sq a.entries k) (sq b.entries k) := by
  unfold spec_JoinVectors
  rw [cT_spec]
  have hl := hb.2.2
  obtain ⟨q1, q2⟩ := joinL b.entries ha (by omega) hb.1
  exact ⟨q1.mono (by omega), fun k => by rw [← mx_sq hb k]; exact q2 k⟩
theorem leqL (a b : StateVector) : ∀ l : List TableEntry, (spec_VectorLeq_L1 a b l = none ∧ ∀ e ∈ l, sq a.entries e.name.parts ≤ sq b.entries e.name.parts) ∨ (spec_VectorLeq_L1 a b l = some false ∧ ∃ e ∈ l, ¬ sq a.entries e.name.parts ≤ sq b.entries e.name.parts)
  | [] => .inl ⟨rfl, fun e h => by cases h⟩
  | e :: l => by
    simp only [spec_VectorLeq_L1, seqOf]
    by_cases h : sq a.entries e.name.parts > sq b.entries e.name.parts
    · exact .inr ⟨by simp [h], e, List.mem_cons_self, by omega⟩
    · rcases leqL a b l with ⟨h1, h2⟩ | ⟨h1, d, hd, h2⟩
      · refine .inl ⟨by simp only [h, decide_false, cond_false, h1], fun d hd => ?_⟩
        rcases List.mem_cons.1 hd with rfl | hd
        · omega
        · exact h2 d hd
      · exact .inr ⟨by simp only [h, decide_false, cond_false, h1], d, List.mem_cons_of_mem _ hd, h2⟩
theorem leq_iff {m n : Nat} {a b : StateVector} (ha : Gd m a.entries) (hb : Gd n b.entries) : spec_VectorLeq a b = true ↔ ∀ k, sq a.entries k ≤ sq b.entries k := by
  unfold spec_VectorLeq
  rcases leqL a b a.entries with ⟨h1, h2⟩ | ⟨h1, d, hd, h2⟩
  · rw [h1]
    refine ⟨fun _ k => ?_, fun _ => rfl⟩
    by_cases hk : ∃ e ∈ a.entries, e.name.parts = k
    · obtain ⟨e, he, rfl⟩ := hk
      exact h2 e he
    · rw [sq_none (l := a.entries) (fun e he z => hk ⟨e, he, z⟩)]
      exact sq_nn hb k
  · rw [h1]
    exact ⟨fun h => (by cases h), fun h => absurd (h _) h2⟩
theorem same_VectorLeq (a b : StateVector) : impl_VectorLeq a b = spec_VectorLeq a b := by
  unfold impl_VectorLeq spec_VectorLeq
  rw [cF_TableEntry]
  have : ∀ l : List TableEntry, (match spec_VectorLeq_L1 a b l with | some r_ => r_ | none => true) = !(l.any fun e => impl_VectorLeq_c1 a b e) := by
    intro l
    induction l with
    | nil => rfl
    | cons e l ih =>
      have h : impl_VectorLeq_c1 a b e = decide (spec_SeqOf a e.name > spec_SeqOf b e.name) := by simp only [impl_VectorLeq_c1, same_SeqOf']
      simp only [spec_VectorLeq_L1, List.any_cons, h]
      cases decide (spec_SeqOf a e.name > spec_SeqOf b e.name)
      · simpa using ih
      · rfl
  rw [← this a.entries]
  rfl
theorem ntL2 (a : StateVector) (e : TableEntry) : ∀ (m : Nat) (o : List TableEntry) (k : Int), 20 - o.length = m → o.length ≤ (spec_NewerThan_L2 a e o k).1.length
  | m, o, k, hm => by
    rw [spec_NewerThan_L2]
    split
    · split
      · have := ntL2 a e (m - 1) (o ++ [TableEntry.mk (spec_l4Copy e.name) (IntKind.i64.wrap (k + 1))]) (IntKind.i64.wrap (k + 1)) (by simp; omega)
        rw [List.length_append] at this
        omega
      · exact Nat.le_refl _
    · exact Nat.le_refl _
termination_by m => m
decreasing_by omega
theorem ntL1 (a b : StateVector) : ∀ (l o : List TableEntry), o.length ≤ (spec_NewerThan_L1 a b l o).length
  | [], o => Nat.le_refl _
  | e :: l, o => by
    simp only [spec_NewerThan_L1]
    have h1 := ntL2 a e _ o (spec_SeqOf b e.name) rfl
    exact Nat.le_trans h1 (ntL1 a b l _)
theorem ntZ (a b : StateVector) : ∀ l : List TableEntry, (spec_NewerThan_L1 a b l [] = [] ∧ ∀ e ∈ l, sq a.entries e.name.parts ≤ sq b.entries e.name.parts) ∨ (0 < (spec_NewerThan_L1 a b l []).length ∧ ∃ e ∈ l, ¬ sq a.entries e.name.parts ≤ sq b.entries e.name.parts)
  | [] => .inl ⟨rfl, fun e h => by cases h⟩
  | e :: l => by
    simp only [spec_NewerThan_L1]
    by_cases h : spec_SeqOf b e.name < spec_SeqOf a e.name
    · refine .inr ⟨?_, e, List.mem_cons_self, by rw [← seqOf, ← seqOf]; omega⟩
      refine Nat.lt_of_lt_of_le ?_ (ntL1 a b l _)
      rw [spec_NewerThan_L2, if_pos h, if_pos (by simp)]
      refine Nat.lt_of_lt_of_le ?_ (ntL2 a e _ _ _ rfl)
      simp
    · have h0 : spec_NewerThan_L2 a e [] (spec_SeqOf b e.name) = ([], spec_SeqOf b e.name) := by rw [spec_NewerThan_L2, if_neg h]
      rw [h0]
      rcases ntZ a b l with ⟨h1, h2⟩ | ⟨h1, d, hd, h2⟩
      · refine .inl ⟨h1, fun d hd => ?_⟩
        rcases List.mem_cons.1 hd with rfl | hd
        · rw [← seqOf, ← seqOf]; omega
        · exact h2 d hd
      · exact .inr ⟨h1, d, List.mem_cons_of_mem _ hd, h2⟩
theorem nt_leq (a b : StateVector) : (((((spec_NewerThan a b).length : Nat) : Int) == 0) == spec_VectorLeq a b) = true := by
  unfold spec_NewerThan spec_VectorLeq
  rcases ntZ a b a.entries with ⟨h1, h2⟩ | ⟨h1, d, hd, h2⟩
  · rcases leqL a b a.entries with ⟨q1, q2⟩ | ⟨q1, d, hd, q2⟩
    · rw [h1, q1]; rfl
    · exact absurd (h2 d hd) q2
  · rcases leqL a b a.entries with ⟨q1, q2⟩ | ⟨q1, d', hd', q2⟩
    · exact absurd (q2 d hd) h2
    · rw [q1]
      have : ((((spec_NewerThan_L1 a b a.entries []).length : Nat) : Int) == 0) = false := by
        simp only [beq_eq_false_iff_ne]; omega
      simp only [this]
      rfl
theorem sTL (b : List Str) : ∀ (r : List Str) (i : Nat), laws_sameTexts_L1 b r i = slices_Equal_string_L1 b r i
  | [], i => rfl
  | x :: r, i => by
    simp only [laws_sameTexts_L1, slices_Equal_string_L1, sTL b r]
    rfl
theorem map_TL : ∀ {a b : List Str}, a.map (fun z : Str => z.toList) = b.map (fun z : Str => z.toList) → a = b
  | [], [], _ => rfl
  | [], _ :: _, h => by simp at h
  | _ :: _, [], h => by simp at h
  | x :: a, y :: b, h => by
    simp only [List.map_cons, List.cons.injEq] at h
    rw [str_ext h.1, map_TL h.2]
open Classical in
theorem sameName_eq (a b : Name) : laws_sameName a b = decide (a = b) := by
  have h : laws_sameTexts a.parts b.parts = slices_Equal_string a.parts b.parts := by
    unfold laws_sameTexts slices_Equal_string
    rw [sTL]
    rfl
  unfold laws_sameName
  rw [h, sEq_string]
  by_cases e : a = b
  · simp [e]
  · have : ¬ (a.parts.map (fun z : Str => z.toList) = b.parts.map (fun z : Str => z.toList)) := fun hm => e (by cases a; cases b; rw [Name.mk.injEq]; exact map_TL hm)
    simp [this, e]
open Classical in
theorem sRL : ∀ (a b p : List TableEntry), a.length = b.length → laws_sameRows_L1 (p ++ b) a p.length = (if a = b then none else some false)
  | [], [], p, _ => by simp [laws_sameRows_L1]
  | x :: a, y :: b, p, h => by
    have ih := sRL a b (p ++ [y]) (by simpa using h)
    rw [mid_app, mid_len] at ih
    simp only [laws_sameRows_L1, mid, sameName_eq]
    by_cases hv : x.value = y.value
    · by_cases hn : x.name = y.name
      · have : x = y := by cases x; cases y; simp only at hv hn; rw [hv, hn]
        simp [this, ih]
      · have : ¬ x = y := fun e => hn (by rw [e])
        simp [hv, hn, this]
    · have : ¬ x = y := fun e => hv (by rw [e])
      have h2 : (x.value != y.value) = true := by simpa using hv
      simp [h2, this]
open Classical in
theorem sameRows_eq (a b : List TableEntry) : laws_sameRows a b = decide (a = b) := by
  unfold laws_sameRows
  by_cases hl : a.length = b.length
  · have h := sRL a b [] hl
    simp only [List.nil_append, List.length_nil] at h
    simp only [hl, bne_self_F, cond_false, h]
    split <;> simp_all
  · have hne : a ≠ b := fun h => hl (by rw [h])
    have hn : ((a.length : Int) != (b.length : Int)) = true := by simp; omega
    simp [hn, hne]
theorem sBL : ∀ (a b p : List UInt8), a.length = b.length → laws_same_L1 (p ++ b) a p.length = (if a = b then none else some false)
  | [], [], p, _ => by simp [laws_same_L1]
  | x :: a, y :: b, p, h => by
    have ih := sBL a b (p ++ [y]) (by simpa using h)
    rw [mid_app, mid_len] at ih
    simp only [laws_same_L1, mid]
    by_cases hxy : x = y
    · simp [hxy, ih]
    · have hn : ((x.toNat : Int) != (y.toNat : Int)) = true := by
        have : x.toNat ≠ y.toNat := fun h => hxy (UInt8.toNat_inj.mp h)
        simp; omega
      simp [hn, hxy]
theorem same_eq (a b : List UInt8) : laws_same a b = decide (a = b) := by
  unfold laws_same
  by_cases hl : a.length = b.length
  · have h := sBL a b [] hl
    simp only [List.nil_append, List.length_nil] at h
    simp only [hl, bne_self_F, cond_false, h]
    split <;> simp_all
  · have hne : a ≠ b := fun h => hl (by rw [h])
    have hn : ((a.length : Int) != (b.length : Int)) = true := by simp; omega
    simp [hn, hne]
theorem l4Of_vn (s : Str) : spec_ValidName (spec_l4Of s) = true := by
  have h0 : spec_ValidName (Name.mk []) = true := rfl
  unfold spec_l4Of spec_ParseName
  cases ((s).toList == ((⟨#[47]⟩ : Str)).toList)
  · simp only [cond_false]
    cases decide (((((spec_l4Split s (47 : UInt8))).length : Nat) : Int) < 2)
    · simp only [cond_false]
      cases ((spec_l4Split s (47 : UInt8)))[0]? with
      | none => exact h0
      | some e1 =>
        dsimp only
        cases (!((e1).toList == ((⟨#[]⟩ : Str)).toList))
        · simp only [cond_false]
          cases hv : spec_ValidName (Name.mk (List.drop 1 (spec_l4Split s (47 : UInt8))))
          · exact h0
          · exact hv
        · exact h0
    · exact h0
  · exact h0
theorem l27G (b : List UInt8) : ∀ (m : Nat) (i : Int) (v : List TableEntry) (a h : Int), i.toNat = m → m ≤ 4 → Gd (4 - m) v → Gd 4 (spec_l27Draw_L1 b i v a h).2.1
  | 0, i, v, a, h, hm, _, hg => by
    rw [spec_l27Draw_L1, if_neg (by omega)]
    exact hg
  | m + 1, i, v, a, h, hm, hl, hg => by
    rw [spec_l27Draw_L1, if_pos (by omega)]
    rcases spec_l1Str b a h ([(⟨#[47, 97]⟩ : Str), (⟨#[47, 98]⟩ : Str), (⟨#[47, 110, 101, 119, 115]⟩ : Str), (⟨#[47, 97, 47, 98]⟩ : Str), (⟨#[47, 99]⟩ : Str)]) with ⟨x, j, k⟩
    dsimp only
    have h1 := l1Below_rng b j k 5
    rcases e : spec_l1Below b j k 5 with ⟨y, j2, k2⟩
    rw [e] at h1
    dsimp only at h1 ⊢
    exact l27G b m _ _ _ _ (by omega) (by omega) ((put_gd hg (by omega) (spec_l4Of x) (1 + y) (l4Of_vn x) (by omega)).1.mono (by omega))
theorem l27Draw_gd (b : List UInt8) (i h : Int) : Gd 4 (spec_l27Draw b i h).1.entries := by
  unfold spec_l27Draw
  have h1 := l1Below_rng b i h 5
  rcases e : spec_l1Below b i h 5 with ⟨x, j, k⟩
  rw [e] at h1
  dsimp only at h1 ⊢
  exact l27G b _ x [] j k rfl (by omega) (Gd.nil.mono (Nat.zero_le _))
theorem drawVecs_gd (code : List UInt8) : Gd 4 (spec_DrawVecs code).1.entries ∧ Gd 4 (spec_DrawVecs code).2.1.entries ∧ Gd 4 (spec_DrawVecs code).2.2.entries := by
  unfold spec_DrawVecs
  rcases spec_l1New code with ⟨i, h⟩
  dsimp only
  have h1 := l27Draw_gd code i h
  rcases e1 : spec_l27Draw code i h with ⟨a, i1, k1⟩
  rw [e1] at h1
  dsimp only at h1 ⊢
  have h2 := l27Draw_gd code i1 k1
  rcases e2 : spec_l27Draw code i1 k1 with ⟨b, i2, k2⟩
  rw [e2] at h2
  dsimp only at h2 ⊢
  have h3 := l27Draw_gd code i2 k2
  rcases e3 : spec_l27Draw code i2 k2 with ⟨c, i3, k3⟩
  rw [e3] at h3
  dsimp only at h3 ⊢
  exact ⟨h1, h2, h3⟩
theorem vvL : ∀ l : List TableEntry, (∀ e ∈ l, 1 ≤ e.value ∧ e.value ≤ 1000) → spec_ValidVector_L1 l = none
  | [], _ => rfl
  | e :: l, h => by
    obtain ⟨h1, h2⟩ := h e List.mem_cons_self
    have : spec_l1In e.value 1 1000 = true := by
      unfold spec_l1In
      rw [show decide (e.value ≥ 1) = true from decide_eq_true h1]
      exact decide_eq_true h2
    simp only [spec_ValidVector_L1, this, Bool.not_true, cond_false]
    exact vvL l (fun d hd => h d (List.mem_cons_of_mem _ hd))
theorem vv_of {m : Nat} {v : StateVector} (h : Gd m v.entries) (hm : m ≤ 20) : spec_ValidVector v = true := by
  unfold spec_ValidVector
  rw [vvL _ (fun e he => (h.1 e he).2)]
  exact h.vt hm
theorem join_laws {a b c : StateVector} (ha : Gd 4 a.entries) (hb : Gd 4 b.entries) (hc : Gd 4 c.entries) :
    (spec_JoinVectors (spec_JoinVectors a b) c).entries = (spec_JoinVectors a (spec_JoinVectors b c)).entries ∧ (spec_JoinVectors a b).entries = (spec_JoinVectors b a).entries ∧ (spec_JoinVectors a a).entries = a.entries ∧
    spec_VectorLeq a (spec_JoinVectors a b) = true ∧ spec_VectorLeq b (spec_JoinVectors a b) = true ∧ spec_ValidVector (spec_JoinVectors a b) = true ∧ (spec_VectorLeq a b = true ↔ (spec_JoinVectors a b).entries = b.entries) := by
  obtain ⟨g1, q1⟩ := join_gd ha hb (by decide)
  obtain ⟨g2, q2⟩ := join_gd hb hc (by decide)
  obtain ⟨g3, q3⟩ := join_gd g1 hc (by decide)
  obtain ⟨g4, q4⟩ := join_gd ha g2 (by decide)
  obtain ⟨g5, q5⟩ := join_gd hb ha (by decide)
  obtain ⟨g6, q6⟩ := join_gd ha ha (by decide)
  refine ⟨gd_ext g3 g4 fun k => ?_, gd_ext g1 g5 fun k => ?_, gd_ext g6 ha fun k => ?_, (leq_iff ha g1).2 fun k => ?_, (leq_iff hb g1).2 fun k => ?_, vv_of g1 (by decide), (leq_iff ha hb).trans ⟨fun h => gd_ext g1 hb fun k => ?_, fun h k => ?_⟩⟩
  · rw [q3, q1, q4, q2]; omega
  · rw [q1, q5]; omega
  · rw [q6]; omega
  · rw [q1]; omega
  · rw [q1]; omega
  · rw [q1]; have := h k; omega
  · have := q1 k
    rw [h] at this
    omega
end Go.Stp

namespace Go.Stp
set_option linter.unusedVariables false
set_option linter.unusedSimpArgs false
def vb : Nat → Nat → List UInt8
  | 0, n => [UInt8.ofNat n]
  | k + 1, n => if 127 < n then UInt8.ofNat (n % 128 + 128) :: vb k (n / 128) else [UInt8.ofNat n]
theorem vb_small (k : Nat) {n : Nat} (h : n ≤ 127) : vb k n = [UInt8.ofNat n] := by
  cases k with
  | zero => rfl
  | succ k => rw [vb, if_neg (by omega)]
def dv : Nat → Nat → Nat → List UInt8 → Option (Nat × List UInt8)
  | 0, _, _, _ => none
  | _ + 1, _, _, [] => none
  | m + 1, i, acc, c :: l => if c.toNat < 128 then (if c.toNat = 0 ∧ 0 < i then none else if 1000000000000 < acc + c.toNat * 2 ^ (7 * i) then none else some (acc + c.toNat * 2 ^ (7 * i), l)) else dv m (i + 1) (acc + c.toNat % 128 * 2 ^ (7 * i)) l
theorem pow7 (i : Nat) : 2 ^ (7 * (i + 1)) = 128 * 2 ^ (7 * i) := by rw [Nat.mul_add, Nat.pow_add]; omega
theorem dv_vb : ∀ (m i acc n : Nat) (l : List UInt8), n < 128 ^ (m + 1) → (i = 0 ∨ 0 < n) → acc + n * 2 ^ (7 * i) ≤ 1000000000000 → dv (m + 1) i acc (vb m n ++ l) = some (acc + n * 2 ^ (7 * i), l)
  | m, i, acc, n, l, h1, h2, h3 => by
    by_cases hn : 127 < n
    · cases m with
      | zero => omega
      | succ m =>
        rw [vb, if_pos hn, List.cons_append, dv]
        have hc : (UInt8.ofNat (n % 128 + 128)).toNat = n % 128 + 128 := by rw [UInt8.toNat_ofNat']; omega
        rw [hc, if_neg (by omega), show (n % 128 + 128) % 128 = n % 128 by omega]
        have hs : acc + n % 128 * 2 ^ (7 * i) + n / 128 * 2 ^ (7 * (i + 1)) = acc + n * 2 ^ (7 * i) := by
          rw [pow7]
          have : n = n % 128 + n / 128 * 128 := by omega
          calc acc + n % 128 * 2 ^ (7 * i) + n / 128 * (128 * 2 ^ (7 * i)) = acc + (n % 128 * 2 ^ (7 * i) + n / 128 * 128 * 2 ^ (7 * i)) := by rw [Nat.mul_assoc, Nat.add_assoc]
            _ = acc + (n % 128 + n / 128 * 128) * 2 ^ (7 * i) := by rw [Nat.add_mul]
            _ = acc + n * 2 ^ (7 * i) := by rw [← this]
        rw [dv_vb m (i + 1) _ (n / 128) l (by rw [Nat.pow_succ] at h1; exact Nat.div_lt_of_lt_mul (by rw [Nat.mul_comm]; exact h1)) (.inr (by omega)) (by rw [hs]; exact h3), hs]
    · rw [vb_small m (by omega)]
      show dv (m + 1) i acc (UInt8.ofNat n :: l) = _
      have hc : (UInt8.ofNat n).toNat = n := by rw [UInt8.toNat_ofNat']; omega
      rw [dv, hc, if_pos (by omega), if_neg (by omega), if_neg (by omega)]
theorem vb_dv : ∀ (m i acc : Nat) (l : List UInt8) (r : Nat) (l' : List UInt8), dv (m + 1) i acc l = some (r, l') → ∃ n, l = vb m n ++ l' ∧ r = acc + n * 2 ^ (7 * i) ∧ (i = 0 ∨ 0 < n) ∧ r ≤ 1000000000000
  | m, i, acc, [], r, l', h => by cases h
  | m, i, acc, c :: l, r, l', h => by
    rw [dv] at h
    by_cases hc : c.toNat < 128
    · rw [if_pos hc] at h
      by_cases h0 : c.toNat = 0 ∧ 0 < i
      · rw [if_pos h0] at h; cases h
      · rw [if_neg h0] at h
        by_cases hb : 1000000000000 < acc + c.toNat * 2 ^ (7 * i)
        · rw [if_pos hb] at h; cases h
        · rw [if_neg hb] at h
          simp only [Option.some.injEq, Prod.mk.injEq] at h
          obtain ⟨rfl, rfl⟩ := h
          exact ⟨c.toNat, by rw [vb_small m (by omega), UInt8.ofNat_toNat]; rfl, rfl, by omega, by omega⟩
    · rw [if_neg hc] at h
      cases m with
      | zero => cases h
      | succ m =>
        obtain ⟨n, h1, h2, h3, h4⟩ := vb_dv m (i + 1) _ l r l' h
        have hlt := UInt8.toNat_lt c
        have hn : 0 < n := h3.resolve_left (by omega)
        refine ⟨c.toNat % 128 + 128 * n, ?_, ?_, .inr (by omega), h4⟩
        · rw [vb, if_pos (by omega), show (c.toNat % 128 + 128 * n) % 128 + 128 = c.toNat by omega, show (c.toNat % 128 + 128 * n) / 128 = n by omega, UInt8.ofNat_toNat, h1]
          rfl
        · rw [h2, pow7, Nat.add_mul, Nat.add_assoc]
          congr 2
          rw [← Nat.mul_assoc, Nat.mul_comm n 128]
theorem and127 (c : Nat) (h : c ≤ 9223372036854775807) : bitO .and ((c : Nat) : Int) 127 = ((c % 128 : Nat) : Int) := by
  have h2 : (BitVec.ofInt 64 (127 : Int)).toNat = 127 := by decide
  have h3 : c &&& 127 = c % 128 := Nat.and_two_pow_sub_one_eq_mod c 7
  simp only [bitO, BitVec.toNat_and, h2, ofI64 (x := ((c : Nat) : Int)) ⟨by omega, by omega⟩, Int.toNat_natCast, h3]
  exact i64w ⟨by omega, by omega⟩
theorem pw35 {i : Nat} (h : i ≤ 5) : 2 ^ (7 * i) ≤ 34359738368 := by
  have : 2 ^ (7 * i) ≤ 2 ^ 35 := Nat.pow_le_pow_right (by decide) (by omega)
  exact this
theorem orA {acc y i : Nat} (hi : i ≤ 5) (hacc : acc < 2 ^ (7 * i)) (hy : y < 128) : bitO .or ((acc : Nat) : Int) (IntKind.i64.wrap (((y : Nat) : Int) * 2 ^ (min (Int.toNat (7 * ((i : Nat) : Int))) 64))) = ((acc + y * 2 ^ (7 * i) : Nat) : Int) := by
  have hp := pw35 hi
  have he : min (Int.toNat (7 * ((i : Nat) : Int))) 64 = 7 * i := by omega
  have hyW : y * 2 ^ (7 * i) ≤ 127 * 34359738368 := Nat.mul_le_mul (by omega) hp
  have hw : ((y : Nat) : Int) * 2 ^ (7 * i) = ((y * 2 ^ (7 * i) : Nat) : Int) := by push_cast; rfl
  rw [he, hw, i64w ⟨by omega, by omega⟩]
  have h1 : acc ||| y * 2 ^ (7 * i) = acc + y * 2 ^ (7 * i) := by
    rw [Nat.or_comm, Nat.mul_comm y, ← Nat.two_pow_add_eq_or_of_lt hacc, Nat.add_comm]
  simp only [bitO, BitVec.toNat_or, ofI64 (x := ((acc : Nat) : Int)) ⟨by omega, by omega⟩, ofI64 (x := ((y * 2 ^ (7 * i) : Nat) : Int)) ⟨by omega, by omega⟩, Int.toNat_natCast, h1]
  exact i64w ⟨by omega, by omega⟩
theorem rvD (b p : List UInt8) : ∀ (m : Nat) (q l : List UInt8) (acc : Nat), b = p ++ q ++ l → q.length + m ≤ 6 → acc < 2 ^ (7 * q.length) →
    (∃ r l', dv m q.length acc l = some (r, l') ∧ spec_ReadVarint_L1 b ((p.length : Nat) : Int) m q.length ((acc : Nat) : Int) = .ret (((r : Nat) : Int), ((b.length : Nat) : Int) - ((l'.length : Nat) : Int), true)) ∨
    (dv m q.length acc l = none ∧ (spec_ReadVarint_L1 b ((p.length : Nat) : Int) m q.length ((acc : Nat) : Int) = .ret (0, 0, false) ∨ ∃ x, spec_ReadVarint_L1 b ((p.length : Nat) : Int) m q.length ((acc : Nat) : Int) = .nxt x))
  | 0, q, l, acc, _, _, _ => .inr ⟨rfl, .inr ⟨_, rfl⟩⟩
  | m + 1, q, [], acc, hb, _, _ => by
    refine .inr ⟨rfl, .inl ?_⟩
    have h0 : decide (((p.length : Nat) : Int) < 0) = false := by simp
    have h1 : decide (((p.length : Nat) : Int) ≥ (((b).length : Nat) : Int) - ((q.length : Nat) : Int)) = true := by
      refine decide_eq_true ?_
      rw [hb]; simp only [List.length_append, List.length_nil]; omega
    simp only [spec_ReadVarint_L1, h0, h1, cond_false, cond_true]
  | m + 1, q, c :: l, acc, hb, hm, hacc => by
    have hlen : b.length = p.length + q.length + (l.length + 1) := by rw [hb]; simp only [List.length_append, List.length_cons]
    have h0 : decide (((p.length : Nat) : Int) < 0) = false := by simp
    have h1 : decide (((p.length : Nat) : Int) ≥ (((b).length : Nat) : Int) - ((q.length : Nat) : Int)) = false := decide_eq_false (by omega)
    have h2 : b[(((p.length : Nat) : Int) + ((q.length : Nat) : Int)).toNat]? = some c := by
      rw [show (((p.length : Nat) : Int) + ((q.length : Nat) : Int)).toNat = (p ++ q).length by simp; omega, hb]
      exact mid (p ++ q) c l
    have hlt := UInt8.toNat_lt c
    have ho := orA (i := q.length) (acc := acc) (y := c.toNat % 128) (by omega) hacc (by omega)
    have ha := and127 c.toNat (by omega)
    have ih := rvD b p m (q ++ [c]) l (acc + c.toNat % 128 * 2 ^ (7 * q.length)) (by rw [hb]; simp) (by simp; omega) (by
      rw [List.length_append, List.length_cons, List.length_nil, Nat.zero_add, pow7]
      have : c.toNat % 128 * 2 ^ (7 * q.length) ≤ 127 * 2 ^ (7 * q.length) := Nat.mul_le_mul_right _ (by omega)
      omega)
    rw [List.length_append, List.length_cons, List.length_nil, Nat.zero_add] at ih
    simp only [spec_ReadVarint_L1, h0, h1, cond_false, h2, ha, ho, dv]
    by_cases hc : c.toNat < 128
    · have hc1 : decide (((c.toNat : Nat) : Int) < 128) = true := decide_eq_true (by omega)
      have hmod : c.toNat % 128 = c.toNat := Nat.mod_eq_of_lt hc
      rw [hmod] at ho ⊢
      simp only [hc1, cond_true, hc, if_true]
      by_cases hz : c.toNat = 0
      · have hz1 : (((c.toNat : Nat) : Int) == 0) = true := by rw [hz]; rfl
        simp only [hz1, cond_true]
        by_cases hq : 0 < q.length
        · have hq1 : decide (((q.length : Nat) : Int) > 0) = true := decide_eq_true (by omega)
          simp only [hq1, cond_true]
          rw [if_pos ⟨hz, hq⟩]
          exact .inr ⟨rfl, .inl trivial⟩
        · have hq1 : decide (((q.length : Nat) : Int) > 0) = false := decide_eq_false (by omega)
          simp only [hq1, cond_false]
          rw [if_neg (fun h => hq h.2)]
          by_cases hb2 : 1000000000000 < acc + c.toNat * 2 ^ (7 * q.length)
          · have hb3 : decide (((acc + c.toNat * 2 ^ (7 * q.length) : Nat) : Int) > 1000000000000) = true := decide_eq_true (by omega)
            simp only [hb3, cond_true]
            rw [if_pos hb2]
            exact .inr ⟨rfl, .inl trivial⟩
          · have hb3 : decide (((acc + c.toNat * 2 ^ (7 * q.length) : Nat) : Int) > 1000000000000) = false := decide_eq_false (by omega)
            simp only [hb3, cond_false]
            rw [if_neg hb2]
            exact .inl ⟨_, _, rfl, by rw [show ((p.length : Nat) : Int) + ((q.length : Nat) : Int) + 1 = ((b.length : Nat) : Int) - ((l.length : Nat) : Int) by omega]⟩
      · have hz1 : (((c.toNat : Nat) : Int) == 0) = false := by simp only [beq_eq_false_iff_ne]; omega
        simp only [hz1, cond_false]
        rw [if_neg (fun h => hz h.1)]
        by_cases hb2 : 1000000000000 < acc + c.toNat * 2 ^ (7 * q.length)
        · have hb3 : decide (((acc + c.toNat * 2 ^ (7 * q.length) : Nat) : Int) > 1000000000000) = true := decide_eq_true (by omega)
          simp only [hb3, cond_true]
          rw [if_pos hb2]
          exact .inr ⟨rfl, .inl trivial⟩
        · have hb3 : decide (((acc + c.toNat * 2 ^ (7 * q.length) : Nat) : Int) > 1000000000000) = false := decide_eq_false (by omega)
          simp only [hb3, cond_false]
          rw [if_neg hb2]
          exact .inl ⟨_, _, rfl, by rw [show ((p.length : Nat) : Int) + ((q.length : Nat) : Int) + 1 = ((b.length : Nat) : Int) - ((l.length : Nat) : Int) by omega]⟩
    · have hc1 : decide (((c.toNat : Nat) : Int) < 128) = false := decide_eq_false (by omega)
      simp only [hc1, cond_false, hc, if_false]
      exact ih
theorem rv_dv (b p l : List UInt8) (hb : b = p ++ l) : spec_ReadVarint b ((p.length : Nat) : Int) = (match dv 6 0 0 l with | some (r, l') => (((r : Nat) : Int), ((b.length : Nat) : Int) - ((l'.length : Nat) : Int), true) | none => (0, 0, false)) := by
  have h := rvD b p 6 [] l 0 (by rw [hb]; simp) (by simp) (by simp)
  rw [List.length_nil] at h
  unfold spec_ReadVarint
  rcases h with ⟨r, l', h1, h2⟩ | ⟨h1, h2 | ⟨x, h2⟩⟩
  · rw [h1]; exact (by rw [show ((0 : Nat) : Int) = 0 from rfl] at h2; rw [h2])
  · rw [h1]; exact (by rw [show ((0 : Nat) : Int) = 0 from rfl] at h2; rw [h2])
  · rw [h1]; exact (by rw [show ((0 : Nat) : Int) = 0 from rfl] at h2; rw [h2])
theorem rv_suf {b l : List UInt8} (hs : l <:+ b) : spec_ReadVarint b (((b.length : Nat) : Int) - ((l.length : Nat) : Int)) = (match dv 6 0 0 l with | some (r, l') => (((r : Nat) : Int), ((b.length : Nat) : Int) - ((l'.length : Nat) : Int), true) | none => (0, 0, false)) := by
  obtain ⟨p, rfl⟩ := hs
  rw [show (((p ++ l).length : Nat) : Int) - ((l.length : Nat) : Int) = ((p.length : Nat) : Int) by rw [List.length_append]; omega]
  exact rv_dv _ p l rfl
theorem dv_dec {l l' : List UInt8} {n : Nat} (h : dv 6 0 0 l = some (n, l')) : l = vb 5 n ++ l' ∧ n ≤ 1000000000000 := by
  obtain ⟨k, h1, h2, _, h4⟩ := vb_dv 5 0 0 l n l' h
  have : n = k := by rw [h2]; simp
  subst this
  exact ⟨h1, h4⟩
theorem dv_enc {n : Nat} (h : n ≤ 1000000000000) (l : List UInt8) : dv 6 0 0 (vb 5 n ++ l) = some (n, l) := by
  have := dv_vb 5 0 0 n l (Nat.lt_of_le_of_lt h (by decide)) (.inl rfl) (by simpa using h)
  simpa using this
theorem dv_suf {b l l' : List UInt8} {n : Nat} (hs : l <:+ b) (h : dv 6 0 0 l = some (n, l')) : l' <:+ b := by
  obtain ⟨p, rfl⟩ := hs
  rw [(dv_dec h).1, ← List.append_assoc]
  exact List.suffix_append _ _
theorem toU8_nat {m : Nat} (h : m < 256) : toU8 ((m : Nat) : Int) = UInt8.ofNat m := by
  unfold toU8
  rw [show (((m : Nat) : Int) % 256).toNat = m by omega]
theorem or128 {r : Nat} (h : r < 128) : bitO .or ((r : Nat) : Int) 128 = ((r + 128 : Nat) : Int) := by
  have h2 : (BitVec.ofInt 64 (128 : Int)).toNat = 128 := by decide
  have h3 : r ||| 128 = r + 128 := by
    have := Nat.two_pow_add_eq_or_of_lt (i := 7) (b := r) h 1
    rw [Nat.or_comm, Nat.add_comm]
    exact this.symm
  simp only [bitO, BitVec.toNat_or, h2, ofI64 (x := ((r : Nat) : Int)) ⟨by omega, by omega⟩, Int.toNat_natCast, h3]
  exact i64w ⟨by omega, by omega⟩
theorem avL : ∀ (k n : Nat) (out : List UInt8), n < 128 ^ (k + 1) → n ≤ 1000000000000 → (spec_AppendVarint_L1 ((n : Nat) : Int) out).2 ++ [toU8 (spec_AppendVarint_L1 ((n : Nat) : Int) out).1] = out ++ vb k n
  | k, n, out, h, hn => by
    rw [spec_AppendVarint_L1]
    by_cases h1 : 127 < n
    · rw [if_pos (by omega), sh7, show ((n : Nat) : Int) / 128 = ((n / 128 : Nat) : Int) by omega, and127 n (by omega), or128 (by omega), toU8_nat (by omega)]
      cases k with
      | zero => omega
      | succ k =>
        rw [avL k (n / 128) _ (by rw [Nat.pow_succ] at h; exact Nat.div_lt_of_lt_mul (by rw [Nat.mul_comm]; exact h)) (by omega), vb, if_pos h1, List.append_assoc]
        rfl
    · rw [if_neg (by omega), vb_small k (by omega)]
      show out ++ [toU8 ((n : Nat) : Int)] = _
      rw [toU8_nat (by omega)]
theorem in_of {a b n : Int} (h : a ≤ n ∧ n ≤ b) : spec_l1In n a b = true := by
  unfold spec_l1In
  rw [show decide (n ≥ a) = true from decide_eq_true h.1]
  exact decide_eq_true h.2
theorem av_vb (b : List UInt8) {n : Nat} (h : n ≤ 1000000000000) : spec_AppendVarint b ((n : Nat) : Int) = b ++ vb 5 n := by
  unfold spec_AppendVarint
  rw [in_of ⟨by omega, by omega⟩]
  have := avL 5 n b (Nat.lt_of_le_of_lt h (by decide)) h
  rcases e : spec_AppendVarint_L1 ((n : Nat) : Int) b with ⟨x, o⟩
  rw [e] at this
  exact this
def db (most : Nat) (l : List UInt8) : Option (List UInt8 × List UInt8) :=
  match dv 6 0 0 l with
  | none => none
  | some (n, l1) => if n ≤ most ∧ n ≤ l1.length then some (l1.take n, l1.drop n) else none
theorem db_enc {most : Nat} {s : List UInt8} (h : s.length ≤ most) (h2 : s.length ≤ 1000000000000) (l : List UInt8) : db most (vb 5 s.length ++ (s ++ l)) = some (s, l) := by
  unfold db
  rw [dv_enc h2]
  dsimp only
  rw [if_pos ⟨h, by rw [List.length_append]; omega⟩, List.take_left, List.drop_left]
theorem db_dec {most : Nat} {l s l' : List UInt8} (h : db most l = some (s, l')) : l = vb 5 s.length ++ (s ++ l') ∧ s.length ≤ most := by
  unfold db at h
  cases e : dv 6 0 0 l with
  | none => rw [e] at h; cases h
  | some r =>
    obtain ⟨n, l1⟩ := r
    rw [e] at h
    dsimp only at h
    by_cases hc : n ≤ most ∧ n ≤ l1.length
    · rw [if_pos hc] at h
      simp only [Option.some.injEq, Prod.mk.injEq] at h
      obtain ⟨rfl, rfl⟩ := h
      have hl : (l1.take n).length = n := by rw [List.length_take]; omega
      rw [hl, List.take_append_drop]
      exact ⟨(dv_dec e).1, hc.1⟩
    · rw [if_neg hc] at h; cases h
theorem db_suf {most : Nat} {b l s l' : List UInt8} (hs : l <:+ b) (h : db most l = some (s, l')) : l' <:+ b := by
  obtain ⟨p, rfl⟩ := hs
  rw [(db_dec h).1, ← List.append_assoc, ← List.append_assoc]
  exact List.suffix_append _ _
theorem rb_db {b l : List UInt8} (most : Nat) (hs : l <:+ b) : spec_ReadBytes b (((b.length : Nat) : Int) - ((l.length : Nat) : Int)) ((most : Nat) : Int) = (match db most l with | some (s, l') => (s, ((b.length : Nat) : Int) - ((l'.length : Nat) : Int), true) | none => ([], 0, false)) := by
  unfold spec_ReadBytes db
  rw [rv_suf hs]
  cases e : dv 6 0 0 l with
  | none => rfl
  | some r =>
    obtain ⟨n, l1⟩ := r
    obtain ⟨p, hp⟩ := dv_suf hs e
    have hlen : b.length = p.length + l1.length := by rw [← hp, List.length_append]
    have hdrop : b.drop (Int.toNat (((b.length : Nat) : Int) - ((l1.length : Nat) : Int))) = l1 := by
      rw [show Int.toNat (((b.length : Nat) : Int) - ((l1.length : Nat) : Int)) = p.length by omega, ← hp, List.drop_left]
    simp only [Bool.not_true, cond_false]
    by_cases h1 : n ≤ most
    · have d1 : decide (((n : Nat) : Int) > ((most : Nat) : Int)) = false := decide_eq_false (by omega)
      simp only [d1, cond_false]
      by_cases h2 : n ≤ l1.length
      · have d2 : decide (((n : Nat) : Int) > ((b.length : Nat) : Int) - (((b.length : Nat) : Int) - ((l1.length : Nat) : Int))) = false := decide_eq_false (by omega)
        simp only [d2, cond_false, hdrop]
        rw [if_pos ⟨h1, h2⟩]
        dsimp only
        rw [show Int.toNat (((b.length : Nat) : Int) - ((l1.length : Nat) : Int) + ((n : Nat) : Int)) - Int.toNat (((b.length : Nat) : Int) - ((l1.length : Nat) : Int)) = n by omega, List.length_drop, show ((b.length : Nat) : Int) - ((l1.length : Nat) : Int) + ((n : Nat) : Int) = ((b.length : Nat) : Int) - ((l1.length - n : Nat) : Int) by omega]
      · have d2 : decide (((n : Nat) : Int) > ((b.length : Nat) : Int) - (((b.length : Nat) : Int) - ((l1.length : Nat) : Int))) = true := decide_eq_true (by omega)
        simp only [d2, cond_true]
        rw [if_neg (fun h => h2 h.2)]
    · have d1 : decide (((n : Nat) : Int) > ((most : Nat) : Int)) = true := decide_eq_true (by omega)
      simp only [d1, cond_true]
      rw [if_neg (fun h => h1 h.1)]
def dn : Nat → List UInt8 → List Str → Option (List Str × List UInt8)
  | 0, l, acc => some (acc, l)
  | m + 1, l, acc => match db 8 l with
    | none => none
    | some (s, l') => dn m l' (acc ++ [bstr s])
def es (p : Str) : List UInt8 := vb 5 p.size ++ p.data.toList
def ens (l : List Str) : List UInt8 := l.flatMap es
theorem bstr_data (p : Str) : bstr p.data.toList = p := by cases p; simp [bstr]
theorem dn_enc : ∀ (ps : List Str) (l : List UInt8) (acc : List Str), (∀ p ∈ ps, p.size ≤ 8) → dn ps.length (ens ps ++ l) acc = some (acc ++ ps, l)
  | [], l, acc, _ => by simp [dn, ens]
  | p :: ps, l, acc, h => by
    have h8 := h p List.mem_cons_self
    have hl : p.data.toList.length = p.size := rfl
    have he : ens (p :: ps) ++ l = vb 5 p.data.toList.length ++ (p.data.toList ++ (ens ps ++ l)) := by
      simp only [ens, List.flatMap_cons, es, hl, List.append_assoc]
    rw [he, List.length_cons, dn, db_enc (by omega) (by omega)]
    dsimp only
    rw [bstr_data, dn_enc ps l _ (fun q hq => h q (List.mem_cons_of_mem _ hq)), List.append_assoc]
    rfl
theorem dn_dec : ∀ (m : Nat) (l : List UInt8) (acc ns : List Str) (l' : List UInt8), dn m l acc = some (ns, l') → ∃ ps, ns = acc ++ ps ∧ ps.length = m ∧ l = ens ps ++ l'
  | 0, l, acc, ns, l', h => by
    simp only [dn, Option.some.injEq, Prod.mk.injEq] at h
    obtain ⟨rfl, rfl⟩ := h
    exact ⟨[], by simp, rfl, by simp [ens]⟩
  | m + 1, l, acc, ns, l', h => by
    rw [dn] at h
    cases e : db 8 l with
    | none => rw [e] at h; cases h
    | some r =>
      obtain ⟨s, l1⟩ := r
      rw [e] at h
      obtain ⟨ps, h1, h2, h3⟩ := dn_dec m l1 _ ns l' h
      refine ⟨bstr s :: ps, by rw [h1, List.append_assoc]; rfl, by rw [List.length_cons, h2], ?_⟩
      rw [(db_dec e).1, h3]
      simp only [ens, List.flatMap_cons, es, bstr_size, List.append_assoc]
      simp [bstr]
theorem rnD {b : List UInt8} : ∀ (m : Nat) (l : List UInt8) (acc : List Str), l <:+ b → spec_ReadName_L1 b m (((b.length : Nat) : Int) - ((l.length : Nat) : Int)) acc = (match dn m l acc with | some (ns, l') => .nxt (((b.length : Nat) : Int) - ((l'.length : Nat) : Int), ns) | none => .ret (Name.mk [], 0, false))
  | 0, l, acc, _ => rfl
  | m + 1, l, acc, hs => by
    rw [spec_ReadName_L1, dn, show (8 : Int) = ((8 : Nat) : Int) from rfl, rb_db 8 hs]
    cases e : db 8 l with
    | none => rfl
    | some r =>
      obtain ⟨s, l1⟩ := r
      simp only [Bool.not_true, cond_false]
      exact rnD m l1 _ (db_suf hs e)
def dnm (l : List UInt8) : Option (Name × List UInt8) :=
  match dv 6 0 0 l with
  | none => none
  | some (k, l1) => if 6 < k then none else match dn k l1 [] with
    | none => none
    | some (ns, l') => bif spec_ValidName (Name.mk ns) then some (Name.mk ns, l') else none
def en (n : Name) : List UInt8 := vb 5 n.parts.length ++ ens n.parts
theorem dnm_enc {n : Name} (h : spec_ValidName n = true) (l : List UInt8) : dnm (en n ++ l) = some (n, l) := by
  obtain ⟨h1, h2⟩ := vnB_spec h
  unfold dnm en
  rw [List.append_assoc, dv_enc (by omega)]
  dsimp only
  rw [if_neg (by omega), dn_enc n.parts l [] h2]
  dsimp only
  rw [List.nil_append, show Name.mk n.parts = n from rfl, h]
  rfl
theorem dnm_dec {l : List UInt8} {n : Name} {l' : List UInt8} (h : dnm l = some (n, l')) : l = en n ++ l' ∧ spec_ValidName n = true := by
  unfold dnm at h
  cases e : dv 6 0 0 l with
  | none => rw [e] at h; cases h
  | some r =>
    obtain ⟨k, l1⟩ := r
    rw [e] at h
    dsimp only at h
    by_cases hk : 6 < k
    · rw [if_pos hk] at h; cases h
    · rw [if_neg hk] at h
      cases e2 : dn k l1 [] with
      | none => rw [e2] at h; cases h
      | some r =>
        obtain ⟨ns, l2⟩ := r
        rw [e2] at h
        dsimp only at h
        cases hv : spec_ValidName (Name.mk ns)
        · rw [hv] at h; cases h
        · rw [hv] at h
          simp only [cond_true, Option.some.injEq, Prod.mk.injEq] at h
          obtain ⟨rfl, rfl⟩ := h
          obtain ⟨ps, h1, h2, h3⟩ := dn_dec k l1 [] ns l2 e2
          rw [List.nil_append] at h1
          subst h1
          refine ⟨?_, hv⟩
          unfold en
          rw [(dv_dec e).1, h3, ← h2, List.append_assoc]
theorem dnm_suf {b l : List UInt8} {n : Name} {l' : List UInt8} (hs : l <:+ b) (h : dnm l = some (n, l')) : l' <:+ b := by
  obtain ⟨p, rfl⟩ := hs
  rw [(dnm_dec h).1, ← List.append_assoc]
  exact List.suffix_append _ _
theorem rn_dnm {b l : List UInt8} (hs : l <:+ b) : spec_ReadName b (((b.length : Nat) : Int) - ((l.length : Nat) : Int)) = (match dnm l with | some (n, l') => (n, ((b.length : Nat) : Int) - ((l'.length : Nat) : Int), true) | none => (Name.mk [], 0, false)) := by
  unfold spec_ReadName dnm
  rw [rv_suf hs]
  cases e : dv 6 0 0 l with
  | none => rfl
  | some r =>
    obtain ⟨k, l1⟩ := r
    simp only [Bool.not_true, cond_false, Int.toNat_natCast]
    by_cases hk : 6 < k
    · have d1 : decide (((k : Nat) : Int) > 6) = true := decide_eq_true (by omega)
      simp only [d1, cond_true]
      rw [if_pos hk]
    · have d1 : decide (((k : Nat) : Int) > 6) = false := decide_eq_false (by omega)
      simp only [d1, cond_false]
      rw [if_neg hk, rnD k l1 [] (dv_suf hs e)]
      cases e2 : dn k l1 [] with
      | none => rfl
      | some r =>
        obtain ⟨ns, l2⟩ := r
        dsimp only
        cases hv : spec_ValidName (Name.mk ns) <;> rfl
theorem anL : ∀ (ps : List Str) (b : List UInt8), (∀ p ∈ ps, p.size ≤ 8) → spec_AppendName_L1 ps b = b ++ ens ps
  | [], b, _ => by simp [spec_AppendName_L1, ens]
  | p :: ps, b, h => by
    have h8 := h p List.mem_cons_self
    have hl : p.data.toList.length = p.size := rfl
    simp only [spec_AppendName_L1, spec_AppendBytes, hl]
    rw [av_vb _ (by omega), anL ps _ (fun q hq => h q (List.mem_cons_of_mem _ hq))]
    simp only [ens, List.flatMap_cons, es, List.append_assoc]
theorem an_en (b : List UInt8) {n : Name} (h : spec_ValidName n = true) : spec_AppendName b n = b ++ en n := by
  obtain ⟨h1, h2⟩ := vnB_spec h
  unfold spec_AppendName en
  rw [h, av_vb _ (by omega)]
  simp only [Bool.not_true, cond_false]
  rw [anL n.parts _ h2, List.append_assoc]
def dvec : Nat → List UInt8 → List TableEntry → Option (List TableEntry × List UInt8)
  | 0, l, acc => some (acc, l)
  | m + 1, l, acc => match dnm l with
    | none => none
    | some (n, l1) => match dv 6 0 0 l1 with
      | none => none
      | some (x, l2) => dvec m l2 (acc ++ [⟨n, ((x : Nat) : Int)⟩])
def ee (e : TableEntry) : List UInt8 := en e.name ++ vb 5 e.value.toNat
def OkE (e : TableEntry) : Prop := spec_ValidName e.name = true ∧ 0 ≤ e.value ∧ e.value ≤ 1000000000000
theorem dvec_enc : ∀ (es_ : List TableEntry) (l : List UInt8) (acc : List TableEntry), (∀ e ∈ es_, OkE e) → dvec es_.length (es_.flatMap ee ++ l) acc = some (acc ++ es_, l)
  | [], l, acc, _ => by simp [dvec]
  | e :: es_, l, acc, h => by
    obtain ⟨h1, h2, h3⟩ := h e List.mem_cons_self
    have he : (e :: es_).flatMap ee ++ l = en e.name ++ (vb 5 e.value.toNat ++ (es_.flatMap ee ++ l)) := by simp only [List.flatMap_cons, ee, List.append_assoc]
    rw [he, List.length_cons, dvec, dnm_enc h1]
    dsimp only
    rw [dv_enc (by omega)]
    dsimp only
    rw [show ((e.value.toNat : Nat) : Int) = e.value by omega, dvec_enc es_ l _ (fun d hd => h d (List.mem_cons_of_mem _ hd)), List.append_assoc]
    rfl
theorem dvec_dec : ∀ (m : Nat) (l : List UInt8) (acc v : List TableEntry) (l' : List UInt8), dvec m l acc = some (v, l') → ∃ es_, v = acc ++ es_ ∧ es_.length = m ∧ l = es_.flatMap ee ++ l'
  | 0, l, acc, v, l', h => by
    simp only [dvec, Option.some.injEq, Prod.mk.injEq] at h
    obtain ⟨rfl, rfl⟩ := h
    exact ⟨[], by simp, rfl, by simp⟩
  | m + 1, l, acc, v, l', h => by
    rw [dvec] at h
    cases e : dnm l with
    | none => rw [e] at h; cases h
    | some r =>
      obtain ⟨n, l1⟩ := r
      rw [e] at h
      dsimp only at h
      cases e2 : dv 6 0 0 l1 with
      | none => rw [e2] at h; cases h
      | some r =>
        obtain ⟨x, l2⟩ := r
        rw [e2] at h
        obtain ⟨es_, h1, h2, h3⟩ := dvec_dec m l2 _ v l' h
        refine ⟨⟨n, ((x : Nat) : Int)⟩ :: es_, by rw [h1, List.append_assoc]; rfl, by rw [List.length_cons, h2], ?_⟩
        rw [(dnm_dec e).1, (dv_dec e2).1, h3]
        simp only [List.flatMap_cons, ee, Int.toNat_natCast, List.append_assoc]
theorem dvecD {b : List UInt8} : ∀ (m : Nat) (l : List UInt8) (acc : List TableEntry), l <:+ b → spec_DecodeVector_L1 b m (((b.length : Nat) : Int) - ((l.length : Nat) : Int)) acc = (match dvec m l acc with | some (v, l') => .nxt (((b.length : Nat) : Int) - ((l'.length : Nat) : Int), v) | none => .ret (StateVector.mk [], false))
  | 0, l, acc, _ => rfl
  | m + 1, l, acc, hs => by
    rw [spec_DecodeVector_L1, dvec, rn_dnm hs]
    cases e : dnm l with
    | none => rfl
    | some r =>
      obtain ⟨n, l1⟩ := r
      simp only [Bool.not_true, cond_false]
      rw [rv_suf (dnm_suf hs e)]
      cases e2 : dv 6 0 0 l1 with
      | none => rfl
      | some r =>
        obtain ⟨x, l2⟩ := r
        simp only [Bool.not_true, cond_false]
        exact dvecD m l2 _ (dv_suf (dnm_suf hs e) e2)
def dall (b : List UInt8) : StateVector × Bool :=
  match dv 6 0 0 b with
  | none => (StateVector.mk [], false)
  | some (k, l1) => if 20 < k then (StateVector.mk [], false) else match dvec k l1 [] with
    | none => (StateVector.mk [], false)
    | some (v, l') => if l' = [] then (bif spec_ValidVector (StateVector.mk v) then (StateVector.mk v, true) else (StateVector.mk [], false)) else (StateVector.mk [], false)
theorem dec_all (b : List UInt8) : spec_DecodeVector b = dall b := by
  unfold spec_DecodeVector dall
  have h0 := rv_suf (b := b) (l := b) (List.suffix_refl b)
  rw [Int.sub_self] at h0
  rw [h0]
  cases e : dv 6 0 0 b with
  | none => rfl
  | some r =>
    obtain ⟨k, l1⟩ := r
    simp only [Bool.not_true, cond_false, Int.toNat_natCast]
    by_cases hk : 20 < k
    · have d1 : decide (((k : Nat) : Int) > 20) = true := decide_eq_true (by omega)
      simp only [d1, cond_true]
      rw [if_pos hk]
    · have d1 : decide (((k : Nat) : Int) > 20) = false := decide_eq_false (by omega)
      simp only [d1, cond_false]
      rw [if_neg hk, dvecD k l1 [] (dv_suf (List.suffix_refl b) e)]
      cases e2 : dvec k l1 [] with
      | none => rfl
      | some r =>
        obtain ⟨v, l2⟩ := r
        dsimp only
        by_cases hl : l2 = []
        · subst hl
          have : ((((b.length : Nat) : Int) - ((([] : List UInt8).length : Nat) : Int)) != ((b.length : Nat) : Int)) = false := by simp
          simp only [this, cond_false]
          rw [if_pos trivial]
          cases spec_ValidVector (StateVector.mk v) <;> rfl
        · have : ((((b.length : Nat) : Int) - ((l2.length : Nat) : Int)) != ((b.length : Nat) : Int)) = true := by
            have : l2.length ≠ 0 := fun h => hl (List.eq_nil_of_length_eq_zero h)
            simp only [bne_iff_ne, ne_eq]
            omega
          simp only [this, cond_true]
          rw [if_neg hl]
theorem evL : ∀ (es_ : List TableEntry) (b : List UInt8), (∀ e ∈ es_, OkE e) → spec_EncodeVector_L1 es_ b = b ++ es_.flatMap ee
  | [], b, _ => by simp [spec_EncodeVector_L1]
  | e :: es_, b, h => by
    obtain ⟨h1, h2, h3⟩ := h e List.mem_cons_self
    simp only [spec_EncodeVector_L1]
    have hv : e.value = ((e.value.toNat : Nat) : Int) := by omega
    rw [an_en b h1, hv, av_vb _ (by omega), evL es_ _ (fun d hd => h d (List.mem_cons_of_mem _ hd))]
    simp only [List.flatMap_cons, ee, List.append_assoc]
theorem vtB : ∀ (r p : List TableEntry), spec_ValidTable_L1 (p ++ r) r p.length = none → ∀ e ∈ r, spec_ValidName e.name = true
  | [], p, _, e, he => by cases he
  | x :: r, p, h, e, he => by
    have ih := vtB r (p ++ [x])
    rw [mid_app, mid_len] at ih
    simp only [spec_ValidTable_L1] at h
    cases hv : spec_ValidName x.name
    · rw [hv] at h; cases h
    · rw [hv] at h
      simp only [Bool.not_true, cond_false] at h
      have hr : spec_ValidTable_L1 (p ++ x :: r) r (p.length + 1) = none := by
        rcases List.eq_nil_or_concat p with rfl | ⟨q, d, rfl⟩
        · exact h
        · have h2 : decide ((((q.concat d).length : Nat) : Int) > 0) = true := by first | (simp; done) | (simp; omega)
          have h3 : (q.concat d ++ x :: r)[((((q.concat d).length : Nat) : Int) - 1).toNat]? = some d := by
            rw [show ((((q.concat d).length : Nat) : Int) - 1).toNat = q.length by simp, List.concat_eq_append, List.append_assoc]
            exact mid q d _
          simp only [h2, cond_true, h3] at h
          cases h4 : decide (spec_CompareNames d.name x.name ≥ 0)
          · rw [h4] at h; exact h
          · rw [h4] at h; cases h
      rcases List.mem_cons.1 he with rfl | he
      · exact hv
      · exact ih hr e he
theorem vtRes (l : List TableEntry) : ∀ (r : List TableEntry) (i : Nat), spec_ValidTable_L1 l r i = none ∨ spec_ValidTable_L1 l r i = some false
  | [], i => .inl rfl
  | x :: r, i => by
    have ih := vtRes l r (i + 1)
    simp only [spec_ValidTable_L1]
    cases (!(spec_ValidName x.name))
    · simp only [cond_false]
      cases decide (((i : Nat) : Int) > 0)
      · exact ih
      · simp only [cond_true]
        cases l[(((i : Nat) : Int) - 1).toNat]? with
        | none => exact .inl rfl
        | some d =>
          dsimp only
          cases decide (spec_CompareNames d.name x.name ≥ 0)
          · exact ih
          · exact .inr rfl
    · exact .inr rfl
theorem vvB {v : StateVector} (h : spec_ValidVector v = true) : v.entries.length ≤ 20 ∧ ∀ e ∈ v.entries, OkE e := by
  unfold spec_ValidVector at h
  have q : ∀ l : List TableEntry, (spec_ValidVector_L1 l = none ∧ ∀ e ∈ l, 1 ≤ e.value ∧ e.value ≤ 1000) ∨ spec_ValidVector_L1 l = some false := by
    intro l
    induction l with
    | nil => exact .inl ⟨rfl, fun e he => by cases he⟩
    | cons x l ih =>
      simp only [spec_ValidVector_L1]
      cases hx : spec_l1In x.value 1 1000
      · exact .inr rfl
      · rcases ih with ⟨h1, h2⟩ | h1
        · exact .inl ⟨h1, fun e he => (List.mem_cons.1 he).elim (fun z => z ▸ inR_specP hx) (h2 e)⟩
        · exact .inr h1
  rcases q v.entries with ⟨h1, h2⟩ | h1
  · rw [h1] at h
    have h3 : spec_ValidTable v.entries = true := h
    unfold spec_ValidTable at h3
    rcases vtRes v.entries v.entries 0 with h4 | h4
    · rw [h4] at h3
      have h5 := of_decide_eq_true (show decide ((((v.entries).length : Nat) : Int) ≤ 20) = true from h3)
      refine ⟨by omega, fun e he => ⟨vtB v.entries [] h4 e he, by have := h2 e he; omega, by have := h2 e he; omega⟩⟩
    · rw [h4] at h3; cases h3
  · rw [h1] at h; cases h
theorem enc_all {v : StateVector} (h : spec_ValidVector v = true) : spec_EncodeVector v = vb 5 v.entries.length ++ v.entries.flatMap ee := by
  obtain ⟨h1, h2⟩ := vvB h
  unfold spec_EncodeVector
  rw [h, av_vb _ (by omega)]
  simp only [Bool.not_true, cond_false, List.nil_append]
  exact evL v.entries _ h2
theorem dec_enc (v : StateVector) : spec_DecodeVector (spec_EncodeVector v) = bif spec_ValidVector v then (v, true) else (StateVector.mk [], false) := by
  cases h : spec_ValidVector v
  · unfold spec_EncodeVector
    rw [h]
    rfl
  · obtain ⟨h1, h2⟩ := vvB h
    rw [enc_all h, dec_all]
    unfold dall
    rw [dv_enc (by omega)]
    dsimp only
    have := dvec_enc v.entries [] [] h2
    rw [List.append_nil] at this
    rw [if_neg (by omega), this]
    dsimp only
    rw [if_pos rfl, List.nil_append, show StateVector.mk v.entries = v from rfl, h, cond_true]
theorem enc_dec {b : List UInt8} (h : (spec_DecodeVector b).2 = true) : spec_EncodeVector (spec_DecodeVector b).1 = b := by
  rw [dec_all] at h ⊢
  unfold dall at h ⊢
  cases e : dv 6 0 0 b with
  | none => rw [e] at h; cases h
  | some r =>
    obtain ⟨k, l1⟩ := r
    rw [e] at h
    dsimp only at h ⊢
    by_cases hk : 20 < k
    · rw [if_pos hk] at h; cases h
    · rw [if_neg hk] at h ⊢
      cases e2 : dvec k l1 [] with
      | none => rw [e2] at h; cases h
      | some r =>
        obtain ⟨v, l2⟩ := r
        rw [e2] at h
        dsimp only at h ⊢
        by_cases hl : l2 = []
        · rw [if_pos hl] at h ⊢
          subst hl
          cases hv : spec_ValidVector (StateVector.mk v)
          · rw [hv] at h; cases h
          · simp only [cond_true]
            obtain ⟨es_, h1, h2, h3⟩ := dvec_dec k l1 [] v [] e2
            rw [List.nil_append] at h1
            subst h1
            rw [enc_all hv, (dv_dec e).1, h3, List.append_nil]
            show vb 5 v.length ++ _ = _
            rw [h2]
        · rw [if_neg hl] at h; cases h
end Go.Stp

namespace Go.Stp
open Go.RowKit (Below)
open GoT (X k ok sh fa oa)
def Opens (P : Program) (T : TypeId) (α : Type) [GoT α] : Prop :=
  P.cellsOf T = k α ∧ ∀ {H : Type} {enc : TypeId × Value → H} {w : World} {spare : Nat → Bool} {held : Bool} {fuel : Nat} {cs : List Value} {x : DataW H × List MemPlace}, DataW.trod enc P w 0 spare held fuel T cs = some x →
    ∃ (a : α) (y : X α), cs = sh a y ∧ ok 10 a ∧ All (hp w) (fa .der a y)
theorem opens_byte {P : Program} {T : TypeId} (h : P.underlying T = some (.int .u8)) (hc : P.cellsOf T = 1) : Opens P T UInt8 := ⟨hc, fun h' => by
  obtain ⟨n, rfl, _, hw⟩ := DataW.trod_int h h'
  have hn : 0 ≤ n ∧ n ≤ 255 := by simpa [Lit.wf, IntKind.min, IntKind.max, IntKind.signed, IntKind.bits] using hw
  refine ⟨UInt8.ofNat n.toNat, (), ?_, trivial, (fun _ h_ => by cases h_)⟩
  have : ((UInt8.ofNat n.toNat).toNat : Int) = n := by
    rw [UInt8.toNat_ofNat', Nat.mod_eq_of_lt (by omega)]; omega
  simp only [sh]
  rw [this]⟩
theorem cells?_each {w : World} {a : Addr} {n : Nat} {cs : List Value} (h : w.cells? 0 a n = some cs) : ∀ j u, cs[j]? = some u → w.cell? (a.add j) = some u := by
  intro j u hj
  obtain ⟨_, h1, h2⟩ := World.cells?_some h
  rw [h2 j (by rw [← h1]; exact (List.getElem?_eq_some_iff.1 hj).1)]; exact hj
theorem opens_slice {P : Program} {T E : TypeId} {α : Type} [GoT α] (h : P.underlying T = some (.slice E)) (hc : P.cellsOf T = 1) (he : Opens P E α) : Opens P T (List α) := ⟨hc, fun {H enc w spare held fuel cs x} h' => by
  rcases DataW.trod_slice h h' with ⟨rfl, _⟩ | ⟨a, len, cap, elems, rest, n, _, rfl, _, _, hl, hm, hlen, hel, _, _⟩
  · exact ⟨[], (none, 0), rfl, ⟨Nat.zero_le _, fun _ h_ => by cases h_⟩, fun f hf => by
      obtain rfl := List.mem_singleton.1 hf
      exact ⟨Nat.zero_le _, Nat.zero_le _, [], fun j u h => by simp at h, rfl⟩⟩
  · have key : ∀ m, m ≤ len → ∃ (l : List α) (xs : List Value), l.length = m ∧ xs.length = m * k α ∧ RdL (hp w) xs l ∧ (∀ b ∈ l, ok 10 b) ∧ CellsAt (hp w) (some a) xs := by
      intro m
      induction m with
      | zero => exact fun _ => ⟨[], [], rfl, by simp, rfl, by simp, fun j u h => by simp at h⟩
      | succ m ih =>
        intro hmle
        obtain ⟨l, xs, h1, h2, h3, h4, h5⟩ := ih (by omega)
        have hm' := hel m (by omega)
        rw [he.1] at hm'
        obtain ⟨y, hy⟩ : ∃ y, elems[m]? = some y := ⟨_, List.getElem?_eq_getElem (by omega)⟩
        rw [hy, Option.bind_eq_some_iff] at hm'
        obtain ⟨cs', hcs, htr⟩ := hm'
        obtain ⟨b, yb, rfl, hok, hfa⟩ := he.2 htr
        refine ⟨l ++ [b], xs ++ sh b yb, by simp [h1], by rw [List.length_append, h2, GoT.len, Nat.add_mul]; omega, h3.snoc hfa, ?_, ?_⟩
        · intro c hc
          rcases List.mem_append.1 hc with hc | hc
          · exact h4 c hc
          · simp at hc; subst hc; exact hok
        · intro j u hj
          refine ⟨a, rfl, ?_⟩
          by_cases hlt : j < xs.length
          · rw [List.getElem?_append_left hlt] at hj
            obtain ⟨a', ha', hg⟩ := h5 j u hj
            simp at ha'; subst ha'; exact hg
          · rw [List.getElem?_append_right (by omega)] at hj
            have := cells?_each hcs _ _ hj
            rw [addr_add_add, h2, show m * k α + (j - m * k α) = j by omega] at this
            exact this
    obtain ⟨l, xs, h1, h2, h3, h4, h5⟩ := key len (Nat.le_refl _)
    have hm' : len ≤ 9223372036854775807 := by simp only [maxLen] at hm; omega
    refine ⟨l, (some a, cap), by simp [sh, h1], ⟨by show l.length ≤ 9223372036854775807; omega, h4⟩, fun f hf => ?_⟩
    obtain rfl := List.mem_singleton.1 hf
    exact ⟨by omega, by omega, xs, h5, h3⟩⟩
def Arg (P : Program) (T : TypeId) (α : Type) [GoT α] (mk : List Value → Value) : Prop :=
  ∀ {H : Type} {enc : TypeId × Value → H} {W : World} {b0 : Nat} {spare : Nat → Bool} {held : Bool} {v : Value} {d : DataW H} {ps : List MemPlace}, Value.okWide P W .any b0 T v → DataW.Trod enc P W 0 spare held T v d ps →
    ∃ (a : α) (y : X α), v = mk (sh a y) ∧ ok 10 a ∧ All (hp W) (fa .der a y)
theorem arg_slice {P : Program} {T E : TypeId} {α : Type} [GoT α] (h : P.underlying T = some (.slice E)) (ho : Opens P T (List α)) : Arg P T (List α) (fun cs => cs.headD undef) := by
  intro H enc W b0 spare held v d ps hval ⟨fuel, hf⟩
  obtain ⟨a, y, h1, h2, h3⟩ := ho.2 hf
  refine ⟨a, y, ?_, h2, h3⟩
  cases v with
  | agg cs => simp [Value.okWide, h, Cell.okWide, Cell.ok] at hval
  | _ => first | (simp [Value.cells, sh] at h1; done) | (simp [Value.cells, sh] at h1; simp [sh, h1])
theorem trodAll_stays {H : Type} {enc : TypeId × Value → H} {P : Program} (hl : laidOutB P = true) {W W' : World} {sp : Nat → Bool} : ∀ {ts : List TypeId} {vs : List Value} {ds : List (DataW H)} {ps : List MemPlace},
    ts.all (fun t => P.readableRec t && decide (t < P.types.size)) = true → DataW.TrodAll enc P W 0 (fun _ => true) true ts vs ds ps → (∀ p ∈ ps, W.sameAt W' p) → (∀ p ∈ ps, sp p.block = true) → DataW.TrodAll enc P W' 0 sp true ts vs ds ps
  | [], [], [], _, _, h, _, _ => h
  | t :: ts, v :: vs, d :: ds, ps, ha, ⟨p, q, h1, h2, e⟩, hs, hsp => by
    simp only [List.all_cons, Bool.and_eq_true, decide_eq_true_eq] at ha
    subst e
    exact ⟨p, q, WideElems.Trod_stays hl ha.1.1 ha.1.2 h1 (fun x hx => hs x (List.mem_append_left _ hx)) (fun x hx => hsp x (List.mem_append_left _ hx)),
      trodAll_stays hl ha.2 h2 (fun x hx => hs x (List.mem_append_right _ hx)) (fun x hx => hsp x (List.mem_append_right _ hx)), rfl⟩
theorem trodAll_len {H : Type} {enc : TypeId × Value → H} {P : Program} {W : World} {b : Nat} {sp : Nat → Bool} {hd : Bool} : ∀ {ts : List TypeId} {vs : List Value} {ds : List (DataW H)} {ps : List MemPlace}, DataW.TrodAll enc P W b sp hd ts vs ds ps → ds.length = ts.length
  | [], [], [], _, _ => rfl
  | _ :: _, _ :: _, _ :: _, _, ⟨_, _, _, h2, _⟩ => by simp [trodAll_len h2]
theorem law_post {H : Type} {enc : TypeId × Value → H} {P : Program} {f : Func} {s : ChangeSpec} {W W' : World} {args : Array Value} {ds gs : List (DataW H)} {before : List MemPlace} {B : TypeId}
    (hl : laidOutB P = true) (hpar : f.params.toList.all (fun t => P.readableRec t && decide (t < P.types.size)) = true) (hvars : s.vars = []) (hB : f.resultTypes = #[B]) (hu : P.underlying B = some .bool)
    (hfn : ∀ ds : List (DataW H), ds.length = f.params.size → s.fn H ds = { results := [.lit (.bool true)], args := ds })
    (hW : DataW.Whole enc P f.params.toList s.vars false W args.toList ds gs before) (hb : Below W.heap.size W W') : s.post enc P f false true false false W args (.bool true) W' := by
  have hW' := hW
  have hlt : ∀ p ∈ before, p.block < W.heap.size := fun p hp => hW.lt p hp
  obtain ⟨p, q, hA, hV, rfl, hfz, hnd⟩ := hW'
  rw [hvars] at hV
  obtain ⟨rfl, rfl⟩ := ChangeShapes.trodVars_none hV
  have hlen : ds.length = f.params.size := by simpa using trodAll_len hA
  have hdd : s.fn H (ds ++ []) = { results := [.lit (.bool true)], args := ds } := by rw [List.append_nil]; exact hfn ds hlen
  have hres : ∀ (b : Nat) (sp : Nat → Bool) (hd : Bool), DataW.TrodAll enc P W' b sp hd f.resultTypes.toList ((Value.bool true).resultList f.resultTypes.size) (s.fn H (ds ++ [])).results [] := by
    intro b sp hd
    rw [hdd, hB]
    exact trodAll_cons_mk (RowKit.shut_bool hu _) ChangeShapes.trodAll_mk0
  have hargs : ∀ sp : Nat → Bool, (∀ x ∈ p ++ [], sp x.block = true) → DataW.TrodAll enc P W' 0 sp true f.params.toList args.toList (s.fn H (ds ++ [])).args p := by
    intro sp hsp
    rw [hdd]
    exact trodAll_stays hl hpar hA (fun x hx => hb.same (hlt x (by simpa using hx))) (fun x hx => hsp x (by simpa using hx))
  have hvars' : ∀ sp : Nat → Bool, DataW.TrodVars enc P W' sp s.vars (s.fn H (ds ++ [])).vars [] := by
    intro sp; rw [hvars, hdd]; rfl
  have hold : ∀ x ∈ p ++ [], (fun b => decide (b < W.heap.size)) x.block = true := fun x hx => by simpa using hlt x hx
  refine ⟨ds, [], p ++ [], [], p, [], hW, hres _ _ _, hargs _ hold, hvars' _, World.keptBut_mono (fun x hx => ⟨hx, Or.inr (by simpa using hx)⟩) (hb.frame (· ∈ p ++ [])), fun h => (by cases h)⟩
end Go.Stp

namespace Go.Proofs.Ytdimfabadjfkiaa.Facts
set_option maxRecDepth 100000
theorem laid : laidOutB Try.prog = true := by kernel_rfl
theorem rowed : mapsRowed Try.prog = true := by kernel_rfl
end Go.Proofs.Ytdimfabadjfkiaa.Facts

namespace Go.Stp
set_option linter.unusedVariables false
set_option linter.unusedSimpArgs false
open Classical in
theorem true_FnVecs (code : List UInt8) (hcode : GoT.ok 10 code) : laws_FnVecs code = true := by
  obtain ⟨ha, hb, hc⟩ := drawVecs_gd code
  obtain ⟨j1, j2, j3, j4, j5, j6, j7⟩ := join_laws ha hb hc
  have hr : ∀ l : List TableEntry, laws_sameRows l l = true := fun l => by rw [sameRows_eq]; exact decide_eq_true rfl
  have hs : ∀ l : List UInt8, laws_same l l = true := fun l => by rw [same_eq]; exact decide_eq_true rfl
  have h7 : (spec_VectorLeq (spec_DrawVecs code).1 (spec_DrawVecs code).2.1 == laws_sameRows (spec_JoinVectors (spec_DrawVecs code).1 (spec_DrawVecs code).2.1).entries (spec_DrawVecs code).2.1.entries) = true := by
    rw [sameRows_eq]
    cases h : spec_VectorLeq (spec_DrawVecs code).1 (spec_DrawVecs code).2.1
    · have : ¬ (spec_JoinVectors (spec_DrawVecs code).1 (spec_DrawVecs code).2.1).entries = (spec_DrawVecs code).2.1.entries := fun z => by rw [j7.2 z] at h; cases h
      rw [decide_eq_false this]; rfl
    · rw [decide_eq_true (j7.1 h)]; rfl
  have h7' := h7
  rw [j2] at h7'
  have h8 := nt_leq (spec_DrawVecs code).1 (spec_DrawVecs code).2.1
  have hd := dec_enc (spec_DrawEncodeVector code)
  have hq : (spec_DecodeVector (spec_DrawDecodeVector code)).2 = true → laws_same (spec_EncodeVector (spec_DecodeVector (spec_DrawDecodeVector code)).1) (spec_DrawDecodeVector code) = true := fun h => by rw [enc_dec h]; exact hs _
  unfold laws_FnVecs
  simp only [same_JoinVectors', same_VectorLeq, same_NewerThan', same_EncodeVector', same_DecodeVector', same_SeqOf', same_VectorSum', same_ValidVector', hr, hs, bne_self_F, nbeq_self_F, beq_self_eq_true, Bool.not_true, cond_false, hd, j1, j2, j3, j4, j5, j6, h7, h7', h8, cond_true]
  cases laws_big code
  · simp only [cond_false]
    cases hv : spec_ValidVector (spec_DrawEncodeVector code)
    · simp only [cond_false, nbeq_self_F]
      cases hk : (spec_DecodeVector (spec_DrawDecodeVector code)).2
      · simp only [cond_false]
      · simp only [cond_true, hq hk, Bool.not_true, cond_false]
    · simp only [cond_true, nbeq_self_F, hr, Bool.not_true, cond_false]
      cases hk : (spec_DecodeVector (spec_DrawDecodeVector code)).2
      · simp only [cond_false]
      · simp only [cond_true, hq hk, Bool.not_true, cond_false]
  · rfl
end Go.Stp
namespace Go.Proofs.Ytdimfabadjfkiaa
open Go.Stp
open Go.RowKit (Below)
open Go.ChangeShapes Go.WideShapes Go.ChangeAt
namespace LawFnVecs
theorem own : ownKnob Try.prog.godebug = none := by kernel_rfl
theorem laid : laidOutB Try.prog = true := Facts.laid
set_option maxRecDepth 100000 in
theorem lifted (os : Os) (started : os.Started) (H : Type) (enc : TypeId × Value → H) :
    ReturnsInHanded {} Try.checked os 4 .any (Rows.fnVecsSpec.pre6 enc Try.prog Try.f4 Rows.fnVecsRow.domain false) (Rows.fnVecsSpec.post enc Try.prog Try.f4 false true false false) := by
  refine returnsInHanded_of_change (C := Try.checked) own started (by kernel_rfl) Try.func4
    (ChangeSpec.witness6 (enc := enc) (C := Try.checked) false ⟨#[], #[.slice none 0 0], []⟩ 8 (by kernel_rfl) (by kernel_rfl) (by kernel_rfl) (by kernel_rfl)) ?_
  intro W base args ds gs before hval0 hW _ _
  have hval : ∀ (j : Nat) t v, Try.f4.params[j]? = some t → args[j]? = some v → Value.okWide Try.prog W .any base t v := hval0
  have hW' := hW
  obtain ⟨p, q, hA0, _⟩ := hW
  have hA : DataW.TrodAll enc Try.prog W 0 (fun _ => true) true Try.f4.params.toList args.toList ds p := hA0
  rw [Try.params4] at hA hval
  obtain ⟨v0, vs0, d0, ds0, p0, q0, hargs, rfl, rfl, h0, r0⟩ := ChangeShapes.trodAll_cons hA
  obtain ⟨rfl, rfl, rfl⟩ := trodAll_nil r0
  obtain rfl : args = #[v0] := by cases args; simp_all
  obtain ⟨a0, x0, rfl, k0, g0⟩ := (arg_slice Try.underlying22 (opens_slice Try.underlying22 (by kernel_rfl) (opens_byte Try.underlying5 (by kernel_rfl)))) (hval 0 22 _ rfl rfl) h0
  have ht := true_FnVecs a0 k0
  refine (f4 W 0 (by decide) a0 x0.1 x0.2 (g0 (MF.rs .der x0.1 x0.2 a0) (List.mem_cons_self)) k0).2.mono fun e W1 ⟨v, he, hb, hv⟩ => ?_
  rw [ht] at hv
  obtain ⟨rfl, _⟩ := hv
  subst he
  exact ⟨_, rfl, law_post laid (by kernel_rfl) rfl rfl Try.underlying4 (fun ds h => by match ds, h with | [_], _ => rfl) hW' hb.below⟩
set_option maxRecDepth 100000 in
theorem c_inPlace : (Rows.fnVecsRow.inPlace == Try.prog.inPlace 4) = true := by kernel_rfl
set_option maxRecDepth 100000 in
theorem c_unfollowed : (Rows.fnVecsRow.unfollowed == Try.prog.unfollowed 4) = true := by kernel_rfl
set_option maxRecDepth 100000 in
theorem c_recurses : (Rows.fnVecsRow.recurses == Try.prog.recurses 4) = true := by kernel_rfl
set_option maxRecDepth 100000 in
theorem c_named : (Rows.fnVecsRow.named == Try.prog.varsNamed 4) = true := by kernel_rfl
set_option maxRecDepth 100000 in
theorem c_read : Try.f4.params.all (Try.pinned.checked.prog.readableRec ·) = true := by kernel_rfl
set_option maxRecDepth 100000 in
theorem c_maps : (Rows.fnVecsRow.maps == (Try.f4.params.toList ++ Rows.fnVecsSpec.plain.varTypes Try.pinned.checked.prog).any (Try.pinned.checked.prog.mapsRec ·)) = true := by kernel_rfl
set_option maxRecDepth 100000 in
theorem c_ifaces : (Rows.fnVecsRow.ifaces == (Try.f4.params.toList ++ Rows.fnVecsSpec.plain.varTypes Try.pinned.checked.prog).any (Try.pinned.checked.prog.ifacesRec ·)) = true := by kernel_rfl
set_option maxRecDepth 100000 in
theorem c_loops : (Rows.fnVecsRow.loops == (Try.f4.params.toList ++ Rows.fnVecsSpec.plain.varTypes Try.pinned.checked.prog).any (Try.pinned.checked.prog.loopsFrom ·)) = true := by kernel_rfl
set_option maxRecDepth 100000 in
theorem c_wide : (Rows.fnVecsRow.wideKeys == (Try.f4.params.toList ++ Rows.fnVecsSpec.plain.varTypes Try.pinned.checked.prog ++ Try.f4.resultTypes.toList).any (Try.pinned.checked.prog.wideKeysFrom ·)) = true := by kernel_rfl
set_option maxRecDepth 100000 in
theorem c_rread : Try.f4.resultTypes.all (fun t => Try.pinned.checked.prog.readableRec t && decide (t < Try.pinned.checked.prog.types.size)) = true := by kernel_rfl
set_option maxRecDepth 100000 in
theorem c_veiled : (Rows.fnVecsRow.veiled == (Try.f4.params.toList ++ Rows.fnVecsSpec.plain.varTypes Try.pinned.checked.prog ++ Try.f4.resultTypes.toList).any (Try.pinned.checked.prog.veiledRec ·)) = true := by kernel_rfl
set_option maxRecDepth 100000 in
theorem c_vfits : Rows.fnVecsRow.veiledFits Try.pinned.checked.prog Try.f4.params.toList (Try.f4.params.toList ++ Rows.fnVecsSpec.plain.varTypes Try.pinned.checked.prog ++ Try.f4.resultTypes.toList) = true := by kernel_rfl
set_option maxRecDepth 100000 in
theorem c_enter : Try.pinned.checked.prog.mayEnter = true := by kernel_rfl
set_option maxRecDepth 100000 in
theorem c_heard : Try.pinned.checked.prog.stopsHeard = true := by kernel_rfl
set_option maxRecDepth 100000 in
theorem c_lifted : (Rows.fnVecsRow.lifted == Try.pinned.checked.prog.liftsFinal) = true := by kernel_rfl
set_option maxRecDepth 100000 in
theorem c_plainKeys : (Rows.fnVecsRow.plainKeys == Try.pinned.checked.prog.plainKeys) = true := by kernel_rfl
set_option maxRecDepth 100000 in
theorem c_make : (Try.pinned.checked.prog.make == some Rows.fnVecsRow.make) = true := by kernel_rfl
set_option maxRecDepth 100000 in
theorem closed : joinedFacts Try.pinned.checked.prog 4 Try.f4 Rows.fnVecsSpec Rows.fnVecsRow = true := by
  unfold joinedFacts
  rw [show laidOutB Try.pinned.checked.prog = true from laid, show mapsRowed Try.pinned.checked.prog = true from Facts.rowed, show (Rows.fnVecsRow.inPlace == Try.pinned.checked.prog.inPlace 4) = true from c_inPlace, show (Rows.fnVecsRow.unfollowed == Try.pinned.checked.prog.unfollowed 4) = true from c_unfollowed, show (Rows.fnVecsRow.recurses == Try.pinned.checked.prog.recurses 4) = true from c_recurses, show (Rows.fnVecsRow.named == Try.pinned.checked.prog.varsNamed 4) = true from c_named, c_read, c_maps, c_ifaces, c_loops, c_wide, c_rread, c_veiled, c_vfits, c_enter, c_heard, c_lifted, c_plainKeys, c_make]
  kernel_rfl
theorem over : Rows.fnVecsRow.holds Try.pinned (OpenSpec.ofChange Rows.fnVecsSpec) :=
  OpenClaim.holds_of_wide 4 Try.f4 rfl rfl rfl rfl rfl rfl rfl ⟨rfl, rfl, rfl, rfl, rfl⟩ rfl rfl rfl rfl rfl (by kernel_rfl) Try.func4 closed
    (of_decide_eq_true (by kernel_rfl)) (by unfold Func.isWrapper; first | (rw [if_pos (by decide +kernel)]; kernel_rfl) | (rw [if_neg (by decide +kernel)]; exact ⟨rfl, rfl⟩))
    (fun os started H enc _ => lifted os started H enc)
theorem proved : Rows.FnVecsSaid := over
#print axioms proved
end LawFnVecs
end Go.Proofs.Ytdimfabadjfkiaa

