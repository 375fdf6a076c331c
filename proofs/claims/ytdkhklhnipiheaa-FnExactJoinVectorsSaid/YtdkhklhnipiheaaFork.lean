/-
  The last operations of a region whose order the model draws, where more than one may come next. No condition.
-/
import Derived.Test.YtdkhklhnipiheaaIns
namespace Go.Stp
def TX (C : Cx) (ops : Array Oper) (tl : List Nat) (s : List It) (S : World → Prop) (fuel : Nat) (listed : Array Bool) (env : Env) (L : Locs) (R : Rows) (Γ : Facts) : Prop :=
  (∀ w w', Kp emp w w' → S w → S w') → ∀ a w, Sat C env L R Γ a w → wpAnyT C.P ops (cont C s) S tl fuel listed a w
theorem DX.toTX {C : Cx} {ops : Array Oper} {tl : List Nat} {s : List It} {bs : Nat → Nat} {G0 : GH} {fuel : Nat} {listed : Array Bool} {env : Env} {L : Locs} {R : Rows} {Γ : Facts} (k : ∀ S, TX C ops tl s S fuel listed env L R Γ) : DX C ops tl s bs G0 fuel listed env L R Γ :=
  fun _ a w G _ hS => k _ (fun _ _ hb h => h.keep hb) a w ⟨G, bs, hS⟩
def TXI (C : Cx) (ops : Array Oper) (tl : List Nat) (s : List It) (S : World → Prop) (fuel : Nat) (listed : Array Bool) : Act → World → Prop := fun a w => (∀ w w', Kp emp w w' → S w → S w') → wpAnyT C.P ops (cont C s) S tl fuel listed a w
theorem upon_then {P : Program} {o : Oper} {a : Act} {next I : Act → World → Prop} {Q : Exit → Act → World → Prop} {r : Result Next} (h : o.upon P a next (Exit.then I Q) r) : o.upon P a next Q r := by
  cases r with
  | ok x w => cases x <;> exact h
  | halt x w => cases x <;> exact h
theorem TX.step {C : Cx} {ops : Array Oper} {tl : List Nat} {s : List It} {S : World → Prop} {fuel : Nat} {listed : Array Bool} {env : Env} {L : Locs} {R : Rows} {Γ : Facts} {x : Nat} {o : Oper} (hS : ∀ w w', Kp emp w w' → S w → S w') (hi : ops[x]? = some o) (hp : tl.contains x = true ∨ presO o.op = true)
    (kx : WX C (.ops ops [o] :: .iter (TXI C ops tl s S fuel (listed.setIfInBounds x true)) :: s) env L R Γ) {a : Act} {w : World} (hSat : Sat C env L R Γ a w) :
    wpOp C.P ops (cont C s) x (fun a' w' => (tl.contains x = false → S w → S w') ∧ wpAnyT C.P ops (cont C s) S tl fuel (listed.setIfInBounds x true) a' w') a w := by
  have h : wpOp C.P ops (cont C s) x (TXI C ops tl s S fuel (listed.setIfInBounds x true)) a w := by
    have h1 : wpList C.P ops (Exit.then (TXI C ops tl s S fuel (listed.setIfInBounds x true)) (cont C s)) [o] a w := kx a w hSat
    unfold wpOp
    simp only [hi]
    unfold wpList at h1
    split at h1
    · rename_i hw
      rw [if_pos hw]
      exact h1.imp (fun h => upon_then (o := o) h) id
    · rename_i hw
      rw [if_neg hw]
      exact h1
  rcases hp with ht | hp
  · exact wpOp_mono (fun a' w' h' => ⟨fun h => (by rw [ht] at h; cases h), h' hS⟩) h
  · exact wpOp_mono (fun a' w' h' => ⟨fun _ => hS _ _ h'.1, h'.2 hS⟩) (wpOp_pres hi hp h)
def tlB (ops : Array Oper) (tl : List Nat) (x : Nat) : Bool := tl.contains x || presB ops x
theorem tlB_spec {ops : Array Oper} {tl : List Nat} {x : Nat} {o : Oper} (hi : getO ops.toList x = some o) (h : tlB ops tl x = true) : ops[x]? = some o ∧ (tl.contains x = true ∨ presO o.op = true) := by
  unfold tlB presB at h
  rw [hi] at h
  rw [getO_eq] at hi
  exact ⟨by simpa using hi, by simpa using h⟩
theorem TX.one {C : Cx} {ops : Array Oper} {tl : List Nat} {s : List It} {S : World → Prop} {fuel : Nat} {listed : Array Bool} {env : Env} {L : Locs} {R : Rows} {Γ : Facts} {o : Oper} (x : Nat) (hr : Region.ready .any ops listed = [x]) (hi : getO ops.toList x = some o) (hp : tlB ops tl x = true)
    (kx : WX C (.ops ops [o] :: .iter (TXI C ops tl s S fuel (listed.setIfInBounds x true)) :: s) env L R Γ) : TX C ops tl s S (fuel + 1) listed env L R Γ := fun hS a w hSat => by
  obtain ⟨h1, h2⟩ := tlB_spec hi hp
  refine ⟨fun h => (by rw [hr] at h; cases h), fun j hj => ?_⟩
  rw [hr] at hj
  obtain rfl : j = x := by simpa using hj
  exact TX.step hS h1 h2 kx hSat
theorem TX.two {C : Cx} {ops : Array Oper} {tl : List Nat} {s : List It} {S : World → Prop} {fuel : Nat} {listed : Array Bool} {env : Env} {L : Locs} {R : Rows} {Γ : Facts} {o o' : Oper} (x y : Nat) (hr : Region.ready .any ops listed = [x, y]) (hi : getO ops.toList x = some o) (hp : tlB ops tl x = true) (hi' : getO ops.toList y = some o') (hp' : tlB ops tl y = true)
    (kx : WX C (.ops ops [o] :: .iter (TXI C ops tl s S fuel (listed.setIfInBounds x true)) :: s) env L R Γ) (ky : WX C (.ops ops [o'] :: .iter (TXI C ops tl s S fuel (listed.setIfInBounds y true)) :: s) env L R Γ) : TX C ops tl s S (fuel + 1) listed env L R Γ := fun hS a w hSat => by
  obtain ⟨h1, h2⟩ := tlB_spec hi hp
  obtain ⟨h3, h4⟩ := tlB_spec hi' hp'
  refine ⟨fun h => (by rw [hr] at h; cases h), fun j hj => ?_⟩
  rw [hr] at hj
  rcases List.mem_cons.1 hj with rfl | hj
  · exact TX.step hS h1 h2 kx hSat
  · obtain rfl : j = y := by simpa using hj
    exact TX.step hS h3 h4 ky hSat
theorem WX.back {C : Cx} {ops : Array Oper} {tl : List Nat} {s : List It} {S : World → Prop} {fuel : Nat} {listed : Array Bool} {env : Env} {L : Locs} {R : Rows} {Γ : Facts} (k : TX C ops tl s S fuel listed env L R Γ) : WX C (.ops ops [] :: .iter (TXI C ops tl s S fuel listed) :: s) env L R Γ :=
  fun a w hSat hS => k hS a w hSat
theorem WX.back0 {C : Cx} {ops : Array Oper} {tl : List Nat} {s : List It} {S : World → Prop} {fuel : Nat} {listed : Array Bool} {env : Env} {L : Locs} {R : Rows} {Γ : Facts} (k : TX C ops tl s S fuel listed env L R Γ) : WX C (.iter (TXI C ops tl s S fuel listed) :: s) env L R Γ :=
  fun a w hSat hS => k hS a w hSat
theorem TX.tail {C : Cx} {ops : Array Oper} {tl : List Nat} {s : List It} {S : World → Prop} {fuel : Nat} {listed : Array Bool} {env : Env} {L : Locs} {R : Rows} {Γ : Facts} {rest : List Oper} (is : List Nat) (hr : pickO ops.toList is = some rest) (hf : fuel = is.length) (hs : seqL2 ops tl is listed = true)
    (k : WX C (.ops ops rest :: s) env L R Γ) : TX C ops tl s S fuel listed env L R Γ := fun hS a w hSat => by
  subst hf
  exact wpAnyT_of_seq2 hS is rest listed a w hr hs (k a w hSat)
end Go.Stp
