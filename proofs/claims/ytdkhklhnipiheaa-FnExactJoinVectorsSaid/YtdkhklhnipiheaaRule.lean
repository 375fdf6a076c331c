/-
  The rules of the logic: begin, return, cases, arithmetic, calls, loops. No condition.
-/
import Derived.Test.YtdkhklhnipiheaaBase
import Derived.IntWalk
namespace Go.Stp
open Go.RowKit (Below)
theorem WX.run {C : Cx} {s s' : List It} {env env' : Env} {L L' : Locs} {R : Rows} {Γ : Facts} (ht : TabOk C.P C.tt)
    (h : exec C.tt C.fn.ntmps R 1000 s env L = (s', env', L')) (k : WX C s' env' L' R Γ) : WX C s env L R Γ := exec_sound ht 1000 s env L s' env' L' h k

/-! ### begin -/
def EnterOk (P : Program) (g : FuncId) : Prop := ∃ fn, P.funcs[g]? = some fn ∧ (fn.name == "runtime.NumGoroutine") = false ∧ fn.body.isSome = true
/-- function g may be entered; called with these arguments in world w, with the memory H lent, it returns, leaves what was there as it was but for H, and Ψ holds -/
def Does (P : Program) (g : FuncId) (args : Array Value) (w : World) (H : GH) (Ψ : Value → World → Prop) : Prop := EnterOk P g ∧ Calls P g args w (Ret w H Ψ)
theorem Does.mono {P : Program} {g : FuncId} {args : Array Value} {w : World} {H : GH} {Ψ Ψ' : Value → World → Prop} (h : Does P g args w H Ψ) (k : ∀ v w', Kp H w w' → Ψ v w' → Ψ' v w') : Does P g args w H Ψ' :=
  ⟨h.1, h.2.mono fun _ _ ⟨v, e, b, q⟩ => ⟨v, e, b, k v _ b q⟩⟩
/-- the result is val i for some i; the memory of one's own that it names is new, or was lent; Q is known besides -/
def Post (w : World) (H : GH) {ι : Type} (val : ι → Value) (fs : ι → List MF) (Q : Prop) : Value → World → Prop := fun v w' =>
  ∃ i h, v = val i ∧ Q ∧ Le h (hp w') ∧ (∀ b o, h b = some o → w.heap.size ≤ b ∨ H b ≠ none) ∧ Sep h (fs i)
theorem Post.imp {w : World} {H : GH} {ι : Type} {val : ι → Value} {fs : ι → List MF} {Q Q' : Prop} {v : Value} {w' : World} (h : Post w H val fs Q v w') (k : Q → Q') : Post w H val fs Q' v w' := by
  obtain ⟨i, h, a, b, c⟩ := h
  exact ⟨i, h, a, k b, c⟩
theorem ne_none {α : Type} {x : Option α} {o : α} (h : x = some o) : x ≠ none := by rw [h]; simp
/-- all of them are of memory that nobody writes -/
def AllS (G : GH) (Γ : Facts) : Prop := ∀ n f, (n, f) ∈ Γ → f.k = .stb ∧ f.p G
theorem allS_nil {G : GH} : AllS G [] := fun _ _ h => by cases h
theorem allS_cons {G : GH} {n : Nat} {f : MF} {Γ : Facts} (hk : f.k = .stb) (h : f.p G) (k : AllS G Γ) : AllS G ((n, f) :: Γ) := fun m g hg => by
  rcases List.mem_cons.1 hg with hg | hg
  · cases hg; exact ⟨hk, h⟩
  · exact k m g hg
theorem AllS.lins {G : GH} : ∀ {Γ : Facts}, AllS G Γ → lins Γ = []
  | [], _ => rfl
  | (n, f) :: Γ, h => by
    have h1 := h n f (List.mem_cons_self ..)
    simp only [Stp.lins, h1.1]
    exact AllS.lins (Γ := Γ) fun m g hg => h m g (List.mem_cons_of_mem _ hg)
theorem AllS.mono {G G' : GH} {Γ : Facts} (h : AllS G Γ) (k : Le G G') : AllS G' Γ := fun n f hf => ⟨(h n f hf).1, f.m k (h n f hf).2⟩
theorem AllS.allK {M : Nat → Prop} {G : GH} {Γ : Facts} (h : AllS G Γ) : AllK M G Γ :=
  ⟨G, emp, Le.refl _, emp_le _, (emp_dj _).symm, (fun _ _ h => by cases h), fun n f hf _ => (h n f hf).2, fun n f hf _ => (h n f hf).2, by rw [h.lins]; trivial⟩
theorem mem_addL {n : Nat} {g : MF} : ∀ {fs : List MF} {m : Nat} {Γ : Facts}, (n, g) ∈ addL m fs Γ → g ∈ fs ∨ (n, g) ∈ Γ
  | [], _, _, h => .inr h
  | f :: fs, m, Γ, h => by
    rcases List.mem_cons.1 h with h | h
    · cases h; exact .inl (List.mem_cons_self ..)
    · exact (mem_addL h).imp (List.mem_cons_of_mem _) id
theorem lins_addL : ∀ {fs : List MF} {m : Nat} {Γ : Facts}, (∀ f ∈ fs, f.k = .lin) → lins (addL m fs Γ) = fs ++ lins Γ
  | [], _, _, _ => rfl
  | f :: fs, m, Γ, h => by
    simp only [addL, lins, h f (List.mem_cons_self ..), List.cons_append]
    rw [lins_addL fun g hg => h g (List.mem_cons_of_mem _ hg)]
/-- .. and some are of memory that has been lent -/
theorem AllS.lent {M : Nat → Prop} {G H : GH} {Γ : Facts} {fs : List MF} (n : Nat) (h : AllS (cut G H) Γ) (hl : Le H G) (hM : ∀ b o, H b = some o → M b) (hk : ∀ f ∈ fs, f.k = .lin) (hs : Sep H fs) : AllK M G (addL n fs Γ) := by
  refine ⟨cut G H, H, cut_le _ _, hl, cut_dj _ _, hM, fun m g hg hk' => ?_, fun m g hg hk' => ?_, ?_⟩
  · rcases mem_addL hg with hg | hg
    · rw [hk g hg] at hk'; cases hk'
    · exact (h m g hg).2
  · rcases mem_addL hg with hg | hg
    · rw [hk g hg] at hk'; cases hk'
    · rw [(h m g hg).1] at hk'; cases hk'
  · rw [lins_addL hk, h.lins, List.append_nil]; exact hs
/-- block b holds the cells cs -/
def MF.bx (b T : Nat) (cs : List Value) : MF := ⟨.lin, fun h => h b = some (.cells cs.toArray T (0, 0)), fun h k => h _ _ k⟩
def envOf : Nat → List Value → Env
  | _, [] => []
  | i, v :: r => (i, .v v) :: envOf (i + 1) r
theorem look_envOf : ∀ (l : List Value) (i d : Nat) (s : SV), look (envOf i l) d = some s → ∃ v, s = .v v ∧ i ≤ d ∧ l[d - i]? = some v
  | [], i, d, s, h => by simp [envOf, look] at h
  | x :: r, i, d, s, h => by
    simp only [envOf] at h
    rw [look_cons] at h
    split at h
    · rename_i e; subst e; simp at h; subst h; exact ⟨x, rfl, Nat.le_refl _, by simp⟩
    · obtain ⟨v, h1, h2, h3⟩ := look_envOf r (i + 1) d s h
      refine ⟨v, h1, by omega, ?_⟩
      rw [show d - i = (d - (i + 1)) + 1 by omega]; simpa using h3
theorem At.enter {n : Nat} {args : List Value} (hs : Nat.ble args.length n = true) (bs : Nat → Nat) {a : Act} (ha : a.tmps = args.toArray ++ Array.replicate (n - args.length) undef) (hd : a.defers = []) : At n (envOf 0 args) bs a := by
  have hs' : args.length ≤ n := Nat.le_of_ble_eq_true hs
  refine ⟨by rw [ha]; simp; omega, hd, fun d s h => ?_⟩
  obtain ⟨v, rfl, _, hv⟩ := look_envOf args 0 d s h
  simp only [Nat.sub_zero] at hv
  have hd : d < args.length := (List.getElem?_eq_some_iff.1 hv).1
  rw [ha]
  simp only [conc, Array.getD_eq_getD_getElem?]
  rw [Array.getElem?_append_left (by simpa using hd)]
  simp [hv]
/-- memory of the caller's is read; none is lent -/
theorem WX.enter {P : Program} {g : FuncId} {fn : Func} {c : Code} {tt : TT} {args : List Value} {w : World} {Φ : Value → World → Prop} {Γ : Facts}
    (hf : P.funcs[g]? = some fn) (hb : fn.body = some c) (hn : (fn.name == "runtime.NumGoroutine") = false) (hs : Nat.ble args.length fn.ntmps = true) (h0 : AllS (hp w) Γ)
    (k : WX ⟨P, fn, tt, w, emp, none, Φ⟩ [.code c] (envOf 0 args) [] [] Γ) : Does P g args.toArray w emp Φ := by
  refine ⟨⟨fn, hf, hn, by simp [hb]⟩, calls_of_wp hf hb ?_⟩
  refine k _ w ⟨hp w, fun _ => 0, At.enter hs _ (by simp) rfl, ⟨Kp.refl _ _, Le.refl _, by simp [look], by simp [look], fun i j _ hi => ?_, by simp [look], (fun b h => by cases h), by simp [look]⟩, h0.allK⟩
  rcases hi with ⟨l, h⟩ | ⟨r, h, _⟩ <;> simp [look] at h
/-- .. and some is lent -/
theorem WX.enterM {P : Program} {g : FuncId} {fn : Func} {c : Code} {tt : TT} {args : List Value} {w : World} {H : GH} {Φ : Value → World → Prop} {Γ : Facts} {fs : List MF} {Γ' : Facts} (n : Nat)
    (hf : P.funcs[g]? = some fn) (hb : fn.body = some c) (hn : (fn.name == "runtime.NumGoroutine") = false) (hs : Nat.ble args.length fn.ntmps = true) (h0 : AllS (cut (hp w) H) Γ) (hH : Le H (hp w)) (hl : Sep H fs) (hk : ∀ f ∈ fs, f.k = .lin) (hΓ' : addF n fs Γ = some Γ')
    (k : WX ⟨P, fn, tt, w, H, none, Φ⟩ [.code c] (envOf 0 args) [] [] Γ') : Does P g args.toArray w H Φ := by
  refine ⟨⟨fn, hf, hn, by simp [hb]⟩, calls_of_wp hf hb ?_⟩
  rw [addF_eq hΓ'] at k
  refine k _ w ⟨hp w, fun _ => 0, At.enter hs _ (by simp) rfl, ⟨Kp.refl _ _, Le.refl _, by simp [look], by simp [look], fun i j _ hi => ?_, by simp [look], (fun b h => by cases h), by simp [look]⟩, h0.lent n hH (fun b o hb => .inr (ne_none hb)) hk hl⟩
  rcases hi with ⟨l, h⟩ | ⟨r, h, _⟩ <;> simp [look] at h
/-- .. and so is the variable behind the first argument, a pointer: label 999 -/
theorem WX.enterP {P : Program} {g : FuncId} {fn : Func} {c : Code} {tt : TT} {args : List Value} {w : World} {H : GH} {b T : Nat} {cs : List Value} {Φ : Value → World → Prop} {Γ : Facts} {fs : List MF} {Γ' : Facts} (n : Nat)
    (hf : P.funcs[g]? = some fn) (hb : fn.body = some c) (hn : (fn.name == "runtime.NumGoroutine") = false) (hs : Nat.ble (args.length + 1) fn.ntmps = true) (h0 : AllS (cut (hp w) H) Γ) (hH : Le H (hp w)) (hl : Sep H (MF.bx b T cs :: fs)) (hk : ∀ f ∈ fs, f.k = .lin) (hΓ' : addF n fs Γ = some Γ')
    (k : WX ⟨P, fn, tt, w, H, some b, Φ⟩ [.code c] ((0, .p 999 0) :: envOf 1 args) [(999, ⟨T, cs⟩)] [] Γ') : Does P g (Value.pointer (some ⟨b, 0, none⟩) :: args).toArray w H Φ := by
  refine ⟨⟨fn, hf, hn, by simp [hb]⟩, calls_of_wp hf hb ?_⟩
  rw [addF_eq hΓ'] at k
  obtain ⟨h1, h2, a1, a2, a3, a4, a5⟩ := hl
  have hb1 : h1 b = some (.cells cs.toArray T (0, 0)) := a4
  have hMb : H b ≠ none := by rw [a1 b _ hb1]; simp
  have hA := At.enter (n := fn.ntmps) (args := Value.pointer (some ⟨b, 0, none⟩) :: args) hs (fun _ => b) (a := ⟨(Value.pointer (some ⟨b, 0, none⟩) :: args).toArray ++ Array.replicate (fn.ntmps - (args.length + 1)) undef, []⟩) rfl rfl
  have hkeep : AllS (cut (cut (hp w) (fun x => if x = b then h1 b else none)) h2) Γ := h0.mono (fun x o hx => by
    have hx1 := cut_le _ _ x o hx
    have hx2 := cut_dj _ _ x |>.resolve_left (by rw [hx]; simp)
    refine le_cut (h := h2) (G := cut (hp w) (fun x => if x = b then h1 b else none)) (A := fun y => if y = x then some o else none) (fun y q hy => ?_) (fun y => ?_) x o (by simp)
    · by_cases hyx : y = x
      · subst hyx; simp at hy; subst hy
        unfold cut
        by_cases hyb : y = b
        · subst hyb; exact absurd hx2 hMb
        · simp [hyb, hx1]
      · simp [hyx] at hy
    · by_cases hyx : y = x
      · subst hyx; right
        cases hq : h2 y with
        | none => rfl
        | some q => rw [a2 y q hq] at hx2; cases hx2
      · left; simp [hyx])
  have hle2 : Le h2 (cut (hp w) (fun x => if x = b then h1 b else none)) := le_cut (a2.trans hH) (fun x => by
    by_cases hx : x = b
    · subst hx; exact .inl ((a3 x).resolve_left (by rw [hb1]; simp))
    · right; simp [hx])
  refine k _ w ⟨cut (hp w) (fun x => if x = b then h1 b else none), fun _ => b, ?_, ⟨Kp.refl _ _, cut_le _ _, fun i l hl => ?_, by simp [look], fun i j hij hi hj => ?_, fun i l r _ hr => by simp [look] at hr, (fun b' h => by cases h; rfl), by simp [look]⟩, hkeep.lent n hle2 (fun x o hx => .inr (ne_none (a2 x o hx))) hk a5⟩
  · refine ⟨hA.size, rfl, fun d s hs => ?_⟩
    rw [look_cons] at hs
    split at hs
    · rename_i e; subst e; simp at hs; subst hs; exact hA.slot 0 (.v (.pointer (some ⟨b, 0, none⟩))) rfl
    · rename_i hne
      refine hA.slot d s ?_
      show look ((0, _) :: envOf 1 args) d = _
      rw [look_cons, if_neg hne]; exact hs
  · rw [look_cons] at hl
    split at hl
    · simp at hl; subst hl
      refine ⟨hH b _ (a1 b _ hb1), .inr hMb, ?_⟩
      unfold cut; simp [hb1]
    · simp [look] at hl
  · have e : ∀ i, Acts [(999, (⟨T, cs⟩ : Loc))] [] i → i = 999 := by
      rintro i (⟨l, h⟩ | ⟨r, h, _⟩)
      · rw [look_cons] at h
        split at h
        · rename_i e; exact e.symm
        · simp [look] at h
      · simp [look] at h
    exact absurd ((e i hi).trans (e j hj).symm) hij

/-! ### return -/
def resV (tt : TT) (env : Env) (L : Locs) : List ResultVar → Option (List Value)
  | [] => some []
  | .tmp t :: r => (match look env t with
    | some sv => (match valO sv with
      | some v => (match resV tt env L r with | some q => some (v :: q) | none => none)
      | none => none)
    | none => none)
  | .cell t T :: r => (match look env t with
    | some (.p i off) => (match look tt T with
      | some ti => (match look L i with
        | some l => (match asm ti l.cs off with
          | some v => (match resV tt env L r with | some q => some (v :: q) | none => none)
          | none => none)
        | none => none)
      | none => none)
    | _ => none)
def tup : List Value → Value
  | [v] => v
  | l => .tuple l.toArray
theorem run_asAddr {P : Program} (w : World) (x : Addr) : (asAddr (.pointer (some x))).run P w = .ok x w := rfl
theorem resV_sound {C : Cx} (ht : TabOk C.P C.tt) {env : Env} {L : Locs} {R : Rows} {G : GH} {bs : Nat → Nat} {a : Act} {w : World} (hA : At C.fn.ntmps env bs a) (hI : HInv C w G bs L R) :
    ∀ (rs : List ResultVar) (vs : List Value), resV C.tt env L rs = some vs →
      (rs.mapM (m := Sem) fun | .tmp t => pure (a.tmps.getD t undef) | .cell x t => do loadVar t (← asAddr (a.tmps.getD x undef))).run C.P w = .ok vs w
  | [], vs, h => by simp [resV] at h; subst h; simp
  | .tmp t :: r, vs, h => by
    simp only [resV] at h
    split at h
    · rename_i sv hsv
      split at h
      · rename_i v hv
        split at h
        · rename_i q hq
          simp only [Option.some.injEq] at h; subst h
          have ih := resV_sound ht hA hI r q hq
          have hs := hA.slot t _ hsv
          rw [valO_conc hv] at hs
          simp only [List.mapM_cons, Sem.run_bind, Sem.run_pure, Result.andThen_ok, ih, hs]
        · cases h
      · cases h
    · cases h
  | .cell t T :: r, vs, h => by
    simp only [resV] at h
    split at h
    · rename_i i off hv
      split at h
      · rename_i ti hT
        split at h
        · rename_i l hl
          split at h
          · rename_i v hasm
            split at h
            · rename_i q hq
              simp only [Option.some.injEq] at h; subst h
              have ih := resV_sound ht hA hI r q hq
              have hs := hA.slot t _ hv
              simp only [conc] at hs
              obtain ⟨hb, _⟩ := hI.loc i l hl
              have hrun := run_loadVar (P := C.P) ht hT (w := w) (a := ⟨bs i, 0, none⟩) (cs := l.cs) (off := off) (v := v) (fun j u hj => by
                rw [Addr.add_lit, cell_of_row w _ _ _ _ _ hb]; simpa using hj) hasm
              rw [Addr.add_lit, Nat.zero_add] at hrun
              simp only [List.mapM_cons, Sem.run_bind, Sem.run_pure, Result.andThen_ok, ih, hs, run_asAddr, hrun]
            · cases h
          · cases h
        · cases h
      · cases h
    · cases h
theorem results_run {fn : Func} {tmps : Array Value} {P : Program} {w : World} {vs : List Value}
    (h : (fn.results.toList.mapM (m := Sem) fun | .tmp t => pure (tmps.getD t undef) | .cell x t => do loadVar t (← asAddr (tmps.getD x undef))).run P w = .ok vs w) :
    (results fn tmps).run P w = .ok (tup vs) w := by
  unfold results
  rw [Array.mapM_eq_mapM_toList]
  simp only [Sem.run_bind, Sem.run_map]
  erw [h]
  simp only [Result.andThen_ok, Sem.run_pure]
  match vs with
  | [] => rfl
  | [v] => rfl
  | u :: v :: r => rfl

theorem WX.ret {C : Cx} {s : List It} {env : Env} {L : Locs} {R : Rows} {Γ : Facts} (ht : TabOk C.P C.tt) {vs : List Value} (hv : resV C.tt env L C.fn.results.toList = some vs)
    (k : ∀ w G bs, HInv C w G bs L R → AllK C.M G Γ → C.Φ (tup vs) w) : WX C (.code .ret :: s) env L R Γ := by
  rintro a w ⟨G, bs, hA, hI, hΓ⟩
  show Code.ret.wp C.P (cont C s) a w
  refine wp_ret ?_
  have key : ∀ s : List It, bodyPost C.P C.fn (Ret C.w0 C.H C.Φ) .ret a w → cont C s .ret a w := by
    intro s h
    induction s with
    | nil => exact h
    | cons x s ih => cases x <;> exact ih
  exact key s ⟨hA.dfr, tup vs, results_run (resV_sound ht hA hI _ _ hv), tup vs, rfl, hI.keep, k w G bs hI hΓ⟩

/-! ### cases -/
theorem look_put_same {env : Env} {d : Nat} {s : SV} (h : look env d = some s) {n : Nat} {bs : Nat → Nat} {a : Act} (hA : At n env bs a) : At n ((d, s) :: env) bs a :=
  ⟨hA.size, hA.dfr, fun e x hx => by
    rw [look_cons] at hx
    split at hx
    · rename_i he; subst he; simp at hx; subst hx; exact hA.slot d s h
    · exact hA.slot e x hx⟩
/-- the value in slot d, spelled otherwise -/
theorem WX.slot {C : Cx} {s : List It} {env : Env} {L : Locs} {R : Rows} {Γ : Facts} (d : Nat) {x y : SV} (h : look env d = some x) (e : ∀ bs, conc bs x = conc bs y) (k : WX C s ((d, y) :: env) L R Γ) : WX C s env L R Γ := by
  rintro a w ⟨G, bs, hA, hI, hΓ⟩
  refine k a w ⟨G, bs, ⟨hA.size, hA.dfr, fun i x' hx => ?_⟩, hI, hΓ⟩
  rw [look_cons] at hx
  split at hx
  · rename_i he; subst he; simp at hx; subst hx; rw [hA.slot d x h, e]
  · exact hA.slot i x' hx
/-- split on the bool in slot d -/
theorem WX.cases {C : Cx} {s : List It} {env : Env} {L : Locs} {R : Rows} {Γ : Facts} (d : Nat) {b : Bool} (h : look env d = some (.v (.bool b)))
    (kt : b = true → WX C s ((d, .T) :: env) L R Γ) (kf : b = false → WX C s ((d, .F) :: env) L R Γ) : WX C s env L R Γ := by
  cases b with
  | true => exact WX.slot (y := .T) d h (fun _ => rfl) (kt rfl)
  | false => exact WX.slot (y := .F) d h (fun _ => rfl) (kf rfl)
/-- forget -/
def Sub {α : Type} (A B : List (Nat × α)) : Prop := ∀ i x, look A i = some x → look B i = some x
theorem Sub.nil {α : Type} {B : List (Nat × α)} : Sub [] B := fun i x h => by simp [look] at h
theorem Sub.cons {α : Type} {A B : List (Nat × α)} {i : Nat} {x : α} (h : look B i = some x) (k : Sub A B) : Sub ((i, x) :: A) B := fun j y hy => by
  rw [look_cons] at hy
  split at hy
  · rename_i e; subst e; simp at hy; subst hy; exact h
  · exact k j y hy
theorem Sub.refl {α : Type} (A : List (Nat × α)) : Sub A A := fun _ _ h => h
theorem At.sub {n : Nat} {env env' : Env} {bs : Nat → Nat} {a : Act} (hA : At n env bs a) (h : Sub env' env) : At n env' bs a :=
  ⟨hA.size, hA.dfr, fun d s hs => hA.slot d s (h d s hs)⟩
theorem HInv.sub {C : Cx} {w : World} {G : GH} {bs : Nat → Nat} {L L' : Locs} {R R' : Rows} (hI : HInv C w G bs L R) (hL : Sub L' L) (hR : Sub R' R) : HInv C w G bs L' R' := by
  have hact : ∀ i, Acts L' R' i → Acts L R i := fun i h => h.imp (fun ⟨l, h⟩ => ⟨l, hL _ _ h⟩) (fun ⟨r, h, c⟩ => ⟨r, hR _ _ h, c⟩)
  exact ⟨hI.keep, hI.le, fun i l h => hI.loc i l (hL _ _ h), fun i r h => hI.row i r (hR _ _ h), fun i j hij hi hj => hI.inj i j hij (hact i hi) (hact j hj),
    fun i l r h k => hI.dis i l r (hL _ _ h) (hR _ _ k), hI.pin, fun r h => hI.nr r (hR _ _ h)⟩
theorem Sat.sub {C : Cx} {env env' : Env} {L L' : Locs} {R R' : Rows} {Γ Γ' : Facts} {a : Act} {w : World} (h : Sat C env L R Γ a w) (he : Sub env' env) (hL : Sub L' L) (hR : Sub R' R) {ks : List Nat} (hΓ : pickK ks Γ = some Γ') : Sat C env' L' R' Γ' a w := by
  obtain ⟨G, bs, hA, hI, hg⟩ := h
  exact ⟨G, bs, hA.sub he, hI.sub hL hR, hg.pick hΓ⟩
theorem WX.sub {C : Cx} {s : List It} {env env' : Env} {L L' : Locs} {R R' : Rows} {Γ Γ' : Facts} (he : Sub env' env) (hL : Sub L' L) (hR : Sub R' R) (ks : List Nat) (hΓ : pickK ks Γ = some Γ') (k : WX C s env' L' R' Γ') : WX C s env L R Γ :=
  fun a w h => k a w (h.sub he hL hR hΓ)

theorem look_int {env : Env} {d : Nat} {m n : Int} (h : look env d = some (.v (.int .i64 m))) (e : m = n) : look env d = some (.v (.int .i64 n)) := by rw [h, e]
theorem look_val {env : Env} {d : Nat} {x y : Value} (h : look env d = some (.v x)) (e : x = y) : look env d = some (.v y) := by rw [h, e]

/-! ### one operation that only looks -/
/-- operation o, in every state that these lists describe, leaves sv -/
def Looks (C : Cx) (env : Env) (L : Locs) (R : Rows) (G : GH) (o : Oper) (sv : SV) : Prop :=
  ∀ a w G' bs, Le G G' → At C.fn.ntmps env bs a → HInv C w G' bs L R → (execOp a.eval o).run C.P w = .ok (.value (conc bs sv)) w
theorem WX.peek {C : Cx} {ops : Array Oper} {o : Oper} {r : List Oper} {s : List It} {env : Env} {L : Locs} {R : Rows} {Γ : Facts} {d : Nat}
    (hg : gd ops env o = some true) (hd : o.dst = some d) (hlt : Nat.blt d C.fn.ntmps = true)
    (k : ∀ G, AllK C.M G Γ → ∃ sv, Looks C env L R G o sv ∧ WX C (.ops ops r :: s) ((d, sv) :: env) L R Γ) : WX C (.ops ops (o :: r) :: s) env L R Γ := by
  rintro a w ⟨G, bs, hA, hI, hΓ⟩
  obtain ⟨sv, hl, hk⟩ := k G hΓ
  show wpList C.P ops (cont C s) (o :: r) a w
  unfold wpList
  rw [if_pos (gd_sound hA hg)]
  refine .inl ?_
  unfold Oper.wp
  rw [hl a w G bs (Le.refl _) hA hI]
  simp only [Oper.upon, hd]
  exact hk _ _ ⟨G, bs, hA.put (by simpa [Nat.blt_eq] using hlt) sv, hI, hΓ⟩

/-! ### arithmetic -/
def I64 (n : Int) : Prop := -9223372036854775808 ≤ n ∧ n ≤ 9223372036854775807
theorem wrap_i64 {n : Int} (h : I64 n) : IntKind.i64.wrap n = n := IntWalk.i64_in _ (by unfold I64 at h; omega)
/-- what + - * give, unwrapped -/
def arithO (b : BinOp) (m n : Int) : Option Int :=
  match b with
  | .add => some (m + n)
  | .sub => some (m - n)
  | .mul => some (m * n)
  | _ => none
theorem looks_arith {C : Cx} {env : Env} {L : Locs} {R : Rows} {G : GH} {o : Oper} {b : BinOp} {x y : Operand} {T T' : Nat} {m n q : Int} (ho : o.op = .binOp b T x y T')
    (hx : ev env x = some (.v (.int .i64 m))) (hy : ev env y = some (.v (.int .i64 n))) (hq : arithO b m n = some q) (hr : I64 q) : Looks C env L R G o (.v (.int .i64 q)) := by
  intro a w G' bs _ hA hI
  unfold execOp
  simp only [ho, ev_conc hA hx, ev_conc hA hy, conc]
  have := wrap_i64 hr
  cases b <;> simp [arithO] at hq <;> subst hq <;> simp [eqGuard, binOp, Op.intArith, this]
theorem WX.arith {C : Cx} {ops : Array Oper} {o : Oper} {r : List Oper} {s : List It} {env : Env} {L : Locs} {R : Rows} {Γ : Facts} {d : Nat} {b : BinOp} {x y : Operand} {T T' : Nat} {m n q : Int}
    (hg : gd ops env o = some true) (hd : o.dst = some d) (hlt : Nat.blt d C.fn.ntmps = true) (ho : o.op = .binOp b T x y T')
    (hx : ev env x = some (.v (.int .i64 m))) (hy : ev env y = some (.v (.int .i64 n))) (hq : arithO b m n = some q) (hr : I64 q)
    (k : WX C (.ops ops r :: s) ((d, .v (.int .i64 q)) :: env) L R Γ) : WX C (.ops ops (o :: r) :: s) env L R Γ :=
  WX.peek hg hd hlt fun _ _ => ⟨_, looks_arith ho hx hy hq hr, k⟩

/-- + - * as Go has them: the sum may wrap -/
theorem looks_wrap {C : Cx} {env : Env} {L : Locs} {R : Rows} {G : GH} {o : Oper} {b : BinOp} {x y : Operand} {T T' : Nat} {m n q : Int} (ho : o.op = .binOp b T x y T')
    (hx : ev env x = some (.v (.int .i64 m))) (hy : ev env y = some (.v (.int .i64 n))) (hq : arithO b m n = some q) : Looks C env L R G o (.v (.int .i64 (IntKind.i64.wrap q))) := by
  intro a w G' bs _ hA hI
  unfold execOp
  simp only [ho, ev_conc hA hx, ev_conc hA hy, conc]
  cases b <;> simp [arithO] at hq <;> subst hq <;> simp [eqGuard, binOp, Op.intArith]
theorem WX.wrap {C : Cx} {ops : Array Oper} {o : Oper} {r : List Oper} {s : List It} {env : Env} {L : Locs} {R : Rows} {Γ : Facts} {d : Nat} {b : BinOp} {x y : Operand} {T T' : Nat} {m n q : Int}
    (hg : gd ops env o = some true) (hd : o.dst = some d) (hlt : Nat.blt d C.fn.ntmps = true) (ho : o.op = .binOp b T x y T')
    (hx : ev env x = some (.v (.int .i64 m))) (hy : ev env y = some (.v (.int .i64 n))) (hq : arithO b m n = some q)
    (k : WX C (.ops ops r :: s) ((d, .v (.int .i64 (IntKind.i64.wrap q))) :: env) L R Γ) : WX C (.ops ops (o :: r) :: s) env L R Γ :=
  WX.peek hg hd hlt fun _ _ => ⟨_, looks_wrap ho hx hy hq, k⟩

/-! ### a call of a Go function -/
def evs (env : Env) : List Operand → Option (List SV)
  | [] => some []
  | x :: r => (match ev env x with
    | some s => (match evs env r with | some q => some (s :: q) | none => none)
    | none => none)
theorem evs_sound {n : Nat} {env : Env} {bs : Nat → Nat} {a : Act} (hA : At n env bs a) : ∀ (l : List Operand) (q : List SV), evs env l = some q → l.map a.eval = q.map (conc bs)
  | [], q, h => by simp [evs] at h; subst h; rfl
  | x :: r, q, h => by
    simp only [evs] at h
    split at h
    · rename_i s hs
      split at h
      · rename_i q' hq
        simp only [Option.some.injEq] at h; subst h
        simp only [List.map_cons, ev_conc hA hs, evs_sound hA r q' hq]
      · cases h
    · cases h
theorem exec_call {P : Program} {a : Act} {o : Oper} {f : Operand} {args : List Operand} {ats : Array TypeId} {g : FuncId} {caps : List Value} {vs : List Value} {w : World} (he : EnterOk P g)
    (ho : o.op = .call { callee := .value f, args := args.toArray, argTypes := ats }) (hf : a.eval f = .func (.func g) #[] caps.toArray) (hv : args.map a.eval = vs) :
    (execOp a.eval o).run P w = .ok (.enter g (vs ++ caps).toArray) w := by
  obtain ⟨fn, hfn, hn, hb⟩ := he
  unfold execOp
  have hn' : ¬ fn.name = "runtime.NumGoroutine" := by simpa using hn
  have hb' : ¬ fn.body = none := fun h => by simp [h] at hb
  subst hv
  simp [ho, resolve, hf, Deferred.ofValue, invoke, callFunc, hfn, hn', hb']
/-- memory behind a call to which Hc was lent, and that leaves h -/
theorem HInv.called {C : Cx} {w w' : World} {G Hc h : GH} {bs : Nat → Nat} {L : Locs} {R : Rows} (hI : HInv C w G bs L R) (hc : Le Hc G) (hM : ∀ b o, Hc b = some o → C.M b) (hb : Kp Hc w w') (hle : Le h (hp w')) (hd : ∀ b o, h b = some o → w.heap.size ≤ b ∨ Hc b ≠ none) :
    HInv C w' (join (cut G Hc) h) bs L R ∧ Dj h (cut G Hc) := by
  have hlt : ∀ i, i < w.heap.size → Hc i = none → w'.heap[i]? = w.heap[i]? := hb.block
  have hnone : ∀ b, b < w.heap.size → G b = none → Hc b = none ∧ join (cut G Hc) h b = none := fun b hb hg => by
    have h1 : Hc b = none := by cases hx : Hc b with
      | none => rfl
      | some o => rw [hc b o hx] at hg; cases hg
    refine ⟨h1, ?_⟩
    unfold join
    rw [cut_none hg]
    cases hx : h b with
    | none => rfl
    | some o => rcases hd b o hx with h2 | h2
                · omega
                · exact absurd h1 h2
  have hkeep : Kp C.H C.w0 w' := ⟨hb.os.trans hI.keep.os, hb.tape.trans hI.keep.tape, hb.output.trans hI.keep.output, Nat.le_trans hI.keep.size hb.size, fun k hk hn => by
    have h1 : Hc k = none := by cases hx : Hc k with
      | none => rfl
      | some o => rcases hM k o hx with h1 | h1
                  · omega
                  · exact absurd hn h1
    rw [hlt k (Nat.lt_of_lt_of_le hk hI.keep.size) h1]; exact hI.keep.block k hk hn⟩
  refine ⟨⟨hkeep, join_le (fun b o hx => ?_) hle, fun i l hl => ?_, fun i r hr => ?_, hI.inj, hI.dis, hI.pin, hI.nr⟩, fun b => ?_⟩
  · have h1 := cut_le _ _ b o hx
    have h2 : Hc b = none := (cut_dj G Hc b).resolve_left (by rw [hx]; simp)
    show w'.heap[b]? = _
    rw [hlt b (hI.le.lt h1) h2]; exact hI.le b o h1
  · obtain ⟨h1, h2, h3⟩ := hI.loc i l hl
    have hl := (Array.getElem?_eq_some_iff.1 h1).1
    obtain ⟨q1, q2⟩ := hnone _ hl h3
    exact ⟨by rw [hlt _ hl q1]; exact h1, h2, q2⟩
  · obtain ⟨h1, h2⟩ := hI.row i r hr
    refine ⟨h1, h2.imp id fun ⟨o1, k1, k2, k3, k4, k5, cur, T, hh, rest⟩ => ?_⟩
    have hl := (Array.getElem?_eq_some_iff.1 hh).1
    obtain ⟨q1, q2⟩ := hnone _ hl k3
    exact ⟨o1, k1, k2, q2, k4, k5, cur, T, by rw [hlt _ hl q1]; exact hh, rest⟩
  · cases hx : h b with
    | none => exact .inl rfl
    | some o =>
      right
      rcases hd b o hx with h2 | h2
      · refine cut_none ?_
        cases hg : G b with
        | none => rfl
        | some q => have := hI.le.lt hg; omega
      · unfold cut
        cases hq : Hc b with
        | none => exact absurd hq h2
        | some q => rfl
/-- the most general form: what comes behind is shown of whatever state the callee leaves -/
theorem WX.callG {C : Cx} {ops : Array Oper} {o : Oper} {r : List Oper} {s : List It} {env : Env} {L : Locs} {R : Rows} {Γ : Facts} {f : Operand} {args : List Operand} {ats : Array TypeId} {g : FuncId} {sf : SV} {svs : List SV} {caps : (Nat → Nat) → List Value}
    {Ψ : World → Value → World → Prop} (hg : gd ops env o = some true) (ho : o.op = .call { callee := .value f, args := args.toArray, argTypes := ats })
    (hf : ev env f = some sf) (hsf : ∀ bs, conc bs sf = .func (.func g) #[] (caps bs).toArray) (hargs : evs env args = some svs)
    (hc : ∀ w G bs, HInv C w G bs L R → AllK C.M (hp w) Γ → Does C.P g (svs.map (conc bs) ++ caps bs).toArray w emp (Ψ w))
    (k : ∀ a w w' G bs v, At C.fn.ntmps env bs a → HInv C w G bs L R → AllK C.M G Γ → Kp emp w w' → Ψ w v w' → wpList C.P ops (cont C s) r (a.put o.dst v) w') :
    WX C (.ops ops (o :: r) :: s) env L R Γ := by
  rintro a w ⟨G, bs, hA, hI, hΓ⟩
  show wpList C.P ops (cont C s) (o :: r) a w
  unfold wpList
  rw [if_pos (gd_sound hA hg)]
  refine .inl ?_
  unfold Oper.wp
  obtain ⟨he, hcalls⟩ := hc w G bs hI (hΓ.mono hI.le)
  rw [exec_call he ho (by rw [ev_conc hA hf, hsf]) (evs_sound hA args svs hargs)]
  simp only [Oper.upon]
  refine hcalls.mono fun e w' ⟨v, hv, hb, hψ⟩ => ?_
  subst hv
  exact k a w w' G bs v hA hI hΓ hb hψ
/-- .. with the memory of the facts ks lent -/
theorem WX.callH {C : Cx} {ops : Array Oper} {o : Oper} {r : List Oper} {s : List It} {env : Env} {L : Locs} {R : Rows} {Γ Γ1 : Facts} {f : Operand} {args : List Operand} {ats : Array TypeId} {g : FuncId} {sf : SV} {svs : List SV} {caps : (Nat → Nat) → List Value} {fs : List MF}
    {Ψ : World → GH → Value → World → Prop} (ks : List Nat) (hks : giveK ks Γ = some (fs, Γ1)) (hg : gd ops env o = some true) (ho : o.op = .call { callee := .value f, args := args.toArray, argTypes := ats })
    (hf : ev env f = some sf) (hsf : ∀ bs, conc bs sf = .func (.func g) #[] (caps bs).toArray) (hargs : evs env args = some svs)
    (hc : ∀ w G bs H, HInv C w G bs L R → Le H (hp w) → Sep H fs → AllK C.M (cut (hp w) H) Γ1 → Does C.P g (svs.map (conc bs) ++ caps bs).toArray w H (Ψ w H))
    (k : ∀ a w w' G bs H v, At C.fn.ntmps env bs a → HInv C w G bs L R → Le H G → (∀ b o, H b = some o → C.M b) → AllK C.M (cut G H) Γ1 → Kp H w w' → Ψ w H v w' → wpList C.P ops (cont C s) r (a.put o.dst v) w') :
    WX C (.ops ops (o :: r) :: s) env L R Γ := by
  rintro a w ⟨G, bs, hA, hI, hΓ⟩
  show wpList C.P ops (cont C s) (o :: r) a w
  unfold wpList
  rw [if_pos (gd_sound hA hg)]
  refine .inl ?_
  unfold Oper.wp
  obtain ⟨H, q1, q2, q3, q4⟩ := giveK_spec hks hΓ
  obtain ⟨he, hcalls⟩ := hc w G bs H hI (q1.trans hI.le) q3 (q4.mono (cut_mono hI.le))
  rw [exec_call he ho (by rw [ev_conc hA hf, hsf]) (evs_sound hA args svs hargs)]
  simp only [Oper.upon]
  refine hcalls.mono fun e w' ⟨v, hv, hb, hψ⟩ => ?_
  subst hv
  exact k a w w' G bs H v hA hI q1 q2 q4 hb hψ
/-- a call whose result is one known value -/
theorem WX.callV {C : Cx} {ops : Array Oper} {o : Oper} {r : List Oper} {s : List It} {env : Env} {L : Locs} {R : Rows} {Γ : Facts} {f : Operand} {args : List Operand} {ats : Array TypeId} {g : FuncId} {sf : SV} {svs : List SV} {caps : (Nat → Nat) → List Value}
    {c : Value} {Q : Prop} {d : Nat} (hg : gd ops env o = some true) (hd : o.dst = some d) (hlt : Nat.blt d C.fn.ntmps = true) (ho : o.op = .call { callee := .value f, args := args.toArray, argTypes := ats })
    (hf : ev env f = some sf) (hsf : ∀ bs, conc bs sf = .func (.func g) #[] (caps bs).toArray) (hargs : evs env args = some svs)
    (hc : ∀ w G bs, HInv C w G bs L R → AllK C.M (hp w) Γ → Does C.P g (svs.map (conc bs) ++ caps bs).toArray w emp fun v _ => v = c ∧ Q)
    (k : Q → WX C (.ops ops r :: s) ((d, .v c) :: env) L R Γ) : WX C (.ops ops (o :: r) :: s) env L R Γ :=
  WX.callG (Ψ := fun _ v _ => v = c ∧ Q) hg ho hf hsf hargs hc fun a w w' G bs v hA hI hΓ hb ⟨hv, hq⟩ => by
    subst hv
    rw [hd]
    exact k hq _ _ ⟨join (cut G emp) emp, bs, hA.put (by simpa [Nat.blt_eq] using hlt) (.v v), (hI.called (emp_le _) (fun _ _ h => by cases h) hb (emp_le _) (fun _ _ h => by cases h)).1, hΓ.mono (le_join_l (cut G emp) emp)⟩

/-! ### loops -/
/-- a family of states: what holds at the head of a round -/
structure Head (ι : Type) where
  pre : ι → Prop
  m : ι → Nat
  env : ι → Env
  L : ι → Locs
  R : ι → Rows
  Γ : ι → Facts
def Head.I {ι : Type} (H : Head ι) (C : Cx) (n : Nat) : Act → World → Prop := fun a w => ∃ i, H.pre i ∧ H.m i < n ∧ Sat C (H.env i) (H.L i) (H.R i) (H.Γ i) a w
theorem WX.loop {C : Cx} {c : Code} {s : List It} {env : Env} {L : Locs} {R : Rows} {Γ : Facts} {ι : Type} (H : Head ι) (i : ι) (hi : H.pre i)
    (he : Sub (H.env i) env) (hL : Sub (H.L i) L) (hR : Sub (H.R i) R) (ks : List Nat) (hΓ : pickK ks Γ = some (H.Γ i))
    (k : ∀ i, H.pre i → WX C (.code c :: .iter (H.I C (H.m i)) :: s) (H.env i) (H.L i) (H.R i) (H.Γ i)) : WX C (.code (.loop c) :: s) env L R Γ := by
  intro a w hS
  show (Code.loop c).wp C.P (cont C s) a w
  intro b kk cs
  have key : ∀ n a w, (∃ i, H.pre i ∧ H.m i = n ∧ Sat C (H.env i) (H.L i) (H.R i) (H.Γ i) a w) →
      ∃ e a' w', cont C s e a' w' ∧ Arrives C.P (lone (b.at a (.code c :: .inLoop c :: kk)) cs w) b kk cs e a' w' := by
    intro n
    induction n using Nat.strongRecOn with
    | _ n ih =>
      rintro a w ⟨i, hp, hm, hs⟩
      obtain ⟨e, a₁, w₁, hq, harr⟩ := k i hp a w hs b (.inLoop c :: kk) cs
      cases e with
      | normal =>
        obtain ⟨i', hp', hlt, hs'⟩ := hq
        obtain ⟨e₂, a₂, w₂, hq₂, harr₂⟩ := ih (H.m i') (hm ▸ hlt) a₁ w₁ ⟨i', hp', rfl, hs'⟩
        exact ⟨e₂, a₂, w₂, hq₂, .of_steps (Steps.trans harr (.one step_inLoop)) harr₂⟩
      | exit id => exact ⟨_, a₁, w₁, hq, .pass (x := .inLoop c) rfl (fun _ _ => .inl (by simp)) harr⟩
      | goto l => exact ⟨_, a₁, w₁, hq, .pass (x := .inLoop c) rfl (fun _ _ => .inl (by simp)) harr⟩
      | ret => exact ⟨_, a₁, w₁, hq, .pass (x := .inLoop c) rfl (fun _ _ => .inl (by simp)) harr⟩
      | panic ch => exact ⟨_, a₁, w₁, hq, .pass (x := .inLoop c) rfl (fun _ _ => .inl (by simp)) harr⟩
      | outgrown => exact ⟨_, a₁, w₁, hq, .pass (x := .inLoop c) rfl (fun _ _ => .inl (by simp)) harr⟩
  obtain ⟨e, a', w', hq, harr⟩ := key _ a w ⟨i, hi, rfl, hS.sub he hL hR hΓ⟩
  exact ⟨e, a', w', hq, .of_steps (.one step_loop) harr⟩
theorem WX.iter {C : Cx} {s : List It} {env : Env} {L : Locs} {R : Rows} {Γ : Facts} {ι : Type} {H : Head ι} {n : Nat} (i : ι) (hi : H.pre i) (hm : H.m i < n)
    (he : Sub (H.env i) env) (hL : Sub (H.L i) L) (hR : Sub (H.R i) R) (ks : List Nat) (hΓ : pickK ks Γ = some (H.Γ i)) : WX C (.iter (H.I C n) :: s) env L R Γ :=
  fun _ _ h => ⟨i, hi, hm, h.sub he hL hR hΓ⟩
end Go.Stp
