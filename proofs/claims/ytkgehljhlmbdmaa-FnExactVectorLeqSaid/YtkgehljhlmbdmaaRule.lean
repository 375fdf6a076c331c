/-
  The rules of the logic: begin, return, cases, arithmetic, calls, loops. No condition.
-/
import Derived.Test.YtkgehljhlmbdmaaBase
import Derived.IntWalk
namespace Go.Stp
open Go.RowKit (Below)
theorem WX.run {C : Cx} {s s' : List It} {env env' : Env} {L L' : Locs} {R : Rows} {Γ : Facts} (ht : TabOk C.P C.tt)
    (h : exec C.tt C.fn.ntmps R 1000 s env L = (s', env', L')) (k : WX C s' env' L' R Γ) : WX C s env L R Γ := exec_sound ht 1000 s env L s' env' L' h k

/-! ### begin -/
def EnterOk (P : Program) (g : FuncId) : Prop := ∃ fn, P.funcs[g]? = some fn ∧ (fn.name == "runtime.NumGoroutine") = false ∧ fn.body.isSome = true
/-- function g may be entered; called with these arguments in world w it returns, leaves what was there as it was, and Ψ holds -/
def Does (P : Program) (g : FuncId) (args : Array Value) (w : World) (Ψ : Value → World → Prop) : Prop := EnterOk P g ∧ Calls P g args w (Ret w Ψ)
theorem Does.mono {P : Program} {g : FuncId} {args : Array Value} {w : World} {Ψ Ψ' : Value → World → Prop} (h : Does P g args w Ψ) (k : ∀ v w', Below w.heap.size w w' → Ψ v w' → Ψ' v w') : Does P g args w Ψ' :=
  ⟨h.1, h.2.mono fun _ _ ⟨v, e, b, q⟩ => ⟨v, e, b, k v _ b q⟩⟩
def envOf : Nat → List Value → Env
  | _, [] => []
  | i, v :: r => (i, .v v) :: envOf (i + 1) r
theorem look_envOf : ∀ (l : List Value) (i d : Nat) (s : SV), look (envOf i l) d = some s → ∃ v, s = .v v ∧ i ≤ d ∧ l[d - i]? = some v
  | [], i, d, s, h => by simp [envOf, look] at h
  | x :: r, i, d, s, h => by
    simp only [envOf] at h
    rw [look_cons] at h
    split at h
    · rename_i e; subst e; simp at h; subst h; exact ⟨x, rfl, Nat.le_refl _, by simp⟩
    · obtain ⟨v, h1, h2, h3⟩ := look_envOf r (i + 1) d s h
      refine ⟨v, h1, by omega, ?_⟩
      rw [show d - i = (d - (i + 1)) + 1 by omega]; simpa using h3
theorem WX.enter {P : Program} {g : FuncId} {fn : Func} {c : Code} {tt : TT} {args : List Value} {w : World} {Φ : Value → World → Prop} {Γ : Facts}
    (hf : P.funcs[g]? = some fn) (hb : fn.body = some c) (hn : (fn.name == "runtime.NumGoroutine") = false) (hs : Nat.ble args.length fn.ntmps = true) (h0 : AllK (hp w) Γ)
    (k : WX ⟨P, fn, tt, w, Φ⟩ [.code c] (envOf 0 args) [] [] Γ) : Does P g args.toArray w Φ := by
  refine ⟨⟨fn, hf, hn, by simp [hb]⟩, calls_of_wp hf hb ?_⟩
  have hs' : args.length ≤ fn.ntmps := Nat.le_of_ble_eq_true hs
  refine k _ w ⟨hp w, fun _ => 0, ⟨by simp; omega, rfl, fun d s h => ?_⟩, ⟨Below.refl _ _, Le.refl _, by simp [look], by simp [look], fun i j _ hi => ?_, by simp [look]⟩, h0⟩
  · obtain ⟨v, rfl, _, hv⟩ := look_envOf args 0 d s h
    simp only [Nat.sub_zero] at hv
    have hd : d < args.length := (List.getElem?_eq_some_iff.1 hv).1
    simp only [conc, Array.getD_eq_getD_getElem?]
    rw [Array.getElem?_append_left (by simpa using hd)]
    simp [hv]
  · rcases hi with ⟨l, h⟩ | ⟨r, h, _⟩ <;> simp [look] at h

/-! ### return -/
def resV (tt : TT) (env : Env) (L : Locs) : List ResultVar → Option (List Value)
  | [] => some []
  | .tmp t :: r => (match look env t with
    | some sv => (match valO sv with
      | some v => (match resV tt env L r with | some q => some (v :: q) | none => none)
      | none => none)
    | none => none)
  | .cell t T :: r => (match look env t with
    | some (.p i off) => (match look tt T with
      | some ti => (match look L i with
        | some l => (match asm ti l.cs off with
          | some v => (match resV tt env L r with | some q => some (v :: q) | none => none)
          | none => none)
        | none => none)
      | none => none)
    | _ => none)
def tup : List Value → Value
  | [v] => v
  | l => .tuple l.toArray
theorem run_asAddr {P : Program} (w : World) (x : Addr) : (asAddr (.pointer (some x))).run P w = .ok x w := rfl
theorem resV_sound {C : Cx} (ht : TabOk C.P C.tt) {env : Env} {L : Locs} {R : Rows} {G : GH} {bs : Nat → Nat} {a : Act} {w : World} (hA : At C.fn.ntmps env bs a) (hI : HInv C.w0 w G bs L R) :
    ∀ (rs : List ResultVar) (vs : List Value), resV C.tt env L rs = some vs →
      (rs.mapM (m := Sem) fun | .tmp t => pure (a.tmps.getD t undef) | .cell x t => do loadVar t (← asAddr (a.tmps.getD x undef))).run C.P w = .ok vs w
  | [], vs, h => by simp [resV] at h; subst h; simp
  | .tmp t :: r, vs, h => by
    simp only [resV] at h
    split at h
    · rename_i sv hsv
      split at h
      · rename_i v hv
        split at h
        · rename_i q hq
          simp only [Option.some.injEq] at h; subst h
          have ih := resV_sound ht hA hI r q hq
          have hs := hA.slot t _ hsv
          rw [valO_conc hv] at hs
          simp only [List.mapM_cons, Sem.run_bind, Sem.run_pure, Result.andThen_ok, ih, hs]
        · cases h
      · cases h
    · cases h
  | .cell t T :: r, vs, h => by
    simp only [resV] at h
    split at h
    · rename_i i off hv
      split at h
      · rename_i ti hT
        split at h
        · rename_i l hl
          split at h
          · rename_i v hasm
            split at h
            · rename_i q hq
              simp only [Option.some.injEq] at h; subst h
              have ih := resV_sound ht hA hI r q hq
              have hs := hA.slot t _ hv
              simp only [conc] at hs
              obtain ⟨hb, _⟩ := hI.loc i l hl
              have hrun := run_loadVar (P := C.P) ht hT (w := w) (a := ⟨bs i, 0, none⟩) (cs := l.cs) (off := off) (v := v) (fun j u hj => by
                rw [Addr.add_lit, cell_of_row w _ _ _ _ _ hb]; simpa using hj) hasm
              rw [Addr.add_lit, Nat.zero_add] at hrun
              simp only [List.mapM_cons, Sem.run_bind, Sem.run_pure, Result.andThen_ok, ih, hs, run_asAddr, hrun]
            · cases h
          · cases h
        · cases h
      · cases h
    · cases h
theorem results_run {fn : Func} {tmps : Array Value} {P : Program} {w : World} {vs : List Value}
    (h : (fn.results.toList.mapM (m := Sem) fun | .tmp t => pure (tmps.getD t undef) | .cell x t => do loadVar t (← asAddr (tmps.getD x undef))).run P w = .ok vs w) :
    (results fn tmps).run P w = .ok (tup vs) w := by
  unfold results
  rw [Array.mapM_eq_mapM_toList]
  simp only [Sem.run_bind, Sem.run_map]
  erw [h]
  simp only [Result.andThen_ok, Sem.run_pure]
  match vs with
  | [] => rfl
  | [v] => rfl
  | u :: v :: r => rfl

theorem WX.ret {C : Cx} {s : List It} {env : Env} {L : Locs} {R : Rows} {Γ : Facts} (ht : TabOk C.P C.tt) {vs : List Value} (hv : resV C.tt env L C.fn.results.toList = some vs)
    (k : ∀ w G bs, HInv C.w0 w G bs L R → AllK G Γ → C.Φ (tup vs) w) : WX C (.code .ret :: s) env L R Γ := by
  rintro a w ⟨G, bs, hA, hI, hΓ⟩
  show Code.ret.wp C.P (cont C s) a w
  refine wp_ret ?_
  have key : ∀ s : List It, bodyPost C.P C.fn (Ret C.w0 C.Φ) .ret a w → cont C s .ret a w := by
    intro s h
    induction s with
    | nil => exact h
    | cons x s ih => cases x <;> exact ih
  exact key s ⟨hA.dfr, tup vs, results_run (resV_sound ht hA hI _ _ hv), tup vs, rfl, hI.below, k w G bs hI hΓ⟩

/-! ### cases -/
theorem look_put_same {env : Env} {d : Nat} {s : SV} (h : look env d = some s) {n : Nat} {bs : Nat → Nat} {a : Act} (hA : At n env bs a) : At n ((d, s) :: env) bs a :=
  ⟨hA.size, hA.dfr, fun e x hx => by
    rw [look_cons] at hx
    split at hx
    · rename_i he; subst he; simp at hx; subst hx; exact hA.slot d s h
    · exact hA.slot e x hx⟩
/-- the value in slot d, spelled otherwise -/
theorem WX.slot {C : Cx} {s : List It} {env : Env} {L : Locs} {R : Rows} {Γ : Facts} (d : Nat) {x y : SV} (h : look env d = some x) (e : ∀ bs, conc bs x = conc bs y) (k : WX C s ((d, y) :: env) L R Γ) : WX C s env L R Γ := by
  rintro a w ⟨G, bs, hA, hI, hΓ⟩
  refine k a w ⟨G, bs, ⟨hA.size, hA.dfr, fun i x' hx => ?_⟩, hI, hΓ⟩
  rw [look_cons] at hx
  split at hx
  · rename_i he; subst he; simp at hx; subst hx; rw [hA.slot d x h, e]
  · exact hA.slot i x' hx
/-- split on the bool in slot d -/
theorem WX.cases {C : Cx} {s : List It} {env : Env} {L : Locs} {R : Rows} {Γ : Facts} (d : Nat) {b : Bool} (h : look env d = some (.v (.bool b)))
    (kt : b = true → WX C s ((d, .T) :: env) L R Γ) (kf : b = false → WX C s ((d, .F) :: env) L R Γ) : WX C s env L R Γ := by
  cases b with
  | true => exact WX.slot (y := .T) d h (fun _ => rfl) (kt rfl)
  | false => exact WX.slot (y := .F) d h (fun _ => rfl) (kf rfl)
/-- forget -/
def Sub {α : Type} (A B : List (Nat × α)) : Prop := ∀ i x, look A i = some x → look B i = some x
theorem Sub.nil {α : Type} {B : List (Nat × α)} : Sub [] B := fun i x h => by simp [look] at h
theorem Sub.cons {α : Type} {A B : List (Nat × α)} {i : Nat} {x : α} (h : look B i = some x) (k : Sub A B) : Sub ((i, x) :: A) B := fun j y hy => by
  rw [look_cons] at hy
  split at hy
  · rename_i e; subst e; simp at hy; subst hy; exact h
  · exact k j y hy
theorem Sub.refl {α : Type} (A : List (Nat × α)) : Sub A A := fun _ _ h => h
theorem At.sub {n : Nat} {env env' : Env} {bs : Nat → Nat} {a : Act} (hA : At n env bs a) (h : Sub env' env) : At n env' bs a :=
  ⟨hA.size, hA.dfr, fun d s hs => hA.slot d s (h d s hs)⟩
theorem HInv.sub {w0 w : World} {G : GH} {bs : Nat → Nat} {L L' : Locs} {R R' : Rows} (hI : HInv w0 w G bs L R) (hL : Sub L' L) (hR : Sub R' R) : HInv w0 w G bs L' R' := by
  have hact : ∀ i, Acts L' R' i → Acts L R i := fun i h => h.imp (fun ⟨l, h⟩ => ⟨l, hL _ _ h⟩) (fun ⟨r, h, c⟩ => ⟨r, hR _ _ h, c⟩)
  exact ⟨hI.below, hI.le, fun i l h => hI.loc i l (hL _ _ h), fun i r h => hI.row i r (hR _ _ h), fun i j hij hi hj => hI.inj i j hij (hact i hi) (hact j hj),
    fun i l r h k => hI.dis i l r (hL _ _ h) (hR _ _ k)⟩
theorem Sat.sub {C : Cx} {env env' : Env} {L L' : Locs} {R R' : Rows} {Γ Γ' : Facts} {a : Act} {w : World} (h : Sat C env L R Γ a w) (he : Sub env' env) (hL : Sub L' L) (hR : Sub R' R) (hΓ : Sub Γ' Γ) : Sat C env' L' R' Γ' a w := by
  obtain ⟨G, bs, hA, hI, hg⟩ := h
  exact ⟨G, bs, hA.sub he, hI.sub hL hR, fun i f hf => hg i f (hΓ i f hf)⟩
theorem WX.sub {C : Cx} {s : List It} {env env' : Env} {L L' : Locs} {R R' : Rows} {Γ Γ' : Facts} (he : Sub env' env) (hL : Sub L' L) (hR : Sub R' R) (hΓ : Sub Γ' Γ) (k : WX C s env' L' R' Γ') : WX C s env L R Γ :=
  fun a w h => k a w (h.sub he hL hR hΓ)

theorem look_int {env : Env} {d : Nat} {m n : Int} (h : look env d = some (.v (.int .i64 m))) (e : m = n) : look env d = some (.v (.int .i64 n)) := by rw [h, e]
theorem look_val {env : Env} {d : Nat} {x y : Value} (h : look env d = some (.v x)) (e : x = y) : look env d = some (.v y) := by rw [h, e]

/-! ### one operation that only looks -/
/-- operation o, in every state that these lists describe, leaves sv -/
def Looks (C : Cx) (env : Env) (L : Locs) (R : Rows) (G : GH) (o : Oper) (sv : SV) : Prop :=
  ∀ a w G' bs, Le G G' → At C.fn.ntmps env bs a → HInv C.w0 w G' bs L R → (execOp a.eval o).run C.P w = .ok (.value (conc bs sv)) w
theorem WX.peek {C : Cx} {ops : Array Oper} {o : Oper} {r : List Oper} {s : List It} {env : Env} {L : Locs} {R : Rows} {Γ : Facts} {d : Nat}
    (hg : gd ops env o = some true) (hd : o.dst = some d) (hlt : Nat.blt d C.fn.ntmps = true)
    (k : ∀ G, AllK G Γ → ∃ sv, Looks C env L R G o sv ∧ WX C (.ops ops r :: s) ((d, sv) :: env) L R Γ) : WX C (.ops ops (o :: r) :: s) env L R Γ := by
  rintro a w ⟨G, bs, hA, hI, hΓ⟩
  obtain ⟨sv, hl, hk⟩ := k G hΓ
  show wpList C.P ops (cont C s) (o :: r) a w
  unfold wpList
  rw [if_pos (gd_sound hA hg)]
  refine .inl ?_
  unfold Oper.wp
  rw [hl a w G bs (Le.refl _) hA hI]
  simp only [Oper.upon, hd]
  exact hk _ _ ⟨G, bs, hA.put (by simpa [Nat.blt_eq] using hlt) sv, hI, hΓ⟩

/-! ### arithmetic -/
def I64 (n : Int) : Prop := -9223372036854775808 ≤ n ∧ n ≤ 9223372036854775807
theorem wrap_i64 {n : Int} (h : I64 n) : IntKind.i64.wrap n = n := IntWalk.i64_in _ (by unfold I64 at h; omega)
/-- what + - * give, unwrapped -/
def arithO (b : BinOp) (m n : Int) : Option Int :=
  match b with
  | .add => some (m + n)
  | .sub => some (m - n)
  | .mul => some (m * n)
  | _ => none
theorem looks_arith {C : Cx} {env : Env} {L : Locs} {R : Rows} {G : GH} {o : Oper} {b : BinOp} {x y : Operand} {T T' : Nat} {m n q : Int} (ho : o.op = .binOp b T x y T')
    (hx : ev env x = some (.v (.int .i64 m))) (hy : ev env y = some (.v (.int .i64 n))) (hq : arithO b m n = some q) (hr : I64 q) : Looks C env L R G o (.v (.int .i64 q)) := by
  intro a w G' bs _ hA hI
  unfold execOp
  simp only [ho, ev_conc hA hx, ev_conc hA hy, conc]
  have := wrap_i64 hr
  cases b <;> simp [arithO] at hq <;> subst hq <;> simp [eqGuard, binOp, Op.intArith, this]
theorem WX.arith {C : Cx} {ops : Array Oper} {o : Oper} {r : List Oper} {s : List It} {env : Env} {L : Locs} {R : Rows} {Γ : Facts} {d : Nat} {b : BinOp} {x y : Operand} {T T' : Nat} {m n q : Int}
    (hg : gd ops env o = some true) (hd : o.dst = some d) (hlt : Nat.blt d C.fn.ntmps = true) (ho : o.op = .binOp b T x y T')
    (hx : ev env x = some (.v (.int .i64 m))) (hy : ev env y = some (.v (.int .i64 n))) (hq : arithO b m n = some q) (hr : I64 q)
    (k : WX C (.ops ops r :: s) ((d, .v (.int .i64 q)) :: env) L R Γ) : WX C (.ops ops (o :: r) :: s) env L R Γ :=
  WX.peek hg hd hlt fun _ _ => ⟨_, looks_arith ho hx hy hq hr, k⟩

/-- + - * as Go has them: the sum may wrap -/
theorem looks_wrap {C : Cx} {env : Env} {L : Locs} {R : Rows} {G : GH} {o : Oper} {b : BinOp} {x y : Operand} {T T' : Nat} {m n q : Int} (ho : o.op = .binOp b T x y T')
    (hx : ev env x = some (.v (.int .i64 m))) (hy : ev env y = some (.v (.int .i64 n))) (hq : arithO b m n = some q) : Looks C env L R G o (.v (.int .i64 (IntKind.i64.wrap q))) := by
  intro a w G' bs _ hA hI
  unfold execOp
  simp only [ho, ev_conc hA hx, ev_conc hA hy, conc]
  cases b <;> simp [arithO] at hq <;> subst hq <;> simp [eqGuard, binOp, Op.intArith]
theorem WX.wrap {C : Cx} {ops : Array Oper} {o : Oper} {r : List Oper} {s : List It} {env : Env} {L : Locs} {R : Rows} {Γ : Facts} {d : Nat} {b : BinOp} {x y : Operand} {T T' : Nat} {m n q : Int}
    (hg : gd ops env o = some true) (hd : o.dst = some d) (hlt : Nat.blt d C.fn.ntmps = true) (ho : o.op = .binOp b T x y T')
    (hx : ev env x = some (.v (.int .i64 m))) (hy : ev env y = some (.v (.int .i64 n))) (hq : arithO b m n = some q)
    (k : WX C (.ops ops r :: s) ((d, .v (.int .i64 (IntKind.i64.wrap q))) :: env) L R Γ) : WX C (.ops ops (o :: r) :: s) env L R Γ :=
  WX.peek hg hd hlt fun _ _ => ⟨_, looks_wrap ho hx hy hq, k⟩

/-! ### a call of a Go function -/
def evs (env : Env) : List Operand → Option (List SV)
  | [] => some []
  | x :: r => (match ev env x with
    | some s => (match evs env r with | some q => some (s :: q) | none => none)
    | none => none)
theorem evs_sound {n : Nat} {env : Env} {bs : Nat → Nat} {a : Act} (hA : At n env bs a) : ∀ (l : List Operand) (q : List SV), evs env l = some q → l.map a.eval = q.map (conc bs)
  | [], q, h => by simp [evs] at h; subst h; rfl
  | x :: r, q, h => by
    simp only [evs] at h
    split at h
    · rename_i s hs
      split at h
      · rename_i q' hq
        simp only [Option.some.injEq] at h; subst h
        simp only [List.map_cons, ev_conc hA hs, evs_sound hA r q' hq]
      · cases h
    · cases h
theorem exec_call {P : Program} {a : Act} {o : Oper} {f : Operand} {args : List Operand} {ats : Array TypeId} {g : FuncId} {caps : List Value} {vs : List Value} {w : World} (he : EnterOk P g)
    (ho : o.op = .call { callee := .value f, args := args.toArray, argTypes := ats }) (hf : a.eval f = .func (.func g) #[] caps.toArray) (hv : args.map a.eval = vs) :
    (execOp a.eval o).run P w = .ok (.enter g (vs ++ caps).toArray) w := by
  obtain ⟨fn, hfn, hn, hb⟩ := he
  unfold execOp
  have hn' : ¬ fn.name = "runtime.NumGoroutine" := by simpa using hn
  have hb' : ¬ fn.body = none := fun h => by simp [h] at hb
  subst hv
  simp [ho, resolve, hf, Deferred.ofValue, invoke, callFunc, hfn, hn', hb']
/-- memory behind a call: what it made is there to stay -/
def grow (G : GH) (w w' : World) : GH := fun b => if b < w.heap.size then G b else w'.heap[b]?
theorem le_grow {G : GH} {w w' : World} (h : Le G (hp w)) : Le G (grow G w w') := fun b o hb => by
  unfold grow; rw [if_pos (h.lt hb)]; exact hb
theorem HInv.called {w0 w w' : World} {G : GH} {bs : Nat → Nat} {L : Locs} {R : Rows} (hI : HInv w0 w G bs L R) (hb : Below w.heap.size w w') : HInv w0 w' (grow G w w') bs L R := by
  have hlt : ∀ i, i < w.heap.size → w'.heap[i]? = w.heap[i]? := hb.block
  refine ⟨hI.below.trans (hb.mono hI.below.size), fun b o h => ?_, fun i l h => ?_, fun i r h => ?_, hI.inj, hI.dis⟩
  · unfold grow at h
    split at h
    · rename_i hl; show w'.heap[b]? = _; rw [hlt b hl]; exact hI.le b o h
    · exact h
  · obtain ⟨h1, h2, h3⟩ := hI.loc i l h
    have hl := (Array.getElem?_eq_some_iff.1 h1).1
    exact ⟨by rw [hlt _ hl]; exact h1, h2, by unfold grow; rw [if_pos hl]; exact h3⟩
  · obtain ⟨h1, h2⟩ := hI.row i r h
    refine ⟨h1, h2.imp id fun ⟨k1, k2, k3, k4, k5, cur, T, hh, rest⟩ => ?_⟩
    have hl := (Array.getElem?_eq_some_iff.1 hh).1
    exact ⟨k1, k2, by unfold grow; rw [if_pos hl]; exact k3, k4, k5, cur, T, by rw [hlt _ hl]; exact hh, rest⟩
/-- the most general form: what comes behind is shown of whatever state the callee leaves -/
theorem WX.callG {C : Cx} {ops : Array Oper} {o : Oper} {r : List Oper} {s : List It} {env : Env} {L : Locs} {R : Rows} {Γ : Facts} {f : Operand} {args : List Operand} {ats : Array TypeId} {g : FuncId} {sf : SV} {svs : List SV} {caps : (Nat → Nat) → List Value}
    {Ψ : World → Value → World → Prop} (hg : gd ops env o = some true) (ho : o.op = .call { callee := .value f, args := args.toArray, argTypes := ats })
    (hf : ev env f = some sf) (hsf : ∀ bs, conc bs sf = .func (.func g) #[] (caps bs).toArray) (hargs : evs env args = some svs)
    (hc : ∀ w G bs, HInv C.w0 w G bs L R → AllK (hp w) Γ → Does C.P g (svs.map (conc bs) ++ caps bs).toArray w (Ψ w))
    (k : ∀ a w w' G bs v, At C.fn.ntmps env bs a → HInv C.w0 w G bs L R → AllK G Γ → Below w.heap.size w w' → Ψ w v w' → wpList C.P ops (cont C s) r (a.put o.dst v) w') :
    WX C (.ops ops (o :: r) :: s) env L R Γ := by
  rintro a w ⟨G, bs, hA, hI, hΓ⟩
  show wpList C.P ops (cont C s) (o :: r) a w
  unfold wpList
  rw [if_pos (gd_sound hA hg)]
  refine .inl ?_
  unfold Oper.wp
  obtain ⟨he, hcalls⟩ := hc w G bs hI (hΓ.mono hI.le)
  rw [exec_call he ho (by rw [ev_conc hA hf, hsf]) (evs_sound hA args svs hargs)]
  simp only [Oper.upon]
  refine hcalls.mono fun e w' ⟨v, hv, hb, hψ⟩ => ?_
  subst hv
  exact k a w w' G bs v hA hI hΓ hb hψ
/-- a call whose result is one known value -/
theorem WX.callV {C : Cx} {ops : Array Oper} {o : Oper} {r : List Oper} {s : List It} {env : Env} {L : Locs} {R : Rows} {Γ : Facts} {f : Operand} {args : List Operand} {ats : Array TypeId} {g : FuncId} {sf : SV} {svs : List SV} {caps : (Nat → Nat) → List Value}
    {c : Value} {d : Nat} (hg : gd ops env o = some true) (hd : o.dst = some d) (hlt : Nat.blt d C.fn.ntmps = true) (ho : o.op = .call { callee := .value f, args := args.toArray, argTypes := ats })
    (hf : ev env f = some sf) (hsf : ∀ bs, conc bs sf = .func (.func g) #[] (caps bs).toArray) (hargs : evs env args = some svs)
    (hc : ∀ w G bs, HInv C.w0 w G bs L R → AllK (hp w) Γ → Does C.P g (svs.map (conc bs) ++ caps bs).toArray w fun v _ => v = c)
    (k : WX C (.ops ops r :: s) ((d, .v c) :: env) L R Γ) : WX C (.ops ops (o :: r) :: s) env L R Γ :=
  WX.callG (Ψ := fun _ v _ => v = c) hg ho hf hsf hargs hc fun a w w' G bs v hA hI hΓ hb hv => by
    subst hv
    rw [hd]
    exact k _ _ ⟨grow G w w', bs, hA.put (by simpa [Nat.blt_eq] using hlt) (.v v), hI.called hb, hΓ.mono (le_grow hI.le)⟩

/-! ### loops -/
/-- a family of states: what holds at the head of a round -/
structure Head (ι : Type) where
  pre : ι → Prop
  m : ι → Nat
  env : ι → Env
  L : ι → Locs
  R : ι → Rows
  Γ : ι → Facts
def Head.I {ι : Type} (H : Head ι) (C : Cx) (n : Nat) : Act → World → Prop := fun a w => ∃ i, H.pre i ∧ H.m i < n ∧ Sat C (H.env i) (H.L i) (H.R i) (H.Γ i) a w
theorem WX.loop {C : Cx} {c : Code} {s : List It} {env : Env} {L : Locs} {R : Rows} {Γ : Facts} {ι : Type} (H : Head ι) (i : ι) (hi : H.pre i)
    (he : Sub (H.env i) env) (hL : Sub (H.L i) L) (hR : Sub (H.R i) R) (hΓ : Sub (H.Γ i) Γ)
    (k : ∀ i, H.pre i → WX C (.code c :: .iter (H.I C (H.m i)) :: s) (H.env i) (H.L i) (H.R i) (H.Γ i)) : WX C (.code (.loop c) :: s) env L R Γ := by
  intro a w hS
  show (Code.loop c).wp C.P (cont C s) a w
  intro b kk cs
  have key : ∀ n a w, (∃ i, H.pre i ∧ H.m i = n ∧ Sat C (H.env i) (H.L i) (H.R i) (H.Γ i) a w) →
      ∃ e a' w', cont C s e a' w' ∧ Arrives C.P (lone (b.at a (.code c :: .inLoop c :: kk)) cs w) b kk cs e a' w' := by
    intro n
    induction n using Nat.strongRecOn with
    | _ n ih =>
      rintro a w ⟨i, hp, hm, hs⟩
      obtain ⟨e, a₁, w₁, hq, harr⟩ := k i hp a w hs b (.inLoop c :: kk) cs
      cases e with
      | normal =>
        obtain ⟨i', hp', hlt, hs'⟩ := hq
        obtain ⟨e₂, a₂, w₂, hq₂, harr₂⟩ := ih (H.m i') (hm ▸ hlt) a₁ w₁ ⟨i', hp', rfl, hs'⟩
        exact ⟨e₂, a₂, w₂, hq₂, .of_steps (Steps.trans harr (.one step_inLoop)) harr₂⟩
      | exit id => exact ⟨_, a₁, w₁, hq, .pass (x := .inLoop c) rfl (fun _ _ => .inl (by simp)) harr⟩
      | goto l => exact ⟨_, a₁, w₁, hq, .pass (x := .inLoop c) rfl (fun _ _ => .inl (by simp)) harr⟩
      | ret => exact ⟨_, a₁, w₁, hq, .pass (x := .inLoop c) rfl (fun _ _ => .inl (by simp)) harr⟩
      | panic ch => exact ⟨_, a₁, w₁, hq, .pass (x := .inLoop c) rfl (fun _ _ => .inl (by simp)) harr⟩
      | outgrown => exact ⟨_, a₁, w₁, hq, .pass (x := .inLoop c) rfl (fun _ _ => .inl (by simp)) harr⟩
  obtain ⟨e, a', w', hq, harr⟩ := key _ a w ⟨i, hi, rfl, hS.sub he hL hR hΓ⟩
  exact ⟨e, a', w', hq, .of_steps (.one step_loop) harr⟩
theorem WX.iter {C : Cx} {s : List It} {env : Env} {L : Locs} {R : Rows} {Γ : Facts} {ι : Type} {H : Head ι} {n : Nat} (i : ι) (hi : H.pre i) (hm : H.m i < n)
    (he : Sub (H.env i) env) (hL : Sub (H.L i) L) (hR : Sub (H.R i) R) (hΓ : Sub (H.Γ i) Γ) : WX C (.iter (H.I C n) :: s) env L R Γ :=
  fun _ _ h => ⟨i, hi, hm, h.sub he hL hR hΓ⟩
end Go.Stp
