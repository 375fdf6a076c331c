/-
  Go's data as Lean data: what it means that a row of cells reads as a value of a Lean type (RdL, RdSl), and that it is memory of one's own, block by block (OwL, OwSl); loads of elements; calls whose result is new memory. No condition.
-/
import Derived.Test.YtkgehljhlmbdmaaRule
namespace Go.Stp
open Go.RowKit (Below)
abbrev Str := ByteArray
/-- a Go type whose values are read as values of α: k cells; x: where its slices lie; f: the blocks that it owns -/
class GoT (α : Type) where
  X : Type
  F : Type
  k : Nat
  ok : α → Prop
  sh : α → X → List Value
  fa : α → X → List MF
  oa : α → X → F → List MF
  fpo : F → List Nat
  pos : 0 < k
  len : ∀ a x, (sh a x).length = k
  one : ∀ a x, ∀ v ∈ sh a x, v.oneCell' = true
  ow_rd : ∀ {G : GH} {a : α} {x : X} {f : F}, All G (oa a x f) → All G (fa a x)
  ow_loc : ∀ {G G' : GH} {a : α} {x : X} {f : F}, All G (oa a x f) → (∀ b ∈ fpo f, G' b = G b) → All G' (oa a x f)
  ow_fp : ∀ a x f, ∀ b ∈ fpo f, ∃ m ∈ oa a x f, b ∈ m.fp
theorem All.nil {G : GH} : All G [] := fun f h => by cases h
theorem All.cons {G : GH} {f : MF} {fs : List MF} (h : f.p G) (k : All G fs) : All G (f :: fs) := fun g hg => by
  rcases List.mem_cons.1 hg with rfl | hg
  · exact h
  · exact k g hg
theorem All.append {G : GH} {A B : List MF} (h : All G A) (k : All G B) : All G (A ++ B) := fun f hf => (List.mem_append.1 hf).elim (h f) (k f)
theorem All.left {G : GH} {A B : List MF} (h : All G (A ++ B)) : All G A := fun f hf => h f (List.mem_append_left _ hf)
theorem All.right {G : GH} {A B : List MF} (h : All G (A ++ B)) : All G B := fun f hf => h f (List.mem_append_right _ hf)
open GoT (X F k ok sh fa oa)
/-- the blocks that f names -/
abbrev fo (α : Type) [GoT α] (f : F α) : List Nat := GoT.fpo f
section
variable {α : Type} [GoT α]
/-- the cells xs read as the list l -/
def RdL (G : GH) : List Value → List α → Prop
  | xs, [] => xs = []
  | xs, a :: l => ∃ (x : X α) (ys : List Value), xs = sh a x ++ ys ∧ All G (fa a x) ∧ RdL G ys l
def OwL (G : GH) : List Value → List α → List Nat → Prop
  | xs, [], fp => xs = [] ∧ fp = []
  | xs, a :: l, fp => ∃ (x : X α) (f : F α) (ys : List Value) (fq : List Nat), xs = sh a x ++ ys ∧ fp = fo α f ++ fq ∧ All G (oa a x f) ∧ OwL G ys l fq
def CellsAt (G : GH) (p : Option Addr) (xs : List Value) : Prop := ∀ j u, xs[j]? = some u → ∃ a, p = some a ∧ gcell G (a.add j) = some u
def RdSl (G : GH) (p : Option Addr) (c : Nat) (l : List α) : Prop :=
  l.length ≤ c ∧ l.length ≤ 9223372036854775807 ∧ (∀ a ∈ l, ok a) ∧ ∃ xs, CellsAt G p xs ∧ RdL G xs l
def OwSl (G : GH) (p : Option Addr) (c : Nat) (l : List α) (fp : List Nat) : Prop :=
  (∀ a ∈ l, ok a) ∧ l.length ≤ 9223372036854775807 ∧ ((c = 0 ∧ l = [] ∧ fp = []) ∨
    ∃ g T cur fe, p = some ⟨g, 0, none⟩ ∧ G g = some (.cells cur T (0, 0)) ∧ l.length ≤ c ∧ c ≤ maxLen ∧ cur.size = c * k α ∧ OwL G (cur.toList.take (l.length * k α)) l fe ∧ fp = g :: fe)
theorem RdL.len {G : GH} : ∀ {xs : List Value} {l : List α}, RdL G xs l → xs.length = l.length * k α
  | xs, [], h => by simp [RdL] at h; subst h; simp
  | xs, a :: l, ⟨x, ys, h1, _, h3⟩ => by subst h1; rw [List.length_append, GoT.len, h3.len, List.length_cons, Nat.add_mul]; omega
theorem RdL.mono {G G' : GH} (h : Le G G') : ∀ {xs : List Value} {l : List α}, RdL G xs l → RdL G' xs l
  | _, [], k => k
  | _, _ :: _, ⟨x, ys, h1, h2, h3⟩ => ⟨x, ys, h1, h2.mono h, h3.mono h⟩
theorem OwL.mono {G G' : GH} (h : Le G G') : ∀ {xs : List Value} {l : List α} {fp : List Nat}, OwL G xs l fp → OwL G' xs l fp
  | _, [], _, k => k
  | _, _ :: _, _, ⟨x, f, ys, fq, h1, h2, h3, h4⟩ => ⟨x, f, ys, fq, h1, h2, h3.mono h, h4.mono h⟩
theorem OwL.rd {G : GH} : ∀ {xs : List Value} {l : List α} {fp : List Nat}, OwL G xs l fp → RdL G xs l
  | _, [], _, k => k.1
  | _, _ :: _, _, ⟨x, _, ys, _, h1, _, h3, h4⟩ => ⟨x, ys, h1, GoT.ow_rd h3, h4.rd⟩
theorem OwL.loc {G G' : GH} : ∀ {xs : List Value} {l : List α} {fp : List Nat}, OwL G xs l fp → (∀ b ∈ fp, G' b = G b) → OwL G' xs l fp
  | _, [], _, k, _ => k
  | _, _ :: _, _, ⟨x, f, ys, fq, h1, h2, h3, h4⟩, h => ⟨x, f, ys, fq, h1, h2, GoT.ow_loc h3 (fun b hb => h b (by rw [h2]; exact List.mem_append_left _ hb)), h4.loc (fun b hb => h b (by rw [h2]; exact List.mem_append_right _ hb))⟩
theorem ow_dom {G : GH} {a : α} {x : X α} {f : F α} (h : All G (oa a x f)) : ∀ b ∈ fo α f, ∃ o, G b = some o := fun b hb => by
  obtain ⟨m, hm, hb'⟩ := GoT.ow_fp a x f b hb
  exact m.dom (h m hm) b hb'
theorem OwL.dom {G : GH} : ∀ {xs : List Value} {l : List α} {fp : List Nat}, OwL G xs l fp → ∀ b ∈ fp, ∃ o, G b = some o
  | _, [], _, k, b, hb => by rw [k.2] at hb; cases hb
  | _, _ :: _, _, ⟨x, f, ys, fq, h1, h2, h3, h4⟩, b, hb => by
    rw [h2] at hb
    rcases List.mem_append.1 hb with hb | hb
    · exact ow_dom h3 b hb
    · exact h4.dom b hb
theorem CellsAt.mono {G G' : GH} (h : Le G G') {p : Option Addr} {xs : List Value} (hc : CellsAt G p xs) : CellsAt G' p xs := fun j u hu => by
  obtain ⟨a, ha, hg⟩ := hc j u hu
  exact ⟨a, ha, gcell_mono h hg⟩
theorem RdSl.mono {G G' : GH} (h : Le G G') {p : Option Addr} {c : Nat} {l : List α} (hr : RdSl G p c l) : RdSl G' p c l := by
  obtain ⟨h1, h2, h3, xs, h4, h5⟩ := hr
  exact ⟨h1, h2, h3, xs, h4.mono h, h5.mono h⟩
theorem OwSl.mono {G G' : GH} (h : Le G G') {p : Option Addr} {c : Nat} {l : List α} {fp : List Nat} (hr : OwSl G p c l fp) : OwSl G' p c l fp := by
  obtain ⟨h1, h2, h3⟩ := hr
  refine ⟨h1, h2, h3.imp id ?_⟩
  rintro ⟨g, T, cur, fe, k1, k2, k3, k4, k5, k6, k7⟩
  exact ⟨g, T, cur, fe, k1, h _ _ k2, k3, k4, k5, k6.mono h, k7⟩
theorem OwSl.dom {G : GH} {p : Option Addr} {c : Nat} {l : List α} {fp : List Nat} (hr : OwSl G p c l fp) : ∀ b ∈ fp, ∃ o, G b = some o := by
  intro b hb
  obtain ⟨h1, h2, ⟨_, _, h3⟩ | ⟨g, T, cur, fe, k1, k2, k3, k4, k5, k6, k7⟩⟩ := hr
  · rw [h3] at hb; cases hb
  · rw [k7] at hb
    rcases List.mem_cons.1 hb with rfl | hb
    · exact ⟨_, k2⟩
    · exact k6.dom b hb
theorem OwSl.loc {G G' : GH} {p : Option Addr} {c : Nat} {l : List α} {fp : List Nat} (hr : OwSl G p c l fp) (h : ∀ b ∈ fp, G' b = G b) : OwSl G' p c l fp := by
  obtain ⟨h1, h2, h3⟩ := hr
  refine ⟨h1, h2, h3.imp id ?_⟩
  rintro ⟨g, T, cur, fe, k1, k2, k3, k4, k5, k6, k7⟩
  exact ⟨g, T, cur, fe, k1, by rw [h g (by rw [k7]; exact List.mem_cons_self ..)]; exact k2, k3, k4, k5, k6.loc (fun b hb => h b (by rw [k7]; exact List.mem_cons_of_mem _ hb)), k7⟩
theorem cellsAt_row {G : GH} {g : Nat} {cur : Array Value} {T : Nat} {fr : Nat × Nat} (h : G g = some (.cells cur T fr)) (n : Nat) : CellsAt G (some ⟨g, 0, none⟩) (cur.toList.take n) := fun j u hu => by
  refine ⟨_, rfl, ?_⟩
  rw [List.getElem?_take] at hu
  split at hu
  · rw [Addr.add_lit]; simp [gcell, h]; simpa using hu
  · cases hu
theorem OwSl.rd {G : GH} {p : Option Addr} {c : Nat} {l : List α} {fp : List Nat} (hr : OwSl G p c l fp) : RdSl G p c l := by
  obtain ⟨h1, h2, ⟨h3, h4, _⟩ | ⟨g, T, cur, fe, k1, k2, k3, k4, k5, k6, k7⟩⟩ := hr
  · subst h4; exact ⟨by simp, by simp, h1, [], fun j u h => by simp at h, rfl⟩
  · subst k1; exact ⟨k3, h2, h1, _, cellsAt_row k2 _, k6.rd⟩
end
/-- the slice (p, c) reads as l -/
def MF.rs {α : Type} [GoT α] (p : Option Addr) (c : Nat) (l : List α) : MF := ⟨fun G => RdSl G p c l, fun h k => k.mono h, [], fun _ b hb => by cases hb⟩
/-- the slice (p, c) reads as l and owns the blocks fp -/
def MF.os {α : Type} [GoT α] (p : Option Addr) (c : Nat) (l : List α) (fp : List Nat) : MF := ⟨fun G => OwSl G p c l fp, fun h k => k.mono h, fp, fun h => h.dom⟩
/-- the cells xs read as l -/
def MF.rl {α : Type} [GoT α] (xs : List Value) (l : List α) : MF := ⟨fun G => RdL G xs l, fun h k => k.mono h, [], fun _ b hb => by cases hb⟩
def MF.ol {α : Type} [GoT α] (xs : List Value) (l : List α) (fp : List Nat) : MF := ⟨fun G => OwL G xs l fp, fun h k => k.mono h, fp, fun h => h.dom⟩
instance : GoT Int where
  X := Unit
  F := Unit
  k := 1
  ok := I64
  sh n _ := [.int .i64 n]
  fa _ _ := []
  oa _ _ _ := []
  fpo _ := []
  pos := by omega
  len _ _ := rfl
  one _ _ v h := by simp at h; subst h; rfl
  ow_rd _ := All.nil
  ow_loc _ _ := All.nil
  ow_fp _ _ _ b h := by cases h
instance : GoT Bool where
  X := Unit
  F := Unit
  k := 1
  ok _ := True
  sh n _ := [.bool n]
  fa _ _ := []
  oa _ _ _ := []
  fpo _ := []
  pos := by omega
  len _ _ := rfl
  one _ _ v h := by simp at h; subst h; rfl
  ow_rd _ := All.nil
  ow_loc _ _ := All.nil
  ow_fp _ _ _ b h := by cases h
instance : GoT UInt8 where
  X := Unit
  F := Unit
  k := 1
  ok _ := True
  sh n _ := [.int .u8 n.toNat]
  fa _ _ := []
  oa _ _ _ := []
  fpo _ := []
  pos := by omega
  len _ _ := rfl
  one _ _ v h := by simp at h; subst h; rfl
  ow_rd _ := All.nil
  ow_loc _ _ := All.nil
  ow_fp _ _ _ b h := by cases h
instance : GoT ByteArray where
  X := Unit
  F := Unit
  k := 1
  ok s := s.size ≤ 9223372036854775807
  sh n _ := [.string n]
  fa _ _ := []
  oa _ _ _ := []
  fpo _ := []
  pos := by omega
  len _ _ := rfl
  one _ _ v h := by simp at h; subst h; rfl
  ow_rd _ := All.nil
  ow_loc _ _ := All.nil
  ow_fp _ _ _ b h := by cases h
instance {α : Type} [GoT α] : GoT (List α) where
  X := Option Addr × Nat
  F := List Nat
  k := 1
  ok _ := True
  sh l x := [.slice x.1 l.length x.2]
  fa l x := [MF.rs x.1 x.2 l]
  oa l x f := [MF.os x.1 x.2 l f]
  fpo f := f
  pos := by omega
  len _ _ := rfl
  one _ _ v h := by simp at h; subst h; rfl
  ow_rd h := All.cons (OwSl.rd (h _ (List.mem_singleton.2 rfl))) All.nil
  ow_loc h k := All.cons (OwSl.loc (h _ (List.mem_singleton.2 rfl)) k) All.nil
  ow_fp _ _ _ _ h := ⟨_, List.mem_singleton.2 rfl, h⟩
instance {α β : Type} [GoT α] [GoT β] : GoT (α × β) where
  X := X α × X β
  F := F α × F β
  k := k α + k β
  ok a := ok a.1 ∧ ok a.2
  sh a x := sh a.1 x.1 ++ sh a.2 x.2
  fa a x := fa a.1 x.1 ++ fa a.2 x.2
  oa a x f := oa a.1 x.1 f.1 ++ oa a.2 x.2 f.2
  fpo f := fo α f.1 ++ fo β f.2
  pos := by have := GoT.pos (α := α); omega
  len a x := by simp [GoT.len]
  one a x v h := (List.mem_append.1 h).elim (GoT.one _ _ v) (GoT.one _ _ v)
  ow_rd h := All.append (GoT.ow_rd h.left) (GoT.ow_rd h.right)
  ow_loc h k := All.append (GoT.ow_loc h.left fun b hb => k b (List.mem_append_left _ hb)) (GoT.ow_loc h.right fun b hb => k b (List.mem_append_right _ hb))
  ow_fp a x f b h := by
    rcases List.mem_append.1 h with h | h
    · obtain ⟨m, h1, h2⟩ := GoT.ow_fp a.1 x.1 f.1 b h; exact ⟨m, List.mem_append_left _ h1, h2⟩
    · obtain ⟨m, h1, h2⟩ := GoT.ow_fp a.2 x.2 f.2 b h; exact ⟨m, List.mem_append_right _ h1, h2⟩
/-- a type that is read as its fields are -/
@[reducible] def GoT.via {α β : Type} [GoT β] (e : α → β) : GoT α where
  X := X β
  F := F β
  k := k β
  ok a := ok (e a)
  sh a := sh (e a)
  fa a := fa (e a)
  oa a := oa (e a)
  fpo := GoT.fpo (α := β)
  pos := GoT.pos
  len a := GoT.len (e a)
  one a := GoT.one (e a)
  ow_rd h := GoT.ow_rd h
  ow_loc h k := GoT.ow_loc h k
  ow_fp a := GoT.ow_fp (e a)

/-! ### loads of elements -/
def addF (n : Nat) (fs : List MF) (Γ : Facts) : Option Facts :=
  match fs with
  | [] => some Γ
  | f :: fs => (match addF (n + 1) fs Γ with | some q => some ((n, f) :: q) | none => none)
theorem addF_all {G : GH} : ∀ {fs : List MF} {n : Nat} {Γ Γ' : Facts}, addF n fs Γ = some Γ' → All G fs → AllK G Γ → AllK G Γ'
  | [], n, Γ, Γ', h, _, k => by simp [addF] at h; subst h; exact k
  | f :: fs, n, Γ, Γ', h, ha, k => by
    simp only [addF] at h
    split at h
    · rename_i q hq
      simp only [Option.some.injEq] at h; subst h
      have := addF_all hq (fun g hg => ha g (List.mem_cons_of_mem _ hg)) k
      intro i g hg
      rw [look_cons] at hg
      split at hg
      · simp at hg; subst hg; exact ha _ (List.mem_cons_self ..)
      · exact this i g hg
    · cases h
section
variable {α : Type} [GoT α]
theorem RdL.get {G : GH} : ∀ {xs : List Value} {l : List α} {i : Nat} {a : α}, RdL G xs l → l[i]? = some a → ∃ x : X α, All G (fa a x) ∧ ∀ j u, (sh a x)[j]? = some u → xs[i * k α + j]? = some u
  | xs, b :: l, 0, a, ⟨x, ys, h1, h2, _⟩, h => by
    simp at h; subst h; subst h1
    refine ⟨x, h2, fun j u hj => ?_⟩
    simp only [Nat.zero_mul, Nat.zero_add]
    rw [List.getElem?_append_left (List.getElem?_eq_some_iff.1 hj).1]; exact hj
  | xs, b :: l, i + 1, a, ⟨x, ys, h1, _, h3⟩, h => by
    obtain ⟨x', h4, h5⟩ := h3.get (i := i) (a := a) (by simpa using h)
    refine ⟨x', h4, fun j u hj => ?_⟩
    subst h1
    rw [List.getElem?_append_right (by rw [GoT.len, Nat.add_mul]; omega), GoT.len]
    have := h5 j u hj
    rwa [show (i + 1) * k α + j - k α = i * k α + j by rw [Nat.add_mul]; omega]
  | xs, [], i, a, _, h => by simp at h
/-- where element i of a slice that is read lies, and what it holds -/
theorem RdSl.get {G : GH} {p : Option Addr} {c : Nat} {l : List α} {i : Nat} {a : α} (h : RdSl G p c l) (hi : l[i]? = some a) :
    ok a ∧ ∃ (x : X α) (ad : Addr), p = some ad ∧ All G (fa a x) ∧ ∀ j u, (sh a x)[j]? = some u → gcell G ((ad.add (i * k α)).add j) = some u := by
  obtain ⟨_, _, h3, xs, h4, h5⟩ := h
  obtain ⟨x, h6, h7⟩ := h5.get hi
  refine ⟨h3 a (List.mem_of_getElem? hi), x, ?_⟩
  have h0 : ∃ u, (sh a x)[0]? = some u := by
    have := GoT.len a x; have := GoT.pos (α := α)
    exact ⟨_, List.getElem?_eq_getElem (by omega)⟩
  obtain ⟨u, hu⟩ := h0
  obtain ⟨ad, had, _⟩ := h4 _ _ (h7 0 u hu)
  refine ⟨ad, had, h6, fun j u hj => ?_⟩
  obtain ⟨ad', had', hg⟩ := h4 _ _ (h7 j u hj)
  rw [had] at had'; simp at had'; subst had'
  rw [addr_add_add]; exact hg
end
def elemO (tt : TT) (T : Nat) : Option Nat :=
  match look tt T with
  | some ti => (match ti.desc with
    | .slice e => (match look tt e with | some te => some te.size | none => none)
    | _ => none)
  | none => none
theorem run_indexAt {P : Program} {tt : TT} (ht : TabOk P tt) {T k : Nat} (h : elemO tt T = some k) (w : World) (a : Addr) (n c i : Nat) (hi : i < n) :
    (Instr.indexAt T (.slice (some a) n c) (.int .i64 i)).run P w = .ok (.pointer (some (a.add (i * k)))) w := by
  unfold elemO at h
  split at h
  · rename_i ti hT
    split at h
    · rename_i e hd
      split at h
      · rename_i te hE
        simp only [Option.some.injEq] at h; subst h
        obtain ⟨hu, _⟩ := ht.get hT
        obtain ⟨_, inf, hinf, _, hs, _⟩ := ht.get hE
        rw [hd] at hu
        simp [Instr.indexAt, asIntOf, run_underlying hu, hi, run_sizeOf hinf, hs]
      · cases h
    · cases h
  · cases h
theorem Le.cell {G : GH} {w : World} (h : Le G (hp w)) {a : Addr} {v : Value} (hc : gcell G a = some v) : w.cell? a = some v := gcell_mono h hc
theorem looks_idx {C : Cx} {env : Env} {L : Locs} {R : Rows} {G : GH} {o : Oper} {x y : Operand} {T kk n c i : Nat} {m : Int} {ad : Addr} (ht : TabOk C.P C.tt) (ho : o.op = .indexAddr T x y)
    (hx : ev env x = some (.v (.slice (some ad) n c))) (hy : ev env y = some (.v (.int .i64 m))) (hk : elemO C.tt T = some kk) (hm : m = (i : Int)) (hi : i < n) : Looks C env L R G o (.e (some ad) i kk 0) := by
  intro a w G' bs _ hA hI
  unfold execOp
  subst hm
  simp only [ho, ev_conc hA hx, ev_conc hA hy, conc, Sem.run_bind, run_indexAt ht hk w ad n c i hi, Result.andThen_ok, Sem.run_pure, Addr.add_zero']
/-- the address of element i of a slice that is read (fact ℓ) -/
theorem WX.idx {C : Cx} {ops : Array Oper} {o : Oper} {r : List Oper} {s : List It} {env : Env} {L : Locs} {R : Rows} {Γ : Facts} {α : Type} [GoT α] {d : Nat} {x y : Operand} {T kk n c : Nat} {m : Int} {p : Option Addr} {l : List α} (ℓ i : Nat) (ht : TabOk C.P C.tt)
    (hg : gd ops env o = some true) (hd : o.dst = some d) (hlt : Nat.blt d C.fn.ntmps = true) (ho : o.op = .indexAddr T x y)
    (hx : ev env x = some (.v (.slice p n c))) (hy : ev env y = some (.v (.int .i64 m))) (hk : elemO C.tt T = some kk) (hℓ : look Γ ℓ = some (MF.rs p c l)) (hn : n = l.length) (hm : m = (i : Int)) (hi : i < l.length)
    (k : ∀ ad, p = some ad → WX C (.ops ops r :: s) ((d, .e (some ad) i kk 0) :: env) L R Γ) : WX C (.ops ops (o :: r) :: s) env L R Γ :=
  WX.peek hg hd hlt fun G hΓ => by
    obtain ⟨_, x', ad, rfl, _⟩ := RdSl.get (i := i) (hΓ ℓ _ hℓ : RdSl G p c l) (List.getElem?_eq_getElem hi)
    exact ⟨_, looks_idx ht ho hx hy hk hm (by omega), k ad rfl⟩

theorem looks_ldE {C : Cx} {env : Env} {L : Locs} {R : Rows} {G : GH} {o : Oper} {x : Operand} {T kk i off : Nat} {ti : TI} {ad : Addr} {cs : List Value} {v : Value} (ht : TabOk C.P C.tt) (ho : o.op = .load T x)
    (hx : ev env x = some (.e (some ad) i kk off)) (hT : look C.tt T = some ti) (hc : ∀ j u, cs[j]? = some u → gcell G ((ad.add (i * kk)).add j) = some u) (hv : asm ti cs off = some v) : Looks C env L R G o (.v v) := by
  intro a w G' bs hle hA hI
  unfold execOp
  have hrun := run_loadVar (P := C.P) ht hT (w := w) (a := ad.add (i * kk)) (cs := cs) (off := off) (v := v) (fun j u hj => hI.le.cell (gcell_mono hle (hc j u hj))) hv
  simp only [ho, ev_conc hA hx, conc, Instr.loadAt, Instr.sureAddr, Sem.run_bind, Sem.run_pure, Result.andThen_ok, hrun]
/-- element a of a slice that is read (fact ℓ), or a part of it; the facts on its own slices get the numbers from 'n' on -/
theorem WX.ldE {C : Cx} {ops : Array Oper} {o : Oper} {r : List Oper} {s : List It} {env : Env} {L : Locs} {R : Rows} {Γ : Facts} {α : Type} [GoT α] {d : Nat} {x : Operand} {T c i off : Nat} {ti : TI} {ad : Addr} {l : List α} (ℓ n : Nat) (a : α) {val : X α → Value} {Γ' : X α → Facts} (ht : TabOk C.P C.tt)
    (hg : gd ops env o = some true) (hd : o.dst = some d) (hlt : Nat.blt d C.fn.ntmps = true) (ho : o.op = .load T x)
    (hx : ev env x = some (.e (some ad) i (k α) off)) (hT : look C.tt T = some ti) (hℓ : look Γ ℓ = some (MF.rs (some ad) c l)) (ha : l[i]? = some a)
    (hv : ∀ x, asm ti (sh a x) off = some (val x)) (hf : ∀ x, addF n (fa a x) Γ = some (Γ' x))
    (k : ∀ x, ok a → WX C (.ops ops r :: s) ((d, .v (val x)) :: env) L R (Γ' x)) : WX C (.ops ops (o :: r) :: s) env L R Γ := by
  rintro a' w ⟨G, bs, hA, hI, hΓ⟩
  obtain ⟨hok, x', ad', had, hfa, hc⟩ := RdSl.get (i := i) (hΓ ℓ _ hℓ : RdSl G (some ad) c l) ha
  simp at had; subst had
  have hl := looks_ldE (L := L) (R := R) ht ho hx hT hc (hv x')
  show wpList C.P ops (cont C s) (o :: r) a' w
  unfold wpList
  rw [if_pos (gd_sound hA hg)]
  refine .inl ?_
  unfold Oper.wp
  rw [hl a' w G bs (Le.refl _) hA hI]
  simp only [Oper.upon, hd]
  exact k x' hok _ _ ⟨G, bs, hA.put (by simpa [Nat.blt_eq] using hlt) _, hI, addF_all (hf x') hfa hΓ⟩

/-! ### results that are new memory -/
/-- v is what mk makes of cells that read as a; the blocks that it owns are distinct and newer than world w -/
def Fr {α : Type} [GoT α] (w : World) (mk : List Value → Value) (a : α) (v : Value) (w' : World) : Prop :=
  ∃ (x : X α) (f : F α), v = mk (sh a x) ∧ ok a ∧ All (hp w') (oa a x f) ∧ (fo α f).Nodup ∧ ∀ b ∈ fo α f, w.heap.size ≤ b
def normL : List Value → Option (List Value)
  | [] => some []
  | x :: r => (match normL r with | some q => some (x :: q) | none => none)
theorem normL_eq : ∀ {l q : List Value}, normL l = some q → q = l
  | [], q, h => by simp [normL] at h; exact h
  | x :: r, q, h => by
    simp only [normL] at h
    split at h
    · rename_i q' hq; simp at h; rw [← h, normL_eq hq]
    · cases h
theorem Fr.of {α : Type} [GoT α] {w0 w : World} {G : GH} {bs : Nat → Nat} {L : Locs} {R : Rows} {mk : List Value → Value} {a : α} {v : Value} (hI : HInv w0 w G bs L R) (x : X α) (f : F α) (hv : v = mk (sh a x)) (hok : ok a)
    (hf : All G (oa a x f)) (hn : (fo α f).Nodup) (hb : ∀ b ∈ fo α f, w0.heap.size ≤ b) : Fr w0 mk a v w := ⟨x, f, hv, hok, hf.mono hI.le, hn, hb⟩
/-- blocks of f are none of those that the facts at hand own -/
def Apart (Γ : Facts) (fp : List Nat) : Prop := ∀ i g, look Γ i = some g → ∀ b ∈ g.fp, b ∉ fp
theorem WX.callO {C : Cx} {ops : Array Oper} {o : Oper} {r : List Oper} {s : List It} {env : Env} {L : Locs} {R : Rows} {Γ : Facts} {f : Operand} {args : List Operand} {ats : Array TypeId} {g : FuncId} {sf : SV} {svs : List SV} {caps : (Nat → Nat) → List Value}
    {α : Type} [GoT α] {a : α} {mk : List Value → Value} {d : Nat} {cs : X α → List Value} {Γ' : X α → F α → Facts} (n : Nat) (hg : gd ops env o = some true) (hd : o.dst = some d) (hlt : Nat.blt d C.fn.ntmps = true) (ho : o.op = .call { callee := .value f, args := args.toArray, argTypes := ats })
    (hf : ev env f = some sf) (hsf : ∀ bs, conc bs sf = .func (.func g) #[] (caps bs).toArray) (hargs : evs env args = some svs)
    (hc : ∀ w G bs, HInv C.w0 w G bs L R → AllK (hp w) Γ → Does C.P g (svs.map (conc bs) ++ caps bs).toArray w (Fr w mk a))
    (hcs : ∀ x, normL (sh a x) = some (cs x)) (hΓ' : ∀ x f, addF n (fa a x ++ oa a x f) Γ = some (Γ' x f))
    (k : ∀ x f, ok a → (fo α f).Nodup → (∀ b ∈ fo α f, C.w0.heap.size ≤ b) → Apart Γ (fo α f) → WX C (.ops ops r :: s) ((d, .v (mk (cs x))) :: env) L R (Γ' x f)) : WX C (.ops ops (o :: r) :: s) env L R Γ :=
  WX.callG (Ψ := fun w v w' => Fr w mk a v w') hg ho hf hsf hargs hc fun a' w w' G bs v hA hI hΓ hb hv => by
    obtain ⟨x, f', rfl, hok, hall, hnd, hnew⟩ := hv
    rw [hd, ← normL_eq (hcs x)]
    have hI' := hI.called hb
    have hΓ2 := hΓ.mono (le_grow (w' := w') hI.le)
    have hall' : All (grow G w w') (oa a x f') := GoT.ow_loc hall fun b hb' => by
      unfold grow; rw [if_neg (by have := hnew b hb'; omega)]; rfl
    have hB := hI.below.size
    exact k x f' hok hnd (fun b hb' => by have := hnew b hb'; omega)
      (fun i m hm b hb' hin => by
        obtain ⟨ob, hob⟩ := m.dom (hΓ i m hm) b hb'
        have := hI.le.lt hob
        have := hnew b hin
        omega) _ _
      ⟨grow G w w', bs, hA.put (by simpa [Nat.blt_eq] using hlt) (.v _), hI', addF_all (hΓ' x f') (All.append (GoT.ow_rd hall') hall') hΓ2⟩
end Go.Stp
