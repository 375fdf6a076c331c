/-
  Go's data as Lean data: what it means that cells read as a value of a Lean type (RdL, RdSl), and that they are memory of one's own (OwL, OwSl); loads of elements; calls whose result is memory. No condition.
-/
import Derived.Test.YtdkhklhnipiheaaRule
namespace Go.Stp
abbrev Str := ByteArray
/-- bounds of lengths, by levels -/
def bd (n : Nat) : Nat := match Nat.ble n 9 with | true => 1048576 * 4 ^ n | false => 9223372036854775807
theorem bd_low {n : Nat} (h : n ≤ 9) : bd n = 1048576 * 4 ^ n := by unfold bd; rw [Nat.ble_eq_true_of_le h]
theorem bd_top {n : Nat} (h : ¬ n ≤ 9) : bd n = 9223372036854775807 := by
  unfold bd
  cases hb : Nat.ble n 9 with
  | true => exact absurd (Nat.le_of_ble_eq_true hb) h
  | false => rfl
theorem pow4_le {n : Nat} (h : n ≤ 9) : 4 ^ n ≤ 262144 := Nat.le_trans (Nat.pow_le_pow_right (by omega) h) (by decide)
theorem bd_le (n : Nat) : bd n ≤ 9223372036854775807 := by
  by_cases h : n ≤ 9
  · rw [bd_low h]; have := pow4_le h; omega
  · rw [bd_top h]; omega
theorem bd_big {n : Nat} (h : n ≤ 9) : bd n ≤ 274877906944 := by rw [bd_low h]; have := pow4_le h; omega
theorem bd_pos (n : Nat) : 1048576 ≤ bd n := by
  by_cases h : n ≤ 9
  · rw [bd_low h]; have : 0 < 4 ^ n := Nat.pow_pos (by omega); omega
  · rw [bd_top h]; omega
theorem bd_succ {n : Nat} (h : n + 1 ≤ 9) : bd (n + 1) = 4 * bd n := by
  rw [bd_low h, bd_low (by omega), Nat.pow_succ]; omega
theorem bd_mono {n m : Nat} (h : n ≤ m) : bd n ≤ bd m := by
  by_cases hm : m ≤ 9
  · rw [bd_low hm, bd_low (by omega)]; exact Nat.mul_le_mul_left _ (Nat.pow_le_pow_right (by omega) h)
  · rw [bd_top hm]; exact bd_le n
theorem bd_0 : bd 0 = 1048576 := rfl
/-- a Go type whose values are read as values of α: k cells; x: where its slices lie; fa: that they are read; oa: that they are one's own; ok n: what Go knows of such a value, lengths within bd n -/
class GoT (α : Type) where
  X : Type
  k : Nat
  ok : Nat → α → Prop
  sh : α → X → List Value
  fa : Kd → α → X → List MF
  oa : α → X → List MF
  pos : 0 < k
  len : ∀ a x, (sh a x).length = k
  one : ∀ a x, ∀ v ∈ sh a x, v.oneCell' = true
  fak : ∀ {kd a x}, ∀ f ∈ fa kd a x, f.k = kd
  oak : ∀ {a x}, ∀ f ∈ oa a x, f.k = .lin
  ow_rd : ∀ {h : GH} {kd : Kd} {a : α} {x : X}, Sep h (oa a x) → All h (fa kd a x)
  kdp : ∀ {h : GH} {kd kd' : Kd} {a : α} {x : X}, All h (fa kd a x) → All h (fa kd' a x)
  okm : ∀ {n m : Nat} {a : α}, n ≤ m → ok n a → ok m a
theorem All.nil {G : GH} : All G [] := fun f h => by cases h
theorem All.cons {G : GH} {f : MF} {fs : List MF} (h : f.p G) (k : All G fs) : All G (f :: fs) := fun g hg => by
  rcases List.mem_cons.1 hg with rfl | hg
  · exact h
  · exact k g hg
theorem All.append {G : GH} {A B : List MF} (h : All G A) (k : All G B) : All G (A ++ B) := fun f hf => (List.mem_append.1 hf).elim (h f) (k f)
theorem All.left {G : GH} {A B : List MF} (h : All G (A ++ B)) : All G A := fun f hf => h f (List.mem_append_left _ hf)
theorem All.right {G : GH} {A B : List MF} (h : All G (A ++ B)) : All G B := fun f hf => h f (List.mem_append_right _ hf)
open GoT (X k ok sh fa oa)
section
variable {α : Type} [GoT α]
/-- the cells xs read as the list l -/
def RdL (G : GH) : List Value → List α → Prop
  | xs, [] => xs = []
  | xs, a :: l => ∃ (x : X α) (ys : List Value), xs = sh a x ++ ys ∧ All G (fa .der a x) ∧ RdL G ys l
/-- .. and each has its own part of h -/
def OwL (h : GH) : List Value → List α → Prop
  | xs, [] => xs = []
  | xs, a :: l => ∃ (x : X α) (ys : List Value) (h1 h2 : GH), xs = sh a x ++ ys ∧ Le h1 h ∧ Le h2 h ∧ Dj h1 h2 ∧ Sep h1 (oa a x) ∧ OwL h2 ys l
def CellsAt (G : GH) (p : Option Addr) (xs : List Value) : Prop := ∀ j u, xs[j]? = some u → ∃ a, p = some a ∧ gcell G (a.add j) = some u
def RdSl (G : GH) (p : Option Addr) (c : Nat) (l : List α) : Prop :=
  l.length ≤ c ∧ l.length ≤ 9223372036854775807 ∧ ∃ xs, CellsAt G p xs ∧ RdL G xs l
def OwSl (h : GH) (p : Option Addr) (c : Nat) (l : List α) : Prop :=
  (c = 0 ∧ l = []) ∨ ∃ (b o T : Nat) (cur : Array Value) (h' : GH), p = some ⟨b, o, none⟩ ∧ h b = some (.cells cur T (0, 0)) ∧ Le h' h ∧ h' b = none ∧ l.length ≤ c ∧ c ≤ maxLen ∧ o + c * k α ≤ cur.size ∧ OwL h' ((cur.toList.drop o).take (l.length * k α)) l
theorem RdL.len {G : GH} : ∀ {xs : List Value} {l : List α}, RdL G xs l → xs.length = l.length * k α
  | xs, [], h => by simp [RdL] at h; subst h; simp
  | xs, a :: l, ⟨x, ys, h1, _, h3⟩ => by subst h1; rw [List.length_append, GoT.len, h3.len, List.length_cons, Nat.add_mul]; omega
theorem RdL.mono {G G' : GH} (h : Le G G') : ∀ {xs : List Value} {l : List α}, RdL G xs l → RdL G' xs l
  | _, [], k => k
  | _, _ :: _, ⟨x, ys, h1, h2, h3⟩ => ⟨x, ys, h1, h2.mono h, h3.mono h⟩
theorem OwL.mono {G G' : GH} (h : Le G G') : ∀ {xs : List Value} {l : List α}, OwL G xs l → OwL G' xs l
  | _, [], k => k
  | _, _ :: _, ⟨x, ys, h1, h2, e, a, b, c, d, k⟩ => ⟨x, ys, h1, h2, e, a.trans h, b.trans h, c, d, k⟩
theorem OwL.rd : ∀ {G : GH} {xs : List Value} {l : List α}, OwL G xs l → RdL G xs l
  | _, _, [], k => k
  | _, _, _ :: _, ⟨x, ys, h1, h2, e, a, b, _, d, k⟩ => ⟨x, ys, e, (GoT.ow_rd d).mono a, k.rd.mono b⟩
theorem OwL.len {G : GH} {xs : List Value} {l : List α} (h : OwL G xs l) : xs.length = l.length * k α := h.rd.len
theorem CellsAt.mono {G G' : GH} (h : Le G G') {p : Option Addr} {xs : List Value} (hc : CellsAt G p xs) : CellsAt G' p xs := fun j u hu => by
  obtain ⟨a, ha, hg⟩ := hc j u hu
  exact ⟨a, ha, gcell_mono h hg⟩
theorem RdSl.mono {G G' : GH} (h : Le G G') {p : Option Addr} {c : Nat} {l : List α} (hr : RdSl G p c l) : RdSl G' p c l := by
  obtain ⟨h1, h2, xs, h4, h5⟩ := hr
  exact ⟨h1, h2, xs, h4.mono h, h5.mono h⟩
theorem OwSl.mono {G G' : GH} (h : Le G G') {p : Option Addr} {c : Nat} {l : List α} (hr : OwSl G p c l) : OwSl G' p c l := by
  refine hr.imp id ?_
  rintro ⟨b, o, T, cur, h', k1, k2, k3, k⟩
  exact ⟨b, o, T, cur, h', k1, h _ _ k2, k3.trans h, k⟩
theorem cellsAt_row {G : GH} {g o : Nat} {cur : Array Value} {T : Nat} {fr : Nat × Nat} (h : G g = some (.cells cur T fr)) (n : Nat) : CellsAt G (some ⟨g, o, none⟩) ((cur.toList.drop o).take n) := fun j u hu => by
  refine ⟨_, rfl, ?_⟩
  rw [List.getElem?_take] at hu
  split at hu
  · rw [Addr.add_lit]; simp [gcell, h]; simpa using hu
  · cases hu
theorem OwSl.rd {G : GH} {p : Option Addr} {c : Nat} {l : List α} (hr : OwSl G p c l) : RdSl G p c l := by
  obtain ⟨h3, h4⟩ | ⟨b, o, T, cur, h', k1, k2, k3, k4, k5, k6, k7, k8⟩ := hr
  · subst h4; exact ⟨by simp, by simp, [], fun j u h => by simp at h, rfl⟩
  · subst k1; exact ⟨k5, by simp only [maxLen] at k6; omega, _, cellsAt_row k2 _, k8.rd.mono k3⟩
end
/-- the slice (p, c) reads as l -/
def MF.rs {α : Type} [GoT α] (kd : Kd) (p : Option Addr) (c : Nat) (l : List α) : MF := ⟨kd, fun G => RdSl G p c l, fun h k => k.mono h⟩
/-- the slice (p, c) reads as l and is one's own -/
def MF.os {α : Type} [GoT α] (p : Option Addr) (c : Nat) (l : List α) : MF := ⟨.lin, fun G => OwSl G p c l, fun h k => k.mono h⟩
/-- the cells xs read as l, and what they name is one's own -/
def MF.ol {α : Type} [GoT α] (xs : List Value) (l : List α) : MF := ⟨.lin, fun G => OwL G xs l, fun h k => k.mono h⟩
def MF.rl {α : Type} [GoT α] (kd : Kd) (xs : List Value) (l : List α) : MF := ⟨kd, fun G => RdL G xs l, fun h k => k.mono h⟩
instance : GoT Int where
  X := Unit
  k := 1
  ok _ n := I64 n
  sh n _ := [.int .i64 n]
  fa _ _ _ := []
  oa _ _ := []
  pos := by omega
  len _ _ := rfl
  one _ _ v h := by simp at h; subst h; rfl
  fak f h := by cases h
  oak f h := by cases h
  ow_rd _ := All.nil
  kdp _ := All.nil
  okm {n m a} h k := by first | exact k | exact Nat.le_trans k (bd_mono h)
instance : GoT Bool where
  X := Unit
  k := 1
  ok _ _ := True
  sh n _ := [.bool n]
  fa _ _ _ := []
  oa _ _ := []
  pos := by omega
  len _ _ := rfl
  one _ _ v h := by simp at h; subst h; rfl
  fak f h := by cases h
  oak f h := by cases h
  ow_rd _ := All.nil
  kdp _ := All.nil
  okm {n m a} h k := by first | exact k | exact Nat.le_trans k (bd_mono h)
instance : GoT UInt8 where
  X := Unit
  k := 1
  ok _ _ := True
  sh n _ := [.int .u8 n.toNat]
  fa _ _ _ := []
  oa _ _ := []
  pos := by omega
  len _ _ := rfl
  one _ _ v h := by simp at h; subst h; rfl
  fak f h := by cases h
  oak f h := by cases h
  ow_rd _ := All.nil
  kdp _ := All.nil
  okm {n m a} h k := by first | exact k | exact Nat.le_trans k (bd_mono h)
instance : GoT ByteArray where
  X := Unit
  k := 1
  ok n s := s.size ≤ bd n
  sh n _ := [.string n]
  fa _ _ _ := []
  oa _ _ := []
  pos := by omega
  len _ _ := rfl
  one _ _ v h := by simp at h; subst h; rfl
  fak f h := by cases h
  oak f h := by cases h
  ow_rd _ := All.nil
  kdp _ := All.nil
  okm {n m a} h k := by first | exact k | exact Nat.le_trans k (bd_mono h)
theorem sep_one {h : GH} {f : MF} (k : Sep h [f]) : f.p h := by
  obtain ⟨h1, h2, a, _, _, d, _⟩ := k
  exact f.m a d
theorem one_sep {h : GH} {f : MF} (k : f.p h) : Sep h [f] := ⟨h, emp, Le.refl _, emp_le _, (emp_dj _).symm, k, trivial⟩
instance {α : Type} [GoT α] : GoT (List α) where
  X := Option Addr × Nat
  k := 1
  ok n l := l.length ≤ bd n ∧ ∀ a ∈ l, ok n a
  sh l x := [.slice x.1 l.length x.2]
  fa kd l x := [MF.rs kd x.1 x.2 l]
  oa l x := [MF.os x.1 x.2 l]
  pos := by omega
  len _ _ := rfl
  one _ _ v h := by simp at h; subst h; rfl
  fak f h := by cases List.mem_singleton.1 h; rfl
  oak f h := by cases List.mem_singleton.1 h; rfl
  ow_rd h := All.cons (OwSl.rd (sep_one h)) All.nil
  kdp h := All.cons (h _ (List.mem_singleton.2 rfl) : RdSl _ _ _ _) All.nil
  okm h k := ⟨Nat.le_trans k.1 (bd_mono h), fun a ha => GoT.okm h (k.2 a ha)⟩
instance {α β : Type} [GoT α] [GoT β] : GoT (α × β) where
  X := X α × X β
  k := k α + k β
  ok n a := ok n a.1 ∧ ok n a.2
  sh a x := sh a.1 x.1 ++ sh a.2 x.2
  fa kd a x := fa kd a.1 x.1 ++ fa kd a.2 x.2
  oa a x := oa a.1 x.1 ++ oa a.2 x.2
  pos := by have := GoT.pos (α := α); omega
  len a x := by simp [GoT.len]
  one a x v h := (List.mem_append.1 h).elim (GoT.one _ _ v) (GoT.one _ _ v)
  fak f h := (List.mem_append.1 h).elim (GoT.fak f) (GoT.fak f)
  oak f h := (List.mem_append.1 h).elim (GoT.oak f) (GoT.oak f)
  ow_rd h := by
    obtain ⟨h1, h2, a, b, _, d, e⟩ := h.append
    exact All.append ((GoT.ow_rd d).mono a) ((GoT.ow_rd e).mono b)
  kdp h := All.append (GoT.kdp h.left) (GoT.kdp h.right)
  okm h k := ⟨GoT.okm h k.1, GoT.okm h k.2⟩
/-- a type that is read as its fields are -/
@[reducible] def GoT.via {α β : Type} [GoT β] (e : α → β) : GoT α where
  X := X β
  k := k β
  ok n a := ok n (e a)
  sh a := sh (e a)
  fa kd a := fa kd (e a)
  oa a := oa (e a)
  pos := GoT.pos
  len a := GoT.len (e a)
  one a := GoT.one (e a)
  fak := GoT.fak
  oak := GoT.oak
  ow_rd h := GoT.ow_rd h
  kdp h := GoT.kdp h
  okm h k := GoT.okm h k

/-! ### loads of elements -/
def kdL : Kd → Bool
  | .lin => true
  | .stb => false
  | .der => false
theorem kdL_spec {kd : Kd} (h : kdL kd = false) : kd ≠ .lin := fun e => by subst e; cases h
section
variable {α : Type} [GoT α]
theorem RdL.get {G : GH} : ∀ {xs : List Value} {l : List α} {i : Nat} {a : α}, RdL G xs l → l[i]? = some a → ∃ x : X α, All G (fa .der a x) ∧ ∀ j u, (sh a x)[j]? = some u → xs[i * k α + j]? = some u
  | xs, b :: l, 0, a, ⟨x, ys, h1, h2, _⟩, h => by
    simp at h; subst h; subst h1
    refine ⟨x, h2, fun j u hj => ?_⟩
    simp only [Nat.zero_mul, Nat.zero_add]
    rw [List.getElem?_append_left (List.getElem?_eq_some_iff.1 hj).1]; exact hj
  | xs, b :: l, i + 1, a, ⟨x, ys, h1, _, h3⟩, h => by
    obtain ⟨x', h4, h5⟩ := h3.get (i := i) (a := a) (by simpa using h)
    refine ⟨x', h4, fun j u hj => ?_⟩
    subst h1
    rw [List.getElem?_append_right (by rw [GoT.len, Nat.add_mul]; omega), GoT.len]
    have := h5 j u hj
    rwa [show (i + 1) * k α + j - k α = i * k α + j by rw [Nat.add_mul]; omega]
  | xs, [], i, a, _, h => by simp at h
/-- where element i of a slice that is read lies, and what it holds -/
theorem RdSl.get {G : GH} {p : Option Addr} {c : Nat} {l : List α} {i : Nat} {a : α} (h : RdSl G p c l) (hi : l[i]? = some a) :
    ∃ (x : X α) (ad : Addr), p = some ad ∧ All G (fa .der a x) ∧ ∀ j u, (sh a x)[j]? = some u → gcell G ((ad.add (i * k α)).add j) = some u := by
  obtain ⟨_, _, xs, h4, h5⟩ := h
  obtain ⟨x, h6, h7⟩ := h5.get hi
  have h0 : ∃ u, (sh a x)[0]? = some u := by
    have := GoT.len a x; have := GoT.pos (α := α)
    exact ⟨_, List.getElem?_eq_getElem (by omega)⟩
  obtain ⟨u, hu⟩ := h0
  obtain ⟨ad, had, _⟩ := h4 _ _ (h7 0 u hu)
  refine ⟨x, ad, had, h6, fun j u hj => ?_⟩
  obtain ⟨ad', had', hg⟩ := h4 _ _ (h7 j u hj)
  rw [had] at had'; simp at had'; subst had'
  rw [addr_add_add]; exact hg
theorem AllK.stbs {M : Nat → Prop} {G : GH} {Γ : Facts} {S h : GH} (k : Holds M G Γ S h) : ∀ {fs : List MF} {n : Nat} {Γ' : Facts}, addF n fs Γ = some Γ' → (∀ f ∈ fs, f.k = .stb) → All S fs → Holds M G Γ' S h
  | [], n, Γ', e, _, _ => by simp [addF] at e; subst e; exact k
  | f :: fs, n, Γ', e, hk, ha => by
    simp only [addF] at e
    split at e
    · rename_i q hq
      simp only [Option.some.injEq] at e; subst e
      have r := AllK.stbs k hq (fun g hg => hk g (List.mem_cons_of_mem _ hg)) (fun g hg => ha g (List.mem_cons_of_mem _ hg))
      have hf := hk f (List.mem_cons_self ..)
      refine ⟨r.sle, r.hle, r.dj, r.own, fun m g hg hk' => ?_, fun m g hg hk' => ?_, ?_⟩
      · rcases List.mem_cons.1 hg with hg | hg
        · cases hg; exact ha f (List.mem_cons_self ..)
        · exact r.stb m g hg hk'
      · rcases List.mem_cons.1 hg with hg | hg
        · cases hg; rw [hf] at hk'; cases hk'
        · exact r.der m g hg hk'
      · simp only [lins, hf]; exact r.lin
    · cases e
/-- element i of a slice that is read (fact ℓ): the facts on its own slices are of the same kind -/
theorem AllK.elem {M : Nat → Prop} {G : GH} {Γ : Facts} (hΓ : AllK M G Γ) {ℓ : Nat} {kd : Kd} {p : Option Addr} {c : Nat} {l : List α} (hℓ : look Γ ℓ = some (MF.rs kd p c l)) (hkd : kd ≠ .lin) {i : Nat} {a : α} (hi : l[i]? = some a) :
    ∃ (x : X α) (ad : Addr), p = some ad ∧ (∀ j u, (sh a x)[j]? = some u → gcell G ((ad.add (i * k α)).add j) = some u) ∧ ∀ n Γ', addF n (fa kd a x) Γ = some Γ' → AllK M G Γ' := by
  cases kd with
  | lin => exact absurd rfl hkd
  | stb =>
    obtain ⟨S, h, k⟩ := hΓ
    obtain ⟨x, ad, h1, h2, h3⟩ := RdSl.get (k.stb ℓ _ (look_mem hℓ) rfl : RdSl S p c l) hi
    exact ⟨x, ad, h1, fun j u hj => gcell_mono k.sle (h3 j u hj), fun n Γ' e => ⟨S, h, AllK.stbs k e (fun f hf => GoT.fak f hf) (GoT.kdp h2)⟩⟩
  | der =>
    obtain ⟨x, ad, h1, h2, h3⟩ := RdSl.get (hΓ.get ℓ hℓ : RdSl G p c l) hi
    exact ⟨x, ad, h1, h3, fun n Γ' e => AllK.ders e (fun f hf => GoT.fak f hf) h2 hΓ⟩
end
def elemO (tt : TT) (T : Nat) : Option Nat :=
  match look tt T with
  | some ti => (match ti.desc with
    | .slice e => (match look tt e with | some te => some te.size | none => none)
    | _ => none)
  | none => none
theorem run_indexAt {P : Program} {tt : TT} (ht : TabOk P tt) {T k : Nat} (h : elemO tt T = some k) (w : World) (a : Addr) (n c i : Nat) (hi : i < n) :
    (Instr.indexAt T (.slice (some a) n c) (.int .i64 i)).run P w = .ok (.pointer (some (a.add (i * k)))) w := by
  unfold elemO at h
  split at h
  · rename_i ti hT
    split at h
    · rename_i e hd
      split at h
      · rename_i te hE
        simp only [Option.some.injEq] at h; subst h
        obtain ⟨hu, _⟩ := ht.get hT
        obtain ⟨_, inf, hinf, _, hs, _⟩ := ht.get hE
        rw [hd] at hu
        simp [Instr.indexAt, asIntOf, run_underlying hu, hi, run_sizeOf hinf, hs]
      · cases h
    · cases h
  · cases h
theorem Le.cell {G : GH} {w : World} (h : Le G (hp w)) {a : Addr} {v : Value} (hc : gcell G a = some v) : w.cell? a = some v := gcell_mono h hc
theorem looks_idx {C : Cx} {env : Env} {L : Locs} {R : Rows} {G : GH} {o : Oper} {x y : Operand} {T kk n c i : Nat} {m : Int} {ad : Addr} (ht : TabOk C.P C.tt) (ho : o.op = .indexAddr T x y)
    (hx : ev env x = some (.v (.slice (some ad) n c))) (hy : ev env y = some (.v (.int .i64 m))) (hk : elemO C.tt T = some kk) (hm : m = (i : Int)) (hi : i < n) : Looks C env L R G o (.e (some ad) i kk 0) := by
  intro a w G' bs _ hA hI
  unfold execOp
  subst hm
  simp only [ho, ev_conc hA hx, ev_conc hA hy, conc, Sem.run_bind, run_indexAt ht hk w ad n c i hi, Result.andThen_ok, Sem.run_pure, Addr.add_zero']
/-- the address of element i of a slice that is read (fact ℓ) -/
theorem WX.idx {C : Cx} {ops : Array Oper} {o : Oper} {r : List Oper} {s : List It} {env : Env} {L : Locs} {R : Rows} {Γ : Facts} {α : Type} [GoT α] {d : Nat} {x y : Operand} {T kk n c : Nat} {m : Int} {kd : Kd} {p : Option Addr} {l : List α} (ℓ i : Nat) (ht : TabOk C.P C.tt)
    (hg : gd ops env o = some true) (hd : o.dst = some d) (hlt : Nat.blt d C.fn.ntmps = true) (ho : o.op = .indexAddr T x y)
    (hx : ev env x = some (.v (.slice p n c))) (hy : ev env y = some (.v (.int .i64 m))) (hk : elemO C.tt T = some kk) (hℓ : look Γ ℓ = some (MF.rs kd p c l)) (hn : n = l.length) (hm : m = (i : Int)) (hi : i < l.length)
    (k : ∀ ad, p = some ad → WX C (.ops ops r :: s) ((d, .e (some ad) i kk 0) :: env) L R Γ) : WX C (.ops ops (o :: r) :: s) env L R Γ :=
  WX.peek hg hd hlt fun G hΓ => by
    obtain ⟨x', ad, rfl, _⟩ := RdSl.get (i := i) (hΓ.get ℓ hℓ : RdSl G p c l) (List.getElem?_eq_getElem hi)
    exact ⟨_, looks_idx ht ho hx hy hk hm (by omega), k ad rfl⟩
theorem looks_ldE {C : Cx} {env : Env} {L : Locs} {R : Rows} {G : GH} {o : Oper} {x : Operand} {T kk i off : Nat} {ti : TI} {ad : Addr} {cs : List Value} {v : Value} (ht : TabOk C.P C.tt) (ho : o.op = .load T x)
    (hx : ev env x = some (.e (some ad) i kk off)) (hT : look C.tt T = some ti) (hc : ∀ j u, cs[j]? = some u → gcell G ((ad.add (i * kk)).add j) = some u) (hv : asm ti cs off = some v) : Looks C env L R G o (.v v) := by
  intro a w G' bs hle hA hI
  unfold execOp
  have hrun := run_loadVar (P := C.P) ht hT (w := w) (a := ad.add (i * kk)) (cs := cs) (off := off) (v := v) (fun j u hj => hI.le.cell (gcell_mono hle (hc j u hj))) hv
  simp only [ho, ev_conc hA hx, conc, Instr.loadAt, Instr.sureAddr, Sem.run_bind, Sem.run_pure, Result.andThen_ok, hrun]
/-- element a of a slice that is read (fact ℓ), or a part of it; the facts on its own slices get the numbers from 'n' on -/
theorem WX.ldE {C : Cx} {ops : Array Oper} {o : Oper} {r : List Oper} {s : List It} {env : Env} {L : Locs} {R : Rows} {Γ : Facts} {α : Type} [GoT α] {d : Nat} {x : Operand} {T c i off : Nat} {ti : TI} {ad : Addr} {kd : Kd} {l : List α} (ℓ n : Nat) (a : α) {val : X α → Value} {Γ' : X α → Facts} (ht : TabOk C.P C.tt)
    (hg : gd ops env o = some true) (hd : o.dst = some d) (hlt : Nat.blt d C.fn.ntmps = true) (ho : o.op = .load T x)
    (hx : ev env x = some (.e (some ad) i (k α) off)) (hT : look C.tt T = some ti) (hℓ : look Γ ℓ = some (MF.rs kd (some ad) c l)) (hkd : kdL kd = false) (ha : l[i]? = some a)
    (hv : ∀ x, asm ti (sh a x) off = some (val x)) (hf : ∀ x, addF n (fa kd a x) Γ = some (Γ' x))
    (k : ∀ x, WX C (.ops ops r :: s) ((d, .v (val x)) :: env) L R (Γ' x)) : WX C (.ops ops (o :: r) :: s) env L R Γ := by
  rintro a' w ⟨G, bs, hA, hI, hΓ⟩
  obtain ⟨x', ad', had, hc, hΓ'⟩ := hΓ.elem hℓ (kdL_spec hkd) ha
  simp at had; subst had
  have hl := looks_ldE (L := L) (R := R) ht ho hx hT hc (hv x')
  show wpList C.P ops (cont C s) (o :: r) a' w
  unfold wpList
  rw [if_pos (gd_sound hA hg)]
  refine .inl ?_
  unfold Oper.wp
  rw [hl a' w G bs (Le.refl _) hA hI]
  simp only [Oper.upon, hd]
  exact k x' _ _ ⟨G, bs, hA.put (by simpa [Nat.blt_eq] using hlt) _, hI, hΓ' n _ (hf x')⟩

/-! ### calls whose result is memory -/
def normL : List Value → Option (List Value)
  | [] => some []
  | x :: r => (match normL r with | some q => some (x :: q) | none => none)
theorem normL_eq : ∀ {l q : List Value}, normL l = some q → q = l
  | [], q, h => by simp [normL] at h; exact h
  | x :: r, q, h => by
    simp only [normL] at h
    split at h
    · rename_i q' hq; simp at h; rw [← h, normL_eq hq]
    · cases h
def normV : Value → Option Value
  | .agg cs => (match normL cs.toList with | some q => some (.agg ⟨q⟩) | none => none)
  | .tuple cs => (match normT cs.toList with | some q => some (.tuple ⟨q⟩) | none => none)
  | v => some v
where
  normT : List Value → Option (List Value)
    | [] => some []
    | .agg cs :: r => (match normL cs.toList with
      | some q => (match normT r with | some t => some (.agg ⟨q⟩ :: t) | none => none)
      | none => none)
    | v :: r => (match normT r with | some t => some (v :: t) | none => none)
theorem normT_eq : ∀ {l q : List Value}, normV.normT l = some q → q = l
  | [], q, h => by simp [normV.normT] at h; exact h
  | v :: r, q, h => by
    cases v <;> simp only [normV.normT] at h <;> (repeat' split at h) <;> first | (cases h; done) | (simp at h; subst h; rename_i h1 _ _ h2; rw [normL_eq h1, normT_eq h2]; done) | (simp at h; subst h; rename_i h1 h2; rw [normL_eq h1, normT_eq h2]; done) | (simp at h; subst h; rename_i h1; rw [normT_eq h1]; done)
theorem normV_eq {v q : Value} (h : normV v = some q) : q = v := by
  cases v <;> simp only [normV] at h <;> (repeat' split at h) <;> first | (cases h; done) | (simp at h; exact h.symm) | (simp at h; subst h; rename_i h1; rw [normL_eq h1]; done) | (simp at h; subst h; rename_i h1; rw [normT_eq h1]; done)
theorem addL_app (n : Nat) (Γ : Facts) : ∀ (A B : List MF) (m : Nat), addL m (A ++ B) Γ = addL m A (addL (m + A.length) B Γ)
  | [], B, m => by simp [addL]
  | f :: A, B, m => by simp only [List.cons_append, addL, addL_app n Γ A B (m + 1), List.length_cons]; rw [show m + 1 + A.length = m + (A.length + 1) by omega]
theorem addF_addL : ∀ (fs : List MF) (n : Nat) (Γ : Facts), addF n fs Γ = some (addL n fs Γ)
  | [], n, Γ => rfl
  | f :: fs, n, Γ => by simp [addF, addF_addL fs (n + 1) Γ, addL]
/-- behind a call: the facts that it leaves, and what is read of them -/
theorem AllK.after {M : Nat → Prop} {G h : GH} {Γ Γ' : Facts} {n : Nat} {gs ds : List MF} (hΓ : AllK M G Γ) (hd : Dj h G) (hM : ∀ b o, h b = some o → M b) (hs : Sep h gs) (hk : ∀ f ∈ ds, f.k = .der) (hds : All h ds) (e : addF n (ds ++ gs) Γ = some Γ') : AllK M (join G h) Γ' := by
  rw [addF_eq e, addL_app n]
  exact AllK.ders (addF_addL _ _ _) hk (hds.mono (le_join_r hd.symm)) (AllK.newSep (n + ds.length) hΓ hd hM hs)
theorem WX.callF {C : Cx} {ops : Array Oper} {o : Oper} {r : List Oper} {s : List It} {env : Env} {L : Locs} {R : Rows} {Γ : Facts} {f : Operand} {args : List Operand} {ats : Array TypeId} {g : FuncId} {sf : SV} {svs : List SV} {caps : (Nat → Nat) → List Value}
    {ι : Type} {val val' : ι → Value} {gs ds : ι → List MF} {Q : Prop} {d : Nat} {Γ' : ι → Facts} (n : Nat) (hds : ∀ i h, Sep h (gs i) → All h (ds i)) (hdk : ∀ i, ∀ f ∈ ds i, f.k = .der) (hg : gd ops env o = some true) (hd : o.dst = some d) (hlt : Nat.blt d C.fn.ntmps = true) (ho : o.op = .call { callee := .value f, args := args.toArray, argTypes := ats })
    (hf : ev env f = some sf) (hsf : ∀ bs, conc bs sf = .func (.func g) #[] (caps bs).toArray) (hargs : evs env args = some svs)
    (hc : ∀ w G bs, HInv C w G bs L R → AllK C.M (hp w) Γ → Does C.P g (svs.map (conc bs) ++ caps bs).toArray w emp (Post w emp val gs Q))
    (hv : ∀ i, normV (val i) = some (val' i)) (hΓ' : ∀ i, addF n (ds i ++ gs i) Γ = some (Γ' i))
    (k : ∀ i, Q → WX C (.ops ops r :: s) ((d, .v (val' i)) :: env) L R (Γ' i)) : WX C (.ops ops (o :: r) :: s) env L R Γ :=
  WX.callG (Ψ := fun w v w' => Post w emp val gs Q v w') hg ho hf hsf hargs hc fun a' w w' G bs v hA hI hΓ hb hv' => by
    obtain ⟨i, h, rfl, hq, hle, hdom, hs⟩ := hv'
    rw [hd, ← normV_eq (hv i)]
    obtain ⟨hI', hdj⟩ := hI.called (emp_le _) (fun _ _ h => by cases h) hb hle hdom
    exact k i hq _ _ ⟨join G h, bs, hA.put (by simpa [Nat.blt_eq] using hlt) (.v _), hI', hΓ.after hdj (fun b o hb' => .inl ((hdom b o hb').elim (Nat.le_trans hI.keep.size) (fun h => absurd rfl h))) hs (hdk i) (hds i h hs) (hΓ' i)⟩
/-- .. with the memory of the facts ks lent -/
theorem WX.callM {C : Cx} {ops : Array Oper} {o : Oper} {r : List Oper} {s : List It} {env : Env} {L : Locs} {R : Rows} {Γ Γ1 : Facts} {f : Operand} {args : List Operand} {ats : Array TypeId} {g : FuncId} {sf : SV} {svs : List SV} {caps : (Nat → Nat) → List Value} {fs : List MF}
    {ι : Type} {val val' : ι → Value} {gs ds : ι → List MF} {Q : Prop} {d : Nat} {Γ' : ι → Facts} (ks : List Nat) (n : Nat) (hks : giveK ks Γ = some (fs, Γ1)) (hds : ∀ i h, Sep h (gs i) → All h (ds i)) (hdk : ∀ i, ∀ f ∈ ds i, f.k = .der) (hg : gd ops env o = some true) (hd : o.dst = some d) (hlt : Nat.blt d C.fn.ntmps = true) (ho : o.op = .call { callee := .value f, args := args.toArray, argTypes := ats })
    (hf : ev env f = some sf) (hsf : ∀ bs, conc bs sf = .func (.func g) #[] (caps bs).toArray) (hargs : evs env args = some svs)
    (hc : ∀ w G bs H, HInv C w G bs L R → Le H (hp w) → Sep H fs → AllK C.M (cut (hp w) H) Γ1 → Does C.P g (svs.map (conc bs) ++ caps bs).toArray w H (Post w H val gs Q))
    (hv : ∀ i, normV (val i) = some (val' i)) (hΓ' : ∀ i, addF n (ds i ++ gs i) Γ1 = some (Γ' i))
    (k : ∀ i, Q → WX C (.ops ops r :: s) ((d, .v (val' i)) :: env) L R (Γ' i)) : WX C (.ops ops (o :: r) :: s) env L R Γ :=
  WX.callH (Ψ := fun w H v w' => Post w H val gs Q v w') ks hks hg ho hf hsf hargs hc fun a' w w' G bs H v hA hI hHG hHM hΓ hb hv' => by
    obtain ⟨i, h, rfl, hq, hle, hdom, hs⟩ := hv'
    rw [hd, ← normV_eq (hv i)]
    obtain ⟨hI', hdj⟩ := hI.called hHG hHM hb hle hdom
    refine k i hq _ _ ⟨join (cut G H) h, bs, hA.put (by simpa [Nat.blt_eq] using hlt) (.v _), hI', hΓ.after hdj (fun b o hb' => ?_) hs (hdk i) (hds i h hs) (hΓ' i)⟩
    rcases hdom b o hb' with h1 | h1
    · exact .inl (Nat.le_trans hI.keep.size h1)
    · cases hx : H b with
      | none => exact absurd hx h1
      | some q => exact hHM b q hx
/-- a result, at the return: the facts ks, and nothing else, are what it names -/
theorem Post.of {C : Cx} {w : World} {G : GH} {bs : Nat → Nat} {L : Locs} {R : Rows} {Γ Γ1 : Facts} {ι : Type} {val : ι → Value} {gs : ι → List MF} {Q : Prop} {v : Value} {fs : List MF} (ks : List Nat) (i : ι) (hI : HInv C w G bs L R) (hΓ : AllK C.M G Γ) (hk : giveK ks Γ = some (fs, Γ1)) (hv : v = val i) (hf : gs i = fs) (hq : Q) : Post C.w0 C.H val gs Q v w := by
  obtain ⟨H, q1, q2, q3, q4⟩ := giveK_spec hk hΓ
  exact ⟨i, H, hv, hq, q1.trans hI.le, q2, by rw [hf]; exact q3⟩
end Go.Stp
