/-
  More operations that only look; rows of no element; captured variables. No condition.
-/
import Derived.Test.YtdkhklhnipiheaaDraw
import Derived.ChangeKeysEq
import Derived.Laws.Slices
import Derived.Laws.BytesString
import Derived.Laws.Small
import Derived.Laws.Cover3
namespace Go.Stp
open GoT (X k ok sh fa oa)
theorem WX.see {C : Cx} {ops : Array Oper} {o : Oper} {r : List Oper} {s : List It} {env : Env} {L : Locs} {R : Rows} {Γ : Facts} {d : Nat} {sv : SV}
    (hg : gd ops env o = some true) (hd : o.dst = some d) (hlt : Nat.blt d C.fn.ntmps = true) (hl : ∀ G, AllK C.M G Γ → Looks C env L R G o sv)
    (k : WX C (.ops ops r :: s) ((d, sv) :: env) L R Γ) : WX C (.ops ops (o :: r) :: s) env L R Γ := WX.peek hg hd hlt fun G hΓ => ⟨sv, hl G hΓ, k⟩
theorem DX.see {C : Cx} {ops : Array Oper} {tl : List Nat} {s : List It} {bs : Nat → Nat} {G0 : GH} {fuel : Nat} {listed : Array Bool} {env : Env} {L : Locs} {R : Rows} {Γ : Facts} {d : Nat} {o : Oper} {sv : SV} (i : Nat) (hb : mayB ops tl listed i = true) (hi : getO ops.toList i = some o)
    (hg : gd ops env o = some true) (hd : o.dst = some d) (hlt : Nat.blt d C.fn.ntmps = true) (hl : Looks C env L R G0 o sv)
    (k : DX C ops tl s bs G0 fuel (listed.setIfInBounds i true) ((d, sv) :: env) L R Γ) : DX C ops tl s bs G0 (fuel + 1) listed env L R Γ := by
  rw [getO_eq] at hi
  exact DX.take hb (by simpa using hi) hd (by simpa [Nat.blt_eq] using hlt) hg (fun _ => hl) (fun h => by cases h) k
theorem DX.der {C : Cx} {ops : Array Oper} {tl : List Nat} {s : List It} {bs : Nat → Nat} {G0 : GH} {fuel : Nat} {listed : Array Bool} {env : Env} {L : Locs} {R : Rows} {Γ : Facts} (m : Nat) (f : MF) (hk : f.k = .der) (h : ∀ G, AllK C.M G Γ → f.p G)
    (k : DX C ops tl s bs G0 fuel listed env L R ((m, f) :: Γ)) : DX C ops tl s bs G0 fuel listed env L R Γ := by
  intro hcl a w G hle ⟨hA, hI, hΓ⟩
  exact k hcl a w G hle ⟨hA, hI, hΓ.der m f hk (h G hΓ)⟩
/-- split on the bool in slot d -/
theorem DX.cases {C : Cx} {ops : Array Oper} {tl : List Nat} {s : List It} {bs : Nat → Nat} {G0 : GH} {fuel : Nat} {listed : Array Bool} {env : Env} {L : Locs} {R : Rows} {Γ : Facts} (d : Nat) {b : Bool} (h : look env d = some (.v (.bool b)))
    (kt : b = true → DX C ops tl s bs G0 fuel listed ((d, .T) :: env) L R Γ) (kf : b = false → DX C ops tl s bs G0 fuel listed ((d, .F) :: env) L R Γ) : DX C ops tl s bs G0 fuel listed env L R Γ := by
  have key : ∀ y : SV, conc bs y = conc bs (.v (.bool b)) → DX C ops tl s bs G0 fuel listed ((d, y) :: env) L R Γ → DX C ops tl s bs G0 fuel listed env L R Γ := fun y hy k hcl a w G hle ⟨hA, hI, hΓ⟩ => by
    refine k hcl a w G hle ⟨⟨hA.size, hA.dfr, fun i x' hx => ?_⟩, hI, hΓ⟩
    rw [look_cons] at hx
    split at hx
    · rename_i he; subst he; simp at hx; subst hx; rw [hA.slot d _ h, hy]
    · exact hA.slot i x' hx
  cases b with
  | true => exact key .T rfl (kt rfl)
  | false => exact key .F rfl (kf rfl)
theorem DX.slot {C : Cx} {ops : Array Oper} {tl : List Nat} {s : List It} {bs : Nat → Nat} {G0 : GH} {fuel : Nat} {listed : Array Bool} {env : Env} {L : Locs} {R : Rows} {Γ : Facts} (d : Nat) {x y : SV} (h : look env d = some x) (e : ∀ bs, conc bs x = conc bs y) (k : DX C ops tl s bs G0 fuel listed ((d, y) :: env) L R Γ) : DX C ops tl s bs G0 fuel listed env L R Γ := by
  intro hcl a w G hle ⟨hA, hI, hΓ⟩
  refine k hcl a w G hle ⟨⟨hA.size, hA.dfr, fun i x' hx => ?_⟩, hI, hΓ⟩
  rw [look_cons] at hx
  split at hx
  · rename_i he; subst he; simp at hx; subst hx; rw [hA.slot d x h, e]
  · exact hA.slot i x' hx
/-- a fact of no memory -/
theorem WX.free {C : Cx} {s : List It} {env : Env} {L : Locs} {R : Rows} {Γ : Facts} (n : Nat) (f : MF) (hp : f.p emp) (k : WX C s env L R ((n, f) :: Γ)) : WX C s env L R Γ := by
  rintro a w ⟨G, bs, hA, hI, hΓ⟩
  exact k a w ⟨G, bs, hA, hI, hΓ.new n f (h := emp) (Le.refl _) (emp_le _) (fun _ => emp_dj _) (fun _ _ _ h => by cases h) hp⟩
/-- a row of no element -/
theorem WX.row0 {C : Cx} {s : List It} {env : Env} {L : Locs} {R : Rows} {Γ : Facts} (ρ kk : Nat) (p : Option Addr) (hnl : labHas ρ env L R = false) (k : WX C s env L ((ρ, ⟨kk, p, 0, 0, []⟩) :: R) Γ) : WX C s env L R Γ := by
  rintro a w ⟨G, bs, hA, hI, hΓ⟩
  obtain ⟨l1, l2, l3, l4⟩ := labHas_not hnl
  refine k a w ⟨G, fun j => if j = ρ then 0 else bs j, hA.notH l1 (fun i hi => if_neg hi), ?_, hΓ⟩
  exact hI.upd (ρ := ρ) (b' := 0) (r' := ⟨kk, p, 0, 0, []⟩) l4 False (fun h => h.elim) (only_refl w _ _) (.inr (.inr rfl)) (fun j => look_cons _ _ _ _) (fun l h => keyHas_not l2 h rfl) ⟨by simp, .inl ⟨rfl, rfl⟩⟩
/-- the pointer of a slice that is read, told otherwise -/
theorem kp_le {w w' : World} (h : Kp emp w w') : Le (hp w) (hp w') := fun b o hb => by
  have hlt : b < w.heap.size := (Array.getElem?_eq_some_iff.1 hb).1
  show w'.heap[b]? = some o
  rw [h.block b hlt rfl]; exact hb
theorem kp_cut {H : GH} {w w' : World} (h : Kp H w w') : Le (cut (hp w) H) (hp w') := fun b o hb => by
  have h1 := cut_le _ _ b o hb
  have h2 := (cut_dj (hp w) H b).resolve_left (ne_none hb)
  have hlt : b < w.heap.size := (Array.getElem?_eq_some_iff.1 h1).1
  show w'.heap[b]? = some o
  rw [h.block b hlt h2]; exact h1
theorem cap_eq {a : Addr} {k : Nat} : Value.pointer (some a) = Value.pointer (some ((a.add (0 * k)).add 0)) := by
  cases a; simp [Addr.add]
theorem rd_box {α : Type} [GoT α] {w : World} {b : Nat} {T : TypeId} {a : α} {x : GoT.X α} (hh : w.heap[b]? = some (.cells (GoT.sh a x).toArray T (0, 0))) (hf : All (hp w) (GoT.fa .der a x)) : RdSl (hp w) (some ⟨b, 0, none⟩) 1 [a] := by
  refine ⟨Nat.le_refl _, by simp, GoT.sh a x, ?_, ?_⟩
  · intro j u hj
    refine ⟨_, rfl, ?_⟩
    have hh' : hp w b = some (.cells (GoT.sh a x).toArray T (0, 0)) := hh
    by_cases h0 : j = 0 <;> simp [gcell, Addr.add, h0, hh'] <;> simpa [h0] using hj
  · exact ⟨x, [], by simp, hf, rfl⟩
/-- == and != of bools -/
def beqO (b : BinOp) (p q : Bool) : Option Bool :=
  match b with
  | .eql => some (p == q)
  | .neq => some (!(p == q))
  | _ => none
theorem looks_beq {C : Cx} {env : Env} {L : Locs} {R : Rows} {G : GH} {o : Oper} {b : BinOp} {x y : Operand} {T T' : Nat} {ti : TI} {p q c : Bool} (ht : TabOk C.P C.tt) (ho : o.op = .binOp b T x y T') (hT : look C.tt T = some ti) (hb : ti.desc = .bool)
    (hx : ev env x = some (.v (.bool p))) (hy : ev env y = some (.v (.bool q))) (hq : beqO b p q = some c) : Looks C env L R G o (.v (.bool c)) := by
  intro a w G' bs _ hA hI
  have hu : C.P.underlying T = some .bool := by rw [← hb]; exact (ht.get hT).1
  have he : (Op.equal T (.bool p) (.bool q)).run C.P w = .ok (p == q) w := run_equalIn_bool (P := C.P) w (Op.maxDepth - 1) T p q hu
  have hq' : (b = .eql ∧ c = (p == q)) ∨ (b = .neq ∧ c = !(p == q)) := by
    cases b <;> simp only [beqO, Option.some.injEq, reduceCtorEq] at hq
    · exact .inl ⟨rfl, hq.symm⟩
    · exact .inr ⟨rfl, hq.symm⟩
  unfold execOp
  simp only [ho, ev_conc hA hx, ev_conc hA hy, conc]
  rcases hq' with ⟨rfl, rfl⟩ | ⟨rfl, rfl⟩
  · simp [eqGuard, binOp, Sem.run_bind, he]
  · simp [eqGuard, binOp, Sem.run_bind, he]
/-- a slice held against nil -/
theorem looks_nil {C : Cx} {env : Env} {L : Locs} {R : Rows} {G : GH} {o : Oper} {x : Operand} {T T' n c : Nat} {p : Option Addr} {ti : TI} {e : Nat} (ht : TabOk C.P C.tt) (ho : o.op = .binOp .eql T x (.const (.slice none 0 0)) T') (hT : look C.tt T = some ti) (hb : ti.desc = .slice e)
    (hx : ev env x = some (.v (.slice p n c))) : Looks C env L R G o (.v (.bool p.isNone)) := by
  intro a w G' bs _ hA hI
  have hu : C.P.underlying T = some (.slice e) := by rw [← hb]; exact (ht.get hT).1
  have he : (Op.equal T (.slice p n c) (.slice none 0 0)).run C.P w = .ok p.isNone w := by
    exact run_equal_slice_nil w T e p n c hu
  unfold execOp
  simp only [ho, ev_conc hA hx, conc]
  simp [eqGuard, binOp, Sem.run_bind, he, Act.eval]
/-- a conversion between kinds of integers -/
theorem looks_cvt {C : Cx} {env : Env} {L : Locs} {R : Rows} {G : GH} {o : Oper} {x : Operand} {S T : Nat} {si ti : TI} {k q : IntKind} {sd : TypeDesc} {n : Int} (ht : TabOk C.P C.tt) (ho : o.op = .convert S T x) (hS : look C.tt S = some si) (hs : si.desc = sd) (hT : look C.tt T = some ti) (hk : ti.desc = .int k)
    (hx : ev env x = some (.v (.int q n))) : Looks C env L R G o (.v (.int k (k.wrap n))) := by
  intro a w G' bs _ hA hI
  have hu : C.P.underlying T = some (.int k) := by rw [← hk]; exact (ht.get hT).1
  have hv : C.P.underlying S = some sd := by rw [← hs]; exact (ht.get hS).1
  unfold execOp
  simp only [ho, ev_conc hA hx, conc]
  simp [convert, Conv.intToInt, Sem.run_bind, underlying, hu, hv]
def toU8 (n : Int) : UInt8 := UInt8.ofNat (n % 256).toNat
theorem u8_wrap (n : Int) : IntKind.u8.wrap n = ((toU8 n).toNat : Int) := by
  unfold toU8
  rw [UInt8.toNat_ofNat']
  simp [IntKind.wrap, IntKind.bits, IntKind.signed]
  omega
/-- int to byte -/
theorem looks_toU8 {C : Cx} {env : Env} {L : Locs} {R : Rows} {G : GH} {o : Oper} {x : Operand} {S T : Nat} {si ti : TI} {sd : TypeDesc} {n : Int} (ht : TabOk C.P C.tt) (ho : o.op = .convert S T x) (hS : look C.tt S = some si) (hs : si.desc = sd) (hT : look C.tt T = some ti) (hk : ti.desc = .int .u8)
    (hx : ev env x = some (.v (.int .i64 n))) : Looks C env L R G o (.v (.int .u8 ((toU8 n).toNat : Int))) := by
  rw [← u8_wrap]; exact looks_cvt ht ho hS hs hT hk hx
/-- byte to int -/
theorem looks_ofU8 {C : Cx} {env : Env} {L : Locs} {R : Rows} {G : GH} {o : Oper} {x : Operand} {S T : Nat} {si ti : TI} {sd : TypeDesc} {c : UInt8} (ht : TabOk C.P C.tt) (ho : o.op = .convert S T x) (hS : look C.tt S = some si) (hs : si.desc = sd) (hT : look C.tt T = some ti) (hk : ti.desc = .int .i64)
    (hx : ev env x = some (.v (.int .u8 (c.toNat : Int)))) : Looks C env L R G o (.v (.int .i64 (c.toNat : Int))) := by
  have h := looks_cvt (L := L) (R := R) (G := G) ht ho hS hs hT hk hx
  rwa [wrap_i64 (by have := c.toNat_lt; unfold I64; omega)] at h
/-- a byte of a string -/
theorem looks_strIdx {C : Cx} {env : Env} {L : Locs} {R : Rows} {G : GH} {o : Oper} {x y : Operand} {T : Nat} {ti : TI} {s : Str} {i : Nat} {c : UInt8} (ht : TabOk C.P C.tt) (ho : o.op = .index T x y) (hT : look C.tt T = some ti) (hk : ti.desc = .string)
    (hx : ev env x = some (.v (.string s))) (hy : ev env y = some (.v (.int .i64 (i : Int)))) (hc : s.data.toList[i]? = some c) : Looks C env L R G o (.v (.int .u8 c.toNat)) := by
  intro a w G' bs _ hA hI
  have hu : C.P.underlying T = some .string := by rw [← hk]; exact (ht.get hT).1
  have hc' : s[i]? = some c := by
    have h1 : s.data[i]? = some c := by simpa using hc
    obtain ⟨hlt, he⟩ := Array.getElem?_eq_some_iff.1 h1
    rw [getElem?_pos s i hlt]; rw [← he]; rfl
  unfold execOp
  simp only [ho, ev_conc hA hx, ev_conc hA hy, conc]
  simp [Instr.index, asIntOf, Sem.run_bind, underlying, hu, hc']
/-- min, max of two -/
theorem looks_min {C : Cx} {env : Env} {L : Locs} {R : Rows} {G : GH} {o : Oper} {x y : Operand} {T T' : Nat} {m n : Int} (ho : o.op = .call { callee := .builtin .min, args := #[x, y], argTypes := #[T, T'] })
    (hx : ev env x = some (.v (.int .i64 m))) (hy : ev env y = some (.v (.int .i64 n))) : Looks C env L R G o (.v (.int .i64 (min m n))) := by
  intro a w G' bs _ hA hI
  unfold execOp
  have : (if n < m then n else m) = min m n := by rw [Int.min_def]; split <;> split <;> omega
  simp [ho, resolve, invoke, builtin, ev_conc hA hx, ev_conc hA hy, conc, run_min_int2, this]
theorem looks_max {C : Cx} {env : Env} {L : Locs} {R : Rows} {G : GH} {o : Oper} {x y : Operand} {T T' : Nat} {m n : Int} (ho : o.op = .call { callee := .builtin .max, args := #[x, y], argTypes := #[T, T'] })
    (hx : ev env x = some (.v (.int .i64 m))) (hy : ev env y = some (.v (.int .i64 n))) : Looks C env L R G o (.v (.int .i64 (max m n))) := by
  intro a w G' bs _ hA hI
  unfold execOp
  have : (if m < n then n else m) = max m n := by rw [Int.max_def]; split <;> split <;> omega
  simp [ho, resolve, invoke, builtin, ev_conc hA hx, ev_conc hA hy, conc, run_max_int2, this]
/-- a string behind another -/
theorem looks_cat {C : Cx} {env : Env} {L : Locs} {R : Rows} {G : GH} {o : Oper} {x y : Operand} {T T' : Nat} {s t : Str} (ho : o.op = .binOp .add T x y T') (hx : ev env x = some (.v (.string s))) (hy : ev env y = some (.v (.string t))) (hl : s.size + t.size ≤ 9223372036854775807) : Looks C env L R G o (.v (.string (s ++ t))) := by
  intro a w G' bs _ hA hI
  unfold execOp
  have h1 : ¬ (s.size + t.size > maxLen) := by simp only [maxLen]; omega
  simp [ho, ev_conc hA hx, ev_conc hA hy, conc, eqGuard, binOp, Op.stringOp, h1]; omega
/-! ### words for generated texts -/
theorem i64_wrap (x : Int) : I64 (IntKind.i64.wrap x) := by
  unfold I64
  simp [IntKind.wrap, IntKind.bits, IntKind.signed]
  split <;> omega

theorem okl {α : Type} [GoT α] {n : Nat} {l : List α} (h : GoT.ok n l) : l.length ≤ bd n ∧ ∀ z ∈ l, GoT.ok n z := h
theorem okl_of {α : Type} [GoT α] {n : Nat} {l : List α} (h : l.length ≤ bd n ∧ ∀ z ∈ l, GoT.ok n z) : GoT.ok n l := h
theorem okl_mk {α : Type} [GoT α] {n : Nat} {l : List α} (h : l.length ≤ bd n) (k : ∀ z ∈ l, GoT.ok n z) : GoT.ok n l := ⟨h, k⟩
theorem ok_nil {α : Type} [GoT α] {n : Nat} : GoT.ok n ([] : List α) := ⟨Nat.zero_le _, fun _ h => by cases h⟩
/-- how a loop ends: by a return, or by going on behind it -/
inductive Ctl (ρ σ : Type) where
  | ret (r : ρ)
  | nxt (s : σ)
theorem drop_get {α : Type} {l : List α} {i : Nat} {e : α} (h : l[i]? = some e) : l.drop i = e :: l.drop (i + 1) := by
  obtain ⟨hi, rfl⟩ := List.getElem?_eq_some_iff.1 h
  exact List.drop_eq_getElem_cons hi
theorem all_cons {α : Type} {p : α → Prop} {a : α} {l : List α} (h : p a) (k : ∀ x ∈ l, p x) : ∀ x ∈ a :: l, p x := fun x hx => by
  rcases List.mem_cons.1 hx with rfl | hx
  · exact h
  · exact k x hx
theorem all_snoc {α : Type} {p : α → Prop} {a : α} {l : List α} (k : ∀ x ∈ l, p x) (h : p a) : ∀ x ∈ l ++ [a], p x := fun x hx => by
  rcases List.mem_append.1 hx with hx | hx
  · exact k x hx
  · simp at hx; subst hx; exact h
theorem all_app {α : Type} {p : α → Prop} {l m : List α} (k : ∀ x ∈ l, p x) (h : ∀ x ∈ m, p x) : ∀ x ∈ l ++ m, p x := fun x hx => (List.mem_append.1 hx).elim (k x) (h x)
section
variable {α : Type} [GoT α]
theorem ol_one {h : GH} {a : α} {x : X α} (hs : Sep h (oa a x)) : Sep h [MF.ol (sh a x) [a]] := one_sep ⟨x, [], h, emp, by simp, Le.refl _, emp_le _, (emp_dj _).symm, hs, rfl⟩
theorem ol_snoc {h : GH} {xs : List Value} {l : List α} {a : α} {x : X α} (hs : Sep h (MF.ol xs l :: oa a x)) : Sep h [MF.ol (xs ++ sh a x) (l ++ [a])] := by
  obtain ⟨h1, h2, q1, q2, q3, q4, q5⟩ := hs
  exact one_sep (OwL.snoc q5 (q4 : OwL h1 xs l) q1 q2 q3)
theorem ol_app {h : GH} {xs ys : List Value} {l m : List α} (hs : Sep h [MF.ol xs l, MF.ol ys m]) : Sep h [MF.ol (xs ++ ys) (l ++ m)] := by
  obtain ⟨h1, h2, q1, q2, q3, q4, q5⟩ := hs
  exact one_sep (OwL.append (sep_one q5 : OwL h2 ys m) (q4 : OwL h1 xs l) q1 q2 q3)
theorem ol_flat {h : GH} {xs ys : List Value} {l m : List α} (hs : Sep h [MF.ol xs l]) (hf : ∀ h, OwL h ys m) : Sep h [MF.ol (xs ++ ys) (l ++ m)] :=
  one_sep (OwL.append (hf emp) (sep_one hs : OwL h xs l) (Le.refl _) (emp_le _) ((emp_dj _).symm))
theorem rdSl_none {G : GH} {c : Nat} {l : List α} (h : RdSl G none c l) : l = [] := by
  obtain ⟨_, _, xs, h1, h2⟩ := h
  have hl := h2.len
  have : xs = [] := by
    cases xs with
    | nil => rfl
    | cons u r => obtain ⟨a, ha, _⟩ := h1 0 u rfl; cases ha
  subst this
  have hp := GoT.pos (α := α)
  cases l with
  | nil => rfl
  | cons a r => simp only [List.length_nil, List.length_cons, Nat.add_mul] at hl; omega
end
theorem WX.appR1 {C : Cx} {ops : Array Oper} {o : Oper} {r : List Oper} {s : List It} {env : Env} {L : Locs} {R : Rows} {Γ : Facts} {d : Nat} {x y : Operand} {T kk by_ : Nat} {z : Value} {row src : Row} (ρ σ n' : Nat) {R' : Option Addr → Nat → Rows} (ht : TabOk C.P C.tt)
    (hg : gd ops env o = some true) (hd : o.dst = some d) (hlt : Nat.blt d C.fn.ntmps = true) (ho : o.op = .call { callee := .builtin .append, args := #[x, y], argTypes := #[T, T] })
    (hx : ev env x = some (.v (.slice row.p row.n row.c))) (hy : ev env y = some (.v (.slice src.p src.n src.c))) (hap : appO C.tt T = some (kk, by_, z)) (hz : z.cells.size = kk) (hρ : look R ρ = some row) (hσ : look R σ = some src) (hkk : row.k = kk) (hks : src.k = kk) (hfree : envFree ρ env = true)
    (hone : ∀ u ∈ src.xs, u.oneCell' = true) (hn : row.n + src.n = n') (hroom : n' * by_ ≤ 140737488355328) (hmax : n' ≤ 9223372036854775807)
    (hR : ∀ p' c', setRO R ρ ⟨row.k, p', n', c', row.xs ++ src.xs⟩ = some (R' p' c'))
    (k : ∀ p' c', WX C (.ops ops r :: s) ((d, .v (.slice p' n' c')) :: env) L (R' p' c') Γ) : WX C (.ops ops (o :: r) :: s) env L R Γ := by
  subst hn
  exact WX.appR ρ σ ht hg hd hlt ho hx hy hap hz hρ hσ hkk hks hfree hone hroom (by simp only [maxLen]; omega) hR k
theorem WX.appG1 {C : Cx} {ops : Array Oper} {o : Oper} {r : List Oper} {s : List It} {env : Env} {L : Locs} {R : Rows} {Γ : Facts} {d : Nat} {x y : Operand} {T by_ q c : Nat} {z : Value} {row : Row} {α : Type} [GoT α] {kd : Kd} {p : Option Addr} {l : List α} (ρ ℓ n n' : Nat) {R' : List Value → Option Addr → Nat → Rows} (ht : TabOk C.P C.tt)
    (hg : gd ops env o = some true) (hd : o.dst = some d) (hlt : Nat.blt d C.fn.ntmps = true) (ho : o.op = .call { callee := .builtin .append, args := #[x, y], argTypes := #[T, T] })
    (hx : ev env x = some (.v (.slice row.p row.n row.c))) (hy : ev env y = some (.v (.slice p q c))) (hq : q = l.length) (hap : appO C.tt T = some (GoT.k α, by_, z)) (hz : z.cells.size = GoT.k α) (hρ : look R ρ = some row) (hkk : row.k = GoT.k α) (hfree : envFree ρ env = true)
    (hℓ : look Γ ℓ = some (MF.rs kd p c l)) (hn : row.n + l.length = n') (hroom : n' * by_ ≤ 140737488355328) (hmax : n' ≤ 9223372036854775807)
    (hR : ∀ xs p' c', setRO R ρ ⟨row.k, p', n', c', row.xs ++ xs⟩ = some (R' xs p' c'))
    (k : ∀ xs p' c', WX C (.ops ops r :: s) ((d, .v (.slice p' n' c')) :: env) L (R' xs p' c') ((n, MF.rl .der xs l) :: Γ)) : WX C (.ops ops (o :: r) :: s) env L R Γ := by
  subst hn
  exact WX.appG ρ ℓ n ht hg hd hlt ho hx hy hq hap hz hρ hkk hfree hℓ hroom (by simp only [maxLen]; omega) hR k
end Go.Stp
