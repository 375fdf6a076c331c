/-
  What the proof of one law needs: rules of the program logic, functions as Lean functions, contracts. No condition but what each says. Written by a program (pack.py) out of my own texts.
-/
import Derived.ChangeKeysEq
import Derived.Laws.Slices
import Derived.Laws.BytesString
import Derived.Laws.Small
import Derived.Laws.Cover3
import Derived.Laws.Strings
import Derived.Laws.CopyRow
import Derived.Lib.Overlaps
import Derived.Shelf.Strings.OnBuilder
import Derived.Shelf.Strconv.Itoa0
import Derived.Shelf.Strconv.Itoa1
import Derived.Shelf.LaysM
import Derived.Shelf.Strconv.Itoa2
import Derived.Shelf.Strconv.Itoa3
import Derived.Test.YtolepebgdfdciaaDoorProg
import Derived.Laws.IdiomStrings
import Derived.Lib.ItoaLen
import Derived.Lib.AppendIntMem
import Derived.Lib.Join
import Derived.Carry
import Derived.ChangeArms
import Derived.ProofKit
import Derived.OpenShut
import Derived.JoinedCond
import Derived.Test.YtolepebgdfdciaaDoorKFormatConsumer1
namespace Go.Stp
open GoT (X k ok sh fa oa)
theorem WX.see {C : Cx} {ops : Array Oper} {o : Oper} {r : List Oper} {s : List It} {env : Env} {L : Locs} {R : Rows} {Γ : Facts} {d : Nat} {sv : SV}
  (hg : gd ops env o = some true) (hd : o.dst = some d) (hlt : Nat.blt d C.fn.ntmps = true) (hl : ∀ G, AllK C.M G Γ → Looks C env L R G o sv)
  (k : WX C (.ops ops r :: s) ((d, sv) :: env) L R Γ) : WX C (.ops ops (o :: r) :: s) env L R Γ := WX.peek hg hd hlt fun G hΓ => ⟨sv, hl G hΓ, k⟩
theorem DX.see {C : Cx} {ops : Array Oper} {tl : List Nat} {s : List It} {bs : Nat → Nat} {G0 : GH} {fuel : Nat} {listed : Array Bool} {env : Env} {L : Locs} {R : Rows} {Γ : Facts} {d : Nat} {o : Oper} {sv : SV} (i : Nat) (hb : mayB ops tl listed i = true) (hi : getO ops.toList i = some o)
  (hg : gd ops env o = some true) (hd : o.dst = some d) (hlt : Nat.blt d C.fn.ntmps = true) (hl : Looks C env L R G0 o sv)
  (k : DX C ops tl s bs G0 fuel (listed.setIfInBounds i true) ((d, sv) :: env) L R Γ) : DX C ops tl s bs G0 (fuel + 1) listed env L R Γ := by
 rw [getO_eq] at hi
 exact DX.take hb (by simpa using hi) hd (by simpa [Nat.blt_eq] using hlt) hg (fun _ => hl) (fun h => by cases h) k
theorem DX.der {C : Cx} {ops : Array Oper} {tl : List Nat} {s : List It} {bs : Nat → Nat} {G0 : GH} {fuel : Nat} {listed : Array Bool} {env : Env} {L : Locs} {R : Rows} {Γ : Facts} (m : Nat) (f : MF) (hk : f.k = .der) (h : ∀ G, AllK C.M G Γ → f.p G)
  (k : DX C ops tl s bs G0 fuel listed env L R ((m, f) :: Γ)) : DX C ops tl s bs G0 fuel listed env L R Γ := by
 intro hcl a w G hle ⟨hA, hI, hΓ⟩
 exact k hcl a w G hle ⟨hA, hI, hΓ.der m f hk (h G hΓ)⟩
theorem DX.cases {C : Cx} {ops : Array Oper} {tl : List Nat} {s : List It} {bs : Nat → Nat} {G0 : GH} {fuel : Nat} {listed : Array Bool} {env : Env} {L : Locs} {R : Rows} {Γ : Facts} (d : Nat) {b : Bool} (h : look env d = some (.v (.bool b)))
  (kt : b = true → DX C ops tl s bs G0 fuel listed ((d, .T) :: env) L R Γ) (kf : b = false → DX C ops tl s bs G0 fuel listed ((d, .F) :: env) L R Γ) : DX C ops tl s bs G0 fuel listed env L R Γ := by
 have key : ∀ y : SV, conc bs y = conc bs (.v (.bool b)) → DX C ops tl s bs G0 fuel listed ((d, y) :: env) L R Γ → DX C ops tl s bs G0 fuel listed env L R Γ := fun y hy k hcl a w G hle ⟨hA, hI, hΓ⟩ => by
  refine k hcl a w G hle ⟨⟨hA.size, hA.dfr, fun i x' hx => ?_⟩, hI, hΓ⟩
  rw [look_cons] at hx
  split at hx
  ·rename_i he; subst he; simp at hx; subst hx; rw [hA.slot d _ h, hy]
  ·exact hA.slot i x' hx
 cases b with
 | true => exact key .T rfl (kt rfl)
 | false => exact key .F rfl (kf rfl)
theorem DX.slot {C : Cx} {ops : Array Oper} {tl : List Nat} {s : List It} {bs : Nat → Nat} {G0 : GH} {fuel : Nat} {listed : Array Bool} {env : Env} {L : Locs} {R : Rows} {Γ : Facts} (d : Nat) {x y : SV} (h : look env d = some x) (e : ∀ bs, conc bs x = conc bs y) (k : DX C ops tl s bs G0 fuel listed ((d, y) :: env) L R Γ) : DX C ops tl s bs G0 fuel listed env L R Γ := by
 intro hcl a w G hle ⟨hA, hI, hΓ⟩
 refine k hcl a w G hle ⟨⟨hA.size, hA.dfr, fun i x' hx => ?_⟩, hI, hΓ⟩
 rw [look_cons] at hx
 split at hx
 ·rename_i he; subst he; simp at hx; subst hx; rw [hA.slot d x h, e]
 ·exact hA.slot i x' hx
theorem WX.free {C : Cx} {s : List It} {env : Env} {L : Locs} {R : Rows} {Γ : Facts} (n : Nat) (f : MF) (hp : f.p emp) (k : WX C s env L R ((n, f) :: Γ)) : WX C s env L R Γ := by
 rintro a w ⟨G, bs, hA, hI, hΓ⟩
 exact k a w ⟨G, bs, hA, hI, hΓ.new n f (h := emp) (Le.refl _) (emp_le _) (fun _ => emp_dj _) (fun _ _ _ h => by cases h) hp⟩
def beqO (b : BinOp) (p q : Bool) : Option Bool :=
 match b with
 | .eql => some (p == q)
 | .neq => some (!(p == q))
 | _ => none
theorem looks_beq {C : Cx} {env : Env} {L : Locs} {R : Rows} {G : GH} {o : Oper} {b : BinOp} {x y : Operand} {T T' : Nat} {ti : TI} {p q c : Bool} (ht : TabOk C.P C.tt) (ho : o.op = .binOp b T x y T') (hT : look C.tt T = some ti) (hb : ti.desc = .bool)
  (hx : ev env x = some (.v (.bool p))) (hy : ev env y = some (.v (.bool q))) (hq : beqO b p q = some c) : Looks C env L R G o (.v (.bool c)) := by
 intro a w G' bs _ hA hI
 have hu : C.P.underlying T = some .bool := by rw [← hb]; exact (ht.get hT).1
 have he : (Op.equal T (.bool p) (.bool q)).run C.P w = .ok (p == q) w := run_equalIn_bool (P := C.P) w (Op.maxDepth - 1) T p q hu
 have hq' : (b = .eql ∧ c = (p == q)) ∨ (b = .neq ∧ c = !(p == q)) := by
  cases b <;> simp only [beqO, Option.some.injEq, reduceCtorEq] at hq
  ·exact .inl ⟨rfl, hq.symm⟩
  ·exact .inr ⟨rfl, hq.symm⟩
 unfold execOp
 simp only [ho, ev_conc hA hx, ev_conc hA hy, conc]
 rcases hq' with ⟨rfl, rfl⟩ | ⟨rfl, rfl⟩
 ·simp [eqGuard, binOp, Sem.run_bind, he]
 ·simp [eqGuard, binOp, Sem.run_bind, he]
theorem looks_cvt {C : Cx} {env : Env} {L : Locs} {R : Rows} {G : GH} {o : Oper} {x : Operand} {S T : Nat} {si ti : TI} {k q : IntKind} {sd : TypeDesc} {n : Int} (ht : TabOk C.P C.tt) (ho : o.op = .convert S T x) (hS : look C.tt S = some si) (hs : si.desc = sd) (hT : look C.tt T = some ti) (hk : ti.desc = .int k)
  (hx : ev env x = some (.v (.int q n))) : Looks C env L R G o (.v (.int k (k.wrap n))) := by
 intro a w G' bs _ hA hI
 have hu : C.P.underlying T = some (.int k) := by rw [← hk]; exact (ht.get hT).1
 have hv : C.P.underlying S = some sd := by rw [← hs]; exact (ht.get hS).1
 unfold execOp
 simp only [ho, ev_conc hA hx, conc]
 simp [convert, Conv.intToInt, Sem.run_bind, underlying, hu, hv]
def toU8 (n : Int) : UInt8 := UInt8.ofNat (n % 256).toNat
theorem u8_wrap (n : Int) : IntKind.u8.wrap n = ((toU8 n).toNat : Int) := by
 unfold toU8
 rw [UInt8.toNat_ofNat']
 simp [IntKind.wrap, IntKind.bits, IntKind.signed]
 omega
theorem looks_toU8 {C : Cx} {env : Env} {L : Locs} {R : Rows} {G : GH} {o : Oper} {x : Operand} {S T : Nat} {si ti : TI} {sd : TypeDesc} {n : Int} (ht : TabOk C.P C.tt) (ho : o.op = .convert S T x) (hS : look C.tt S = some si) (hs : si.desc = sd) (hT : look C.tt T = some ti) (hk : ti.desc = .int .u8)
  (hx : ev env x = some (.v (.int .i64 n))) : Looks C env L R G o (.v (.int .u8 ((toU8 n).toNat : Int))) := by
 rw [← u8_wrap]; exact looks_cvt ht ho hS hs hT hk hx
theorem looks_cat {C : Cx} {env : Env} {L : Locs} {R : Rows} {G : GH} {o : Oper} {x y : Operand} {T T' : Nat} {s t : Str} (ho : o.op = .binOp .add T x y T') (hx : ev env x = some (.v (.string s))) (hy : ev env y = some (.v (.string t))) (hl : s.size + t.size ≤ 9223372036854775807) : Looks C env L R G o (.v (.string (s ++ t))) := by
 intro a w G' bs _ hA hI
 unfold execOp
 have h1 : ¬ (s.size + t.size > maxLen) := by simp only [maxLen]; omega
 simp [ho, ev_conc hA hx, ev_conc hA hy, conc, eqGuard, binOp, Op.stringOp, h1]; omega
theorem i64_wrap (x : Int) : I64 (IntKind.i64.wrap x) := by
 unfold I64
 simp [IntKind.wrap, IntKind.bits, IntKind.signed]
 split <;> omega

theorem okl {α : Type} [GoT α] {n : Nat} {l : List α} (h : GoT.ok n l) : l.length ≤ bd n ∧ ∀ z ∈ l, GoT.ok n z := h
theorem okl_mk {α : Type} [GoT α] {n : Nat} {l : List α} (h : l.length ≤ bd n) (k : ∀ z ∈ l, GoT.ok n z) : GoT.ok n l := ⟨h, k⟩
inductive Ctl (ρ σ : Type) where
 | ret (r : ρ)
 | nxt (s : σ)
theorem drop_get {α : Type} {l : List α} {i : Nat} {e : α} (h : l[i]? = some e) : l.drop i = e :: l.drop (i + 1) := by
 obtain ⟨hi, rfl⟩ := List.getElem?_eq_some_iff.1 h
 exact List.drop_eq_getElem_cons hi
theorem all_cons {α : Type} {p : α → Prop} {a : α} {l : List α} (h : p a) (k : ∀ x ∈ l, p x) : ∀ x ∈ a :: l, p x := fun x hx => by
 rcases List.mem_cons.1 hx with rfl | hx
 ·exact h
 ·exact k x hx
section
variable {α : Type} [GoT α]
theorem ol_one {h : GH} {a : α} {x : X α} (hs : Sep h (oa a x)) : Sep h [MF.ol (sh a x) [a]] := one_sep ⟨x, [], h, emp, by simp, Le.refl _, emp_le _, (emp_dj _).symm, hs, rfl⟩
theorem rdSl_none {G : GH} {c : Nat} {l : List α} (h : RdSl G none c l) : l = [] := by
 obtain ⟨_, _, xs, h1, h2⟩ := h
 have hl := h2.len
 have : xs = [] := by
  cases xs with
  | nil => rfl
  | cons u r => obtain ⟨a, ha, _⟩ := h1 0 u rfl; cases ha
 subst this
 have hp := GoT.pos (α := α)
 cases l with
 | nil => rfl
 | cons a r => simp only [List.length_nil, List.length_cons, Nat.add_mul] at hl; omega
end
end Go.Stp

namespace Go.Stp
open GoT (X k ok sh fa oa)
theorem HInv.respell {C : Cx} {w : World} {G : GH} {bs : Nat → Nat} {L : Locs} {R R' : Rows} (hI : HInv C w G bs L R) (h : ∀ i r, look R' i = some r → look R i = some r) : HInv C w G bs L R' := hI.sub (Sub.refl _) h
theorem look_setR_same {R : Rows} {ρ : Nat} {row : Row} (h : look R ρ = some row) : ∀ i r, look (setR R ρ row) i = some r → look R i = some r := fun i r hr => by
 rw [look_setR] at hr
 split at hr
 ·rename_i e; subst e; rw [h] at hr ⊢; simpa using hr
 ·exact hr
theorem WX.opnE {C : Cx} {s : List It} {env : Env} {L : Locs} {R : Rows} {Γ Γ1 : Facts} {α : Type} [GoT α] {row : Row} {l : List α} {e : α} {cs : X α → List Value} {R' : List Value → List Value → X α → Rows} {Γ' : List Value → List Value → X α → Facts} (ρ ℓ n i : Nat) (hρ : look R ρ = some row) (hk : row.k = k α) (hℓ : giveK [ℓ] Γ = some ([MF.ol row.xs l], Γ1)) (hi : l[i]? = some e)
  (hcs : ∀ x, normL (sh e x) = some (cs x)) (hR : ∀ A B x, setRO R ρ ⟨row.k, row.p, row.n, row.c, A ++ cs x ++ B⟩ = some (R' A B x)) (hΓ' : ∀ A B x, addF n (fa .der e x ++ (oa e x ++ [MF.ol A (l.take i), MF.ol B (l.drop (i + 1))])) Γ1 = some (Γ' A B x))
  (k : ∀ A B x, A.length = i * k α → B.length = (l.length - (i + 1)) * k α → WX C s env L (R' A B x) (Γ' A B x)) : WX C s env L R Γ := by
 rintro a w ⟨G, bs, hA, hI, hΓ⟩
 obtain ⟨H, q1, q2, q3, q4⟩ := giveK_spec hℓ hΓ
 have hol : OwL H row.xs l := sep_one q3
 obtain ⟨hlt, rfl⟩ := List.getElem?_eq_some_iff.1 hi
 have hsp : l = l.take i ++ (l[i] :: l.drop (i + 1)) := by rw [← List.drop_eq_getElem_cons hlt, List.take_append_drop]
 have hlen := hol.len
 rw [hsp] at hol
 obtain ⟨h1, h2, a1, a2, a3, a4, a5⟩ := hol.split
 have hti : (l.take i).length = i := by simp; omega
 rw [hti] at a4 a5
 obtain ⟨x, ys, g1, g2, e1, r1, r2, r3, r4, r5⟩ := a5
 have hk1 : (i + 1) * GoT.k α ≤ l.length * GoT.k α := Nat.mul_le_mul_right _ hlt
 have hk2 : (i + 1) * GoT.k α = i * GoT.k α + GoT.k α := by rw [Nat.add_mul, Nat.one_mul]
 have hxs : row.xs = row.xs.take (i * GoT.k α) ++ cs x ++ ys := by
  rw [normL_eq (hcs x), List.append_assoc, ← e1, List.take_append_drop]
 have hys : ys.length = (l.length - (i + 1)) * GoT.k α := by
  have := r5.len
  rw [this]; simp
 refine k (row.xs.take (i * GoT.k α)) ys x (by simp; omega) hys a w ⟨G, bs, hA, ?_, ?_⟩
 ·rw [setRO_eq (hR _ _ _), ← hxs]
  exact hI.respell (look_setR_same hρ)
 ·have hsep : Sep H (oa l[i] x ++ [MF.ol (row.xs.take (i * GoT.k α)) (l.take i), MF.ol ys (l.drop (i + 1))]) :=
   Sep.both (r1.trans a2) (join_le a1 (r2.trans a2)) ((join_dj (a3.mono (Le.refl _) r1) r3.symm).symm) r4
    ⟨h1, g2, le_join_l _ _, le_join_r (a3.mono (Le.refl _) r2), a3.mono (Le.refl _) r2, a4, one_sep r5⟩
  have := q4.after (cut_dj G H).symm q2 hsep (fun f hf => GoT.fak f hf) ((GoT.ow_rd (kd := .der) r4).mono (r1.trans a2)) (hΓ' _ _ x)
  rwa [cut_join q1] at this
theorem cl_elem {α : Type} [GoT α] {h : GH} {A B : List Value} {l : List α} {i : Nat} {e : α} {x : X α} (hi : i < l.length) (hs : Sep h (oa e x ++ [MF.ol A (l.take i), MF.ol B (l.drop (i + 1))])) : Sep h [MF.ol (A ++ sh e x ++ B) (l.set i e)] := by
 obtain ⟨h1, h2, a1, a2, a3, a4, a5⟩ := hs.append
 obtain ⟨q1, q2, r1, r2, r3, r4, r5⟩ := a5
 have hs' : l.set i e = l.take i ++ [e] ++ l.drop (i + 1) := by
  rw [List.set_eq_take_append_cons_drop, if_pos hi]; simp
 rw [hs']
 refine one_sep ?_
 exact OwL.append (sep_one r5 : OwL q2 B (l.drop (i + 1))) (h := join q1 h1) (OwL.snoc a4 (r4 : OwL q1 A (l.take i)) (le_join_l _ _) (le_join_r ((a3.mono (Le.refl _) r1).symm)) ((a3.mono (Le.refl _) r1).symm)) (join_le (r1.trans a2) a1) (r2.trans a2) (join_dj r3 (a3.mono (Le.refl _) r2))
theorem WX.stA {C : Cx} {ops : Array Oper} {o : Oper} {r : List Oper} {s : List It} {env : Env} {L : Locs} {R R' : Rows} {Γ : Facts} {x y : Operand} {T kk i off : Nat} {ti : TI} {ad : Addr} {sv : SV} {v : Value} {A B cs cs' vs : List Value} {row : Row} (ρ : Nat) (ht : TabOk C.P C.tt)
  (hg : gd ops env o = some true) (hd : o.dst = none) (ho : o.op = .store T x y)
  (hx : ev env x = some (.e (some ad) i kk off)) (hy : ev env y = some sv) (hv : valO sv = some v) (hT : look C.tt T = some ti) (hvs : cellsO ti v = some vs) (hlen : Nat.beq vs.length ti.size = true) (hone : oneB vs = true)
  (hρ : look R ρ = some row) (hp : row.p = some ad) (hk : row.k = kk) (hxs : row.xs = A ++ cs ++ B) (hA : A.length = i * kk) (hi : i < row.n) (hfit : Nat.ble (off + vs.length) kk = true) (hck : Nat.beq cs.length kk = true) (hfree : envFree ρ env = true) (hsp : spliceO cs off vs = some cs') (hne : vs ≠ [])
  (hR : setRO R ρ ⟨row.k, row.p, row.n, row.c, A ++ cs' ++ B⟩ = some R')
  (k : WX C (.ops ops r :: s) env L R' Γ) : WX C (.ops ops (o :: r) :: s) env L R Γ := by
 subst hk
 have hck' : cs.length = row.k := Nat.eq_of_beq_eq_true hck
 obtain ⟨_, q2, q3, _⟩ := spliceO_some _ _ _ _ hsp
 have hq := q3 hne
 have hfit' := Nat.le_of_ble_eq_true hfit
 have heq : row.xs.take (i * row.k + off) ++ vs ++ row.xs.drop (i * row.k + off + vs.length) = A ++ cs' ++ B := by
  rw [hxs, ← hA, hq]
  exact splice_in A cs B vs off (by omega)
 refine WX.stR (R' := R') ρ ht hg hd ho hx hy hv hT hvs hlen hone hρ hp rfl hi hfit hfree ?_ k
 rw [heq]; exact hR
theorem ol_zrep {α : Type} [GoT α] {z : List Value} {z0 : α} {x0 : X α} (hz : z = sh z0 x0) (ho : Sep emp (oa z0 x0)) : ∀ n, OwL emp (zrep n z) (List.replicate n z0)
 | 0 => rfl
 | n + 1 => by
  rw [List.replicate_succ', zrep, hz]
  exact OwL.snoc ho (by rw [← hz]; exact ol_zrep hz ho n) (Le.refl _) (Le.refl _) (emp_dj _)
theorem all_rep {α : Type} {p : α → Prop} {a : α} {n : Nat} (h : p a) : ∀ x ∈ List.replicate n a, p x := fun x hx => by rw [(List.mem_replicate.1 hx).2]; exact h
theorem all_set {α : Type} {p : α → Prop} {a : α} {l : List α} {i : Nat} (k : ∀ x ∈ l, p x) (h : p a) : ∀ x ∈ l.set i a, p x := fun x hx => by
 rcases List.mem_or_eq_of_mem_set hx with hx | rfl
 ·exact k x hx
 ·exact h
end Go.Stp

namespace Go.Stp
open GoT (X k ok sh fa oa)
theorem looks_quo {C : Cx} {env : Env} {L : Locs} {R : Rows} {G : GH} {o : Oper} {x y : Operand} {T T' : Nat} {m n : Int} (ho : o.op = .binOp .quo T x y T') (hx : ev env x = some (.v (.int .i64 m))) (hy : ev env y = some (.v (.int .i64 n))) (h0 : n ≠ 0) : Looks C env L R G o (.v (.int .i64 (IntKind.i64.wrap (m.tdiv n)))) := by
 intro a w G' bs _ hA hI
 unfold execOp
 simp [ho, ev_conc hA hx, ev_conc hA hy, conc, eqGuard, binOp, Op.intDiv, h0]
theorem looks_rem {C : Cx} {env : Env} {L : Locs} {R : Rows} {G : GH} {o : Oper} {x y : Operand} {T T' : Nat} {m n : Int} (ho : o.op = .binOp .rem T x y T') (hx : ev env x = some (.v (.int .i64 m))) (hy : ev env y = some (.v (.int .i64 n))) (h0 : n ≠ 0) : Looks C env L R G o (.v (.int .i64 (m.tmod n))) := by
 intro a w G' bs _ hA hI
 unfold execOp
 simp [ho, ev_conc hA hx, ev_conc hA hy, conc, eqGuard, binOp, Op.intDiv, h0]
theorem tmod_rng (x : Int) {y : Int} (h : 0 < y) : -y < x.tmod y ∧ x.tmod y < y := by
 have h1 := Int.tmod_lt_of_pos x h
 have h2 : -y < x.tmod y := by
  by_cases hx : 0 ≤ x
  ·have := Int.tmod_nonneg y hx; omega
  ·have h3 := Int.neg_tmod (a := x) (b := y)
   have h4 := Int.tmod_lt_of_pos (-x) h
   omega
 exact ⟨h2, h1⟩
def bstr (l : List UInt8) : Str := ⟨l.toArray⟩
theorem bstr_size (l : List UInt8) : (bstr l).size = l.length := by simp [bstr, ByteArray.size]
theorem foldl_push : ∀ (l : List UInt8) (s : ByteArray), (l.map fun c => ((c.toNat : Nat) : Int)).foldl (fun r n => r.push (UInt8.ofNat n.toNat)) s = ⟨s.data ++ l.toArray⟩
 | [], s => by simp
 | c :: l, s => by
  simp only [List.map_cons, List.foldl_cons]
  rw [foldl_push l]
  have : (s.push (UInt8.ofNat ((c.toNat : Int)).toNat)).data = s.data.push c := by
   show s.data.push _ = _
   simp
  rw [this]
  simp
theorem rdL_bytes {G : GH} : ∀ {xs : List Value} {l : List UInt8}, RdL G xs l → xs = l.map fun c => Value.int .u8 (c.toNat : Int)
 | xs, [], h => h
 | xs, c :: l, ⟨x, ys, e, _, r⟩ => by rw [e, rdL_bytes r]; rfl
theorem looks_toStr {C : Cx} {env : Env} {L : Locs} {R : Rows} {G : GH} {o : Oper} {x : Operand} {S T E n c : Nat} {si ti te : TI} {p : Option Addr} {l : List UInt8} (ht : TabOk C.P C.tt) (hr : RdSl G p c l) (ho : o.op = .convert S T x) (hS : look C.tt S = some si) (hs : si.desc = .slice E) (hE : look C.tt E = some te) (he : te.desc = .int .u8) (hT : look C.tt T = some ti) (hk : ti.desc = .string)
  (hx : ev env x = some (.v (.slice p n c))) (hn : n = l.length) : Looks C env L R G o (.v (.string (bstr l))) := by
 intro a w G' bs hle hA hI
 have hu : C.P.underlying T = some .string := by rw [← hk]; exact (ht.get hT).1
 have hv : C.P.underlying S = some (.slice E) := by rw [← hs]; exact (ht.get hS).1
 have hw : C.P.underlying E = some (.int .u8) := by rw [← he]; exact (ht.get hE).1
 unfold execOp
 simp only [ho, ev_conc hA hx, conc]
 simp only [Sem.run_bind, run_convert_bytes_string w S T E p n c hv hw hu]
 have hrun : (Conv.bytesToString (.slice p n c)).run C.P w = .ok (.string (bstr l)) w := by
  cases hp : p with
  | none =>
   subst hp
   rw [rdSl_none hr]
   simp [Conv.bytesToString, bstr]
   rfl
  | some ad =>
   subst hp
   obtain ⟨_, _, xs, h4, h5⟩ := hr
   have hxs := rdL_bytes h5
   have hld := run_loadCells_list (P := C.P) w ad xs (fun j u hj => by
    obtain ⟨a', ha, hg⟩ := h4 j u hj
    simp at ha; subst ha
    exact hI.le.cell (gcell_mono hle hg))
   have hlen : xs.length = n := by rw [hxs, hn]; simp
   rw [hlen, hxs] at hld
   have := run_bytesToString (P := C.P) w ad n c (l.map fun c => ((c.toNat : Nat) : Int)) (by rw [hld]; simp [Function.comp_def])
   rw [this, foldl_push]
   simp [bstr]
 rw [hrun]; rfl
end Go.Stp

namespace Go.Stp
structure Name where
 parts : List Str
instance : Inhabited Name := ⟨⟨default⟩⟩
instance : GoT Name := GoT.via fun e => e.parts
theorem ok_Name {n : Nat} {a : Name} (h : GoT.ok n a) : GoT.ok n a.parts := h
structure Pattern where
 parts : List Str
instance : Inhabited Pattern := ⟨⟨default⟩⟩
instance : GoT Pattern := GoT.via fun e => e.parts
structure Binding where
 letter : Str
 value : Str
instance : Inhabited Binding := ⟨⟨default, default⟩⟩
instance : GoT Binding := GoT.via fun e => (e.letter, e.value)
instance : Flat Binding := ⟨fun a x => Flat.f (let e := a; (e.letter, e.value)) x, fun a x => Flat.o (let e := a; (e.letter, e.value)) x⟩
structure TableEntry where
 name : Name
 value : Int
instance : Inhabited TableEntry := ⟨⟨default, default⟩⟩
instance : GoT TableEntry := GoT.via fun e => (e.name, e.value)
structure Interest where
 name : Name
 nonce : Int
 hopLimit : Int
 lifetime : Int
instance : Inhabited Interest := ⟨⟨default, default, default, default⟩⟩
instance : GoT Interest := GoT.via fun e => (e.name, e.nonce, e.hopLimit, e.lifetime)
structure DataP where
 name : Name
 content : List UInt8
 keyName : Name
 freshUntil : Int
 signature : Int
instance : Inhabited DataP := ⟨⟨default, default, default, default, default⟩⟩
instance : GoT DataP := GoT.via fun e => (e.name, e.content, e.keyName, e.freshUntil, e.signature)
theorem ok_DataP {n : Nat} {a : DataP} (h : GoT.ok n a) : GoT.ok n a.name ∧ GoT.ok n a.content ∧ GoT.ok n a.keyName ∧ GoT.ok n a.freshUntil ∧ GoT.ok n a.signature := h
structure Key where
 name : Name
 secret : Int
instance : Inhabited Key := ⟨⟨default, default⟩⟩
instance : GoT Key := GoT.via fun e => (e.name, e.secret)
structure Rule where
 dataPattern : Pattern
 keyPattern : Pattern
instance : Inhabited Rule := ⟨⟨default, default⟩⟩
instance : GoT Rule := GoT.via fun e => (e.dataPattern, e.keyPattern)
structure TrustPolicy where
 keys : List Key
 rules : List Rule
 anchors : List Name
 certificates : List DataP
instance : Inhabited TrustPolicy := ⟨⟨default, default, default, default⟩⟩
instance : GoT TrustPolicy := GoT.via fun e => (e.keys, e.rules, e.anchors, e.certificates)
structure CacheEntry where
 data : DataP
 lastUsed : Int
instance : Inhabited CacheEntry := ⟨⟨default, default⟩⟩
instance : GoT CacheEntry := GoT.via fun e => (e.data, e.lastUsed)
structure ContentStore where
 capacity : Int
 entries : List CacheEntry
instance : Inhabited ContentStore := ⟨⟨default, default⟩⟩
instance : GoT ContentStore := GoT.via fun e => (e.capacity, e.entries)
structure Requester where
 face : Int
 nonce : Int
 expiry : Int
instance : Inhabited Requester := ⟨⟨default, default, default⟩⟩
instance : GoT Requester := GoT.via fun e => (e.face, e.nonce, e.expiry)
instance : Flat Requester := ⟨fun a x => Flat.f (let e := a; (e.face, e.nonce, e.expiry)) x, fun a x => Flat.o (let e := a; (e.face, e.nonce, e.expiry)) x⟩
structure PendingInterest where
 name : Name
 requesters : List Requester
 lastSent : Int
instance : Inhabited PendingInterest := ⟨⟨default, default, default⟩⟩
instance : GoT PendingInterest := GoT.via fun e => (e.name, e.requesters, e.lastSent)
structure SeenNonce where
 name : Name
 nonce : Int
instance : Inhabited SeenNonce := ⟨⟨default, default⟩⟩
instance : GoT SeenNonce := GoT.via fun e => (e.name, e.nonce)
structure Route where
 pfx : Name
 face : Int
 cost : Int
instance : Inhabited Route := ⟨⟨default, default, default⟩⟩
instance : GoT Route := GoT.via fun e => (e.pfx, e.face, e.cost)
structure Measurement where
 pfx : Name
 face : Int
 failures : Int
instance : Inhabited Measurement := ⟨⟨default, default, default⟩⟩
instance : GoT Measurement := GoT.via fun e => (e.pfx, e.face, e.failures)
structure NodeP where
 locl : List DataP
 cache : ContentStore
 pending : List PendingInterest
 seen : List SeenNonce
 routes : List Route
 measurements : List Measurement
 dropped : Int
instance : Inhabited NodeP := ⟨⟨default, default, default, default, default, default, default⟩⟩
instance : GoT NodeP := GoT.via fun e => (e.locl, e.cache, e.pending, e.seen, e.routes, e.measurements, e.dropped)
structure Outgoing where
 face : Int
 isInterest : Bool
 interest : Interest
 data : DataP
instance : Inhabited Outgoing := ⟨⟨default, default, default, default⟩⟩
instance : GoT Outgoing := GoT.via fun e => (e.face, e.isInterest, e.interest, e.data)
structure Action where
 node : NodeP
 outgoing : List Outgoing
instance : Inhabited Action := ⟨⟨default, default⟩⟩
instance : GoT Action := GoT.via fun e => (e.node, e.outgoing)
structure Link where
 a : Int
 b : Int
instance : Inhabited Link := ⟨⟨default, default⟩⟩
instance : GoT Link := GoT.via fun e => (e.a, e.b)
instance : Flat Link := ⟨fun a x => Flat.f (let e := a; (e.a, e.b)) x, fun a x => Flat.o (let e := a; (e.a, e.b)) x⟩
structure Topology where
 size : Int
 links : List Link
instance : Inhabited Topology := ⟨⟨default, default⟩⟩
instance : GoT Topology := GoT.via fun e => (e.size, e.links)
structure Advertisement where
 origin : Int
 version : Int
 neighbors : List Int
 prefixes : List Name
instance : Inhabited Advertisement := ⟨⟨default, default, default, default⟩⟩
instance : GoT Advertisement := GoT.via fun e => (e.origin, e.version, e.neighbors, e.prefixes)
structure Manifest where
 segmentSize : Int
 length : Int
 digests : List Int
instance : Inhabited Manifest := ⟨⟨default, default, default⟩⟩
instance : GoT Manifest := GoT.via fun e => (e.segmentSize, e.length, e.digests)
structure Segment where
 content : List UInt8
instance : Inhabited Segment := ⟨⟨default⟩⟩
instance : GoT Segment := GoT.via fun e => e.content
structure Fetcher where
 manifest : Manifest
 received : Int
 segments : List Segment
 outstanding : Int
 window : Int
 threshold : Int
 losses : Int
instance : Inhabited Fetcher := ⟨⟨default, default, default, default, default, default, default⟩⟩
instance : GoT Fetcher := GoT.via fun e => (e.manifest, e.received, e.segments, e.outstanding, e.window, e.threshold, e.losses)
structure Grant where
 name : Name
 secret : Int
instance : Inhabited Grant := ⟨⟨default, default⟩⟩
instance : GoT Grant := GoT.via fun e => (e.name, e.secret)
structure Reader where
 node : Int
 name : Name
 epoch : Int
instance : Inhabited Reader := ⟨⟨default, default, default⟩⟩
instance : GoT Reader := GoT.via fun e => (e.node, e.name, e.epoch)
structure StateVector where
 entries : List TableEntry
instance : Inhabited StateVector := ⟨⟨default⟩⟩
instance : GoT StateVector := GoT.via fun e => e.entries
structure Publication where
 publisher : Name
 seq : Int
 content : List UInt8
instance : Inhabited Publication := ⟨⟨default, default, default⟩⟩
instance : GoT Publication := GoT.via fun e => (e.publisher, e.seq, e.content)
structure Member where
 name : Name
 vector : StateVector
 publications : List Publication
instance : Inhabited Member := ⟨⟨default, default, default⟩⟩
instance : GoT Member := GoT.via fun e => (e.name, e.vector, e.publications)
structure Record where
 kind : Int
 data : DataP
instance : Inhabited Record := ⟨⟨default, default⟩⟩
instance : GoT Record := GoT.via fun e => (e.kind, e.data)
structure Log where
 durable : List Record
 volatile : List Record
instance : Inhabited Log := ⟨⟨default, default⟩⟩
instance : GoT Log := GoT.via fun e => (e.durable, e.volatile)
structure Repository where
 log : Log
 quota : Int
instance : Inhabited Repository := ⟨⟨default, default⟩⟩
instance : GoT Repository := GoT.via fun e => (e.log, e.quota)
structure Consumer where
 node : Int
 index : Int
 name : Name
 attempts : Int
 wait : Int
 satisfied : Bool
 data : DataP
instance : Inhabited Consumer := ⟨⟨default, default, default, default, default, default, default⟩⟩
instance : GoT Consumer := GoT.via fun e => (e.node, e.index, e.name, e.attempts, e.wait, e.satisfied, e.data)
theorem ok_Consumer {n : Nat} {a : Consumer} (h : GoT.ok n a) : GoT.ok n a.node ∧ GoT.ok n a.index ∧ GoT.ok n a.name ∧ GoT.ok n a.attempts ∧ GoT.ok n a.wait ∧ GoT.ok n a.satisfied ∧ GoT.ok n a.data := h
structure PacketInFlight where
 to : Int
 face : Int
 isInterest : Bool
 interest : Interest
 data : DataP
instance : Inhabited PacketInFlight := ⟨⟨default, default, default, default, default⟩⟩
instance : GoT PacketInFlight := GoT.via fun e => (e.to, e.face, e.isInterest, e.interest, e.data)
structure Network where
 topology : Topology
 trust : TrustPolicy
 producers : List TableEntry
 nodes : List NodeP
 downNodes : Int
 failedLinks : List Int
 inFlight : List PacketInFlight
 consumers : List Consumer
 now : Int
 dropped : Int
instance : Inhabited Network := ⟨⟨default, default, default, default, default, default, default, default, default, default⟩⟩
instance : GoT Network := GoT.via fun e => (e.topology, e.trust, e.producers, e.nodes, e.downNodes, e.failedLinks, e.inFlight, e.consumers, e.now, e.dropped)
structure EventP where
 kind : Int
 n : Int
 name : Name
 forged : PacketInFlight
instance : Inhabited EventP := ⟨⟨default, default, default, default⟩⟩
instance : GoT EventP := GoT.via fun e => (e.kind, e.n, e.name, e.forged)
structure SyncGroup where
 topology : Topology
 members : List Member
instance : Inhabited SyncGroup := ⟨⟨default, default⟩⟩
instance : GoT SyncGroup := GoT.via fun e => (e.topology, e.members)
structure AccessController where
 keys : List Key
 master : Int
 epoch : Int
 readers : List Reader
instance : Inhabited AccessController := ⟨⟨default, default, default, default⟩⟩
instance : GoT AccessController := GoT.via fun e => (e.keys, e.master, e.epoch, e.readers)
end Go.Stp

namespace Go.Stp
class Sz (α : Type) [GoT α] where
 n : α → Nat
 low : ∀ {a : α}, GoT.ok 10 a → n a ≤ 1048576 → GoT.ok 0 a
def sz {α : Type} [GoT α] [Sz α] (a : α) : Nat := Sz.n a
instance : Sz ByteArray := ⟨fun s => s.size, fun _ h => h⟩
instance : Sz UInt8 := ⟨fun _ => 0, fun _ _ => trivial⟩
instance : Sz Bool := ⟨fun _ => 0, fun _ _ => trivial⟩
instance : Sz Int := ⟨fun _ => 0, fun h _ => h⟩
def szL {α : Type} [GoT α] [Sz α] (l : List α) : Nat := (l.map sz).sum
theorem sz_le_sum {α : Type} [GoT α] [Sz α] : ∀ {l : List α} {a : α}, a ∈ l → sz a ≤ szL l
 | b :: l, a, h => by
  unfold szL
  simp only [List.map_cons, List.sum_cons]
  rcases List.mem_cons.1 h with rfl | h
  ·omega
  ·have := sz_le_sum h; unfold szL at this; omega
instance {α : Type} [GoT α] [Sz α] : Sz (List α) := ⟨fun l => l.length + szL l, fun h hs => ⟨by rw [bd_0]; omega, fun a ha => Sz.low (h.2 a ha) (by have := sz_le_sum ha; unfold sz at this; omega)⟩⟩
instance {α β : Type} [GoT α] [GoT β] [Sz α] [Sz β] : Sz (α × β) := ⟨fun a => sz a.1 + sz a.2, fun h hs => ⟨Sz.low h.1 (by unfold sz at hs; omega), Sz.low h.2 (by unfold sz at hs; omega)⟩⟩
@[reducible] def Sz.via {α β : Type} [GoT β] [Sz β] (e : α → β) : @Sz α (GoT.via e) := @Sz.mk α (GoT.via e) (fun a => sz (e a)) (fun {a} h hs => Sz.low (a := e a) h hs)
theorem sz_list {α : Type} [GoT α] [Sz α] (l : List α) : sz l = l.length + szL l := rfl
theorem sz_str (s : Str) : sz s = s.size := rfl
instance : Sz Name := Sz.via (fun e : Name => e.parts)
theorem sz_Name (a : Name) : sz a = sz a.parts := by
 show sz a.parts = sz a.parts
 omega
instance : Sz Pattern := Sz.via (fun e : Pattern => e.parts)
instance : Sz Binding := Sz.via (fun e : Binding => (e.letter, e.value))
instance : Sz TableEntry := Sz.via (fun e : TableEntry => (e.name, e.value))
instance : Sz Interest := Sz.via (fun e : Interest => (e.name, e.nonce, e.hopLimit, e.lifetime))
instance : Sz DataP := Sz.via (fun e : DataP => (e.name, e.content, e.keyName, e.freshUntil, e.signature))
theorem sz_DataP (a : DataP) : sz a = sz a.name + sz a.content + sz a.keyName := by
 show (sz a.name + (sz a.content + (sz a.keyName + (0 + 0)))) = sz a.name + sz a.content + sz a.keyName
 omega
instance : Sz Key := Sz.via (fun e : Key => (e.name, e.secret))
instance : Sz Rule := Sz.via (fun e : Rule => (e.dataPattern, e.keyPattern))
instance : Sz TrustPolicy := Sz.via (fun e : TrustPolicy => (e.keys, e.rules, e.anchors, e.certificates))
instance : Sz CacheEntry := Sz.via (fun e : CacheEntry => (e.data, e.lastUsed))
instance : Sz ContentStore := Sz.via (fun e : ContentStore => (e.capacity, e.entries))
instance : Sz Requester := Sz.via (fun e : Requester => (e.face, e.nonce, e.expiry))
instance : Sz PendingInterest := Sz.via (fun e : PendingInterest => (e.name, e.requesters, e.lastSent))
instance : Sz SeenNonce := Sz.via (fun e : SeenNonce => (e.name, e.nonce))
instance : Sz Route := Sz.via (fun e : Route => (e.pfx, e.face, e.cost))
instance : Sz Measurement := Sz.via (fun e : Measurement => (e.pfx, e.face, e.failures))
instance : Sz NodeP := Sz.via (fun e : NodeP => (e.locl, e.cache, e.pending, e.seen, e.routes, e.measurements, e.dropped))
instance : Sz Outgoing := Sz.via (fun e : Outgoing => (e.face, e.isInterest, e.interest, e.data))
instance : Sz Action := Sz.via (fun e : Action => (e.node, e.outgoing))
instance : Sz Link := Sz.via (fun e : Link => (e.a, e.b))
instance : Sz Topology := Sz.via (fun e : Topology => (e.size, e.links))
instance : Sz Advertisement := Sz.via (fun e : Advertisement => (e.origin, e.version, e.neighbors, e.prefixes))
instance : Sz Manifest := Sz.via (fun e : Manifest => (e.segmentSize, e.length, e.digests))
instance : Sz Segment := Sz.via (fun e : Segment => e.content)
instance : Sz Fetcher := Sz.via (fun e : Fetcher => (e.manifest, e.received, e.segments, e.outstanding, e.window, e.threshold, e.losses))
instance : Sz Grant := Sz.via (fun e : Grant => (e.name, e.secret))
instance : Sz Reader := Sz.via (fun e : Reader => (e.node, e.name, e.epoch))
instance : Sz StateVector := Sz.via (fun e : StateVector => e.entries)
instance : Sz Publication := Sz.via (fun e : Publication => (e.publisher, e.seq, e.content))
instance : Sz Member := Sz.via (fun e : Member => (e.name, e.vector, e.publications))
instance : Sz Record := Sz.via (fun e : Record => (e.kind, e.data))
instance : Sz Log := Sz.via (fun e : Log => (e.durable, e.volatile))
instance : Sz Repository := Sz.via (fun e : Repository => (e.log, e.quota))
instance : Sz Consumer := Sz.via (fun e : Consumer => (e.node, e.index, e.name, e.attempts, e.wait, e.satisfied, e.data))
theorem sz_Consumer (a : Consumer) : sz a = sz a.name + sz a.data := by
 show (0 + (0 + (sz a.name + (0 + (0 + (0 + sz a.data)))))) = sz a.name + sz a.data
 omega
instance : Sz PacketInFlight := Sz.via (fun e : PacketInFlight => (e.to, e.face, e.isInterest, e.interest, e.data))
instance : Sz Network := Sz.via (fun e : Network => (e.topology, e.trust, e.producers, e.nodes, e.downNodes, e.failedLinks, e.inFlight, e.consumers, e.now, e.dropped))
instance : Sz EventP := Sz.via (fun e : EventP => (e.kind, e.n, e.name, e.forged))
instance : Sz SyncGroup := Sz.via (fun e : SyncGroup => (e.topology, e.members))
instance : Sz AccessController := Sz.via (fun e : AccessController => (e.keys, e.master, e.epoch, e.readers))
end Go.Stp

namespace Go.Stp
open GoT (X k ok sh fa oa)
section
variable {α : Type} [GoT α]
theorem RdL.take {G : GH} : ∀ {xs : List Value} {l : List α} (i : Nat), RdL G xs l → RdL G (xs.take (i * k α)) (l.take i)
 | xs, [], i, h => by
  have : xs = [] := h
  subst this
  simp only [List.take_nil]; rfl
 | xs, a :: l, 0, _ => by simp only [Nat.zero_mul, List.take_zero]; rfl
 | xs, a :: l, i + 1, ⟨x, ys, h1, h2, h3⟩ => by
  refine ⟨x, ys.take (i * k α), ?_, h2, h3.take i⟩
  rw [h1, Nat.add_mul, Nat.one_mul, List.take_append, GoT.len, List.take_of_length_le (by rw [GoT.len]; omega), Nat.add_sub_cancel]
theorem RdL.drop {G : GH} : ∀ {xs : List Value} {l : List α} (i : Nat), RdL G xs l → RdL G (xs.drop (i * k α)) (l.drop i)
 | xs, [], i, h => by
  have : xs = [] := h
  subst this
  simp only [List.drop_nil]; rfl
 | xs, a :: l, 0, h => by simp only [Nat.zero_mul, List.drop_zero]; exact h
 | xs, a :: l, i + 1, ⟨x, ys, h1, h2, h3⟩ => by
  have := h3.drop i
  rw [h1, Nat.add_mul, Nat.one_mul, List.drop_append, GoT.len, List.drop_eq_nil_of_le (by rw [GoT.len]; omega), Nat.add_sub_cancel]
  exact this
theorem RdSl.pre {G : GH} {p : Option Addr} {c : Nat} {l : List α} (h : RdSl G p c l) (i : Nat) : RdSl G p c (l.take i) := by
 obtain ⟨h1, h2, xs, h3, h4⟩ := h
 refine ⟨by rw [List.length_take]; omega, by rw [List.length_take]; omega, xs.take (i * k α), fun j u hj => h3 j u ?_, h4.take i⟩
 rw [List.getElem?_take] at hj
 split at hj
 ·exact hj
 ·cases hj
end
end Go.Stp

namespace Go.Stp
open GoT (X k ok sh fa oa)
section
variable {α : Type}
def keepC (kk : Nat) (f : α → Bool) : List α → List Value → List Value
 | [], _ => []
 | a :: l, xs => bif f a then keepC kk f l (xs.drop kk) else xs.take kk ++ keepC kk f l (xs.drop kk)
theorem keepC_snoc (kk : Nat) (f : α → Bool) : ∀ (l : List α) (a : α) (xs : List Value), keepC kk f (l ++ [a]) xs = keepC kk f l xs ++ (bif f a then [] else (xs.drop (l.length * kk)).take kk)
 | [], a, xs => by cases hf : f a <;> simp [keepC, hf]
 | b :: l, a, xs => by
  have e : (b :: l).length * kk = kk + l.length * kk := by rw [List.length_cons, Nat.add_mul]; omega
  simp only [List.cons_append, keepC, keepC_snoc kk f l a, e, ← List.drop_drop]
  cases f b <;> simp
end
section
variable {α : Type} [GoT α]
theorem OwL.keep (f : α → Bool) : ∀ {h : GH} {xs : List Value} {l : List α}, OwL h xs l → OwL h (keepC (k α) f l xs) (l.filter fun a => !f a)
 | h, xs, [], _ => rfl
 | h, xs, a :: l, ⟨x, ys, q1, q2, e, r1, r2, r3, r4, r5⟩ => by
  have h1 : xs.take (k α) = sh a x := by rw [e, ← GoT.len a x, List.take_left]
  have h2 : xs.drop (k α) = ys := by rw [e, ← GoT.len a x, List.drop_left]
  simp only [keepC, h1, h2]
  cases hf : f a
  ·rw [List.filter_cons_of_pos (by simp [hf])]
   exact ⟨x, _, q1, q2, rfl, r1, r2, r3, r4, OwL.keep f r5⟩
  ·rw [List.filter_cons_of_neg (by simp [hf])]
   exact (OwL.keep f r5).mono r2
structure DelInv (f : α → Bool) (l : List α) (xs0 : List Value) (i j : Nat) (xs : List Value) : Prop where
 ij : i < j
 jn : j ≤ l.length
 len : xs.length = l.length * k α
 pre : xs.take (i * k α) = keepC (k α) f (l.take j) xs0
 cnt : i = ((l.take j).filter fun a => !f a).length
 rest : ∀ m, j * k α ≤ m → xs[m]? = xs0[m]?
theorem DelInv.skip {f : α → Bool} {l : List α} {xs0 xs : List Value} {i j : Nat} {a : α} (h : DelInv f l xs0 i j xs) (hj : l[j]? = some a) (ha : f a = true) : DelInv f l xs0 i (j + 1) xs := by
 have hlt := (List.getElem?_eq_some_iff.1 hj).1
 have htk : l.take (j + 1) = l.take j ++ [a] := by rw [List.take_add_one, hj]; rfl
 refine ⟨by have := h.ij; omega, by omega, h.len, ?_, ?_, fun m hm => h.rest m (by rw [Nat.add_mul] at hm; omega)⟩
 ·rw [htk, keepC_snoc, ha, cond_true, List.append_nil]; exact h.pre
 ·rw [htk, List.filter_append]; simp only [List.filter_cons, ha, Bool.not_true, Bool.false_eq_true, if_false, List.filter_nil, List.append_nil]; exact h.cnt
theorem DelInv.keep {f : α → Bool} {l : List α} {xs0 xs vs : List Value} {i j : Nat} {a : α} (h0 : xs0.length = l.length * k α) (h : DelInv f l xs0 i j xs) (hj : l[j]? = some a) (ha : f a = false) (hv : vs.length = k α) (hx : ∀ q u, vs[q]? = some u → xs0[j * k α + q]? = some u) :
  DelInv f l xs0 (i + 1) (j + 1) (xs.take (i * k α + 0) ++ vs ++ xs.drop (i * k α + 0 + vs.length)) := by
 have hlt := (List.getElem?_eq_some_iff.1 hj).1
 have htk : l.take (j + 1) = l.take j ++ [a] := by rw [List.take_add_one, hj]; rfl
 have htj : (l.take j).length = j := by simp; omega
 have hij := h.ij
 have hik : (i + 1) * k α ≤ j * k α := Nat.mul_le_mul_right _ hij
 have hjk : (j + 1) * k α ≤ l.length * k α := Nat.mul_le_mul_right _ hlt
 have hlen := h.len
 rw [Nat.add_mul, Nat.one_mul] at hik hjk
 have hvs : vs = (xs0.drop (j * k α)).take (k α) := by
  apply List.ext_getElem?
  intro q
  by_cases hq : q < k α
  ·rw [List.getElem?_take, if_pos hq, List.getElem?_drop]
   have : vs[q]? = some (vs[q]'(by omega)) := List.getElem?_eq_getElem (by omega)
   rw [this]; exact (hx q _ this).symm
  ·rw [List.getElem?_eq_none (by omega), List.getElem?_eq_none (by simp; omega)]
 have hlt1 : (xs.take (i * k α) ++ vs).length = (i + 1) * k α := by rw [Nat.add_mul, Nat.one_mul, List.length_append, List.length_take, hv]; omega
 refine ⟨by omega, by omega, ?_, ?_, ?_, fun m hm => ?_⟩
 ·simp only [List.length_append, List.length_take, List.length_drop]; omega
 ·rw [Nat.add_zero (i * k α), ← hlt1, List.take_left, htk, keepC_snoc, ha, cond_false, h.pre, htj, hvs]
 ·rw [htk, List.filter_append]; simp only [List.filter_cons, ha, Bool.not_false, if_true, List.filter_nil, List.length_append, List.length_cons, List.length_nil]; rw [← h.cnt]
 ·rw [Nat.add_mul, Nat.one_mul] at hm
  rw [Nat.add_zero (i * k α), List.getElem?_append_right (by rw [hlt1, Nat.add_mul, Nat.one_mul]; omega), List.getElem?_drop, hlt1, hv, Nat.add_mul, Nat.one_mul, show i * k α + k α + (m - (i * k α + k α)) = m by omega]
  exact h.rest m (by omega)
end
end Go.Stp

namespace Go.Stp
open GoT (X k ok sh fa oa)
def LooksP (C : Cx) (env : Env) (o : Oper) (sv : SV) : Prop := ∀ a w bs, At C.fn.ntmps env bs a → (execOp a.eval o).run C.P w = .ok (.value (conc bs sv)) w
section
variable {α : Type} [GoT α]
end
end Go.Stp

namespace Go.Stp
open GoT (X k ok sh fa oa)
def Gr {α : Type} (P : Program) (m : Sem α) : Prop := ∀ w v w', m.run P w = .ok v w' → Kp emp w w'
theorem Gr.bind {α β : Type} {P : Program} {m : Sem α} {f : α → Sem β} (hm : Gr P m) (hf : ∀ v, Gr P (f v)) : Gr P (m >>= f) := fun w v w' h => by
 rw [Sem.run_bind] at h
 cases hr : m.run P w with
 | ok x w1 => rw [hr] at h; exact (hm w x w1 hr).trans (hf x w1 v w' h)
 | _ => rw [hr] at h; cases h
theorem gr_pure {α : Type} {P : Program} (x : α) : Gr P (pure x : Sem α) := fun w v w' h => by
 rw [Sem.run_pure] at h; cases h; exact Kp.refl _ _
theorem gr_halt {α : Type} {P : Program} (x : Halt) : Gr P (.halt x : Sem α) := fun w v w' h => by cases h
theorem gr_program {P : Program} : Gr P program := fun w v w' h => by cases h; exact Kp.refl _ _
theorem gr_underlying {P : Program} (t : TypeId) : Gr P (underlying t) := Gr.bind gr_program fun _ => by
 split
 ·exact gr_pure _
 ·exact gr_halt _
theorem gr_typeInfo {P : Program} (t : TypeId) : Gr P (typeInfo t) := Gr.bind gr_program fun _ => by
 split
 ·exact gr_pure _
 ·exact gr_halt _
theorem gr_sizeOf {P : Program} (t : TypeId) : Gr P (Go.sizeOf t) := Gr.bind (gr_typeInfo t) fun _ => gr_pure _
theorem gr_zeroValue {P : Program} (t : TypeId) : Gr P (zeroValue t) := Gr.bind (gr_typeInfo t) fun _ => by
 split
 ·exact gr_pure _
 ·exact gr_halt _
theorem gr_newRow {P : Program} (e : TypeId) (cs : Array Value) : Gr P (newRow e cs) := Gr.bind (fun w v w' h => by
 have h' : Result.ok w.heap.size (w.alloc (Obj.cells cs e)) = .ok v w' := h
 cases h'
 exact (Kp.refl emp w).alloc _) fun _ => gr_pure _
theorem gr_buildSlice {P : Program} (t : TypeId) (n : Nat) (ps : Array (Nat × Value)) : Gr P (Instr.buildSlice t n ps) := by
 unfold Instr.buildSlice
 refine Gr.bind (gr_underlying _) fun d => ?_
 split
 ·rename_i el
  refine Gr.bind (gr_sizeOf _) fun size => ?_
  have key : ∀ z : Array Value, Gr P (match Instr.fill (fun i => some (i * size, size)) ((Array.range (n * size)).map (z[· % z.size]!)) ps.toList with
    | some cells => do pure (Value.slice (some (← newRow el cells)) n n)
    | _ => stuck "buildSlice: a part of the wrong size") := fun z => by
   split
   ·exact Gr.bind (gr_newRow _ _) fun _ => gr_pure _
   ·exact gr_halt _
  have rest : Gr P (do
    let zero ← if n * size = 0 then pure #[] else do pure (← zeroValue el).cells
    match Instr.fill (fun i => some (i * size, size)) ((Array.range (n * size)).map (zero[· % zero.size]!)) ps.toList with
    | some cells => do pure (Value.slice (some (← newRow el cells)) n n)
    | _ => stuck "buildSlice: a part of the wrong size") := by
   by_cases h2 : n * size = 0
   ·rw [if_pos h2]; exact Gr.bind (gr_pure _) fun z => key z
   ·rw [if_neg h2]; first | exact Gr.bind (gr_zeroValue el) fun v => key v.cells | exact Gr.bind (m := (do pure (← zeroValue el).cells)) (Gr.bind (gr_zeroValue el) fun _ => gr_pure _) fun z => key z | exact Gr.bind (gr_zeroValue el) fun v => Gr.bind (gr_pure _) fun z => key z
  by_cases h2 : n * size = 0
  ·simp only [if_pos h2] at rest ⊢
   by_cases h1 : n * size > 2 ^ 24
   ·rw [if_pos h1]; exact Gr.bind (gr_halt _) fun _ => rest
   ·rw [if_neg h1]; exact rest
  ·simp only [if_neg h2] at rest ⊢
   by_cases h1 : n * size > 2 ^ 24
   ·rw [if_pos h1]; exact Gr.bind (gr_halt _) fun _ => rest
   ·rw [if_neg h1]; exact rest
 ·exact gr_halt _
def presO : Op → Bool
 | .alloc _ => true
 | .box _ _ => true
 | .buildSlice _ _ _ => true
 | _ => false
theorem gr_pres {P : Program} {ev : Operand → Value} {o : Oper} (h : presO o.op = true) : Gr P (execOp ev o) := by
 unfold execOp
 cases ho : o.op <;> rw [ho] at h <;> simp only [presO, Bool.false_eq_true] at h
 ·exact Gr.bind (Gr.bind (gr_zeroValue _) fun _ => Gr.bind (gr_newRow _ _) fun _ => gr_pure _) fun _ => gr_pure _
 ·exact Gr.bind (Gr.bind (gr_newRow _ _) fun _ => gr_pure _) fun _ => gr_pure _
 ·exact Gr.bind (gr_buildSlice _ _ _) fun _ => gr_pure _
theorem presO_enter {P : Program} {ev : Operand → Value} {o : Oper} (h : presO o.op = true) {w w' : World} {x : Next} (hr : (execOp ev o).run P w = .ok x w') : ∃ v, x = .value v := by
 unfold execOp at hr
 cases ho : o.op <;> rw [ho] at h <;> simp only [presO, Bool.false_eq_true] at h <;> rw [ho] at hr <;> simp only [Sem.run_bind] at hr
 all_goals (
  revert hr
  generalize (Sem.run P _ w) = q
  intro hr
  cases q with
  | ok y w1 => simp only [Result.andThen_ok, Sem.run_pure] at hr; cases hr; exact ⟨_, rfl⟩
  | _ => cases hr)
theorem wpOp_pres {P : Program} {ops : Array Oper} {Q : Exit → Act → World → Prop} {k : Nat} {o : Oper} (ho : ops[k]? = some o) (hp : presO o.op = true) {K : Act → World → Prop} {a : Act} {w : World} (h : wpOp P ops Q k K a w) : wpOp P ops Q k (fun a' w' => Kp emp w w' ∧ K a' w') a w := by
 unfold wpOp at h ⊢
 simp only [ho] at h ⊢
 split at h
 ·rename_i hw
  rw [if_pos hw]
  refine h.imp (fun h => ?_) id
  unfold Oper.wp at h ⊢
  generalize hr : (execOp a.eval o).run P w = r at h ⊢
  cases r with
  | ok x w' =>
   obtain ⟨v, rfl⟩ := presO_enter hp hr
   exact ⟨gr_pres hp _ _ _ hr, h⟩
  | halt x w' => cases x <;> exact h
 ·rename_i hw
  rw [if_neg hw]
  exact ⟨Kp.refl _ _, h⟩
def presB (ops : Array Oper) (k : Nat) : Bool := match getO ops.toList k with | some o => presO o.op | none => false
def seqL2 (ops : Array Oper) (tl : List Nat) : List Nat → Array Bool → Bool
 | [], listed => (Region.ready .any ops listed).isEmpty
 | k :: r, listed => decide (Region.ready .any ops listed = [k]) && (tl.contains k || presB ops k) && seqL2 ops tl r (listed.setIfInBounds k true)
theorem wpAnyT_of_seq2 {P : Program} {ops : Array Oper} {Q : Exit → Act → World → Prop} {S : World → Prop} {tl : List Nat} (hS : ∀ w w', Kp emp w w' → S w → S w') : ∀ (is : List Nat) (l : List Oper) (listed : Array Bool) (a : Act) (w : World), pickO ops.toList is = some l → seqL2 ops tl is listed = true → wpList P ops Q l a w → wpAnyT P ops Q S tl is.length listed a w
 | [], l, _, _, _, hl, hB, h => by simp [pickO] at hl; subst hl; exact ⟨by simpa [seqL2] using hB, h⟩
 | k :: is, l, listed, a, w, hl, hB, h => by
  simp only [pickO] at hl
  split at hl
  ·rename_i o ho
   split at hl
   ·rename_i q hq
    simp at hl; subst hl
    have ho2 := ho
    rw [getO_eq] at ho
    have h0 : ops[k]? = some o := by simpa using ho
    simp only [seqL2, Bool.and_eq_true, decide_eq_true_eq, Bool.or_eq_true] at hB
    refine ⟨fun h1 => (by rw [hB.1.1] at h1; cases h1), fun i hi => ?_⟩
    rw [hB.1.1] at hi
    have hik : i = k := by simpa using hi
    subst hik
    have hw : wpOp P ops Q i (wpList P ops Q q) a w := by unfold wpOp; simp only [h0]; exact h
    rcases hB.1.2 with ht | hp
    ·exact wpOp_mono (fun a' w' h' => ⟨fun h => (by rw [ht] at h; cases h), wpAnyT_of_seq2 hS is q _ a' w' hq hB.2 h'⟩) hw
    ·have hp' : presO o.op = true := by unfold presB at hp; rw [ho2] at hp; exact hp
     exact wpOp_mono (fun a' w' h' => ⟨fun _ => hS _ _ h'.1, wpAnyT_of_seq2 hS is q _ a' w' hq hB.2 h'.2⟩) (wpOp_pres h0 hp' hw)
   ·cases hl
  ·cases hl
theorem SB.keep {C : Cx} {bs : Nat → Nat} {G0 : GH} {L : Locs} {R : Rows} {w w' : World} (hb : Kp emp w w') (h : SB C bs G0 L R w) : SB C bs G0 L R w' := by
 obtain ⟨G, hle, hI⟩ := h
 exact ⟨_, hle.trans (le_join_l (cut G emp) emp), (hI.called (emp_le _) (fun _ _ h => by cases h) hb (emp_le _) (fun _ _ h => by cases h)).1⟩
theorem DX.tail2 {C : Cx} {ops : Array Oper} {tl : List Nat} {s : List It} {bs : Nat → Nat} {G0 : GH} {fuel : Nat} {listed : Array Bool} {env : Env} {L : Locs} {R : Rows} {Γ : Facts} {rest : List Oper} (is : List Nat) (hr : pickO ops.toList is = some rest) (hf : fuel = is.length) (hs : seqL2 ops tl is listed = true)
  (k : WX C (.ops ops rest :: s) env L R Γ) : DX C ops tl s bs G0 fuel listed env L R Γ := by
 intro _ a w G _ hS
 subst hf
 exact wpAnyT_of_seq2 (fun _ _ hb h => h.keep hb) is rest listed a w hr hs (k a w ⟨G, bs, hS⟩)
def DXS (C : Cx) (ops : Array Oper) (tl : List Nat) (s : List It) (S : World → Prop) (bs : Nat → Nat) (G0 : GH) (fuel : Nat) (listed : Array Bool) (env : Env) (L : Locs) (R : Rows) (Γ : Facts) : Prop :=
 Closed ops listed → ∀ a w G, Le G0 G → SatB C env L R Γ G bs a w → wpAnyT C.P ops (cont C s) S tl fuel listed a w
structure DXA (C : Cx) (ops : Array Oper) (tl : List Nat) (s : List It) (bs : Nat → Nat) (G0 : GH) (fuel : Nat) (listed : Array Bool) (env : Env) (L : Locs) (R : Rows) (Γ : Facts) (j d : Nat) (l : Loc) : Prop where
 no : DXS C ops tl s (SB C bs G0 L R) bs G0 (fuel + 1) listed env L R Γ
 yes : ∀ b, DXS C ops tl s (SB C bs G0 L R) (fun i => if i = d then b else bs i) G0 fuel (listed.setIfInBounds j true) ((d, .p d 0) :: env) ((d, l) :: L) R Γ
theorem HInv.unalloc {C : Cx} {w : World} {G : GH} {bs : Nat → Nat} {L : Locs} {R : Rows} {d b : Nat} {l : Loc} (hI : HInv C w G (fun i => if i = d then b else bs i) ((d, l) :: L) R) (hL : keyHas d L = false) (hR : keyHas d R = false) (h999 : d ≠ 999) : HInv C w G bs L R := by
 have hnL : ∀ {i : Nat} {x : Loc}, look L i = some x → i ≠ d := fun h => keyHas_not hL h
 have hnR : ∀ {i : Nat} {x : Row}, look R i = some x → i ≠ d := fun h => keyHas_not hR h
 have hup : ∀ {i : Nat} {x : Loc}, look L i = some x → look ((d, l) :: L) i = some x := fun h => by rw [look_cons, if_neg (Ne.symm (hnL h))]; exact h
 have hact : ∀ {i : Nat}, Acts L R i → Acts ((d, l) :: L) R i ∧ i ≠ d := fun h => by
  rcases h with ⟨x, hx⟩ | ⟨r, hr, hc⟩
  ·exact ⟨.inl ⟨x, hup hx⟩, hnL hx⟩
  ·exact ⟨.inr ⟨r, hr, hc⟩, hnR hr⟩
 refine ⟨hI.keep, hI.le, fun i x hx => ?_, fun i r hr => ?_, fun i j hij hi hj => ?_, fun i x r hx hr => hI.dis i x r (hup hx) hr, fun b' hb' => ?_, hI.nr⟩
 ·have := hI.loc i x (hup hx)
  simpa only [if_neg (hnL hx)] using this
 ·have := hI.row i r hr
  simpa only [if_neg (hnR hr)] using this
 ·obtain ⟨h1, h2⟩ := hact hi
  obtain ⟨h3, h4⟩ := hact hj
  have := hI.inj i j hij h1 h3
  simpa only [if_neg h2, if_neg h4] using this
 ·have := hI.pin b' hb'
  simpa only [if_neg (Ne.symm h999)] using this
theorem At.less {n d : Nat} {s : SV} {env : Env} {bs : Nat → Nat} {a : Act} (h : At n ((d, s) :: env) bs a) (hd : look env d = none) : At n env bs a := by
 refine ⟨h.size, h.dfr, fun e x hx => h.slot e x ?_⟩
 rw [look_cons]
 split
 ·rename_i he; subst he; rw [hd] at hx; cases hx
 ·exact hx
theorem At.swap {n d e : Nat} {s t : SV} {env : Env} {bs : Nat → Nat} {a : Act} (h : At n ((e, t) :: (d, s) :: env) bs a) (hde : Nat.beq e d = false) : At n ((d, s) :: (e, t) :: env) bs a := by
 have hne : e ≠ d := fun h => by subst h; simp at hde
 refine ⟨h.size, h.dfr, fun i x hx => h.slot i x ?_⟩
 rw [look_cons] at hx ⊢
 split
 ·rename_i he; subst he
  rw [if_neg (Ne.symm hne), look_cons, if_pos rfl] at hx; exact hx
 ·rename_i he
  rw [look_cons]
  split
  ·rename_i hd; subst hd; rw [if_pos rfl] at hx; exact hx
  ·rename_i hd; rw [if_neg hd, look_cons, if_neg he] at hx; exact hx
theorem pend_step {C : Cx} {ops : Array Oper} {tl : List Nat} {s : List It} {bs : Nat → Nat} {G0 G : GH} {fuel : Nat} {listed : Array Bool} {env : Env} {L : Locs} {R : Rows} {Γ : Facts} {j d : Nat} {l : Loc} {oj : Oper} {a : Act} {w : World} (ht : TabOk C.P C.tt) (hj : ops[j]? = some oj) (hd : oj.dst = some d) (hlt : d < C.fn.ntmps) (hg : gd ops env oj = some true) (hl : ladd C.tt env oj.op = some l) (hnl : labHas d env L R = false)
  (hle : Le G0 G) (hS : SatB C env L R Γ G bs a w) (hc : Closed ops (listed.setIfInBounds j true))
  (k : ∀ b, DXS C ops tl s (SB C bs G0 L R) (fun i => if i = d then b else bs i) G0 fuel (listed.setIfInBounds j true) ((d, .p d 0) :: env) ((d, l) :: L) R Γ) :
  wpOp C.P ops (cont C s) j (fun a' w' => (tl.contains j = false → SB C bs G0 L R w → SB C bs G0 L R w') ∧ wpAnyT C.P ops (cont C s) (SB C bs G0 L R) tl fuel (listed.setIfInBounds j true) a' w') a w := by
 obtain ⟨hA, hI, hΓ⟩ := hS
 unfold wpOp
 simp only [hj]
 rw [if_pos (gd_sound hA hg)]
 refine .inl ?_
 unfold Oper.wp
 rw [ladd_sound ht hA hl]
 simp only [Oper.upon, hd]
 have hI' := hI.alloc d (labHas_not hnl).2.2.2 (labHas_not hnl).2.1 (labHas_not hnl).2.2.1 l
 have hA' := (hA.notH (d := d) (bs' := fun j => if j = d then w.heap.size else bs j) (labHas_not hnl).1 (fun i hi => if_neg hi)).put hlt (.p d 0)
 simp only [conc, if_true] at hA'
 exact ⟨fun _ _ => ⟨G, hle, hI'.unalloc (labHas_not hnl).2.1 (labHas_not hnl).2.2.1 (labHas_not hnl).2.2.2⟩, k _ hc _ _ G hle ⟨hA', hI', hΓ⟩⟩
theorem DXA.tail {C : Cx} {ops : Array Oper} {tl : List Nat} {s : List It} {bs : Nat → Nat} {G0 : GH} {fuel : Nat} {listed : Array Bool} {env : Env} {L : Locs} {R : Rows} {Γ : Facts} {j d : Nat} {l : Loc} {oj : Oper} {rest : List Oper} (is : List Nat) (ht : TabOk C.P C.tt) (hj : getO ops.toList j = some oj) (hd : oj.dst = some d) (hlt : Nat.blt d C.fn.ntmps = true) (hg : gd ops env oj = some true) (hl : ladd C.tt env oj.op = some l) (hnl : labHas d env L R = false)
  (hr : Region.ready .any ops listed = [j]) (hp : pickO ops.toList is = some rest) (hf : fuel = is.length) (hs : seqL2 ops tl is (listed.setIfInBounds j true) = true) (k : WX C (.ops ops rest :: s) ((d, .p d 0) :: env) ((d, l) :: L) R Γ) : DXA C ops tl s bs G0 fuel listed env L R Γ j d l := by
 rw [getO_eq] at hj
 have hj' : ops[j]? = some oj := by simpa using hj
 have yes : ∀ b, DXS C ops tl s (SB C bs G0 L R) (fun i => if i = d then b else bs i) G0 fuel (listed.setIfInBounds j true) ((d, .p d 0) :: env) ((d, l) :: L) R Γ := fun b _ a w G _ hS => by
  subst hf
  exact wpAnyT_of_seq2 (fun _ _ hb h => h.keep hb) is rest _ a w hp hs (k a w ⟨G, _, hS⟩)
 refine ⟨fun hc a w G hle hS => ⟨fun h => (by rw [hr] at h; cases h), fun i hi => ?_⟩, yes⟩
 have hc' := hc.set hi
 rw [hr] at hi
 obtain rfl : i = j := by simpa using hi
 exact pend_step ht hj' hd (by simpa [Nat.blt_eq] using hlt) hg hl hnl hle hS hc' yes
theorem DXA.take {C : Cx} {ops : Array Oper} {tl : List Nat} {s : List It} {bs : Nat → Nat} {G0 : GH} {fuel : Nat} {listed : Array Bool} {env : Env} {L : Locs} {R : Rows} {Γ : Facts} {j d e : Nat} {l : Loc} {o : Oper} {sv : SV} (i : Nat) (hb : mayP ops listed i = true) (hb2 : mayP ops (listed.setIfInBounds j true) i = true) (hij : Nat.beq i j = false) (hi : getO ops.toList i = some o)
  (hg : gd ops env o = some true) (hg2 : gd ops ((d, .p d 0) :: env) o = some true) (he : o.dst = some e) (hlt : Nat.blt e C.fn.ntmps = true) (hed : Nat.beq e d = false) (hnd : look env d = none) (hl : LooksP C env o sv)
  (k : DXA C ops tl s bs G0 fuel (listed.setIfInBounds i true) ((e, sv) :: env) L R Γ j d l) : DXA C ops tl s bs G0 (fuel + 1) listed env L R Γ j d l := by
 rw [getO_eq] at hi
 have hi' : ops[i]? = some o := by simpa using hi
 have hne : i ≠ j := fun h => by subst h; simp at hij
 have hlt' : e < C.fn.ntmps := by simpa [Nat.blt_eq] using hlt
 have first : ∀ {bs' : Nat → Nat} {env' : Env} {L' : Locs} {f : Nat} {li : Array Bool}, mayP ops li i = true → gd ops env' o = some true → (∀ a w bs'', At C.fn.ntmps env' bs'' a → (execOp a.eval o).run C.P w = .ok (.value (conc bs'' sv)) w) →
   DXS C ops tl s (SB C bs G0 L R) bs' G0 f (li.setIfInBounds i true) ((e, sv) :: env') L' R Γ → DXS C ops tl s (SB C bs G0 L R) bs' G0 (f + 1) li env' L' R Γ := by
  intro bs' env' L' f li hm hgd hlk kk hcl a w G hle hS
  obtain ⟨hA, hI, hΓ⟩ := hS
  simp only [mayP, Bool.and_eq_true] at hm
  obtain ⟨⟨h1, h4⟩, h5⟩ := hm
  have hr : i ∈ Region.ready .any ops li := by simpa using h5
  refine wpAnyT_firstP hi' (Region.noSelect_spec h1) (fun c a w h => (cont_panic C s c _ _ h).elim) f li a w (Region.free_spec hi' h4) hr (v := conc bs' sv) (.inl ⟨gd_sound hA hgd, fun w' _ => hlk a w' bs' hA⟩) ?_
  rw [he]
  exact kk (hcl.set hr) _ _ G hle ⟨hA.put hlt' sv, hI, hΓ⟩
 refine ⟨first hb hg hl k.no, fun b => first hb2 hg2 (fun a w bs'' hA => hl a w bs'' (hA.less hnd)) ?_⟩
 intro hcl a w G hle ⟨hA, hI, hΓ⟩
 have := k.yes b
 rw [Array.setIfInBounds_comm _ _ (Ne.symm hne)] at hcl ⊢
 exact this hcl a w G hle ⟨hA.swap hed, hI, hΓ⟩
theorem DXA.der {C : Cx} {ops : Array Oper} {tl : List Nat} {s : List It} {bs : Nat → Nat} {G0 : GH} {fuel : Nat} {listed : Array Bool} {env : Env} {L : Locs} {R : Rows} {Γ : Facts} {j d : Nat} {l : Loc} (m : Nat) (f : MF) (hk : f.k = .der) (h : ∀ G, AllK C.M G Γ → f.p G)
  (k : DXA C ops tl s bs G0 fuel listed env L R ((m, f) :: Γ) j d l) : DXA C ops tl s bs G0 fuel listed env L R Γ j d l :=
 ⟨fun hcl a w G hle ⟨hA, hI, hΓ⟩ => k.no hcl a w G hle ⟨hA, hI, hΓ.der m f hk (h G hΓ)⟩, fun b hcl a w G hle ⟨hA, hI, hΓ⟩ => k.yes b hcl a w G hle ⟨hA, hI, hΓ.der m f hk (h G hΓ)⟩⟩
theorem DXA.callG {C : Cx} {ops : Array Oper} {tl : List Nat} {st : List It} {bs : Nat → Nat} {G0 : GH} {fuel : Nat} {listed : Array Bool} {env : Env} {L : Locs} {R : Rows} {Γ : Facts} {j d e : Nat} {l : Loc} {o oj : Oper} (i : Nat) {f : Operand} {args : List Operand} {ats : Array TypeId} {g : FuncId} {sf : SV} {svs : List SV} {caps : (Nat → Nat) → List Value}
  {ι : Type} {Q : Prop} {val : ι → Value} {Γ' : ι → Facts} {Ψ : World → Value → World → Prop} (ht : TabOk C.P C.tt) (hj : getO ops.toList j = some oj) (hd : oj.dst = some d) (hlt : Nat.blt d C.fn.ntmps = true) (hg : gd ops env oj = some true) (hl : ladd C.tt env oj.op = some l) (hnl : labHas d env L R = false) (hnd : look env d = none)
  (hr : (Region.ready .any ops listed).all (fun x => Nat.beq x i || Nat.beq x j) = true) (hr1 : (Region.ready .any ops listed).contains i = true) (hr2 : Region.ready .any ops (listed.setIfInBounds j true) = [i]) (hij : Nat.beq i j = false)
  (hi : getO ops.toList i = some o) (hgi : gd ops env o = some true) (hgi2 : gd ops ((d, .p d 0) :: env) o = some true) (he : o.dst = some e) (hlte : Nat.blt e C.fn.ntmps = true) (hed : Nat.beq e d = false) (ho : o.op = .call { callee := .value f, args := args.toArray, argTypes := ats })
  (hf : ev env f = some sf) (hf2 : ev ((d, .p d 0) :: env) f = some sf) (hsf : ∀ bs, conc bs sf = .func (.func g) #[] (caps bs).toArray) (hargs : evs env args = some svs) (hargs2 : evs ((d, .p d 0) :: env) args = some svs)
  (hc : ∀ w G bs, HInv C w G bs L R → AllK C.M (hp w) Γ → Does C.P g (svs.map (conc bs) ++ caps bs).toArray w emp (Ψ w))
  (hΨ : ∀ w v w' G bs (L : Locs) (R : Rows), HInv C w G bs L R → AllK C.M G Γ → Kp emp w w' → Ψ w v w' → ∃ x G', Q ∧ v = val x ∧ Le G G' ∧ HInv C w' G' bs L R ∧ AllK C.M G' (Γ' x))
  (k : ∀ x, Q → DXA C ops tl st bs G0 fuel (listed.setIfInBounds i true) ((e, .v (val x)) :: env) L R (Γ' x) j d l) : DXA C ops tl st bs G0 (fuel + 1) listed env L R Γ j d l := by
 rw [getO_eq] at hi hj
 have hi' : ops[i]? = some o := by simpa using hi
 have hj' : ops[j]? = some oj := by simpa using hj
 have hne : i ≠ j := fun h => by subst h; simp at hij
 have hlte' : e < C.fn.ntmps := by simpa [Nat.blt_eq] using hlte
 obtain ⟨l1, l2, l3, l4⟩ := labHas_not hnl
 have step : ∀ {bs' : Nat → Nat} {env' : Env} {L' : Locs} {fu : Nat} {li : Array Bool} {a : Act} {w : World} {G : GH}, gd ops env' o = some true → ev env' f = some sf → evs env' args = some svs → Le G0 G → SatB C env' L' R Γ G bs' a w → (∀ w G, HInv C w G bs' L' R → HInv C w G bs' L R) → (∀ w G, HInv C w G bs' L' R → HInv C w G bs L R) → Closed ops (li.setIfInBounds i true) →
   (∀ x, Q → DXS C ops tl st (SB C bs G0 L R) bs' G0 fu (li.setIfInBounds i true) ((e, .v (val x)) :: env') L' R (Γ' x)) →
   wpOp C.P ops (cont C st) i (fun a' w' => (tl.contains i = false → SB C bs G0 L R w → SB C bs G0 L R w') ∧ wpAnyT C.P ops (cont C st) (SB C bs G0 L R) tl fu (li.setIfInBounds i true) a' w') a w := by
  intro bs' env' L' fu li a w G h1 h2 h3 hle hS hsub hsub2 hcl kk
  obtain ⟨hA, hI, hΓ⟩ := hS
  unfold wpOp
  simp only [hi']
  rw [if_pos (gd_sound hA h1)]
  refine .inl ?_
  unfold Oper.wp
  obtain ⟨hen, hcalls⟩ := hc w G bs' (hsub w G hI) (hΓ.mono hI.le)
  rw [exec_call hen ho (by rw [ev_conc hA h2, hsf]) (evs_sound hA args svs h3)]
  simp only [Oper.upon]
  refine hcalls.mono fun ee w' ⟨v, hv, hb, hψ⟩ => ?_
  subst hv
  rw [he]
  obtain ⟨x, G', hq, hv, hGG, hI', hΓ'⟩ := hΨ w v w' G bs' L' R hI hΓ hb hψ
  subst hv
  exact ⟨fun _ _ => ⟨G', hle.trans hGG, hsub2 w' G' hI'⟩, kk x hq hcl _ _ G' (hle.trans hGG) ⟨hA.put hlte' (.v (val x)), hI', hΓ'⟩⟩
 have yes : ∀ b, DXS C ops tl st (SB C bs G0 L R) (fun i => if i = d then b else bs i) G0 (fuel + 1) (listed.setIfInBounds j true) ((d, .p d 0) :: env) ((d, l) :: L) R Γ := fun b hcl a w G hle hS => by
  refine ⟨fun h => (by rw [hr2] at h; cases h), fun x hx => ?_⟩
  have hcl' := hcl.set hx
  rw [hr2] at hx
  obtain rfl : x = i := by simpa using hx
  refine step hgi2 hf2 hargs2 hle hS (fun w G h => h.sub (fun q y hy => by rw [look_cons, if_neg (Ne.symm (keyHas_not l2 hy))]; exact hy) (Sub.refl _)) (fun w G h => h.unalloc l2 l3 l4) hcl' (fun x hq => ?_)
  intro hcl2 a w G hle ⟨hA, hI, hΓ⟩
  have := (k x hq).yes b
  rw [Array.setIfInBounds_comm _ _ (Ne.symm hne)] at hcl2 ⊢
  exact this hcl2 a w G hle ⟨hA.swap hed, hI, hΓ⟩
 refine ⟨fun hcl a w G hle hS => ⟨fun h => (by rw [h] at hr1; simp at hr1), fun x hx => ?_⟩, yes⟩
 have hcl' := hcl.set hx
 have hx' := List.all_eq_true.1 hr x hx
 simp only [Bool.or_eq_true] at hx'
 rcases hx' with h | h
 ·have := Nat.eq_of_beq_eq_true h
  subst this
  exact step hgi hf hargs hle hS (fun _ _ h => h) (fun _ _ h => h) hcl' (fun x hq => (k x hq).no)
 ·have := Nat.eq_of_beq_eq_true h
  subst this
  exact pend_step ht hj' hd (by simpa [Nat.blt_eq] using hlt) hg hl hnl hle hS hcl' yes
theorem DXA.callV {C : Cx} {ops : Array Oper} {tl : List Nat} {st : List It} {bs : Nat → Nat} {G0 : GH} {fuel : Nat} {listed : Array Bool} {env : Env} {L : Locs} {R : Rows} {Γ : Facts} {j d e : Nat} {l : Loc} {o oj : Oper} (i : Nat) {f : Operand} {args : List Operand} {ats : Array TypeId} {g : FuncId} {sf : SV} {svs : List SV} {caps : (Nat → Nat) → List Value}
  {c : Value} {Q : Prop} (ht : TabOk C.P C.tt) (hj : getO ops.toList j = some oj) (hd : oj.dst = some d) (hlt : Nat.blt d C.fn.ntmps = true) (hg : gd ops env oj = some true) (hl : ladd C.tt env oj.op = some l) (hnl : labHas d env L R = false) (hnd : look env d = none)
  (hr : (Region.ready .any ops listed).all (fun x => Nat.beq x i || Nat.beq x j) = true) (hr1 : (Region.ready .any ops listed).contains i = true) (hr2 : Region.ready .any ops (listed.setIfInBounds j true) = [i]) (hij : Nat.beq i j = false)
  (hi : getO ops.toList i = some o) (hgi : gd ops env o = some true) (hgi2 : gd ops ((d, .p d 0) :: env) o = some true) (he : o.dst = some e) (hlte : Nat.blt e C.fn.ntmps = true) (hed : Nat.beq e d = false) (ho : o.op = .call { callee := .value f, args := args.toArray, argTypes := ats })
  (hf : ev env f = some sf) (hf2 : ev ((d, .p d 0) :: env) f = some sf) (hsf : ∀ bs, conc bs sf = .func (.func g) #[] (caps bs).toArray) (hargs : evs env args = some svs) (hargs2 : evs ((d, .p d 0) :: env) args = some svs)
  (hc : ∀ w G bs, HInv C w G bs L R → AllK C.M (hp w) Γ → Does C.P g (svs.map (conc bs) ++ caps bs).toArray w emp fun v _ => v = c ∧ Q)
  (k : Q → DXA C ops tl st bs G0 fuel (listed.setIfInBounds i true) ((e, .v c) :: env) L R Γ j d l) : DXA C ops tl st bs G0 (fuel + 1) listed env L R Γ j d l :=
 DXA.callG (ι := Unit) (Q := Q) (val := fun _ => c) (Γ' := fun _ => Γ) (Ψ := fun _ v _ => v = c ∧ Q) i ht hj hd hlt hg hl hnl hnd hr hr1 hr2 hij hi hgi hgi2 he hlte hed ho hf hf2 hsf hargs hargs2 hc
  (fun w v w' G bs L R hI hΓ hb ⟨hv, hq⟩ => ⟨(), join (cut G emp) emp, hq, hv, le_join_l (cut G emp) emp, (hI.called (emp_le _) (fun _ _ h => by cases h) hb (emp_le _) (fun _ _ h => by cases h)).1, hΓ.mono (le_join_l (cut G emp) emp)⟩) (fun _ => k)
theorem DXA.callF {C : Cx} {ops : Array Oper} {tl : List Nat} {st : List It} {bs : Nat → Nat} {G0 : GH} {fuel : Nat} {listed : Array Bool} {env : Env} {L : Locs} {R : Rows} {Γ : Facts} {j d e : Nat} {l : Loc} {o oj : Oper} (i m : Nat) {f : Operand} {args : List Operand} {ats : Array TypeId} {g : FuncId} {sf : SV} {svs : List SV} {caps : (Nat → Nat) → List Value}
  {ι : Type} {val val' : ι → Value} {gs ds : ι → List MF} {Q : Prop} {Γ' : ι → Facts} (hds : ∀ i h, Sep h (gs i) → All h (ds i)) (hdk : ∀ i, ∀ f ∈ ds i, f.k = .der) (ht : TabOk C.P C.tt) (hj : getO ops.toList j = some oj) (hd : oj.dst = some d) (hlt : Nat.blt d C.fn.ntmps = true) (hg : gd ops env oj = some true) (hl : ladd C.tt env oj.op = some l) (hnl : labHas d env L R = false) (hnd : look env d = none)
  (hr : (Region.ready .any ops listed).all (fun x => Nat.beq x i || Nat.beq x j) = true) (hr1 : (Region.ready .any ops listed).contains i = true) (hr2 : Region.ready .any ops (listed.setIfInBounds j true) = [i]) (hij : Nat.beq i j = false)
  (hi : getO ops.toList i = some o) (hgi : gd ops env o = some true) (hgi2 : gd ops ((d, .p d 0) :: env) o = some true) (he : o.dst = some e) (hlte : Nat.blt e C.fn.ntmps = true) (hed : Nat.beq e d = false) (ho : o.op = .call { callee := .value f, args := args.toArray, argTypes := ats })
  (hf : ev env f = some sf) (hf2 : ev ((d, .p d 0) :: env) f = some sf) (hsf : ∀ bs, conc bs sf = .func (.func g) #[] (caps bs).toArray) (hargs : evs env args = some svs) (hargs2 : evs ((d, .p d 0) :: env) args = some svs)
  (hc : ∀ w G bs, HInv C w G bs L R → AllK C.M (hp w) Γ → Does C.P g (svs.map (conc bs) ++ caps bs).toArray w emp (Post w emp val gs Q))
  (hv : ∀ i, normV (val i) = some (val' i)) (hΓ' : ∀ i, addF m (ds i ++ gs i) Γ = some (Γ' i))
  (k : ∀ x, Q → DXA C ops tl st bs G0 fuel (listed.setIfInBounds i true) ((e, .v (val' x)) :: env) L R (Γ' x) j d l) : DXA C ops tl st bs G0 (fuel + 1) listed env L R Γ j d l :=
 DXA.callG (ι := ι) (Q := Q) (val := val') (Γ' := Γ') (Ψ := fun w v w' => Post w emp val gs Q v w') i ht hj hd hlt hg hl hnl hnd hr hr1 hr2 hij hi hgi hgi2 he hlte hed ho hf hf2 hsf hargs hargs2 hc
  (fun w v w' G bs L R hI hΓ hb hv' => by
   obtain ⟨x, h, rfl, hq, hle1, hdom, hs⟩ := hv'
   obtain ⟨hI', hdj⟩ := hI.called (emp_le _) (fun _ _ h => by cases h) hb hle1 hdom
   exact ⟨x, join (cut G emp) h, hq, (normV_eq (hv x)).symm, le_join_l (cut G emp) h, hI', hΓ.after hdj (fun b o hb' => .inl ((hdom b o hb').elim (Nat.le_trans hI.keep.size) (fun h => absurd rfl h))) hs (hdk x) (hds x h hs) (hΓ' x)⟩) k
end Go.Stp

namespace Go.Stp
def TX (C : Cx) (ops : Array Oper) (tl : List Nat) (s : List It) (S : World → Prop) (fuel : Nat) (listed : Array Bool) (env : Env) (L : Locs) (R : Rows) (Γ : Facts) : Prop :=
 (∀ w w', Kp emp w w' → S w → S w') → ∀ a w, Sat C env L R Γ a w → wpAnyT C.P ops (cont C s) S tl fuel listed a w
def TXI (C : Cx) (ops : Array Oper) (tl : List Nat) (s : List It) (S : World → Prop) (fuel : Nat) (listed : Array Bool) : Act → World → Prop := fun a w => (∀ w w', Kp emp w w' → S w → S w') → wpAnyT C.P ops (cont C s) S tl fuel listed a w
theorem upon_then {P : Program} {o : Oper} {a : Act} {next I : Act → World → Prop} {Q : Exit → Act → World → Prop} {r : Result Next} (h : o.upon P a next (Exit.then I Q) r) : o.upon P a next Q r := by
 cases r with
 | ok x w => cases x <;> exact h
 | halt x w => cases x <;> exact h
theorem TX.step {C : Cx} {ops : Array Oper} {tl : List Nat} {s : List It} {S : World → Prop} {fuel : Nat} {listed : Array Bool} {env : Env} {L : Locs} {R : Rows} {Γ : Facts} {x : Nat} {o : Oper} (hS : ∀ w w', Kp emp w w' → S w → S w') (hi : ops[x]? = some o) (hp : tl.contains x = true ∨ presO o.op = true)
  (kx : WX C (.ops ops [o] :: .iter (TXI C ops tl s S fuel (listed.setIfInBounds x true)) :: s) env L R Γ) {a : Act} {w : World} (hSat : Sat C env L R Γ a w) :
  wpOp C.P ops (cont C s) x (fun a' w' => (tl.contains x = false → S w → S w') ∧ wpAnyT C.P ops (cont C s) S tl fuel (listed.setIfInBounds x true) a' w') a w := by
 have h : wpOp C.P ops (cont C s) x (TXI C ops tl s S fuel (listed.setIfInBounds x true)) a w := by
  have h1 : wpList C.P ops (Exit.then (TXI C ops tl s S fuel (listed.setIfInBounds x true)) (cont C s)) [o] a w := kx a w hSat
  unfold wpOp
  simp only [hi]
  unfold wpList at h1
  split at h1
  ·rename_i hw
   rw [if_pos hw]
   exact h1.imp (fun h => upon_then (o := o) h) id
  ·rename_i hw
   rw [if_neg hw]
   exact h1
 rcases hp with ht | hp
 ·exact wpOp_mono (fun a' w' h' => ⟨fun h => (by rw [ht] at h; cases h), h' hS⟩) h
 ·exact wpOp_mono (fun a' w' h' => ⟨fun _ => hS _ _ h'.1, h'.2 hS⟩) (wpOp_pres hi hp h)
def tlB (ops : Array Oper) (tl : List Nat) (x : Nat) : Bool := tl.contains x || presB ops x
theorem tlB_spec {ops : Array Oper} {tl : List Nat} {x : Nat} {o : Oper} (hi : getO ops.toList x = some o) (h : tlB ops tl x = true) : ops[x]? = some o ∧ (tl.contains x = true ∨ presO o.op = true) := by
 unfold tlB presB at h
 rw [hi] at h
 rw [getO_eq] at hi
 exact ⟨by simpa using hi, by simpa using h⟩
theorem TX.one {C : Cx} {ops : Array Oper} {tl : List Nat} {s : List It} {S : World → Prop} {fuel : Nat} {listed : Array Bool} {env : Env} {L : Locs} {R : Rows} {Γ : Facts} {o : Oper} (x : Nat) (hr : Region.ready .any ops listed = [x]) (hi : getO ops.toList x = some o) (hp : tlB ops tl x = true)
  (kx : WX C (.ops ops [o] :: .iter (TXI C ops tl s S fuel (listed.setIfInBounds x true)) :: s) env L R Γ) : TX C ops tl s S (fuel + 1) listed env L R Γ := fun hS a w hSat => by
 obtain ⟨h1, h2⟩ := tlB_spec hi hp
 refine ⟨fun h => (by rw [hr] at h; cases h), fun j hj => ?_⟩
 rw [hr] at hj
 obtain rfl : j = x := by simpa using hj
 exact TX.step hS h1 h2 kx hSat
theorem TX.tail {C : Cx} {ops : Array Oper} {tl : List Nat} {s : List It} {S : World → Prop} {fuel : Nat} {listed : Array Bool} {env : Env} {L : Locs} {R : Rows} {Γ : Facts} {rest : List Oper} (is : List Nat) (hr : pickO ops.toList is = some rest) (hf : fuel = is.length) (hs : seqL2 ops tl is listed = true)
  (k : WX C (.ops ops rest :: s) env L R Γ) : TX C ops tl s S fuel listed env L R Γ := fun hS a w hSat => by
 subst hf
 exact wpAnyT_of_seq2 hS is rest listed a w hr hs (k a w hSat)
end Go.Stp

namespace Go.Stp
def TS (C : Cx) (ops : Array Oper) (tl : List Nat) (s : List It) (S : World → Prop) (fuel : Nat) (listed : Array Bool) (env : Env) (L : Locs) (R : Rows) (Γ : Facts) (x : Nat) : Prop :=
 (∀ w w', Kp emp w w' → S w → S w') → ∀ a w, Sat C env L R Γ a w → wpOp C.P ops (cont C s) x (fun a' w' => (tl.contains x = false → S w → S w') ∧ wpAnyT C.P ops (cont C s) S tl fuel (listed.setIfInBounds x true) a' w') a w
theorem TS.op {C : Cx} {ops : Array Oper} {tl : List Nat} {s : List It} {S : World → Prop} {fuel : Nat} {listed : Array Bool} {env : Env} {L : Locs} {R : Rows} {Γ : Facts} {o : Oper} (x : Nat) (hi : getO ops.toList x = some o) (hp : tlB ops tl x = true)
  (kx : WX C (.ops ops [o] :: .iter (TXI C ops tl s S fuel (listed.setIfInBounds x true)) :: s) env L R Γ) : TS C ops tl s S fuel listed env L R Γ x := fun hS a w hSat => by
 obtain ⟨h1, h2⟩ := tlB_spec hi hp
 exact TX.step hS h1 h2 kx hSat
theorem TS.callG {C : Cx} {ops : Array Oper} {tl : List Nat} {st : List It} {S : World → Prop} {fuel : Nat} {listed : Array Bool} {env : Env} {L : Locs} {R : Rows} {Γ : Facts} {o : Oper} (i : Nat) {f : Operand} {args : List Operand} {ats : Array TypeId} {g : FuncId} {sf : SV} {svs : List SV} {caps : (Nat → Nat) → List Value}
  {Ψ : World → Value → World → Prop} {d : Nat} (hi : getO ops.toList i = some o) (hg : gd ops env o = some true) (hd : o.dst = some d) (ho : o.op = .call { callee := .value f, args := args.toArray, argTypes := ats })
  (hf : ev env f = some sf) (hsf : ∀ bs, conc bs sf = .func (.func g) #[] (caps bs).toArray) (hargs : evs env args = some svs)
  (hc : ∀ w G bs, HInv C w G bs L R → AllK C.M (hp w) Γ → Does C.P g (svs.map (conc bs) ++ caps bs).toArray w emp (Ψ w))
  (k : ∀ a w w' G bs v, (∀ w w', Kp emp w w' → S w → S w') → At C.fn.ntmps env bs a → HInv C w G bs L R → AllK C.M G Γ → Kp emp w w' → Ψ w v w' → wpAnyT C.P ops (cont C st) S tl fuel (listed.setIfInBounds i true) (a.put (some d) v) w') : TS C ops tl st S fuel listed env L R Γ i := by
 intro hS a w ⟨G, bs, hA, hI, hΓ⟩
 rw [getO_eq] at hi
 have hi' : ops[i]? = some o := by simpa using hi
 unfold wpOp
 simp only [hi']
 rw [if_pos (gd_sound hA hg)]
 refine .inl ?_
 unfold Oper.wp
 obtain ⟨he, hcalls⟩ := hc w G bs hI (hΓ.mono hI.le)
 rw [exec_call he ho (by rw [ev_conc hA hf, hsf]) (evs_sound hA args svs hargs)]
 simp only [Oper.upon]
 refine hcalls.mono fun e w' ⟨v, hv, hb, hψ⟩ => ?_
 subst hv
 rw [hd]
 exact ⟨fun _ hs => hS _ _ hb hs, k a w w' G bs v hS hA hI hΓ hb hψ⟩
theorem TS.callV {C : Cx} {ops : Array Oper} {tl : List Nat} {st : List It} {S : World → Prop} {fuel : Nat} {listed : Array Bool} {env : Env} {L : Locs} {R : Rows} {Γ : Facts} {o : Oper} (i : Nat) {f : Operand} {args : List Operand} {ats : Array TypeId} {g : FuncId} {sf : SV} {svs : List SV} {caps : (Nat → Nat) → List Value}
  {c : Value} {Q : Prop} {d : Nat} (hi : getO ops.toList i = some o) (hg : gd ops env o = some true) (hd : o.dst = some d) (hlt : Nat.blt d C.fn.ntmps = true) (ho : o.op = .call { callee := .value f, args := args.toArray, argTypes := ats })
  (hf : ev env f = some sf) (hsf : ∀ bs, conc bs sf = .func (.func g) #[] (caps bs).toArray) (hargs : evs env args = some svs)
  (hc : ∀ w G bs, HInv C w G bs L R → AllK C.M (hp w) Γ → Does C.P g (svs.map (conc bs) ++ caps bs).toArray w emp fun v _ => v = c ∧ Q)
  (k : Q → TX C ops tl st S fuel (listed.setIfInBounds i true) ((d, .v c) :: env) L R Γ) : TS C ops tl st S fuel listed env L R Γ i :=
 TS.callG (Ψ := fun _ v _ => v = c ∧ Q) i hi hg hd ho hf hsf hargs hc fun a w w' G bs v hS hA hI hΓ hb ⟨hv, hq⟩ => by
  subst hv
  have hI' := (hI.called (emp_le _) (fun _ _ h => by cases h) hb (emp_le _) (fun _ _ h => by cases h)).1
  exact k hq hS _ _ ⟨_, _, hA.put (by simpa [Nat.blt_eq] using hlt) (.v v), hI', hΓ.mono (le_join_l (cut G emp) emp)⟩
theorem TS.callF {C : Cx} {ops : Array Oper} {tl : List Nat} {st : List It} {S : World → Prop} {fuel : Nat} {listed : Array Bool} {env : Env} {L : Locs} {R : Rows} {Γ : Facts} {o : Oper} (i m : Nat) {f : Operand} {args : List Operand} {ats : Array TypeId} {g : FuncId} {sf : SV} {svs : List SV} {caps : (Nat → Nat) → List Value}
  {ι : Type} {val val' : ι → Value} {gs ds : ι → List MF} {Q : Prop} {d : Nat} {Γ' : ι → Facts} (hds : ∀ i h, Sep h (gs i) → All h (ds i)) (hdk : ∀ i, ∀ f ∈ ds i, f.k = .der) (hi : getO ops.toList i = some o) (hg : gd ops env o = some true) (hd : o.dst = some d) (hlt : Nat.blt d C.fn.ntmps = true) (ho : o.op = .call { callee := .value f, args := args.toArray, argTypes := ats })
  (hf : ev env f = some sf) (hsf : ∀ bs, conc bs sf = .func (.func g) #[] (caps bs).toArray) (hargs : evs env args = some svs)
  (hc : ∀ w G bs, HInv C w G bs L R → AllK C.M (hp w) Γ → Does C.P g (svs.map (conc bs) ++ caps bs).toArray w emp (Post w emp val gs Q))
  (hv : ∀ i, normV (val i) = some (val' i)) (hΓ' : ∀ i, addF m (ds i ++ gs i) Γ = some (Γ' i))
  (k : ∀ j, Q → TX C ops tl st S fuel (listed.setIfInBounds i true) ((d, .v (val' j)) :: env) L R (Γ' j)) : TS C ops tl st S fuel listed env L R Γ i :=
 TS.callG (Ψ := fun w v w' => Post w emp val gs Q v w') i hi hg hd ho hf hsf hargs hc fun a w w' G bs v hS hA hI hΓ hb hv' => by
  obtain ⟨j, h, rfl, hq, hle1, hdom, hs⟩ := hv'
  rw [← normV_eq (hv j)]
  obtain ⟨hI', hdj⟩ := hI.called (emp_le _) (fun _ _ h => by cases h) hb hle1 hdom
  exact k j hq hS _ _ ⟨_, _, hA.put (by simpa [Nat.blt_eq] using hlt) (.v _), hI', hΓ.after hdj (fun b o hb' => .inl ((hdom b o hb').elim (Nat.le_trans hI.keep.size) (fun h => absurd rfl h))) hs (hdk j) (hds j h hs) (hΓ' j)⟩
theorem TX.der {C : Cx} {ops : Array Oper} {tl : List Nat} {s : List It} {S : World → Prop} {fuel : Nat} {listed : Array Bool} {env : Env} {L : Locs} {R : Rows} {Γ : Facts} (m : Nat) (f : MF) (hk : f.k = .der) (h : ∀ G, AllK C.M G Γ → f.p G)
  (k : TX C ops tl s S fuel listed env L R ((m, f) :: Γ)) : TX C ops tl s S fuel listed env L R Γ := fun hS a w ⟨G, bs, hA, hI, hΓ⟩ => k hS a w ⟨G, bs, hA, hI, hΓ.der m f hk (h G hΓ)⟩
theorem TS.der {C : Cx} {ops : Array Oper} {tl : List Nat} {s : List It} {S : World → Prop} {fuel : Nat} {listed : Array Bool} {env : Env} {L : Locs} {R : Rows} {Γ : Facts} {x : Nat} (m : Nat) (f : MF) (hk : f.k = .der) (h : ∀ G, AllK C.M G Γ → f.p G)
  (k : TS C ops tl s S fuel listed env L R ((m, f) :: Γ) x) : TS C ops tl s S fuel listed env L R Γ x := fun hS a w ⟨G, bs, hA, hI, hΓ⟩ => k hS a w ⟨G, bs, hA, hI, hΓ.der m f hk (h G hΓ)⟩
end Go.Stp

namespace Go.Stp
def NN (x : Int) : Prop := 0 ≤ x ∧ x ≤ 9223372036854775807
theorem NN.i64 {x : Int} (h : NN x) : -9223372036854775808 ≤ x ∧ x ≤ 9223372036854775807 := ⟨by have := h.1; omega, h.2⟩
open GoT (X k ok sh fa oa)
def sgl (b : Nat) (o : Obj) : GH := fun x => if x = b then some o else none
theorem sgl_self (b : Nat) (o : Obj) : sgl b o b = some o := by simp [sgl]
theorem sgl_ne {b x : Nat} (o : Obj) (h : x ≠ b) : sgl b o x = none := by simp [sgl, h]
theorem sgl_le {b : Nat} {o : Obj} {G : GH} (h : G b = some o) : Le (sgl b o) G := fun x q hx => by
 by_cases hb : x = b
 ·subst hb; rw [sgl_self] at hx; cases hx; exact h
 ·rw [sgl_ne o hb] at hx; cases hx
theorem cut_none' {G h : GH} {b : Nat} (hg : G b = none) : cut G h b = none := by
 unfold cut; cases h b <;> simp [hg]
theorem cut_some' {G h : GH} {b : Nat} {o : Obj} (hg : h b = some o) : cut G h b = none := by
 unfold cut; rw [hg]
theorem RowOk.less {M : Nat → Prop} {w : World} {G G' : GH} {b : Nat} {r : Row} (h : RowOk M w G b r) (hg : r.c ≠ 0 → G b = none → G' b = none) : RowOk M w G' b r := by
 refine ⟨h.1, ?_⟩
 rcases h.2 with h0 | ⟨o, h1, h2, h3, h4⟩
 ·exact .inl h0
 ·by_cases hc : r.c = 0
  ·exact .inl ⟨hc, by omega⟩
  ·exact .inr ⟨o, h1, h2, hg hc h3, h4⟩
def delL : Locs → Nat → Locs
 | [], _ => []
 | (j, l) :: r, i => (match Nat.beq j i with | true => delL r i | false => (j, l) :: delL r i)
theorem look_delL : ∀ (L : Locs) (i j : Nat), look (delL L i) j = if i = j then none else look L j
 | [], i, j => by simp [delL, look]
 | (m, l) :: r, i, j => by
  simp only [delL]
  split
  ·rename_i h
   have hm : m = i := Nat.eq_of_beq_eq_true h
   subst hm
   rw [look_delL r, look_cons]
   by_cases h2 : m = j <;> simp [h2]
  ·rename_i h
   have hm : m ≠ i := Nat.ne_of_beq_eq_false h
   rw [look_cons, look_cons, look_delL r]
   by_cases h2 : m = j
   ·subst h2; simp [Ne.symm hm]
   ·simp [h2]
abbrev lobj (l : Loc) : Obj := .cells l.cs.toArray l.T (0, 0)
theorem HInv.drop {C : Cx} {w : World} {G : GH} {bs : Nat → Nat} {L : Locs} {R : Rows} (hI : HInv C w G bs L R) {i : Nat} {l : Loc} (hl : look L i = some l) : HInv C w (join G (sgl (bs i) (lobj l))) bs (delL L i) R := by
 obtain ⟨h1, h2, h3⟩ := hI.loc i l hl
 have up : ∀ {j : Nat} {x : Loc}, look (delL L i) j = some x → i ≠ j ∧ look L j = some x := fun {j x} h => by
  rw [look_delL] at h
  by_cases hij : i = j
  ·simp [hij] at h
  ·simp [hij] at h; exact ⟨hij, h⟩
 have act : ∀ {j : Nat}, Acts (delL L i) R j → Acts L R j := fun h => by
  rcases h with ⟨x, hx⟩ | h
  ·exact .inl ⟨x, (up hx).2⟩
  ·exact .inr h
 have none : ∀ {j : Nat}, i ≠ j → Acts L R j → G (bs j) = none → join G (sgl (bs i) (lobj l)) (bs j) = none := fun {j} hij ha hg => by
  unfold join; rw [hg]
  exact sgl_ne _ (fun e => hI.inj i j hij (.inl ⟨l, hl⟩) ha e.symm)
 refine ⟨hI.keep, join_le hI.le (sgl_le h1), fun j x hx => ?_, fun j r hr => ?_, fun j m hjm ha hb => hI.inj j m hjm (act ha) (act hb), fun j x r hx hr => hI.dis j x r (up hx).2 hr, hI.pin, hI.nr⟩
 ·obtain ⟨hij, hx'⟩ := up hx
  obtain ⟨q1, q2, q3⟩ := hI.loc j x hx'
  exact ⟨q1, q2, none hij (.inl ⟨x, hx'⟩) q3⟩
 ·exact (hI.row j r hr).less fun hc hg => none (fun e => by subst e; exact hI.dis i l r hl hr) (.inr ⟨r, hr, hc⟩) hg
theorem HInv.take {C : Cx} {w : World} {G : GH} {bs : Nat → Nat} {L L' : Locs} {R : Rows} (hI : HInv C w G bs L R) {i : Nat} {l : Loc} (hL : ∀ j, look L' j = if i = j then some l else look L j) (hR : ∀ r, look R i ≠ some r) (hg : G (bs i) = some (lobj l)) (hM : C.M (bs i)) : HInv C w (cut G (sgl (bs i) (lobj l))) bs L' R := by
 have hcut : ∀ b, G b = none → cut G (sgl (bs i) (lobj l)) b = none := fun b h => cut_none' h
 have ne : ∀ {j : Nat}, G (bs j) = none → bs i ≠ bs j := fun h e => by rw [← e, hg] at h; cases h
 have gn : ∀ {j : Nat}, Acts L R j → G (bs j) = none := fun {j} ha => by
  rcases ha with ⟨x, hx⟩ | ⟨r, hr, hc⟩
  ·exact (hI.loc j x hx).2.2
  ·rcases (hI.row j r hr).2 with ⟨h0, _⟩ | ⟨_, _, _, h3, _⟩
   ·exact absurd h0 hc
   ·exact h3
 have act : ∀ {j : Nat}, i ≠ j → Acts L' R j → Acts L R j := fun {j} hij h => by
  rcases h with ⟨x, hx⟩ | h
  ·rw [hL, if_neg hij] at hx; exact .inl ⟨x, hx⟩
  ·exact .inr h
 refine ⟨hI.keep, (cut_le _ _).trans hI.le, fun j x hx => ?_, fun j r hr => (hI.row j r hr).less fun _ h => hcut _ h, fun j m hjm ha hb => ?_, fun j x r hx hr => ?_, hI.pin, hI.nr⟩
 ·rw [hL] at hx
  by_cases hij : i = j
  ·subst hij; simp at hx; subst hx
   exact ⟨hI.le _ _ hg, hM, cut_some' (sgl_self _ _)⟩
  ·simp [hij] at hx
   obtain ⟨q1, q2, q3⟩ := hI.loc j x hx
   exact ⟨q1, q2, hcut _ q3⟩
 ·by_cases hij : i = j
  ·subst hij
   exact ne (gn (act hjm hb))
  ·by_cases him : i = m
   ·subst him
    exact fun e => ne (gn (act hij ha)) e.symm
   ·exact hI.inj j m hjm (act hij ha) (act him hb)
 ·rw [hL] at hx
  by_cases hij : i = j
  ·subst hij; exact hR r hr
  ·simp [hij] at hx; exact hI.dis j x r hx hr
end Go.Stp

namespace Go.Stp
set_option linter.unusedVariables false
set_option linter.unusedSimpArgs false
def a0a : List Str → Int → Ctl (Int) (Int)
 | [], left2 => (Ctl.nxt left2)
 | e1 :: rest_, left2 =>
  bif decide (IntKind.i64.wrap (left2 - (((e1).size : Nat) : Int)) < 0) then
   (Ctl.ret (-1))
  else
   a0a rest_ (IntKind.i64.wrap (left2 - (((e1).size : Nat) : Int)))
def a0b (a : (List Str)) (left : Int) : Int :=
 bif decide (IntKind.i64.wrap (left - (((a).length : Nat) : Int)) < 0) then
  (-1)
 else
  match a0a a (IntKind.i64.wrap (left - (((a).length : Nat) : Int))) with
   | .ret r_ => r_
   | .nxt left2 =>
    left2
def a00 (a : Name) (left : Int) : Int :=
 bif decide ((a0b a.parts left) < 0) then
  (-1)
 else
  (a0b a.parts left)
def a0c (a : (List UInt8)) (left : Int) : Int :=
 bif decide (IntKind.i64.wrap (left - (((a).length : Nat) : Int)) < 0) then
  (-1)
 else
  (IntKind.i64.wrap (left - (((a).length : Nat) : Int)))
def a08 (a : DataP) (left : Int) : Int :=
 bif decide ((a00 a.name left) < 0) then
  (-1)
 else
  bif decide ((a0c a.content (a00 a.name left)) < 0) then
   (-1)
  else
   bif decide ((a00 a.keyName (a0c a.content (a00 a.name left))) < 0) then
    (-1)
   else
    (a00 a.keyName (a0c a.content (a00 a.name left)))
def a0d (a : Consumer) (left : Int) : Int :=
 bif decide ((a00 a.name left) < 0) then
  (-1)
 else
  bif decide ((a08 a.data (a00 a.name left)) < 0) then
   (-1)
  else
   (a08 a.data (a00 a.name left))
end Go.Stp

namespace Go.Proofs.YtolepebgdfdciaaDoor
open Go.Stp
set_option linter.unusedVariables false
set_option linter.unusedSimpArgs false
theorem f19 (w : World) (n : Nat) (a : (List Str)) (pa : Option Addr) (ca : Nat) (N0 : RdSl (hp w) pa ca a) (left : Int) (hoka : GoT.ok n a) (hokleft : GoT.ok n left) :
 Does Tryd.prog 19 #[.slice pa ((a).length) ca, .int .i64 (left)] w emp (fun (rv : Value) (_ : World) => rv = .int .i64 ((a0b a left)) ∧ GoT.ok n ((a0b a left) : Int)) := by
 refine WX.enter (tt := tt) (Γ := [(0, MF.rs .stb pa ca a)]) Tryd.func19 Z J Z (allS_cons Z N0 allS_nil) ?_
 refine R0 ?_
 refine WX.see Z Z Z (fun _ hΓ => looks_wrap Z Z Z Z) ?_
 refine R0 ?_
 refine WX.cases 11 Z (fun h1 => ?_) (fun h1 => ?_)
 ·skip
  have h1d := B.dt h1
  refine R0 ?_
  have hP1 : a0b a left = (-1) := by simp only [a0b, h1, ct, cf]
  refine R1 ?_
  intro w1 G bs hI hΓ
  rw [hP1]
  exact ⟨Z, (show I64 (-1) from (by unfold I64; omega))⟩
 have h1d := B.df h1
 refine R0 ?_
 have r1 : (a).length ≤ bd n := (okl hoka).1
 have r2 : (a).length ≤ 9223372036854775807 := N0.2.1
 refine WX.loop (ι := Int × Nat) ⟨fun | (left2, i) => (i ≤ (a).length) ∧ (-9223372036854775808 ≤ left2 ∧ left2 ≤ 9223372036854775807) ∧ (a0a a (IntKind.i64.wrap (left - (((a).length : Nat) : Int))) = a0a ((a).drop i) left2), fun | (left2, i) => (a).length - i, fun | (left2, i) => [(1, .v (.int .i64 (left2))), (5, .v (.int .i64 (((i : Nat) : Int)))), (0, .v (.slice pa ((a).length) ca))], fun | (left2, i) => [], fun | (left2, i) => [], fun | (left2, i) => [(0, MF.rs .stb pa ca a)]⟩ (IntKind.i64.wrap (left - (((a).length : Nat) : Int)), 0) ⟨(Nat.zero_le _), (i64_wrap _), Z⟩
  (.cons Z (.cons Z (.cons Z (.nil)))) .nil .nil [0] Z ?_
 rintro ⟨left2, i⟩ hpre
 have hpre_ : (i ≤ (a).length) ∧ (-9223372036854775808 ≤ left2 ∧ left2 ≤ 9223372036854775807) ∧ (a0a a (IntKind.i64.wrap (left - (((a).length : Nat) : Int))) = a0a ((a).drop i) left2) := hpre
 clear hpre
 obtain ⟨v1, v2, v3⟩ := hpre_
 refine R0 ?_
 refine WX.cases 15 Z (fun h2 => ?_) (fun h2 => ?_)
 ·skip
  have h2d := B.dt h2
  have e1i : i < (a).length := (by omega)
  obtain ⟨e1, e1h⟩ : ∃ e1, (a)[i]? = some e1 := ⟨_, List.getElem?_eq_getElem e1i⟩
  have ok1 : GoT.ok n e1 := (okl hoka).2 _ (List.mem_of_getElem? e1h)
  refine R0 ?_
  refine WX.idx 0 i ttOk Z Z Z Z Z Z Z Z Z Z e1i ?_
  rintro ad1 rfl
  refine WX.ldE 0 1 e1 ttOk Z Z Z Z Z Z Z Z e1h O O ?_
  rintro ⟨⟩
  refine R0 ?_
  refine WX.see Z Z Z (fun _ hΓ => looks_wrap Z Z Z Z) ?_
  refine R0 ?_
  refine WX.cases 26 Z (fun h3 => ?_) (fun h3 => ?_)
  ·skip
   have h3d := B.dt h3
   refine R0 ?_
   have hP2 : a0a a (IntKind.i64.wrap (left - (((a).length : Nat) : Int))) = (Ctl.ret (-1)) := by rw [v3, drop_get e1h]; simp only [a0a, h3, ct, cf]
   have hP3 : a0b a left = (-1) := by simp only [a0b, h1, hP2, ct, cf]
   refine R1 ?_
   intro w1 G bs hI hΓ
   rw [hP3]
   exact ⟨Z, (show I64 (-1) from (by unfold I64; omega))⟩
  have h3d := B.df h3
  refine R0 ?_
  refine WX.see Z Z Z (fun _ hΓ => looks_arith Z Z Z Z (by unfold I64; first | omega | (simp only [List.length_take] at *; omega))) ?_
  refine R0 ?_
  exact WX.iter (IntKind.i64.wrap (left2 - (((e1).size : Nat) : Int)), i + 1) ⟨(by omega), (i64_wrap _), (by rw [v3, drop_get e1h]; simp only [a0a, h3, ct, cf])⟩ (by first | (dsimp only; omega) | omega) (.cons Z (.cons Z (.cons Z (.nil)))) .nil .nil [0] Z
 have h2d := B.df h2
 refine R0 ?_
 have hX1 : a0a a (IntKind.i64.wrap (left - (((a).length : Nat) : Int))) = (Ctl.nxt left2) := by rw [v3, List.drop_eq_nil_of_le (show (a).length ≤ i by omega)]; simp only [a0a, ct, cf]
 have hP4 : a0b a left = left2 := by simp only [a0b, h1, hX1, ct, cf]
 refine R1 ?_
 intro w1 G bs hI hΓ
 rw [hP4]
 exact ⟨Z, v2⟩
theorem f9 (w : World) (n : Nat) (a : Name) (pa : Option Addr) (ca : Nat) (N0 : RdSl (hp w) pa ca a.parts) (left : Int) (hoka : GoT.ok n a) (hokleft : GoT.ok n left) :
 Does Tryd.prog 9 #[.agg #[.slice pa ((a.parts).length) ca], .int .i64 (left)] w emp (fun (rv : Value) (_ : World) => rv = .int .i64 ((a00 a left)) ∧ GoT.ok n ((a00 a left) : Int)) := by
 refine WX.enter (tt := tt) (Γ := [(0, MF.rs .stb pa ca a.parts)]) Tryd.func9 Z J Z (allS_cons Z N0 allS_nil) ?_
 refine R0 ?_
 refine WX.callV Z Z Z Z Z O Z (fun w G bs hI hΓ => f19 w n a.parts pa ca (hΓ.get 0 Z) left (ok_Name hoka) hokleft) ?_
 intro hq1
 refine R0 ?_
 refine WX.cases 10 Z (fun h1 => ?_) (fun h1 => ?_)
 ·skip
  have h1d := B.dt h1
  refine R0 ?_
  have hP1 : a00 a left = (-1) := by simp only [a00, h1, ct, cf]
  refine R1 ?_
  intro w1 G bs hI hΓ
  rw [hP1]
  exact ⟨Z, (show I64 (-1) from (by unfold I64; omega))⟩
 have h1d := B.df h1
 refine R0 ?_
 have hP2 : a00 a left = (a0b a.parts left) := by simp only [a00, h1, ct, cf]
 refine R1 ?_
 intro w1 G bs hI hΓ
 rw [hP2]
 exact ⟨Z, hq1⟩
theorem f20 (w : World) (n : Nat) (a : (List UInt8)) (pa : Option Addr) (ca : Nat) (N0 : RdSl (hp w) pa ca a) (left : Int) (hoka : GoT.ok n a) (hokleft : GoT.ok n left) :
 Does Tryd.prog 20 #[.slice pa ((a).length) ca, .int .i64 (left)] w emp (fun (rv : Value) (_ : World) => rv = .int .i64 ((a0c a left)) ∧ GoT.ok n ((a0c a left) : Int)) := by
 refine WX.enter (tt := tt) (Γ := [(0, MF.rs .stb pa ca a)]) Tryd.func20 Z J Z (allS_cons Z N0 allS_nil) ?_
 refine R0 ?_
 refine WX.see Z Z Z (fun _ hΓ => looks_wrap Z Z Z Z) ?_
 refine R0 ?_
 refine WX.cases 10 Z (fun h1 => ?_) (fun h1 => ?_)
 ·skip
  have h1d := B.dt h1
  refine R0 ?_
  have hP1 : a0c a left = (-1) := by simp only [a0c, h1, ct, cf]
  refine R1 ?_
  intro w1 G bs hI hΓ
  rw [hP1]
  exact ⟨Z, (show I64 (-1) from (by unfold I64; omega))⟩
 have h1d := B.df h1
 refine R0 ?_
 have hP2 : a0c a left = (IntKind.i64.wrap (left - (((a).length : Nat) : Int))) := by simp only [a0c, h1, ct, cf]
 refine R1 ?_
 intro w1 G bs hI hΓ
 rw [hP2]
 exact ⟨Z, (i64_wrap _)⟩
theorem f10 (w : World) (n : Nat) (a : DataP) (K0 : Option Addr) (M0 : Nat) (N0 : RdSl (hp w) K0 M0 a.name.parts) (K1 : Option Addr) (M1 : Nat) (N1 : RdSl (hp w) K1 M1 a.content) (K2 : Option Addr) (M2 : Nat) (N2 : RdSl (hp w) K2 M2 a.keyName.parts) (left : Int) (hoka : GoT.ok n a) (hokleft : GoT.ok n left) :
 Does Tryd.prog 10 #[.agg #[.slice K0 ((a.name.parts).length) M0, .slice K1 ((a.content).length) M1, .slice K2 ((a.keyName.parts).length) M2, .int .i64 (a.freshUntil), .int .i64 (a.signature)], .int .i64 (left)] w emp (fun (rv : Value) (_ : World) => rv = .int .i64 ((a08 a left)) ∧ GoT.ok n ((a08 a left) : Int)) := by
 refine WX.enter (tt := tt) (Γ := [(0, MF.rs .stb K0 M0 a.name.parts), (1, MF.rs .stb K1 M1 a.content), (2, MF.rs .stb K2 M2 a.keyName.parts)]) Tryd.func10 Z J Z (allS_cons Z N0 (allS_cons Z N1 (allS_cons Z N2 allS_nil))) ?_
 refine R0 ?_
 refine WX.callV Z Z Z Z Z O Z (fun w G bs hI hΓ => f9 w n a.name K0 M0 (hΓ.get 0 Z) left ((ok_DataP hoka).1) hokleft) ?_
 intro hq1
 refine R0 ?_
 refine WX.cases 10 Z (fun h1 => ?_) (fun h1 => ?_)
 ·skip
  have h1d := B.dt h1
  refine R0 ?_
  have hP1 : a08 a left = (-1) := by simp only [a08, h1, ct, cf]
  refine R1 ?_
  intro w1 G bs hI hΓ
  rw [hP1]
  exact ⟨Z, (show I64 (-1) from (by unfold I64; omega))⟩
 have h1d := B.df h1
 refine R0 ?_
 refine WX.callV Z Z Z Z Z O Z (fun w G bs hI hΓ => f20 w n a.content K1 M1 (hΓ.get 1 Z) (a00 a.name left) ((ok_DataP hoka).2.1) hq1) ?_
 intro hq2
 refine R0 ?_
 refine WX.cases 16 Z (fun h2 => ?_) (fun h2 => ?_)
 ·skip
  have h2d := B.dt h2
  refine R0 ?_
  have hP2 : a08 a left = (-1) := by simp only [a08, h1, h2, ct, cf]
  refine R1 ?_
  intro w1 G bs hI hΓ
  rw [hP2]
  exact ⟨Z, (show I64 (-1) from (by unfold I64; omega))⟩
 have h2d := B.df h2
 refine R0 ?_
 refine WX.callV Z Z Z Z Z O Z (fun w G bs hI hΓ => f9 w n a.keyName K2 M2 (hΓ.get 2 Z) (a0c a.content (a00 a.name left)) ((ok_DataP hoka).2.2.1) hq2) ?_
 intro hq3
 refine R0 ?_
 refine WX.cases 22 Z (fun h3 => ?_) (fun h3 => ?_)
 ·skip
  have h3d := B.dt h3
  refine R0 ?_
  have hP3 : a08 a left = (-1) := by simp only [a08, h1, h2, h3, ct, cf]
  refine R1 ?_
  intro w1 G bs hI hΓ
  rw [hP3]
  exact ⟨Z, (show I64 (-1) from (by unfold I64; omega))⟩
 have h3d := B.df h3
 refine R0 ?_
 have hP4 : a08 a left = (a00 a.keyName (a0c a.content (a00 a.name left))) := by simp only [a08, h1, h2, h3, ct, cf]
 refine R1 ?_
 intro w1 G bs hI hΓ
 rw [hP4]
 exact ⟨Z, hq3⟩
theorem f4 (w : World) (n : Nat) (a : Consumer) (K0 : Option Addr) (M0 : Nat) (N0 : RdSl (hp w) K0 M0 a.name.parts) (K1 : Option Addr) (M1 : Nat) (N1 : RdSl (hp w) K1 M1 a.data.name.parts) (K2 : Option Addr) (M2 : Nat) (N2 : RdSl (hp w) K2 M2 a.data.content) (K3 : Option Addr) (M3 : Nat) (N3 : RdSl (hp w) K3 M3 a.data.keyName.parts) (left : Int) (hoka : GoT.ok n a) (hokleft : GoT.ok n left) :
 Does Tryd.prog 4 #[.agg #[.int .i64 (a.node), .int .i64 (a.index), .slice K0 ((a.name.parts).length) M0, .int .i64 (a.attempts), .int .i64 (a.wait), .bool a.satisfied, .slice K1 ((a.data.name.parts).length) M1, .slice K2 ((a.data.content).length) M2, .slice K3 ((a.data.keyName.parts).length) M3, .int .i64 (a.data.freshUntil), .int .i64 (a.data.signature)], .int .i64 (left)] w emp (fun (rv : Value) (_ : World) => rv = .int .i64 ((a0d a left)) ∧ GoT.ok n ((a0d a left) : Int)) := by
 refine WX.enter (tt := tt) (Γ := [(0, MF.rs .stb K0 M0 a.name.parts), (1, MF.rs .stb K1 M1 a.data.name.parts), (2, MF.rs .stb K2 M2 a.data.content), (3, MF.rs .stb K3 M3 a.data.keyName.parts)]) Tryd.func4 Z J Z (allS_cons Z N0 (allS_cons Z N1 (allS_cons Z N2 (allS_cons Z N3 allS_nil)))) ?_
 refine R0 ?_
 refine WX.callV Z Z Z Z Z O Z (fun w G bs hI hΓ => f9 w n a.name K0 M0 (hΓ.get 0 Z) left ((ok_Consumer hoka).2.2.1) hokleft) ?_
 intro hq1
 refine R0 ?_
 refine WX.cases 10 Z (fun h1 => ?_) (fun h1 => ?_)
 ·skip
  have h1d := B.dt h1
  refine R0 ?_
  have hP1 : a0d a left = (-1) := by simp only [a0d, h1, ct, cf]
  refine R1 ?_
  intro w1 G bs hI hΓ
  rw [hP1]
  exact ⟨Z, (show I64 (-1) from (by unfold I64; omega))⟩
 have h1d := B.df h1
 refine R0 ?_
 refine WX.callV Z Z Z Z Z O Z (fun w G bs hI hΓ => f10 w n a.data K1 M1 (hΓ.get 1 Z) K2 M2 (hΓ.get 2 Z) K3 M3 (hΓ.get 3 Z) (a00 a.name left) ((ok_Consumer hoka).2.2.2.2.2.2) hq1) ?_
 intro hq2
 refine R0 ?_
 refine WX.cases 16 Z (fun h2 => ?_) (fun h2 => ?_)
 ·skip
  have h2d := B.dt h2
  refine R0 ?_
  have hP2 : a0d a left = (-1) := by simp only [a0d, h1, h2, ct, cf]
  refine R1 ?_
  intro w1 G bs hI hΓ
  rw [hP2]
  exact ⟨Z, (show I64 (-1) from (by unfold I64; omega))⟩
 have h2d := B.df h2
 refine R0 ?_
 have hP3 : a0d a left = (a08 a.data (a00 a.name left)) := by simp only [a0d, h1, h2, ct, cf]
 refine R1 ?_
 intro w1 G bs hI hΓ
 rw [hP3]
 exact ⟨Z, hq2⟩
end Go.Proofs.YtolepebgdfdciaaDoor

namespace Go.Stp
set_option linter.unusedVariables false
set_option linter.unusedSimpArgs false
def a0e (b : (List Str)) : List Str → Nat → Option (Bool)
 | [], i => none
 | e1 :: rest_, i =>
  match (b)[i]? with
   | none => default
   | some e2 =>
    bif (!((e1).toList == (e2).toList)) then
     (some false)
    else
     a0e b rest_ (i + 1)
def a0l (a : (List Str)) (b : (List Str)) : Bool :=
 bif ((((a).length : Nat) : Int) != (((b).length : Nat) : Int)) then
  false
 else
  match a0e b a 0 with
   | some r_ => r_
   | none =>
    true
def a0m (a : Name) (b : Name) : Bool :=
 bif (!(a0l a.parts b.parts)) then
  false
 else
  true
def a0f (b : (List UInt8)) : List UInt8 → Nat → Option (Bool)
 | [], i => none
 | e1 :: rest_, i =>
  match (b)[i]? with
   | none => default
   | some e2 =>
    bif (((e1).toNat : Int) != ((e2).toNat : Int)) then
     (some false)
    else
     a0f b rest_ (i + 1)
def a0n (a : (List UInt8)) (b : (List UInt8)) : Bool :=
 bif ((((a).length : Nat) : Int) != (((b).length : Nat) : Int)) then
  false
 else
  match a0f b a 0 with
   | some r_ => r_
   | none =>
    true
def a05 (a : DataP) (b : DataP) : Bool :=
 bif (!(a0m a.name b.name)) then
  false
 else
  bif (!(a0n a.content b.content)) then
   false
  else
   bif (!(a0m a.keyName b.keyName)) then
    false
   else
    bif (a.freshUntil != b.freshUntil) then
     false
    else
     bif (a.signature != b.signature) then
      false
     else
      true
def a02 (a : Consumer) (b : Consumer) : Bool :=
 bif (a.node != b.node) then
  false
 else
  bif (a.index != b.index) then
   false
  else
   bif (!(a0m a.name b.name)) then
    false
   else
    bif (a.attempts != b.attempts) then
     false
    else
     bif (a.wait != b.wait) then
      false
     else
      bif (!(a.satisfied == b.satisfied)) then
       false
      else
       bif (!(a05 a.data b.data)) then
        false
       else
        true
end Go.Stp

namespace Go.Proofs.YtolepebgdfdciaaDoor
open Go.Stp
set_option linter.unusedVariables false
set_option linter.unusedSimpArgs false
theorem f25 (w : World) (n : Nat) (hn : n + 0 ≤ 9) (a : (List Str)) (pa : Option Addr) (ca : Nat) (N0 : RdSl (hp w) pa ca a) (b : (List Str)) (pb : Option Addr) (cb : Nat) (N1 : RdSl (hp w) pb cb b) (hoka : GoT.ok n a) (hokb : GoT.ok n b) :
 Does Tryd.prog 25 #[.slice pa ((a).length) ca, .slice pb ((b).length) cb] w emp (fun (rv : Value) (_ : World) => rv = .bool (a0l a b) ∧ True) := by
 have hbP := bd_pos n
 have hbB := bd_big (n := n) (by omega)
 refine WX.enter (tt := tt) (Γ := [(0, MF.rs .stb pa ca a), (1, MF.rs .stb pb cb b)]) Tryd.func25 Z J Z (allS_cons Z N0 (allS_cons Z N1 allS_nil)) ?_
 refine R0 ?_
 refine WX.cases 10 Z (fun h1 => ?_) (fun h1 => ?_)
 ·skip
  have h1d := B.nt' h1
  refine R0 ?_
  have hP1 : a0l a b = false := by simp only [a0l, h1, ct, cf]
  exact R3 hP1
 have h1d := B.nf' h1
 refine R0 ?_
 have r1 : (a).length ≤ bd n := (okl hoka).1
 refine WX.loop (ι := Nat) ⟨fun i => (i ≤ (a).length) ∧ (a0e b a 0 = a0e b ((a).drop i) i), fun i => (a).length - i, fun i => [(5, .v (.int .i64 (((i : Nat) : Int)))), (0, .v (.slice pa ((a).length) ca)), (1, .v (.slice pb ((b).length) cb))], fun i => [], fun i => [], fun i => [(0, MF.rs .stb pa ca a), (1, MF.rs .stb pb cb b)]⟩ 0 ⟨(Nat.zero_le _), Z⟩
  (.cons Z (.cons Z (.cons Z (.nil)))) .nil .nil [0, 1] Z ?_
 rintro i hpre
 have hpre_ : (i ≤ (a).length) ∧ (a0e b a 0 = a0e b ((a).drop i) i) := hpre
 clear hpre
 obtain ⟨v1, v2⟩ := hpre_
 refine R0 ?_
 refine WX.cases 14 Z (fun h2 => ?_) (fun h2 => ?_)
 ·skip
  have h2d := B.dt h2
  have e1i : i < (a).length := (by omega)
  obtain ⟨e1, e1h⟩ : ∃ e1, (a)[i]? = some e1 := ⟨_, List.getElem?_eq_getElem e1i⟩
  have ok1 : GoT.ok n e1 := (okl hoka).2 _ (List.mem_of_getElem? e1h)
  refine R0 ?_
  refine WX.draw [] mixed ?_
  intro bs G0 hΓ0
  refine DX.takes (fuel := 7) ttOk [(0, true), (1, true)] J Z ?_
  refine DX.idx 2 0 i ttOk hΓ0 J Z Z Z Z Z Z Z Z Z Z Z e1i ?_
  rintro ad1 rfl
  refine DX.ldE 3 0 2 e1 ttOk hΓ0 J Z Z Z Z Z Z Z Z e1h O O ?_
  rintro ⟨⟩
  refine DX.takes (fuel := 3) ttOk [(4, true), (5, true)] J Z ?_
  have e2i : i < (b).length := (by first | assumption | omega)
  obtain ⟨e2, e2h⟩ : ∃ e2, (b)[i]? = some e2 := ⟨_, List.getElem?_eq_getElem e2i⟩
  have ok2 : GoT.ok n e2 := (okl hokb).2 _ (List.mem_of_getElem? e2h)
  refine DX.idx 6 1 i ttOk hΓ0 J Z Z Z Z Z Z Z Z Z Z Z e2i ?_
  rintro ad2 rfl
  refine DX.ldE 7 1 2 e2 ttOk hΓ0 J Z Z Z Z Z Z Z Z e2h O O ?_
  rintro ⟨⟩
  refine DX.takes (fuel := 0) ttOk [(8, true)] J Z ?_
  refine DX.tail2 [] Z Z J ?_
  refine R0 ?_
  refine WX.cases 25 Z (fun h3 => ?_) (fun h3 => ?_)
  ·skip
   have h3d := B.ef (B.nt h3)
   refine R0 ?_
   have hP2 : a0e b a 0 = (some false) := by rw [v2, drop_get e1h]; simp only [a0e, e2h, h3, ct, cf]
   have hP3 : a0l a b = false := by simp only [a0l, h1, hP2, ct, cf]
   exact R3 hP3
  have h3d := B.et (B.nf h3)
  refine R0 ?_
  refine WX.see Z Z Z (fun _ hΓ => looks_arith Z Z Z Z (by unfold I64; first | omega | (simp only [List.length_take] at *; omega))) ?_
  refine R0 ?_
  exact WX.iter (i + 1) ⟨(by omega), (by rw [v2, drop_get e1h]; simp only [a0e, e2h, h3, ct, cf])⟩ (by first | (dsimp only; omega) | omega) (.cons Z (.cons Z (.cons Z (.nil)))) .nil .nil [0, 1] Z
 have h2d := B.df h2
 refine R0 ?_
 have hX1 : a0e b a 0 = none := by rw [v2, List.drop_eq_nil_of_le (show (a).length ≤ i by omega)]; simp only [a0e, ct, cf]
 have hP4 : a0l a b = true := by simp only [a0l, h1, hX1, ct, cf]
 exact R3 hP4
theorem f17 (w : World) (n : Nat) (hn : n + 0 ≤ 9) (a : Name) (pa : Option Addr) (ca : Nat) (N0 : RdSl (hp w) pa ca a.parts) (b : Name) (pb : Option Addr) (cb : Nat) (N1 : RdSl (hp w) pb cb b.parts) (hoka : GoT.ok n a) (hokb : GoT.ok n b) :
 Does Tryd.prog 17 #[.agg #[.slice pa ((a.parts).length) ca], .agg #[.slice pb ((b.parts).length) cb]] w emp (fun (rv : Value) (_ : World) => rv = .bool (a0m a b) ∧ True) := by
 have hbP := bd_pos n
 have hbB := bd_big (n := n) (by omega)
 refine WX.enter (tt := tt) (Γ := [(0, MF.rs .stb pa ca a.parts), (1, MF.rs .stb pb cb b.parts)]) Tryd.func17 Z J Z (allS_cons Z N0 (allS_cons Z N1 allS_nil)) ?_
 refine R0 ?_
 refine WX.callV Z Z Z Z Z O Z (fun w G bs hI hΓ => f25 w n (by omega) a.parts pa ca (hΓ.get 0 Z) b.parts pb cb (hΓ.get 1 Z) (ok_Name hoka) (ok_Name hokb)) ?_
 intro hq1
 refine R0 ?_
 refine WX.cases 10 Z (fun h1 => ?_) (fun h1 => ?_)
 ·skip
  have h1d := (B.nt h1)
  refine R0 ?_
  have hP1 : a0m a b = false := by simp only [a0m, h1, ct, cf]
  exact R3 hP1
 have h1d := (B.nf h1)
 refine R0 ?_
 have hP2 : a0m a b = true := by simp only [a0m, h1, ct, cf]
 exact R3 hP2
theorem f26 (w : World) (n : Nat) (hn : n + 0 ≤ 9) (a : (List UInt8)) (pa : Option Addr) (ca : Nat) (N0 : RdSl (hp w) pa ca a) (b : (List UInt8)) (pb : Option Addr) (cb : Nat) (N1 : RdSl (hp w) pb cb b) (hoka : GoT.ok n a) (hokb : GoT.ok n b) :
 Does Tryd.prog 26 #[.slice pa ((a).length) ca, .slice pb ((b).length) cb] w emp (fun (rv : Value) (_ : World) => rv = .bool (a0n a b) ∧ True) := by
 have hbP := bd_pos n
 have hbB := bd_big (n := n) (by omega)
 refine WX.enter (tt := tt) (Γ := [(0, MF.rs .stb pa ca a), (1, MF.rs .stb pb cb b)]) Tryd.func26 Z J Z (allS_cons Z N0 (allS_cons Z N1 allS_nil)) ?_
 refine R0 ?_
 refine WX.cases 10 Z (fun h1 => ?_) (fun h1 => ?_)
 ·skip
  have h1d := B.nt' h1
  refine R0 ?_
  have hP1 : a0n a b = false := by simp only [a0n, h1, ct, cf]
  exact R3 hP1
 have h1d := B.nf' h1
 refine R0 ?_
 have r1 : (a).length ≤ bd n := (okl hoka).1
 refine WX.loop (ι := Nat) ⟨fun i => (i ≤ (a).length) ∧ (a0f b a 0 = a0f b ((a).drop i) i), fun i => (a).length - i, fun i => [(5, .v (.int .i64 (((i : Nat) : Int)))), (0, .v (.slice pa ((a).length) ca)), (1, .v (.slice pb ((b).length) cb))], fun i => [], fun i => [], fun i => [(0, MF.rs .stb pa ca a), (1, MF.rs .stb pb cb b)]⟩ 0 ⟨(Nat.zero_le _), Z⟩
  (.cons Z (.cons Z (.cons Z (.nil)))) .nil .nil [0, 1] Z ?_
 rintro i hpre
 have hpre_ : (i ≤ (a).length) ∧ (a0f b a 0 = a0f b ((a).drop i) i) := hpre
 clear hpre
 obtain ⟨v1, v2⟩ := hpre_
 refine R0 ?_
 refine WX.cases 14 Z (fun h2 => ?_) (fun h2 => ?_)
 ·skip
  have h2d := B.dt h2
  have e1i : i < (a).length := (by omega)
  obtain ⟨e1, e1h⟩ : ∃ e1, (a)[i]? = some e1 := ⟨_, List.getElem?_eq_getElem e1i⟩
  refine R0 ?_
  refine WX.draw [] mixed ?_
  intro bs G0 hΓ0
  refine DX.takes (fuel := 7) ttOk [(0, true), (1, true)] J Z ?_
  refine DX.idx 2 0 i ttOk hΓ0 J Z Z Z Z Z Z Z Z Z Z Z e1i ?_
  rintro ad1 rfl
  refine DX.ldE 3 0 2 e1 ttOk hΓ0 J Z Z Z Z Z Z Z Z e1h O O ?_
  rintro ⟨⟩
  refine DX.takes (fuel := 3) ttOk [(4, true), (5, true)] J Z ?_
  have e2i : i < (b).length := (by first | assumption | omega)
  obtain ⟨e2, e2h⟩ : ∃ e2, (b)[i]? = some e2 := ⟨_, List.getElem?_eq_getElem e2i⟩
  refine DX.idx 6 1 i ttOk hΓ0 J Z Z Z Z Z Z Z Z Z Z Z e2i ?_
  rintro ad2 rfl
  refine DX.ldE 7 1 2 e2 ttOk hΓ0 J Z Z Z Z Z Z Z Z e2h O O ?_
  rintro ⟨⟩
  refine DX.takes (fuel := 0) ttOk [(8, true)] J Z ?_
  refine DX.tail2 [] Z Z J ?_
  refine R0 ?_
  refine WX.cases 25 Z (fun h3 => ?_) (fun h3 => ?_)
  ·skip
   have h3d := B.nt' h3
   refine R0 ?_
   have hP2 : a0f b a 0 = (some false) := by rw [v2, drop_get e1h]; simp only [a0f, e2h, h3, ct, cf]
   have hP3 : a0n a b = false := by simp only [a0n, h1, hP2, ct, cf]
   exact R3 hP3
  have h3d := B.nf' h3
  refine R0 ?_
  refine WX.see Z Z Z (fun _ hΓ => looks_arith Z Z Z Z (by unfold I64; first | omega | (simp only [List.length_take] at *; omega))) ?_
  refine R0 ?_
  exact WX.iter (i + 1) ⟨(by omega), (by rw [v2, drop_get e1h]; simp only [a0f, e2h, h3, ct, cf])⟩ (by first | (dsimp only; omega) | omega) (.cons Z (.cons Z (.cons Z (.nil)))) .nil .nil [0, 1] Z
 have h2d := B.df h2
 refine R0 ?_
 have hX1 : a0f b a 0 = none := by rw [v2, List.drop_eq_nil_of_le (show (a).length ≤ i by omega)]; simp only [a0f, ct, cf]
 have hP4 : a0n a b = true := by simp only [a0n, h1, hX1, ct, cf]
 exact R3 hP4
theorem f18 (w : World) (n : Nat) (hn : n + 0 ≤ 9) (a : DataP) (K0 : Option Addr) (M0 : Nat) (N0 : RdSl (hp w) K0 M0 a.name.parts) (K1 : Option Addr) (M1 : Nat) (N1 : RdSl (hp w) K1 M1 a.content) (K2 : Option Addr) (M2 : Nat) (N2 : RdSl (hp w) K2 M2 a.keyName.parts) (b : DataP) (K3 : Option Addr) (M3 : Nat) (N3 : RdSl (hp w) K3 M3 b.name.parts) (K4 : Option Addr) (M4 : Nat) (N4 : RdSl (hp w) K4 M4 b.content) (K5 : Option Addr) (M5 : Nat) (N5 : RdSl (hp w) K5 M5 b.keyName.parts) (hoka : GoT.ok n a) (hokb : GoT.ok n b) :
 Does Tryd.prog 18 #[.agg #[.slice K0 ((a.name.parts).length) M0, .slice K1 ((a.content).length) M1, .slice K2 ((a.keyName.parts).length) M2, .int .i64 (a.freshUntil), .int .i64 (a.signature)], .agg #[.slice K3 ((b.name.parts).length) M3, .slice K4 ((b.content).length) M4, .slice K5 ((b.keyName.parts).length) M5, .int .i64 (b.freshUntil), .int .i64 (b.signature)]] w emp (fun (rv : Value) (_ : World) => rv = .bool (a05 a b) ∧ True) := by
 have hbP := bd_pos n
 have hbB := bd_big (n := n) (by omega)
 refine WX.enter (tt := tt) (Γ := [(0, MF.rs .stb K0 M0 a.name.parts), (1, MF.rs .stb K1 M1 a.content), (2, MF.rs .stb K2 M2 a.keyName.parts), (3, MF.rs .stb K3 M3 b.name.parts), (4, MF.rs .stb K4 M4 b.content), (5, MF.rs .stb K5 M5 b.keyName.parts)]) Tryd.func18 Z J Z (allS_cons Z N0 (allS_cons Z N1 (allS_cons Z N2 (allS_cons Z N3 (allS_cons Z N4 (allS_cons Z N5 allS_nil)))))) ?_
 refine R0 ?_
 refine WX.callV Z Z Z Z Z O Z (fun w G bs hI hΓ => f17 w n (by omega) a.name K0 M0 (hΓ.get 0 Z) b.name K3 M3 (hΓ.get 3 Z) ((ok_DataP hoka).1) ((ok_DataP hokb).1)) ?_
 intro hq1
 refine R0 ?_
 refine WX.cases 10 Z (fun h1 => ?_) (fun h1 => ?_)
 ·skip
  have h1d := (B.nt h1)
  refine R0 ?_
  have hP1 : a05 a b = false := by simp only [a05, h1, ct, cf]
  exact R3 hP1
 have h1d := (B.nf h1)
 refine R0 ?_
 refine WX.callV Z Z Z Z Z O Z (fun w G bs hI hΓ => f26 w n (by omega) a.content K1 M1 (hΓ.get 1 Z) b.content K4 M4 (hΓ.get 4 Z) ((ok_DataP hoka).2.1) ((ok_DataP hokb).2.1)) ?_
 intro hq2
 refine R0 ?_
 refine WX.cases 16 Z (fun h2 => ?_) (fun h2 => ?_)
 ·skip
  have h2d := (B.nt h2)
  refine R0 ?_
  have hP2 : a05 a b = false := by simp only [a05, h1, h2, ct, cf]
  exact R3 hP2
 have h2d := (B.nf h2)
 refine R0 ?_
 refine WX.callV Z Z Z Z Z O Z (fun w G bs hI hΓ => f17 w n (by omega) a.keyName K2 M2 (hΓ.get 2 Z) b.keyName K5 M5 (hΓ.get 5 Z) ((ok_DataP hoka).2.2.1) ((ok_DataP hokb).2.2.1)) ?_
 intro hq3
 refine R0 ?_
 refine WX.cases 22 Z (fun h3 => ?_) (fun h3 => ?_)
 ·skip
  have h3d := (B.nt h3)
  refine R0 ?_
  have hP3 : a05 a b = false := by simp only [a05, h1, h2, h3, ct, cf]
  exact R3 hP3
 have h3d := (B.nf h3)
 refine R0 ?_
 refine WX.cases 27 Z (fun h4 => ?_) (fun h4 => ?_)
 ·skip
  have h4d := B.nt' h4
  refine R0 ?_
  have hP4 : a05 a b = false := by simp only [a05, h1, h2, h3, h4, ct, cf]
  exact R3 hP4
 have h4d := B.nf' h4
 refine R0 ?_
 refine WX.cases 32 Z (fun h5 => ?_) (fun h5 => ?_)
 ·skip
  have h5d := B.nt' h5
  refine R0 ?_
  have hP5 : a05 a b = false := by simp only [a05, h1, h2, h3, h4, h5, ct, cf]
  exact R3 hP5
 have h5d := B.nf' h5
 refine R0 ?_
 have hP6 : a05 a b = true := by simp only [a05, h1, h2, h3, h4, h5, ct, cf]
 exact R3 hP6
theorem f8 (w : World) (n : Nat) (hn : n + 0 ≤ 9) (a : Consumer) (K0 : Option Addr) (M0 : Nat) (N0 : RdSl (hp w) K0 M0 a.name.parts) (K1 : Option Addr) (M1 : Nat) (N1 : RdSl (hp w) K1 M1 a.data.name.parts) (K2 : Option Addr) (M2 : Nat) (N2 : RdSl (hp w) K2 M2 a.data.content) (K3 : Option Addr) (M3 : Nat) (N3 : RdSl (hp w) K3 M3 a.data.keyName.parts) (b : Consumer) (K4 : Option Addr) (M4 : Nat) (N4 : RdSl (hp w) K4 M4 b.name.parts) (K5 : Option Addr) (M5 : Nat) (N5 : RdSl (hp w) K5 M5 b.data.name.parts) (K6 : Option Addr) (M6 : Nat) (N6 : RdSl (hp w) K6 M6 b.data.content) (K7 : Option Addr) (M7 : Nat) (N7 : RdSl (hp w) K7 M7 b.data.keyName.parts) (hoka : GoT.ok n a) (hokb : GoT.ok n b) :
 Does Tryd.prog 8 #[.agg #[.int .i64 (a.node), .int .i64 (a.index), .slice K0 ((a.name.parts).length) M0, .int .i64 (a.attempts), .int .i64 (a.wait), .bool a.satisfied, .slice K1 ((a.data.name.parts).length) M1, .slice K2 ((a.data.content).length) M2, .slice K3 ((a.data.keyName.parts).length) M3, .int .i64 (a.data.freshUntil), .int .i64 (a.data.signature)], .agg #[.int .i64 (b.node), .int .i64 (b.index), .slice K4 ((b.name.parts).length) M4, .int .i64 (b.attempts), .int .i64 (b.wait), .bool b.satisfied, .slice K5 ((b.data.name.parts).length) M5, .slice K6 ((b.data.content).length) M6, .slice K7 ((b.data.keyName.parts).length) M7, .int .i64 (b.data.freshUntil), .int .i64 (b.data.signature)]] w emp (fun (rv : Value) (_ : World) => rv = .bool (a02 a b) ∧ True) := by
 have hbP := bd_pos n
 have hbB := bd_big (n := n) (by omega)
 refine WX.enter (tt := tt) (Γ := [(0, MF.rs .stb K0 M0 a.name.parts), (1, MF.rs .stb K1 M1 a.data.name.parts), (2, MF.rs .stb K2 M2 a.data.content), (3, MF.rs .stb K3 M3 a.data.keyName.parts), (4, MF.rs .stb K4 M4 b.name.parts), (5, MF.rs .stb K5 M5 b.data.name.parts), (6, MF.rs .stb K6 M6 b.data.content), (7, MF.rs .stb K7 M7 b.data.keyName.parts)]) Tryd.func8 Z J Z (allS_cons Z N0 (allS_cons Z N1 (allS_cons Z N2 (allS_cons Z N3 (allS_cons Z N4 (allS_cons Z N5 (allS_cons Z N6 (allS_cons Z N7 allS_nil)))))))) ?_
 refine R0 ?_
 refine WX.cases 9 Z (fun h1 => ?_) (fun h1 => ?_)
 ·skip
  have h1d := B.nt' h1
  refine R0 ?_
  have hP1 : a02 a b = false := by simp only [a02, h1, ct, cf]
  exact R3 hP1
 have h1d := B.nf' h1
 refine R0 ?_
 refine WX.cases 14 Z (fun h2 => ?_) (fun h2 => ?_)
 ·skip
  have h2d := B.nt' h2
  refine R0 ?_
  have hP2 : a02 a b = false := by simp only [a02, h1, h2, ct, cf]
  exact R3 hP2
 have h2d := B.nf' h2
 refine R0 ?_
 refine WX.callV Z Z Z Z Z O Z (fun w G bs hI hΓ => f17 w n (by omega) a.name K0 M0 (hΓ.get 0 Z) b.name K4 M4 (hΓ.get 4 Z) ((ok_Consumer hoka).2.2.1) ((ok_Consumer hokb).2.2.1)) ?_
 intro hq1
 refine R0 ?_
 refine WX.cases 20 Z (fun h3 => ?_) (fun h3 => ?_)
 ·skip
  have h3d := (B.nt h3)
  refine R0 ?_
  have hP3 : a02 a b = false := by simp only [a02, h1, h2, h3, ct, cf]
  exact R3 hP3
 have h3d := (B.nf h3)
 refine R0 ?_
 refine WX.cases 25 Z (fun h4 => ?_) (fun h4 => ?_)
 ·skip
  have h4d := B.nt' h4
  refine R0 ?_
  have hP4 : a02 a b = false := by simp only [a02, h1, h2, h3, h4, ct, cf]
  exact R3 hP4
 have h4d := B.nf' h4
 refine R0 ?_
 refine WX.cases 30 Z (fun h5 => ?_) (fun h5 => ?_)
 ·skip
  have h5d := B.nt' h5
  refine R0 ?_
  have hP5 : a02 a b = false := by simp only [a02, h1, h2, h3, h4, h5, ct, cf]
  exact R3 hP5
 have h5d := B.nf' h5
 refine R0 ?_
 refine WX.see Z Z Z (fun _ hΓ => looks_beq ttOk Z Z Z Z Z Z) ?_
 refine R0 ?_
 refine WX.cases 35 Z (fun h6 => ?_) (fun h6 => ?_)
 ·skip
  have h6d := (B.nt h6)
  refine R0 ?_
  have hP6 : a02 a b = false := by simp only [a02, h1, h2, h3, h4, h5, h6, ct, cf]
  exact R3 hP6
 have h6d := (B.nf h6)
 refine R0 ?_
 refine WX.callV Z Z Z Z Z O Z (fun w G bs hI hΓ => f18 w n (by omega) a.data K1 M1 (hΓ.get 1 Z) K2 M2 (hΓ.get 2 Z) K3 M3 (hΓ.get 3 Z) b.data K5 M5 (hΓ.get 5 Z) K6 M6 (hΓ.get 6 Z) K7 M7 (hΓ.get 7 Z) ((ok_Consumer hoka).2.2.2.2.2.2) ((ok_Consumer hokb).2.2.2.2.2.2)) ?_
 intro hq2
 refine R0 ?_
 refine WX.cases 41 Z (fun h7 => ?_) (fun h7 => ?_)
 ·skip
  have h7d := (B.nt h7)
  refine R0 ?_
  have hP7 : a02 a b = false := by simp only [a02, h1, h2, h3, h4, h5, h6, h7, ct, cf]
  exact R3 hP7
 have h7d := (B.nf h7)
 refine R0 ?_
 have hP8 : a02 a b = true := by simp only [a02, h1, h2, h3, h4, h5, h6, h7, ct, cf]
 exact R3 hP8
end Go.Proofs.YtolepebgdfdciaaDoor

namespace Go.Stp
set_option linter.unusedVariables false
set_option linter.unusedSimpArgs false
def a0i : List Str → Nat → (List Str) → (List Str)
 | [], i, out => ((out) : List Str)
 | e1 :: rest_, i, out =>
  match (out)[i]? with
   | none => default
   | some e2 =>
    a0i rest_ (i + 1) (((out.set i e1)) : List Str)
def a0r (a : (List Str)) : (List Str) :=
 match a0i a 0 ((List.replicate ((a).length) (⟨#[]⟩ : Str)) : List Str) with
  | out =>
   out
def a0g (a : Name) : Name :=
 (Name.mk (a0r a.parts))
def a0j : List UInt8 → Nat → (List UInt8) → (List UInt8)
 | [], i, out => ((out) : List UInt8)
 | e1 :: rest_, i, out =>
  match (out)[i]? with
   | none => default
   | some e2 =>
    a0j rest_ (i + 1) (((out.set i e1)) : List UInt8)
def a0s (a : (List UInt8)) : (List UInt8) :=
 match a0j a 0 ((List.replicate ((a).length) (0 : UInt8)) : List UInt8) with
  | out =>
   out
def a0t (a : DataP) : DataP :=
 (DataP.mk (a0g a.name) (a0s a.content) (a0g a.keyName) a.freshUntil a.signature)
def a09 (a : Consumer) : Consumer :=
 (Consumer.mk a.node a.index (a0g a.name) a.attempts a.wait a.satisfied (a0t a.data))
end Go.Stp

namespace Go.Proofs.YtolepebgdfdciaaDoor
open Go.Stp
set_option linter.unusedVariables false
set_option linter.unusedSimpArgs false
theorem f21 (w : World) (n : Nat) (hn : n + 0 ≤ 9) (a : (List Str)) (pa : Option Addr) (ca : Nat) (N0 : RdSl (hp w) pa ca a) (hoka : GoT.ok n a) :
 Does Tryd.prog 21 #[.slice pa ((a).length) ca] w emp (Post w emp (fun x : GoT.X ((List Str)) => (GoT.sh ((a0r a) : (List Str)) x).headD undef) (fun x => GoT.oa ((a0r a) : (List Str)) x) (GoT.ok n ((a0r a) : (List Str)))) := by
 have hbP := bd_pos n
 have hbB := bd_big (n := n) (by omega)
 refine WX.enter (tt := tt) (Γ := [(0, MF.rs .stb pa ca a)]) Tryd.func21 Z J Z (allS_cons Z N0 allS_nil) ?_
 refine R0 ?_
 have r1 : (a).length ≤ bd n := (okl hoka).1
 refine WX.mkS ((a).length) ttOk Z Z Z Z Z Z Z (by omega) (by omega) Z ?_
 intro p1
 refine WX.free 1 (MF.ol (zrep ((a).length) [.string (⟨#[]⟩ : Str)]) ((List.replicate ((a).length) (⟨#[]⟩ : Str)) : List Str)) (ol_zrep (α := Str) (z0 := (⟨#[]⟩ : Str)) (x0 := ()) Z trivial _) ?_
 refine R0 ?_
 refine WX.loop (ι := (List Value) × (List Str) × Nat) ⟨fun | (xsout, out, i) => (i ≤ (a).length) ∧ (out.length = (a).length) ∧ (∀ z_ ∈ out, GoT.ok n z_) ∧ (a0i a 0 ((List.replicate ((a).length) (⟨#[]⟩ : Str)) : List Str) = a0i ((a).drop i) i out), fun | (xsout, out, i) => (a).length - i, fun | (xsout, out, i) => [(3, .v (.slice p1 ((a).length) ((a).length))), (4, .v (.int .i64 (((i : Nat) : Int)))), (0, .v (.slice pa ((a).length) ca))], fun | (xsout, out, i) => [], fun | (xsout, out, i) => [(7, ⟨1, p1, (a).length, ((a).length), xsout⟩)], fun | (xsout, out, i) => [(0, MF.rs .stb pa ca a), (1, MF.ol xsout (out : List Str))]⟩ ((zrep ((a).length) [.string (⟨#[]⟩ : Str)]), ((List.replicate ((a).length) (⟨#[]⟩ : Str)) : List Str), 0) ⟨(Nat.zero_le _), (by simp), (all_rep (Nat.le_trans (by decide) (bd_pos n))), Z⟩
  (.cons Z (.cons Z (.cons Z (.nil)))) .nil (.cons Z (.nil)) [0, 1] Z ?_
 rintro ⟨xsout, out, i⟩ hpre
 have hpre_ : (i ≤ (a).length) ∧ (out.length = (a).length) ∧ (∀ z_ ∈ out, GoT.ok n z_) ∧ (a0i a 0 ((List.replicate ((a).length) (⟨#[]⟩ : Str)) : List Str) = a0i ((a).drop i) i out) := hpre
 clear hpre
 obtain ⟨v1, v2, v3, v4⟩ := hpre_
 refine R0 ?_
 refine WX.cases 11 Z (fun h1 => ?_) (fun h1 => ?_)
 ·skip
  have h1d := B.dt h1
  have e1i : i < (a).length := (by omega)
  obtain ⟨e1, e1h⟩ : ∃ e1, (a)[i]? = some e1 := ⟨_, List.getElem?_eq_getElem e1i⟩
  have ok1 : GoT.ok n e1 := (okl hoka).2 _ (List.mem_of_getElem? e1h)
  refine R0 ?_
  refine WX.idx 0 i ttOk Z Z Z Z Z Z Z Z Z Z e1i ?_
  rintro ad1 rfl
  refine WX.ldE 0 2 e1 ttOk Z Z Z Z Z Z Z Z e1h O O ?_
  rintro ⟨⟩
  have hr1 : i < (a).length := (by first | assumption | omega)
  refine WX.idxR 7 i ttOk Z Z Z Z Z Z Z Z Z hr1 ?_
  rintro ad2 rfl
  have e2i : i < (out).length := (by first | assumption | omega)
  obtain ⟨e2, e2h⟩ : ∃ e2, (out)[i]? = some e2 := ⟨_, List.getElem?_eq_getElem e2i⟩
  have ok2 : GoT.ok n e2 := v3 _ (List.mem_of_getElem? e2h)
  refine WX.opnE (α := Str) (e := e2) 7 1 2 i Z Z Z e2h O (fun _ _ _ => Z) (fun _ _ _ => Z) ?_
  rintro A1 B1 ⟨⟩ hA1 hB1
  refine WX.stA 7 ttOk Z Z Z Z Z Z Z Z Z Z Z Z Z Z hA1 hr1 Z Z Z Z (by simp) Z ?_
  refine R0 ?_
  refine WX.see Z Z Z (fun _ hΓ => looks_arith Z Z Z Z (by unfold I64; first | omega | (simp only [List.length_take] at *; omega))) ?_
  refine R0 ?_
  refine WX.turn [2, 3] 4 Z (fun h hs => cl_elem (α := Str) (e := e1) (x := ()) e2i hs) (gs := [MF.ol (A1 ++ [.string e1] ++ B1) (out.set i e1)]) Z ?_
  refine WX.turn [4] 1 Z (fun _ h => h) Z ?_
  exact WX.iter ((A1 ++ [.string e1] ++ B1), ((out.set i e1) : List Str), i + 1) ⟨(by omega), (by first | assumption | omega | (simp; omega)), (all_set v3 (show GoT.ok n (e1 : Str) from ok1)), (by rw [v4, drop_get e1h]; simp only [a0i, e2h, ct, cf])⟩ (by first | (dsimp only; omega) | omega) (.cons Z (.cons Z (.cons Z (.nil)))) .nil (.cons Z (.nil)) [0, 1] Z
 have h1d := B.df h1
 refine R0 ?_
 have hX1 : a0i a 0 ((List.replicate ((a).length) (⟨#[]⟩ : Str)) : List Str) = ((out) : List Str) := by rw [v4, List.drop_eq_nil_of_le (show (a).length ≤ i by omega)]; simp only [a0i, ct, cf]
 refine WX.seal 7 1 5 Z Z (show (a).length = (out).length from by omega) Z Z ?_
 refine WX.slot 2 (y := .v (.slice p1 (out).length ((a).length))) Z (fun _ => by show (Value.slice p1 ((a).length) ((a).length) : Value) = Value.slice p1 (out).length ((a).length); rw [(show (a).length = (out).length from by omega)]) ?_
 refine WX.slot 21 (y := .v (.slice p1 (out).length ((a).length))) Z (fun _ => by show (Value.slice p1 ((a).length) ((a).length) : Value) = Value.slice p1 (out).length ((a).length); rw [(show (a).length = (out).length from by omega)]) ?_
 refine WX.slot 3 (y := .v (.slice p1 (out).length ((a).length))) Z (fun _ => by show (Value.slice p1 ((a).length) ((a).length) : Value) = Value.slice p1 (out).length ((a).length); rw [(show (a).length = (out).length from by omega)]) ?_
 have hP1 : a0r a = out := by simp only [a0r, hX1, ct, cf]
 refine R1 ?_
 intro w1 G bs hI hΓ
 rw [hP1]
 exact Post.of [6] (p1, ((a).length)) hI hΓ Z Z Z (okl_mk (by omega) v3 : GoT.ok n (out : List Str))
theorem f13 (w : World) (n : Nat) (hn : n + 0 ≤ 9) (a : Name) (pa : Option Addr) (ca : Nat) (N0 : RdSl (hp w) pa ca a.parts) (hoka : GoT.ok n a) :
 Does Tryd.prog 13 #[.agg #[.slice pa ((a.parts).length) ca]] w emp (Post w emp (fun x : GoT.X (Name) => .agg ⟨GoT.sh ((a0g a) : Name) x⟩) (fun x => GoT.oa ((a0g a) : Name) x) (GoT.ok n ((a0g a) : Name))) := by
 have hbP := bd_pos n
 have hbB := bd_big (n := n) (by omega)
 refine WX.enter (tt := tt) (Γ := [(0, MF.rs .stb pa ca a.parts)]) Tryd.func13 Z J Z (allS_cons Z N0 allS_nil) ?_
 refine R0 ?_
 refine WX.callF 1 (fun _ _ h => GoT.ow_rd h) (fun _ f hf => GoT.fak f hf) Z Z Z Z Z O Z (fun w G bs hI hΓ => f21 w n (by omega) a.parts pa ca (hΓ.get 0 Z) (ok_Name hoka)) O O ?_
 rintro ⟨p1, c1⟩ hq1
 refine R0 ?_
 have hP1 : a0g a = (Name.mk (a0r a.parts)) := by simp only [a0g, ct, cf]
 refine R1 ?_
 intro w1 G bs hI hΓ
 rw [hP1]
 exact Post.of [2] (p1, c1) hI hΓ Z Z Z hq1
theorem f22 (w : World) (n : Nat) (hn : n + 0 ≤ 9) (a : (List UInt8)) (pa : Option Addr) (ca : Nat) (N0 : RdSl (hp w) pa ca a) (hoka : GoT.ok n a) :
 Does Tryd.prog 22 #[.slice pa ((a).length) ca] w emp (Post w emp (fun x : GoT.X ((List UInt8)) => (GoT.sh ((a0s a) : (List UInt8)) x).headD undef) (fun x => GoT.oa ((a0s a) : (List UInt8)) x) (GoT.ok n ((a0s a) : (List UInt8)))) := by
 have hbP := bd_pos n
 have hbB := bd_big (n := n) (by omega)
 refine WX.enter (tt := tt) (Γ := [(0, MF.rs .stb pa ca a)]) Tryd.func22 Z J Z (allS_cons Z N0 allS_nil) ?_
 refine R0 ?_
 have r1 : (a).length ≤ bd n := (okl hoka).1
 refine WX.mkS ((a).length) ttOk Z Z Z Z Z Z Z (by omega) (by omega) Z ?_
 intro p1
 refine WX.free 1 (MF.ol (zrep ((a).length) [.int .u8 (((0 : UInt8)).toNat : Nat)]) ((List.replicate ((a).length) (0 : UInt8)) : List UInt8)) (ol_zrep (α := UInt8) (z0 := (0 : UInt8)) (x0 := ()) Z trivial _) ?_
 refine R0 ?_
 refine WX.loop (ι := (List Value) × (List UInt8) × Nat) ⟨fun | (xsout, out, i) => (i ≤ (a).length) ∧ (out.length = (a).length) ∧ (∀ z_ ∈ out, GoT.ok n z_) ∧ (a0j a 0 ((List.replicate ((a).length) (0 : UInt8)) : List UInt8) = a0j ((a).drop i) i out), fun | (xsout, out, i) => (a).length - i, fun | (xsout, out, i) => [(3, .v (.slice p1 ((a).length) ((a).length))), (4, .v (.int .i64 (((i : Nat) : Int)))), (0, .v (.slice pa ((a).length) ca))], fun | (xsout, out, i) => [], fun | (xsout, out, i) => [(7, ⟨1, p1, (a).length, ((a).length), xsout⟩)], fun | (xsout, out, i) => [(0, MF.rs .stb pa ca a), (1, MF.ol xsout (out : List UInt8))]⟩ ((zrep ((a).length) [.int .u8 (((0 : UInt8)).toNat : Nat)]), ((List.replicate ((a).length) (0 : UInt8)) : List UInt8), 0) ⟨(Nat.zero_le _), (by simp), (all_rep trivial), Z⟩
  (.cons Z (.cons Z (.cons Z (.nil)))) .nil (.cons Z (.nil)) [0, 1] Z ?_
 rintro ⟨xsout, out, i⟩ hpre
 have hpre_ : (i ≤ (a).length) ∧ (out.length = (a).length) ∧ (∀ z_ ∈ out, GoT.ok n z_) ∧ (a0j a 0 ((List.replicate ((a).length) (0 : UInt8)) : List UInt8) = a0j ((a).drop i) i out) := hpre
 clear hpre
 obtain ⟨v1, v2, v3, v4⟩ := hpre_
 refine R0 ?_
 refine WX.cases 11 Z (fun h1 => ?_) (fun h1 => ?_)
 ·skip
  have h1d := B.dt h1
  have e1i : i < (a).length := (by omega)
  obtain ⟨e1, e1h⟩ : ∃ e1, (a)[i]? = some e1 := ⟨_, List.getElem?_eq_getElem e1i⟩
  refine R0 ?_
  refine WX.idx 0 i ttOk Z Z Z Z Z Z Z Z Z Z e1i ?_
  rintro ad1 rfl
  refine WX.ldE 0 2 e1 ttOk Z Z Z Z Z Z Z Z e1h O O ?_
  rintro ⟨⟩
  have hr1 : i < (a).length := (by first | assumption | omega)
  refine WX.idxR 7 i ttOk Z Z Z Z Z Z Z Z Z hr1 ?_
  rintro ad2 rfl
  have e2i : i < (out).length := (by first | assumption | omega)
  obtain ⟨e2, e2h⟩ : ∃ e2, (out)[i]? = some e2 := ⟨_, List.getElem?_eq_getElem e2i⟩
  refine WX.opnE (α := UInt8) (e := e2) 7 1 2 i Z Z Z e2h O (fun _ _ _ => Z) (fun _ _ _ => Z) ?_
  rintro A1 B1 ⟨⟩ hA1 hB1
  refine WX.stA 7 ttOk Z Z Z Z Z Z Z Z Z Z Z Z Z Z hA1 hr1 Z Z Z Z (by simp) Z ?_
  refine R0 ?_
  refine WX.see Z Z Z (fun _ hΓ => looks_arith Z Z Z Z (by unfold I64; first | omega | (simp only [List.length_take] at *; omega))) ?_
  refine R0 ?_
  refine WX.turn [2, 3] 4 Z (fun h hs => cl_elem (α := UInt8) (e := e1) (x := ()) e2i hs) (gs := [MF.ol (A1 ++ [.int .u8 ((e1).toNat : Nat)] ++ B1) (out.set i e1)]) Z ?_
  refine WX.turn [4] 1 Z (fun _ h => h) Z ?_
  exact WX.iter ((A1 ++ [.int .u8 ((e1).toNat : Nat)] ++ B1), ((out.set i e1) : List UInt8), i + 1) ⟨(by omega), (by first | assumption | omega | (simp; omega)), (all_set v3 (show GoT.ok n (e1 : UInt8) from trivial)), (by rw [v4, drop_get e1h]; simp only [a0j, e2h, ct, cf])⟩ (by first | (dsimp only; omega) | omega) (.cons Z (.cons Z (.cons Z (.nil)))) .nil (.cons Z (.nil)) [0, 1] Z
 have h1d := B.df h1
 refine R0 ?_
 have hX1 : a0j a 0 ((List.replicate ((a).length) (0 : UInt8)) : List UInt8) = ((out) : List UInt8) := by rw [v4, List.drop_eq_nil_of_le (show (a).length ≤ i by omega)]; simp only [a0j, ct, cf]
 refine WX.seal 7 1 5 Z Z (show (a).length = (out).length from by omega) Z Z ?_
 refine WX.slot 2 (y := .v (.slice p1 (out).length ((a).length))) Z (fun _ => by show (Value.slice p1 ((a).length) ((a).length) : Value) = Value.slice p1 (out).length ((a).length); rw [(show (a).length = (out).length from by omega)]) ?_
 refine WX.slot 21 (y := .v (.slice p1 (out).length ((a).length))) Z (fun _ => by show (Value.slice p1 ((a).length) ((a).length) : Value) = Value.slice p1 (out).length ((a).length); rw [(show (a).length = (out).length from by omega)]) ?_
 refine WX.slot 3 (y := .v (.slice p1 (out).length ((a).length))) Z (fun _ => by show (Value.slice p1 ((a).length) ((a).length) : Value) = Value.slice p1 (out).length ((a).length); rw [(show (a).length = (out).length from by omega)]) ?_
 have hP1 : a0s a = out := by simp only [a0s, hX1, ct, cf]
 refine R1 ?_
 intro w1 G bs hI hΓ
 rw [hP1]
 exact Post.of [6] (p1, ((a).length)) hI hΓ Z Z Z (okl_mk (by omega) (fun _ _ => trivial) : GoT.ok n (out : List UInt8))
theorem f14 (w : World) (n : Nat) (hn : n + 0 ≤ 9) (a : DataP) (K0 : Option Addr) (M0 : Nat) (N0 : RdSl (hp w) K0 M0 a.name.parts) (K1 : Option Addr) (M1 : Nat) (N1 : RdSl (hp w) K1 M1 a.content) (K2 : Option Addr) (M2 : Nat) (N2 : RdSl (hp w) K2 M2 a.keyName.parts) (hoka : GoT.ok n a) :
 Does Tryd.prog 14 #[.agg #[.slice K0 ((a.name.parts).length) M0, .slice K1 ((a.content).length) M1, .slice K2 ((a.keyName.parts).length) M2, .int .i64 (a.freshUntil), .int .i64 (a.signature)]] w emp (Post w emp (fun x : GoT.X (DataP) => .agg ⟨GoT.sh ((a0t a) : DataP) x⟩) (fun x => GoT.oa ((a0t a) : DataP) x) (GoT.ok n ((a0t a) : DataP))) := by
 have hbP := bd_pos n
 have hbB := bd_big (n := n) (by omega)
 refine WX.enter (tt := tt) (Γ := [(0, MF.rs .stb K0 M0 a.name.parts), (1, MF.rs .stb K1 M1 a.content), (2, MF.rs .stb K2 M2 a.keyName.parts)]) Tryd.func14 Z J Z (allS_cons Z N0 (allS_cons Z N1 (allS_cons Z N2 allS_nil))) ?_
 refine R0 ?_
 refine WX.callF 3 (fun _ _ h => GoT.ow_rd h) (fun _ f hf => GoT.fak f hf) Z Z Z Z Z O Z (fun w G bs hI hΓ => f13 w n (by omega) a.name K0 M0 (hΓ.get 0 Z) ((ok_DataP hoka).1)) O O ?_
 rintro ⟨p1, c1⟩ hq1
 refine R0 ?_
 refine WX.callF 5 (fun _ _ h => GoT.ow_rd h) (fun _ f hf => GoT.fak f hf) Z Z Z Z Z O Z (fun w G bs hI hΓ => f22 w n (by omega) a.content K1 M1 (hΓ.get 1 Z) ((ok_DataP hoka).2.1)) O O ?_
 rintro ⟨p2, c2⟩ hq2
 refine R0 ?_
 refine WX.callF 7 (fun _ _ h => GoT.ow_rd h) (fun _ f hf => GoT.fak f hf) Z Z Z Z Z O Z (fun w G bs hI hΓ => f13 w n (by omega) a.keyName K2 M2 (hΓ.get 2 Z) ((ok_DataP hoka).2.2.1)) O O ?_
 rintro ⟨p3, c3⟩ hq3
 refine R0 ?_
 have hP1 : a0t a = (DataP.mk (a0g a.name) (a0s a.content) (a0g a.keyName) a.freshUntil a.signature) := by simp only [a0t, ct, cf]
 refine R1 ?_
 intro w1 G bs hI hΓ
 rw [hP1]
 exact Post.of [4, 6, 8] ((p1, c1), (p2, c2), (p3, c3), (), ()) hI hΓ Z Z Z (And.intro hq1 (And.intro hq2 (And.intro hq3 (And.intro (ok_DataP hoka).2.2.2.1 (ok_DataP hoka).2.2.2.2))))
theorem f6 (w : World) (n : Nat) (hn : n + 0 ≤ 9) (a : Consumer) (K0 : Option Addr) (M0 : Nat) (N0 : RdSl (hp w) K0 M0 a.name.parts) (K1 : Option Addr) (M1 : Nat) (N1 : RdSl (hp w) K1 M1 a.data.name.parts) (K2 : Option Addr) (M2 : Nat) (N2 : RdSl (hp w) K2 M2 a.data.content) (K3 : Option Addr) (M3 : Nat) (N3 : RdSl (hp w) K3 M3 a.data.keyName.parts) (hoka : GoT.ok n a) :
 Does Tryd.prog 6 #[.agg #[.int .i64 (a.node), .int .i64 (a.index), .slice K0 ((a.name.parts).length) M0, .int .i64 (a.attempts), .int .i64 (a.wait), .bool a.satisfied, .slice K1 ((a.data.name.parts).length) M1, .slice K2 ((a.data.content).length) M2, .slice K3 ((a.data.keyName.parts).length) M3, .int .i64 (a.data.freshUntil), .int .i64 (a.data.signature)]] w emp (Post w emp (fun x : GoT.X (Consumer) => .agg ⟨GoT.sh ((a09 a) : Consumer) x⟩) (fun x => GoT.oa ((a09 a) : Consumer) x) (GoT.ok n ((a09 a) : Consumer))) := by
 have hbP := bd_pos n
 have hbB := bd_big (n := n) (by omega)
 refine WX.enter (tt := tt) (Γ := [(0, MF.rs .stb K0 M0 a.name.parts), (1, MF.rs .stb K1 M1 a.data.name.parts), (2, MF.rs .stb K2 M2 a.data.content), (3, MF.rs .stb K3 M3 a.data.keyName.parts)]) Tryd.func6 Z J Z (allS_cons Z N0 (allS_cons Z N1 (allS_cons Z N2 (allS_cons Z N3 allS_nil)))) ?_
 refine R0 ?_
 refine WX.callF 4 (fun _ _ h => GoT.ow_rd h) (fun _ f hf => GoT.fak f hf) Z Z Z Z Z O Z (fun w G bs hI hΓ => f13 w n (by omega) a.name K0 M0 (hΓ.get 0 Z) ((ok_Consumer hoka).2.2.1)) O O ?_
 rintro ⟨p1, c1⟩ hq1
 refine R0 ?_
 refine WX.callF 6 (fun _ _ h => GoT.ow_rd h) (fun _ f hf => GoT.fak f hf) Z Z Z Z Z O Z (fun w G bs hI hΓ => f14 w n (by omega) a.data K1 M1 (hΓ.get 1 Z) K2 M2 (hΓ.get 2 Z) K3 M3 (hΓ.get 3 Z) ((ok_Consumer hoka).2.2.2.2.2.2)) O O ?_
 rintro ⟨⟨p2, c2⟩, ⟨p3, c3⟩, ⟨p4, c4⟩, ⟨⟩, ⟨⟩⟩ hq2
 refine R0 ?_
 have hP1 : a09 a = (Consumer.mk a.node a.index (a0g a.name) a.attempts a.wait a.satisfied (a0t a.data)) := by simp only [a09, ct, cf]
 refine R1 ?_
 intro w1 G bs hI hΓ
 rw [hP1]
 exact Post.of [5, 9, 10, 11] ((), (), (p1, c1), (), (), (), ((p2, c2), (p3, c3), (p4, c4), (), ())) hI hΓ Z Z Z (And.intro (ok_Consumer hoka).1 (And.intro (ok_Consumer hoka).2.1 (And.intro hq1 (And.intro (ok_Consumer hoka).2.2.2.1 (And.intro (ok_Consumer hoka).2.2.2.2.1 (And.intro trivial hq2))))))
end Go.Proofs.YtolepebgdfdciaaDoor

namespace Go.Proofs
open Go.Shelf
def Tryd.lays156_ren : Go.Shelf.Ren := ⟨fun | 156 => 28 | 165 => 30 | 166 => 31 | 169 => 32 | 240 => 37 | 241 => 38 | 276 => 44 | 277 => 45 | n => n, fun | 31 => 22 | 9 => 9 | 3 => 3 | 4 => 4 | 0 => 0 | 20 => 20 | 72 => 59 | 76 => 63 | 70 => 57 | 37 => 25 | 75 => 62 | 127 => 72 | 164 => 81 | 5 => 5 | 80 => 65 | n => n, fun | n => n⟩
theorem Tryd.lays156 : Go.Proofs.Lays.n156 Tryd.prog Tryd.lays156_ren := {
 mixed := by kernel_rfl
 f156 := Tryd.func28.trans (congrArg some (by kernel_rfl))
 f165 := Tryd.func30.trans (congrArg some (by kernel_rfl))
 f166 := Tryd.func31.trans (congrArg some (by kernel_rfl))
 f169 := Tryd.func32.trans (congrArg some (by kernel_rfl))
 f240 := Tryd.func37.trans (congrArg some (by kernel_rfl))
 f241 := Tryd.func38.trans (congrArg some (by kernel_rfl))
 f276 := Tryd.func44.trans (congrArg some (by kernel_rfl))
 f277 := Tryd.func45.trans (congrArg some (by kernel_rfl))
 t0 := Tryd.underlying0
 a0 := Tryd.isAgg0
 z0 := Tryd.sizeOf0
 v0 := Tryd.zeroValue0
 t3 := Tryd.underlying3
 a3 := Tryd.isAgg3
 z3 := Tryd.sizeOf3
 v3 := Tryd.zeroValue3
 t4 := Tryd.underlying4
 a4 := Tryd.isAgg4
 z4 := Tryd.sizeOf4
 v4 := Tryd.zeroValue4
 t9 := Tryd.underlying9
 a9 := Tryd.isAgg9
 z9 := Tryd.sizeOf9
 v9 := Tryd.zeroValue9
 t20 := Tryd.underlying20
 a20 := Tryd.isAgg20
 z20 := Tryd.sizeOf20
 v20 := Tryd.zeroValue20
 t31 := Tryd.underlying22
 a31 := Tryd.isAgg22
 z31 := Tryd.sizeOf22
 v31 := Tryd.zeroValue22
 t37 := Tryd.underlying25
 a37 := Tryd.isAgg25
 z37 := Tryd.sizeOf25
 v37 := Tryd.zeroValue25
 t70 := Tryd.underlying57
 a70 := Tryd.isAgg57
 z70 := Tryd.sizeOf57
 v70 := Tryd.zeroValue57
 t72 := Tryd.underlying59
 a72 := Tryd.isAgg59
 z72 := Tryd.sizeOf59
 v72 := Tryd.zeroValue59
 t75 := Tryd.underlying62
 a75 := Tryd.isAgg62
 z75 := Tryd.sizeOf62
 v75 := Tryd.zeroValue62
 t76 := Tryd.underlying63
 a76 := Tryd.isAgg63
 z76 := Tryd.sizeOf63
 v76 := Tryd.zeroValue63
 t127 := Tryd.underlying72
 a127 := Tryd.isAgg72
 z127 := Tryd.sizeOf72
 v127 := Tryd.zeroValue72
 t164 := Tryd.underlying81
 a164 := Tryd.isAgg81
 z164 := Tryd.sizeOf81
 v164 := Tryd.zeroValue81 }
theorem Tryd.Builder_Extra_156 : Builder.Extra Tryd.prog Tryd.lays156_ren := {
 sizeBuilder := by kernel_rfl
 liesBuilder := by kernel_rfl
 t5 := Tryd.underlying5
 a5 := Tryd.isAgg5
 z5 := Tryd.sizeOf5
 v5 := Tryd.zeroValue5
 infoByte := by kernel_rfl
 cellsByte := by kernel_rfl
 sizeByte := by kernel_rfl
 neB5 := by decide }
open Go.RowKit in
theorem Tryd.strings_Join (bk o c : Nat) (xs : List ByteArray) (sep : ByteArray) (w : World) (hcells : ∀ (j : Nat) x, xs[j]? = some x → w.cell? ⟨bk, o + j, none⟩ = some (.string x)) (hbk : bk < w.heap.size) (hN : xs.length ≤ 140737488355328) (hcap : xs.length ≤ c) (hlen : (Lib.join (xs.map (·.data.toList)) sep.data.toList).length ≤ 140737488355328) :
  Calls Tryd.prog 28 #[.slice (some ⟨bk, o, none⟩) xs.length c, .string sep] w fun e w' => e = .returned (.string ⟨(Lib.join (xs.map (·.data.toList)) sep.data.toList).toArray⟩) ∧ Below w.heap.size w w' := Any.strings_Join Tryd.lays156 Tryd.Builder_Extra_156 bk o c xs sep w hcells hbk hN hcap hlen
def Tryd.laysM171_ren : Go.Shelf.Ren := ⟨fun | 171 => 23 | 243 => 27 | 246 => 29 | 283 => 33 | 284 => 34 | 285 => 35 | 286 => 36 | 129 => 40 | 317 => 39 | 318 => 41 | 319 => 42 | 320 => 43 | 337 => 46 | 338 => 47 | n => n, fun | 3 => 3 | 9 => 9 | 2 => 2 | 4 => 4 | 171 => 66 | 0 => 0 | 53 => 67 | 37 => 25 | 5 => 5 | 173 => 70 | 212 => 75 | 51 => 76 | 20 => 20 | 213 => 77 | 46 => 79 | 232 => 85 | 233 => 86 | n => n, fun | 17 => 0 | 18 => 2 | 19 => 3 | n => n⟩
theorem Tryd.laysM171 : Go.Proofs.LaysM.n171 Tryd.prog Tryd.laysM171_ren := {
 mixed := by kernel_rfl
 f129 := Tryd.func40.trans (congrArg some (by kernel_rfl))
 f171 := Tryd.func23.trans (congrArg some (by kernel_rfl))
 f243 := Tryd.func27.trans (congrArg some (by kernel_rfl))
 f246 := Tryd.func29.trans (congrArg some (by kernel_rfl))
 f283 := Tryd.func33.trans (congrArg some (by kernel_rfl))
 f284 := Tryd.func34.trans (congrArg some (by kernel_rfl))
 f285 := Tryd.func35.trans (congrArg some (by kernel_rfl))
 f286 := Tryd.func36.trans (congrArg some (by kernel_rfl))
 f317 := Tryd.func39.trans (congrArg some (by kernel_rfl))
 f318 := Tryd.func41.trans (congrArg some (by kernel_rfl))
 f319 := Tryd.func42.trans (congrArg some (by kernel_rfl))
 f320 := Tryd.func43.trans (congrArg some (by kernel_rfl))
 f337 := Tryd.func46.trans (congrArg some (by kernel_rfl))
 f338 := Tryd.func47.trans (congrArg some (by kernel_rfl))
 t0 := Tryd.underlying0
 a0 := Tryd.isAgg0
 z0 := Tryd.sizeOf0
 v0 := Tryd.zeroValue0
 t2 := Tryd.underlying2
 a2 := Tryd.isAgg2
 z2 := Tryd.sizeOf2
 v2 := Tryd.zeroValue2
 t3 := Tryd.underlying3
 a3 := Tryd.isAgg3
 z3 := Tryd.sizeOf3
 v3 := Tryd.zeroValue3
 t4 := Tryd.underlying4
 a4 := Tryd.isAgg4
 z4 := Tryd.sizeOf4
 v4 := Tryd.zeroValue4
 t5 := Tryd.underlying5
 a5 := Tryd.isAgg5
 z5 := Tryd.sizeOf5
 v5 := Tryd.zeroValue5
 t9 := Tryd.underlying9
 a9 := Tryd.isAgg9
 z9 := Tryd.sizeOf9
 v9 := Tryd.zeroValue9
 t20 := Tryd.underlying20
 a20 := Tryd.isAgg20
 z20 := Tryd.sizeOf20
 v20 := Tryd.zeroValue20
 t37 := Tryd.underlying25
 a37 := Tryd.isAgg25
 z37 := Tryd.sizeOf25
 v37 := Tryd.zeroValue25
 t46 := Tryd.underlying79
 a46 := Tryd.isAgg79
 z46 := Tryd.sizeOf79
 v46 := Tryd.zeroValue79
 t51 := Tryd.underlying76
 a51 := Tryd.isAgg76
 z51 := Tryd.sizeOf76
 v51 := Tryd.zeroValue76
 t53 := Tryd.underlying67
 a53 := Tryd.isAgg67
 z53 := Tryd.sizeOf67
 v53 := Tryd.zeroValue67
 t171 := Tryd.underlying66
 a171 := Tryd.isAgg66
 z171 := Tryd.sizeOf66
 v171 := Tryd.zeroValue66
 t173 := Tryd.underlying70
 a173 := Tryd.isAgg70
 z173 := Tryd.sizeOf70
 v173 := Tryd.zeroValue70
 t212 := Tryd.underlying75
 a212 := Tryd.isAgg75
 z212 := Tryd.sizeOf75
 v212 := Tryd.zeroValue75
 t213 := Tryd.underlying77
 a213 := Tryd.isAgg77
 z213 := Tryd.sizeOf77
 t232 := Tryd.underlying85
 a232 := Tryd.isAgg85
 z232 := Tryd.sizeOf85
 v232 := Tryd.zeroValue85
 t233 := Tryd.underlying86
 a233 := Tryd.isAgg86
 z233 := Tryd.sizeOf86
 v233 := Tryd.zeroValue86
 g17 := by kernel_rfl
 g18 := by kernel_rfl
 g19 := by kernel_rfl
 i0 := by kernel_rfl
 i2 := by kernel_rfl
 i3 := by kernel_rfl
 i4 := by kernel_rfl
 i5 := by kernel_rfl
 i9 := by kernel_rfl
 i20 := by kernel_rfl
 i37 := by kernel_rfl
 i46 := by kernel_rfl
 i51 := by kernel_rfl
 i53 := by kernel_rfl
 i171 := by kernel_rfl
 i173 := by kernel_rfl
 i212 := by kernel_rfl
 i232 := by kernel_rfl
 i233 := by kernel_rfl
 m17 := by kernel_rfl
 m18 := by kernel_rfl
 m19 := by kernel_rfl }
open Go.RowKit Go.Sort Go.Lib in
theorem Tryd.strconv_Itoa (n : Int) (h0 : -9223372036854775808 ≤ n) (h1 : n ≤ 9223372036854775807) (w : World) (htab : Lib.TabIs Tryd.prog w "internal/strconv.uint64pow10" .u64 Lib.pow10Tab) :
  Calls Tryd.prog 23 #[.int .i64 n] w fun e w' => e = .returned (.string ⟨(Lib.itoa n).toArray⟩) ∧ ∃ k os, w' = grow (w.drewN k) os := Any.strconv_Itoa Tryd.laysM171 n h0 h1 w htab
end Go.Proofs

namespace Go.Stp
open GoT (X k ok sh fa oa)
theorem RdL.bytes (G : GH) : ∀ (l : List UInt8), RdL G (l.map fun b => Value.int .u8 b.toNat) l
 | [] => rfl
 | _ :: l => ⟨(), _, rfl, All.nil, RdL.bytes G l⟩
end Go.Stp

namespace Go.Stp
section
open GoT (k X sh oa)
variable {α : Type} [GoT α]
theorem OwL.take {h : GH} : ∀ {xs : List Value} {l : List α} (i : Nat), OwL h xs l → OwL h (xs.take (i * k α)) (l.take i)
 | xs, [], i, e => by
  have : xs = [] := e
  subst this
  simp only [List.take_nil]; rfl
 | xs, a :: l, 0, _ => by simp only [Nat.zero_mul, List.take_zero]; rfl
 | xs, a :: l, i + 1, ⟨x, ys, h1, h2, e, q1, q2, q3, q4, q5⟩ => by
  refine ⟨x, ys.take (i * k α), h1, h2, ?_, q1, q2, q3, q4, q5.take i⟩
  rw [e, Nat.add_mul, Nat.one_mul, List.take_append, GoT.len, List.take_of_length_le (by rw [GoT.len]; omega), Nat.add_sub_cancel]
theorem OwL.drop {h : GH} : ∀ {xs : List Value} {l : List α} (i : Nat), OwL h xs l → OwL h (xs.drop (i * k α)) (l.drop i)
 | xs, [], i, e => by
  have : xs = [] := e
  subst this
  simp only [List.drop_nil]; rfl
 | xs, a :: l, 0, e => by simpa using e
 | xs, a :: l, i + 1, ⟨x, ys, h1, h2, e, q1, q2, q3, q4, q5⟩ => by
  have := (q5.drop i).mono q2
  rw [e, Nat.add_mul, Nat.one_mul, List.drop_append, GoT.len, List.drop_eq_nil_of_le (by rw [GoT.len]; omega), Nat.add_sub_cancel, List.nil_append]
  simpa using this
end
end Go.Stp

namespace Go.Stp
set_option linter.unusedVariables false
set_option linter.unusedSimpArgs false
open Go.Proofs Go.RowKit
open GoT (X ok sh fa oa)
def itoaS (n : Int) : Str := ⟨(Lib.itoa n).toArray⟩
theorem itoaS_size {n : Int} (h : I64 n) : (itoaS n).size ≤ 21 := by
 have := Lib.itoa_length_le n h.1 h.2
 show (Lib.itoa n).toArray.size ≤ 21
 simpa using this
def Tb (w : World) : Prop := Lib.TabIs Tryd.prog w "internal/strconv.uint64pow10" .u64 Lib.pow10Tab
theorem Tb.below {w w' : World} (h : Tb w) (hb : Below w.heap.size w w') : Tb w' := by
 unfold Tb Lib.TabIs World.var? at h ⊢
 cases hg : Program.globalNamed Tryd.prog "internal/strconv.uint64pow10" with
 | none => rw [hg] at h; cases h
 | some g =>
  rw [hg] at h
  simp only [Option.bind_some] at h ⊢
  have hlt : g < w.heap.size := by
   rcases Nat.lt_or_ge g w.heap.size with h' | h'
   ·exact h'
   ·rw [Array.getElem?_eq_none h'] at h; cases h
  rw [hb.block g hlt]
  exact h
theorem Tb.kp {C : Cx} {w : World} {G : GH} {bs : Nat → Nat} {L : Locs} {R : Rows} (hI : HInv C w G bs L R) (h : Tb C.w0) (hH : C.H = emp := by rfl) : Tb w := by
 have hk := hI.keep
 rw [hH] at hk
 exact h.below hk.below
theorem kp_of_below {w w' : World} (h : Below w.heap.size w w') : Kp emp w w' := ⟨h.os, h.tape, h.output, h.size, fun i hi _ => h.block i hi⟩
theorem does_itoa {w : World} {x : Int} (h : I64 x) (ht : Tb w) (hE : EnterOk Tryd.prog 23) : Does Tryd.prog 23 #[.int .i64 x] w emp (fun (rv : Value) (_ : World) => rv = .string (itoaS x) ∧ (itoaS x).size ≤ 21) :=
 ⟨hE, (Tryd.strconv_Itoa x h.1 h.2 w ht).mono fun e w' ⟨he, k, os, hw⟩ => ⟨_, he, kp_of_below (hw ▸ Lib.below_grow _ w (Nat.le_refl _) k os), rfl, itoaS_size h⟩⟩
theorem looks_neg {C : Cx} {env : Env} {L : Locs} {R : Rows} {G : GH} {o : Oper} {x : Operand} {T : Nat} {m : Int} (ho : o.op = .unOp .neg T x)
  (hx : ev env x = some (.v (.int .i64 m))) (hr : I64 (-m)) : Looks C env L R G o (.v (.int .i64 (-m))) := by
 intro a w G' bs _ hA hI
 unfold execOp
 simp only [ho, ev_conc hA hx, conc]
 have := wrap_i64 hr
 simp [Op.unary, Op.intArith, this]
def joinS (l : List Str) (s : Str) : Str := ⟨(Lib.join (l.map (fun z : Str => z.data.toList)) s.data.toList).toArray⟩
theorem lens_le : ∀ l : List Str, (∀ a ∈ l, a.size ≤ 1048576) → Lib.lens (l.map (fun z : Str => z.data.toList)) ≤ l.length * 1048576
 | [], _ => Nat.le_refl _
 | x :: l, h => by
  have ih := lens_le l (fun a ha => h a (List.mem_cons_of_mem _ ha))
  have h1 : x.data.toList.length ≤ 1048576 := h x List.mem_cons_self
  simp only [Lib.lens, List.map_cons, List.sum_cons, List.length_cons] at ih ⊢
  omega
theorem joinS_size {n : Nat} {e : List Str} {s : Str} (hn : bd n = 1048576) (h : GoT.ok n e) (hs : s.size ≤ 1) : (joinS e s).size ≤ 1099512676352 := by
 have h0 : (joinS e s).size = (Lib.join (e.map (fun z : Str => z.data.toList)) s.data.toList).length := by
  show (List.toArray _).size = _
  simp
 rw [h0]
 have h1 : e.length ≤ bd n := h.1
 have h2 := lens_le e (fun a ha => by have : a.size ≤ bd n := h.2 a ha; omega)
 cases e with
 | nil => exact Nat.zero_le _
 | cons x r =>
  rw [List.map_cons, Lib.join_length, List.length_map]
  rw [List.map_cons] at h2
  have h3 : s.data.toList.length ≤ 1 := hs
  have h4 : s.data.toList.length * r.length ≤ 1 * r.length := Nat.mul_le_mul_right _ h3
  rw [List.length_cons] at h1 h2
  omega
theorem wrap_abs (y : Int) : (IntKind.i64.wrap y).natAbs ≤ y.natAbs := by
 by_cases h : I64 y
 ·rw [wrap_i64 h]; exact Nat.le_refl _
 ·have := i64_wrap y
  unfold I64 at h this
  omega
theorem wrap_quoN {x : Int} (h : x ≠ 0) : (IntKind.i64.wrap (x.tdiv 10)).natAbs < x.natAbs := by
 refine Nat.lt_of_le_of_lt (wrap_abs _) ?_
 rw [Int.natAbs_tdiv]
 show x.natAbs / 10 < x.natAbs
 omega
def fiInv (x : Int) (s : Nat) : Prop := x.natAbs * 10 ^ s ≤ 9223372036854775808 ∧ (s = 0 ∨ 10 ^ (s - 1) ≤ 9223372036854775808)
theorem fiInv_0 {x : Int} (h : I64 x) : fiInv x 0 := ⟨by unfold I64 at h; simp; omega, .inl rfl⟩
theorem fiInv_step {x : Int} {s t : Str} (ht : t.size = 1) (h : x ≠ 0) (hi : fiInv x s.size) : fiInv (IntKind.i64.wrap (x.tdiv 10)) (t ++ s).size := by
 obtain ⟨h1, _⟩ := hi
 rw [ByteArray.size_append, ht]
 have h2 : (IntKind.i64.wrap (x.tdiv 10)).natAbs * 10 ≤ x.natAbs := by
  have := wrap_abs (x.tdiv 10)
  rw [Int.natAbs_tdiv] at this
  have h3 : (IntKind.i64.wrap (x.tdiv 10)).natAbs ≤ x.natAbs / 10 := this
  omega
 refine ⟨?_, .inr ?_⟩
 ·rw [Nat.add_comm, Nat.pow_succ, Nat.mul_comm (10 ^ s.size), ← Nat.mul_assoc]
  exact Nat.le_trans (Nat.mul_le_mul_right _ h2) h1
 ·rw [Nat.add_sub_cancel_left]
  have h4 : 1 * 10 ^ s.size ≤ x.natAbs * 10 ^ s.size := Nat.mul_le_mul_right _ (by omega)
  omega
theorem fiInv_size {x : Int} {s : Nat} (hi : fiInv x s) : s ≤ 20 := by
 rcases hi.2 with h3 | h3
 ·omega
 ·by_cases hs : s ≤ 20
  ·exact hs
  ·have h4 : 10 ^ 20 ≤ 10 ^ (s - 1) := Nat.pow_le_pow_right (by omega) (by omega)
   have h5 : (10 : Nat) ^ 20 = 100000000000000000000 := by decide
   omega
end Go.Stp

namespace Go.Stp
set_option linter.unusedVariables false
set_option linter.unusedSimpArgs false
open Go.Proofs Go.RowKit
open GoT (X ok sh fa oa)
theorem does_join {w : World} {p : Option Addr} {c : Nat} {e : List Str} {s : Str} (hr : RdSl (hp w) p c e) (he : GoT.ok 0 e) (hne : e ≠ []) (hs : s.size ≤ 1) (hE : EnterOk Tryd.prog 28) :
  Does Tryd.prog 28 #[.slice p e.length c, .string s] w emp (fun (rv : Value) (_ : World) => rv = .string (joinS e s) ∧ (joinS e s).size ≤ 1099512676352) := by
 have hz := joinS_size rfl he hs
 have hl : (Lib.join (e.map (fun z : Str => z.data.toList)) s.data.toList).length ≤ 1099512676352 := by
  have h0 : (joinS e s).size = (Lib.join (e.map (fun z : Str => z.data.toList)) s.data.toList).length := by
   show (List.toArray _).size = _
   simp
  omega
 have hn : e.length ≤ 1048576 := he.1
 obtain ⟨x, hx⟩ : ∃ x, e[0]? = some x := by
  cases e with
  | nil => exact absurd rfl hne
  | cons x r => exact ⟨x, rfl⟩
 obtain ⟨_, ⟨bk, o, sp⟩, rfl, _, hc⟩ := RdSl.get hr hx
 have h0 := hc 0 (.string x) rfl
 have hsp : sp = none ∧ bk < w.heap.size := by
  unfold gcell hp at h0
  cases hb : w.heap[bk]? with
  | none => simp [Addr.add, hb] at h0
  | some ob =>
   refine ⟨?_, (Array.getElem?_eq_some_iff.1 hb).1⟩
   cases sp with
   | none => rfl
   | some q => cases ob <;> simp [Addr.add, hb] at h0
 obtain ⟨rfl, hb⟩ := hsp
 refine ⟨hE, (Tryd.strings_Join bk o c e s w (fun j y hj => ?_) hb (Nat.le_trans hn (by decide)) hr.1 (Nat.le_trans hl (by decide))).mono fun ev w' ⟨h1, h2⟩ => ⟨_, h1, kp_of_below h2, rfl, hz⟩⟩
 obtain ⟨_, ad, had, _, hc'⟩ := RdSl.get hr hj
 obtain rfl := Option.some.inj had
 have h1 := hc' 0 (.string y) rfl
 rw [gcell_hp] at h1
 have h2 : (GoT.k Str) = 1 := rfl
 by_cases hj0 : j = 0
 ·subst hj0
  simpa [Addr.add, h2] using h1
 ·simpa [Addr.add, h2, hj0] using h1
end Go.Stp

namespace Go.Stp
set_option linter.unusedVariables false
set_option linter.unusedSimpArgs false
def a03 (n_ : Int) : Str :=
 (itoaS n_)
def a06 (s : Str) (x_ : Int) : Str × Int :=
 if (x_ != 0) = true then
  if Int.tmod x_ 10 < 0 then
   a06 ((bstr ([(toU8 (IntKind.i64.wrap (48 + (-(Int.tmod x_ 10)))))])) ++ s) (IntKind.i64.wrap (Int.tdiv x_ 10))
  else
   a06 ((bstr ([(toU8 (IntKind.i64.wrap (48 + (Int.tmod x_ 10))))])) ++ s) (IntKind.i64.wrap (Int.tdiv x_ 10))
 else
  (s, x_)
termination_by x_.natAbs
decreasing_by all_goals exact wrap_quoN (by simpa using ‹(x_ != 0) = true›)
def a01 (n_ : Int) : Str :=
 bif (n_ == 0) then
  (⟨#[48]⟩ : Str)
 else
  match a06 (⟨#[]⟩ : Str) n_ with
   | (s, x_) =>
    bif decide (n_ < 0) then
     ((⟨#[45]⟩ : Str) ++ s)
    else
     s
def a0o (parts : (List Str)) : Str :=
 bif ((((parts).length : Nat) : Int) == 0) then
  (⟨#[47]⟩ : Str)
 else
  ((⟨#[47]⟩ : Str) ++ (joinS parts (⟨#[47]⟩ : Str)))
def a07 (n_ : Name) : Str :=
 (a0o n_.parts)
def a0h : List Str → Str → Str
 | [], s => s
 | e1 :: rest_, s =>
  a0h rest_ ((s ++ (⟨#[47]⟩ : Str)) ++ e1)
def a04 (n_ : Name) : Str :=
 match a0h n_.parts (⟨#[]⟩ : Str) with
  | s =>
   bif ((((n_.parts).length : Nat) : Int) == 0) then
    (⟨#[47]⟩ : Str)
   else
    s
theorem fnm_L : ∀ (l : List Str) (s : Str), (∀ a ∈ l, a.size ≤ 1048576) → (a0h l s).size ≤ s.size + l.length * 1048577
 | [], s, _ => Nat.le_refl _
 | x :: l, s, h => by
  have ih := fnm_L l ((s ++ (⟨#[47]⟩ : Str)) ++ x) (fun a ha => h a (List.mem_cons_of_mem _ ha))
  have h1 := h x List.mem_cons_self
  simp only [a0h, List.length_cons]
  rw [ByteArray.size_append, ByteArray.size_append] at ih
  have h2 : (⟨#[47]⟩ : Str).size = 1 := rfl
  omega
theorem fnm_spec {n : Nat} {m : Name} (hn : bd n = 1048576) (h : GoT.ok n m) : (a04 m).size ≤ 1099512676353 := by
 have h0 := ok_Name h
 have h1 : m.parts.length ≤ bd n := h0.1
 have h2 := fnm_L m.parts (⟨#[]⟩ : Str) (fun a ha => by have : a.size ≤ bd n := h0.2 a ha; omega)
 have h3 : (⟨#[]⟩ : Str).size = 0 := rfl
 have h4 : (⟨#[47]⟩ : Str).size = 1 := rfl
 unfold a04
 dsimp only
 cases ((((m.parts).length : Nat) : Int) == 0)
 ·simp only [cond_false]; omega
 ·simp only [cond_true]; omega
theorem fnm_impl {n : Nat} {m : Name} (hn : bd n = 1048576) (h : GoT.ok n m) : (a07 m).size ≤ 1099512676353 := by
 have h0 := ok_Name h
 have h2 := joinS_size (s := (⟨#[47]⟩ : Str)) hn h0 (by decide)
 have h4 : (⟨#[47]⟩ : Str).size = 1 := rfl
 unfold a07 a0o
 cases ((((m.parts).length : Nat) : Int) == 0)
 ·simp only [cond_false]; rw [ByteArray.size_append]; omega
 ·simp only [cond_true]; omega
def a0p (a : Consumer) : Str :=
 bif a.satisfied then
  (((((a03 a.node) ++ (⟨#[32]⟩ : Str)) ++ (a07 a.name)) ++ (⟨#[32]⟩ : Str)) ++ (⟨#[111, 107]⟩ : Str))
 else
  (((((a03 a.node) ++ (⟨#[32]⟩ : Str)) ++ (a07 a.name)) ++ (⟨#[32]⟩ : Str)) ++ (a03 a.attempts))
def a0q (a : Consumer) : Str :=
 bif a.satisfied then
  ((((a01 a.node) ++ (⟨#[32]⟩ : Str)) ++ (a04 a.name)) ++ (⟨#[32, 111, 107]⟩ : Str))
 else
  (((((a01 a.node) ++ (⟨#[32]⟩ : Str)) ++ (a04 a.name)) ++ (⟨#[32]⟩ : Str)) ++ (a01 a.attempts))
end Go.Stp

namespace Go.Proofs.YtolepebgdfdciaaDoor
open Go.Stp
set_option linter.unusedVariables false
set_option linter.unusedSimpArgs false
theorem f23 (w : World) (n : Nat) (hn : n + 0 ≤ 9) (i : Int) (hq0 : Tb w) (hoki : GoT.ok n i) :
 Does Tryd.prog 23 #[.int .i64 (i)] w emp (fun (rv : Value) (_ : World) => rv = .string (itoaS i) ∧ GoT.ok n ((itoaS i) : Str)) := by
 refine (does_itoa hoki hq0 ⟨_, Tryd.func23, by kernel_rfl, Z⟩).mono fun v w' _ h => ⟨h.1, ?_⟩
 have h2 := h.2
 have h3 := bd_pos n
 show (itoaS i).size ≤ bd n
 omega
theorem f28 (w : World) (n : Nat) (hn : n + 0 ≤ 9) (e : List Str) (pe : Option Addr) (ce : Nat) (N0 : RdSl (hp w) pe ce e) (s : Str) (hq0 : e ≠ []) (hq1 : n ≤ 0) (hq2 : s.size ≤ 1) (hoke : GoT.ok n e) (hoks : GoT.ok n s) :
 Does Tryd.prog 28 #[.slice pe ((e).length) ce, .string (s)] w emp (fun (rv : Value) (_ : World) => rv = .string (joinS e s) ∧ GoT.ok 10 ((joinS e s) : Str)) := by
 obtain rfl : n = 0 := by omega
 refine (does_join N0 hoke hq0 hq2 ⟨_, Tryd.func28, by kernel_rfl, Z⟩).mono fun v w' _ h => ⟨h.1, ?_⟩
 have h2 := h.2
 have h3 : bd 10 = 9223372036854775807 := rfl
 show (joinS e s).size ≤ bd 10
 omega
theorem f15 (w : World) (n : Nat) (hn : n + 0 ≤ 9) (n_ : Int) (hq0 : Tb w) (hokn_ : GoT.ok n n_) :
 Does Tryd.prog 15 #[.int .i64 (n_)] w emp (fun (rv : Value) (_ : World) => rv = .string (a03 n_) ∧ GoT.ok n ((a03 n_) : Str)) := by
 have hbP := bd_pos n
 have hbB := bd_big (n := n) (by omega)
 refine WX.enter (tt := tt) (Γ := []) Tryd.func15 Z J Z allS_nil ?_
 refine R0 ?_
 refine WX.callV Z Z Z Z Z O Z (fun w G bs hI hΓ => f23 w n (by omega) n_ (Tb.kp hI hq0) hokn_) ?_
 intro hq1
 refine R0 ?_
 have hP1 : a03 n_ = (itoaS n_) := by simp only [a03, ct, cf]
 refine R1 ?_
 intro w1 G bs hI hΓ
 rw [hP1]
 exact ⟨Z, hq1⟩
theorem f11 (w : World) (n : Nat) (hn : n + 0 ≤ 9) (n_ : Int) (hokn_ : GoT.ok n n_) :
 Does Tryd.prog 11 #[.int .i64 (n_)] w emp (fun (rv : Value) (_ : World) => rv = .string (a01 n_) ∧ GoT.ok n ((a01 n_) : Str)) := by
 have hbP := bd_pos n
 have hbB := bd_big (n := n) (by omega)
 refine WX.enter (tt := tt) (Γ := []) Tryd.func11 Z J Z allS_nil ?_
 refine R0 ?_
 refine WX.cases 7 Z (fun h1 => ?_) (fun h1 => ?_)
 ·skip
  have h1d := B.et h1
  refine R0 ?_
  have hP1 : a01 n_ = (⟨#[48]⟩ : Str) := by simp only [a01, h1, ct, cf]
  refine R1 ?_
  intro w1 G bs hI hΓ
  rw [hP1]
  exact ⟨Z, (Nat.le_trans (by decide) (bd_pos n))⟩
 have h1d := B.ef h1
 refine R0 ?_
 have r1 : (⟨#[]⟩ : Str).size = 0 := rfl
 refine WX.loop (ι := Str × Int) ⟨fun | (s, x_) => (s.size ≤ bd n) ∧ (-9223372036854775808 ≤ x_ ∧ x_ ≤ 9223372036854775807) ∧ (fiInv x_ s.size) ∧ (a06 (⟨#[]⟩ : Str) n_ = a06 s x_), fun | (s, x_) => x_.natAbs, fun | (s, x_) => [(3, .v (.string s)), (4, .v (.int .i64 (x_))), (0, .v (.int .i64 (n_)))], fun | (s, x_) => [], fun | (s, x_) => [], fun | (s, x_) => []⟩ ((⟨#[]⟩ : Str), n_) ⟨(by first | assumption | omega), hokn_, (fiInv_0 hokn_), Z⟩
  (.cons Z (.cons Z (.cons Z (.nil)))) .nil .nil [] Z ?_
 rintro ⟨s, x_⟩ hpre
 have hpre_ : (s.size ≤ bd n) ∧ (-9223372036854775808 ≤ x_ ∧ x_ ≤ 9223372036854775807) ∧ (fiInv x_ s.size) ∧ (a06 (⟨#[]⟩ : Str) n_ = a06 s x_) := hpre
 clear hpre
 obtain ⟨v1, v2, v3, v4⟩ := hpre_
 have hz0 := fiInv_size v3
 refine R0 ?_
 refine WX.cases 10 Z (fun h2 => ?_) (fun h2 => ?_)
 ·skip
  have h2d := B.nt' h2
  refine R0 ?_
  have r2 := tmod_rng x_ (show (0 : Int) < 10 by omega)
  refine WX.see Z Z Z (fun _ hΓ => looks_rem Z Z Z (by decide)) ?_
  refine R0 ?_
  refine WX.cases 16 Z (fun h3 => ?_) (fun h3 => ?_)
  ·skip
   have h3d := B.dt h3
   refine R0 ?_
   refine WX.see Z Z Z (fun _ hΓ => looks_neg Z Z (by unfold I64; omega)) ?_
   refine R0 ?_
   refine WX.see Z Z Z (fun _ hΓ => looks_wrap Z Z Z Z) ?_
   refine WX.see Z Z Z (fun _ hΓ => looks_toU8 ttOk Z Z Z Z Z Z) ?_
   refine WX.bld ttOk Z Z Z Z Z Z Z ?_
   intro p1
   refine WX.turn [] 0 Z (fun h hs => ol_one (α := UInt8) (a := (toU8 (IntKind.i64.wrap (48 + (-(Int.tmod x_ 10)))))) (x := ()) hs) (gs := [MF.ol [.int .u8 ((toU8 (IntKind.i64.wrap (48 + (-(Int.tmod x_ 10))))).toNat : Nat)] ([(toU8 (IntKind.i64.wrap (48 + (-(Int.tmod x_ 10)))))] : List UInt8)]) Z ?_
   refine WX.seal 22 0 1 Z Z Z Z Z ?_
   refine WX.see Z Z Z (fun _ hΓ => looks_toStr ttOk (hΓ.get 1 Z) Z Z Z Z Z Z Z Z Z) ?_
   refine R0 ?_
   have r3 : (bstr ([(toU8 (IntKind.i64.wrap (48 + (-(Int.tmod x_ 10)))))])).size = 1 := bstr_size _
   refine WX.see Z Z Z (fun _ hΓ => looks_cat Z Z Z (by have := bd_le (n + 9); simp; omega)) ?_
   refine R0 ?_
   refine WX.see Z Z Z (fun _ hΓ => looks_quo Z Z Z (by decide)) ?_
   refine R0 ?_
   exact WX.iter (((bstr ([(toU8 (IntKind.i64.wrap (48 + (-(Int.tmod x_ 10)))))])) ++ s), IntKind.i64.wrap (Int.tdiv x_ 10)) ⟨(by first | assumption | omega | (simp; omega)), (i64_wrap _), (fiInv_step (bstr_size _) (by simpa using h2) v3), (by rw [v4]; rw [a06]; simp only [h2, h3, h3d, ct, cf, ↓reduceIte, Bool.false_eq_true])⟩ (wrap_quoN (by simpa using h2)) (.cons Z (.cons Z (.cons Z (.nil)))) .nil .nil [] Z
  have h3d := B.df h3
  refine R0 ?_
  refine WX.see Z Z Z (fun _ hΓ => looks_wrap Z Z Z Z) ?_
  refine WX.see Z Z Z (fun _ hΓ => looks_toU8 ttOk Z Z Z Z Z Z) ?_
  refine WX.bld ttOk Z Z Z Z Z Z Z ?_
  intro p2
  refine WX.turn [] 3 Z (fun h hs => ol_one (α := UInt8) (a := (toU8 (IntKind.i64.wrap (48 + (Int.tmod x_ 10))))) (x := ()) hs) (gs := [MF.ol [.int .u8 ((toU8 (IntKind.i64.wrap (48 + (Int.tmod x_ 10)))).toNat : Nat)] ([(toU8 (IntKind.i64.wrap (48 + (Int.tmod x_ 10))))] : List UInt8)]) Z ?_
  refine WX.seal 22 3 4 Z Z Z Z Z ?_
  refine WX.see Z Z Z (fun _ hΓ => looks_toStr ttOk (hΓ.get 4 Z) Z Z Z Z Z Z Z Z Z) ?_
  refine R0 ?_
  have r4 : (bstr ([(toU8 (IntKind.i64.wrap (48 + (Int.tmod x_ 10))))])).size = 1 := bstr_size _
  refine WX.see Z Z Z (fun _ hΓ => looks_cat Z Z Z (by have := bd_le (n + 9); simp; omega)) ?_
  refine R0 ?_
  refine WX.see Z Z Z (fun _ hΓ => looks_quo Z Z Z (by decide)) ?_
  refine R0 ?_
  exact WX.iter (((bstr ([(toU8 (IntKind.i64.wrap (48 + (Int.tmod x_ 10))))])) ++ s), IntKind.i64.wrap (Int.tdiv x_ 10)) ⟨(by first | assumption | omega | (simp; omega)), (i64_wrap _), (fiInv_step (bstr_size _) (by simpa using h2) v3), (by rw [v4]; rw [a06]; simp only [h2, h3, h3d, ct, cf, ↓reduceIte, Bool.false_eq_true])⟩ (wrap_quoN (by simpa using h2)) (.cons Z (.cons Z (.cons Z (.nil)))) .nil .nil [] Z
 have h2d := B.nf' h2
 refine R0 ?_
 have hX1 : a06 (⟨#[]⟩ : Str) n_ = (s, x_) := by rw [v4]; rw [a06]; simp only [h2, ct, cf, ↓reduceIte, Bool.false_eq_true]
 refine WX.cases 27 Z (fun h4 => ?_) (fun h4 => ?_)
 ·skip
  have h4d := B.dt h4
  refine R0 ?_
  have r5 : (⟨#[45]⟩ : Str).size = 1 := rfl
  refine WX.see Z Z Z (fun _ hΓ => looks_cat Z Z Z (by have := bd_le (n + 9); simp; omega)) ?_
  refine R0 ?_
  have hP2 : a01 n_ = ((⟨#[45]⟩ : Str) ++ s) := by simp only [a01, h1, hX1, h4, ct, cf]
  refine R1 ?_
  intro w1 G bs hI hΓ
  rw [hP2]
  exact ⟨Z, (show (((⟨#[45]⟩ : Str) ++ s)).size ≤ bd n from (by first | omega | (simp; omega)))⟩
 have h4d := B.df h4
 refine R0 ?_
 have hP3 : a01 n_ = s := by simp only [a01, h1, hX1, h4, ct, cf]
 refine R1 ?_
 intro w1 G bs hI hΓ
 rw [hP3]
 exact ⟨Z, v1⟩
theorem f24 (w : World) (n : Nat) (hn : n + 0 ≤ 0) (parts : (List Str)) (K0 : Option Addr) (M0 : Nat) (N0 : RdSl (hp w) K0 M0 parts) (hokparts : GoT.ok n parts) :
 Does Tryd.prog 24 #[.slice K0 ((parts).length) M0] w emp (fun (rv : Value) (_ : World) => rv = .string (a0o parts) ∧ GoT.ok 10 ((a0o parts) : Str)) := by
 have hbP := bd_pos n
 have hbB := bd_big (n := n) (by omega)
 have hn0 : bd n = 1048576 := by rw [show n = 0 by omega]; rfl
 have hbT : bd 10 = 9223372036854775807 := rfl
 refine WX.enter (tt := tt) (Γ := [(0, MF.rs .stb K0 M0 parts)]) Tryd.func24 Z J Z (allS_cons Z N0 allS_nil) ?_
 refine R0 ?_
 refine WX.cases 5 Z (fun h1 => ?_) (fun h1 => ?_)
 ·skip
  have h1d := B.et h1
  refine R0 ?_
  have hP1 : a0o parts = (⟨#[47]⟩ : Str) := by simp only [a0o, h1, ct, cf]
  refine R1 ?_
  intro w1 G bs hI hΓ
  rw [hP1]
  exact ⟨Z, (Nat.le_trans (by decide) (bd_pos 10))⟩
 have h1d := B.ef h1
 refine R0 ?_
 refine WX.callV Z Z Z Z Z O Z (fun w G bs hI hΓ => f28 w n (by omega) parts K0 M0 (hΓ.get 0 Z) (⟨#[47]⟩ : Str) (by intro z_; simp_all) (by omega) (by decide) hokparts (Nat.le_trans (by decide) (bd_pos n))) ?_
 intro hq1
 have q1 := joinS_size (s := (⟨#[47]⟩ : Str)) hn0 (show GoT.ok n parts by assumption) (by decide)
 have r1 : (⟨#[47]⟩ : Str).size = 1 := rfl
 have r2 : (parts).length ≤ bd n := (okl hokparts).1
 have r3 : (joinS parts (⟨#[47]⟩ : Str)).size ≤ bd 10 := hq1
 refine WX.see Z Z Z (fun _ hΓ => looks_cat Z Z Z (by have := bd_le (n + 9); simp; omega)) ?_
 refine R0 ?_
 have hP2 : a0o parts = ((⟨#[47]⟩ : Str) ++ (joinS parts (⟨#[47]⟩ : Str))) := by simp only [a0o, h1, ct, cf]
 refine R1 ?_
 intro w1 G bs hI hΓ
 rw [hP2]
 exact ⟨Z, (show (((⟨#[47]⟩ : Str) ++ (joinS parts (⟨#[47]⟩ : Str)))).size ≤ bd 10 from (by first | omega | (simp; omega)))⟩
theorem f16 (w : World) (n : Nat) (hn : n + 0 ≤ 0) (n_ : Name) (K0 : Option Addr) (M0 : Nat) (N0 : RdSl (hp w) K0 M0 n_.parts) (hokn_ : GoT.ok n n_) :
 Does Tryd.prog 16 #[.agg #[.slice K0 ((n_.parts).length) M0]] w emp (fun (rv : Value) (_ : World) => rv = .string (a07 n_) ∧ GoT.ok 10 ((a07 n_) : Str)) := by
 have hbP := bd_pos n
 have hbB := bd_big (n := n) (by omega)
 have hn0 : bd n = 1048576 := by rw [show n = 0 by omega]; rfl
 have hbT : bd 10 = 9223372036854775807 := rfl
 refine WX.enter (tt := tt) (Γ := [(0, MF.rs .stb K0 M0 n_.parts)]) Tryd.func16 Z J Z (allS_cons Z N0 allS_nil) ?_
 refine R0 ?_
 refine WX.callV Z Z Z Z Z O Z (fun w G bs hI hΓ => f24 w n (by omega) n_.parts K0 M0 (hΓ.get 0 Z) (ok_Name hokn_)) ?_
 intro hq1
 refine R0 ?_
 have hP1 : a07 n_ = (a0o n_.parts) := by simp only [a07, ct, cf]
 refine R1 ?_
 intro w1 G bs hI hΓ
 rw [hP1]
 exact ⟨Z, hq1⟩
theorem f12 (w : World) (n : Nat) (hn : n + 0 ≤ 0) (n_ : Name) (K0 : Option Addr) (M0 : Nat) (N0 : RdSl (hp w) K0 M0 n_.parts) (hokn_ : GoT.ok n n_) :
 Does Tryd.prog 12 #[.agg #[.slice K0 ((n_.parts).length) M0]] w emp (fun (rv : Value) (_ : World) => rv = .string (a04 n_) ∧ GoT.ok 10 ((a04 n_) : Str)) := by
 have hbP := bd_pos n
 have hbB := bd_big (n := n) (by omega)
 have hn0 : bd n = 1048576 := by rw [show n = 0 by omega]; rfl
 have hbT : bd 10 = 9223372036854775807 := rfl
 refine WX.enter (tt := tt) (Γ := [(0, MF.rs .stb K0 M0 n_.parts)]) Tryd.func12 Z J Z (allS_cons Z N0 allS_nil) ?_
 refine R0 ?_
 have r1 : (⟨#[]⟩ : Str).size = 0 := rfl
 have r2 : (n_.parts).length ≤ bd n := (okl (ok_Name hokn_)).1
 refine WX.loop (ι := Str × Nat) ⟨fun | (s, i) => (i ≤ (n_.parts).length) ∧ (s.size ≤ bd 10) ∧ (s.size ≤ i * 1048577) ∧ (a0h n_.parts (⟨#[]⟩ : Str) = a0h ((n_.parts).drop i) s), fun | (s, i) => (n_.parts).length - i, fun | (s, i) => [(3, .v (.string s)), (4, .v (.int .i64 (((i : Nat) : Int)))), (1, .p 1 0)], fun | (s, i) => [(1, ⟨32, [.slice K0 ((n_.parts).length) M0]⟩)], fun | (s, i) => [], fun | (s, i) => [(0, MF.rs .stb K0 M0 n_.parts)]⟩ ((⟨#[]⟩ : Str), 0) ⟨(Nat.zero_le _), (by first | assumption | omega), (by decide), Z⟩
  (.cons Z (.cons Z (.cons Z (.nil)))) (.cons Z (.nil)) .nil [0] Z ?_
 rintro ⟨s, i⟩ hpre
 have hpre_ : (i ≤ (n_.parts).length) ∧ (s.size ≤ bd 10) ∧ (s.size ≤ i * 1048577) ∧ (a0h n_.parts (⟨#[]⟩ : Str) = a0h ((n_.parts).drop i) s) := hpre
 clear hpre
 obtain ⟨v1, v2, v3, v4⟩ := hpre_
 refine R0 ?_
 refine WX.cases 9 Z (fun h1 => ?_) (fun h1 => ?_)
 ·skip
  have h1d := B.dt h1
  have e1i : i < (n_.parts).length := (by omega)
  obtain ⟨e1, e1h⟩ : ∃ e1, (n_.parts)[i]? = some e1 := ⟨_, List.getElem?_eq_getElem e1i⟩
  have ok1 : GoT.ok n e1 := (okl (ok_Name hokn_)).2 _ (List.mem_of_getElem? e1h)
  refine R0 ?_
  have r3 : (⟨#[47]⟩ : Str).size = 1 := rfl
  refine WX.see Z Z Z (fun _ hΓ => looks_cat Z Z Z (by have := bd_le (n + 9); simp; omega)) ?_
  refine R0 ?_
  refine WX.idx 0 i ttOk Z Z Z Z Z Z Z Z Z Z e1i ?_
  rintro ad1 rfl
  refine WX.ldE 0 1 e1 ttOk Z Z Z Z Z Z Z Z e1h O O ?_
  rintro ⟨⟩
  have r4 : (e1).size ≤ bd n := ok1
  refine WX.see Z Z Z (fun _ hΓ => looks_cat Z Z Z (by have := bd_le (n + 9); simp; omega)) ?_
  refine R0 ?_
  refine WX.see Z Z Z (fun _ hΓ => looks_arith Z Z Z Z (by unfold I64; first | omega | (simp only [List.length_take] at *; omega))) ?_
  refine R0 ?_
  exact WX.iter (((s ++ (⟨#[47]⟩ : Str)) ++ e1), i + 1) ⟨(by omega), (by first | assumption | omega | (simp; omega)), (by rw [ByteArray.size_append, ByteArray.size_append]; omega), (by rw [v4, drop_get e1h]; simp only [a0h, ct, cf])⟩ (by first | (dsimp only; omega) | omega) (.cons Z (.cons Z (.cons Z (.nil)))) (.cons Z (.nil)) .nil [0] Z
 have h1d := B.df h1
 refine R0 ?_
 have hX1 : a0h n_.parts (⟨#[]⟩ : Str) = s := by rw [v4, List.drop_eq_nil_of_le (show (n_.parts).length ≤ i by omega)]; simp only [a0h, ct, cf]
 refine WX.cases 23 Z (fun h2 => ?_) (fun h2 => ?_)
 ·skip
  have h2d := B.et h2
  refine R0 ?_
  have hP1 : a04 n_ = (⟨#[47]⟩ : Str) := by simp only [a04, hX1, h2, ct, cf]
  refine R1 ?_
  intro w1 G bs hI hΓ
  rw [hP1]
  exact ⟨Z, (Nat.le_trans (by decide) (bd_pos 10))⟩
 have h2d := B.ef h2
 refine R0 ?_
 have hP2 : a04 n_ = s := by simp only [a04, hX1, h2, ct, cf]
 refine R1 ?_
 intro w1 G bs hI hΓ
 rw [hP2]
 exact ⟨Z, v2⟩
theorem f7 (w : World) (n : Nat) (hn : n + 0 ≤ 0) (a : Consumer) (K0 : Option Addr) (M0 : Nat) (N0 : RdSl (hp w) K0 M0 a.name.parts) (K1 : Option Addr) (M1 : Nat) (N1 : RdSl (hp w) K1 M1 a.data.name.parts) (K2 : Option Addr) (M2 : Nat) (N2 : RdSl (hp w) K2 M2 a.data.content) (K3 : Option Addr) (M3 : Nat) (N3 : RdSl (hp w) K3 M3 a.data.keyName.parts) (hq0 : Tb w) (hoka : GoT.ok n a) :
 Does Tryd.prog 7 #[.agg #[.int .i64 (a.node), .int .i64 (a.index), .slice K0 ((a.name.parts).length) M0, .int .i64 (a.attempts), .int .i64 (a.wait), .bool a.satisfied, .slice K1 ((a.data.name.parts).length) M1, .slice K2 ((a.data.content).length) M2, .slice K3 ((a.data.keyName.parts).length) M3, .int .i64 (a.data.freshUntil), .int .i64 (a.data.signature)]] w emp (fun (rv : Value) (_ : World) => rv = .string (a0p a) ∧ GoT.ok 10 ((a0p a) : Str)) := by
 have hbP := bd_pos n
 have hbB := bd_big (n := n) (by omega)
 have hn0 : bd n = 1048576 := by rw [show n = 0 by omega]; rfl
 have hbT : bd 10 = 9223372036854775807 := rfl
 refine WX.enter (tt := tt) (Γ := [(0, MF.rs .stb K0 M0 a.name.parts), (1, MF.rs .stb K1 M1 a.data.name.parts), (2, MF.rs .stb K2 M2 a.data.content), (3, MF.rs .stb K3 M3 a.data.keyName.parts)]) Tryd.func7 Z J Z (allS_cons Z N0 (allS_cons Z N1 (allS_cons Z N2 (allS_cons Z N3 allS_nil)))) ?_
 refine R0 ?_
 refine WX.callV Z Z Z Z Z O Z (fun w G bs hI hΓ => f15 w n (by omega) a.attempts (Tb.kp hI hq0) ((ok_Consumer hoka).2.2.2.1)) ?_
 intro hq1
 refine R0 ?_
 refine WX.cases 8 Z (fun h1 => ?_) (fun h1 => ?_)
 ·skip
  replace h1 : a.satisfied = true := h1
  refine R0 ?_
  refine WX.draw [] mixed ?_
  intro bs G0 hΓ0
  refine DX.takes (fuel := 7) ttOk [(0, true), (1, false), (4, true), (5, false), (9, true)] J Z ?_
  refine DX.callV 2 Z J Z Z Z Z Z Z O Z (fun w G bs hI hΓ => f15 w n (by omega) a.node (Tb.kp hI hq0) ((ok_Consumer hoka).1)) ?_
  intro hq2
  have r1 : (⟨#[32]⟩ : Str).size = 1 := rfl
  have r2 : -9223372036854775808 ≤ a.node ∧ a.node ≤ 9223372036854775807 := (ok_Consumer hoka).1
  have r3 : (a03 a.node).size ≤ bd n := hq2
  refine DX.see 3 J Z Z Z Z (looks_cat Z Z Z (by have := bd_le (n + 9); simp; omega)) ?_
  refine DX.callV 6 Z J Z Z Z Z Z Z O Z (fun w G bs hI hΓ => f16 w n (by omega) a.name K0 M0 (hΓ.get 0 Z) ((ok_Consumer hoka).2.2.1)) ?_
  intro hq3
  have q1 := fnm_impl hn0 (show GoT.ok n a.name from (ok_Consumer hoka).2.2.1)
  have r4 : (a07 a.name).size ≤ bd 10 := hq3
  refine DX.see 7 J Z Z Z Z (looks_cat Z Z Z (by have := bd_le (n + 9); simp; omega)) ?_
  refine DX.see 8 J Z Z Z Z (looks_cat Z Z Z (by have := bd_le (n + 9); simp; omega)) ?_
  have r5 : (⟨#[111, 107]⟩ : Str).size = 2 := rfl
  refine DX.see 10 J Z Z Z Z (looks_cat Z Z Z (by have := bd_le (n + 9); simp; omega)) ?_
  refine DX.takes (fuel := 0) ttOk [(11, true)] J Z ?_
  refine DX.tail2 [] Z Z J ?_
  refine R0 ?_
  have hP1 : a0p a = (((((a03 a.node) ++ (⟨#[32]⟩ : Str)) ++ (a07 a.name)) ++ (⟨#[32]⟩ : Str)) ++ (⟨#[111, 107]⟩ : Str)) := by simp only [a0p, h1, ct, cf]
  refine R1 ?_
  intro w1 G bs hI hΓ
  rw [hP1]
  exact ⟨Z, (show ((((((a03 a.node) ++ (⟨#[32]⟩ : Str)) ++ (a07 a.name)) ++ (⟨#[32]⟩ : Str)) ++ (⟨#[111, 107]⟩ : Str))).size ≤ bd 10 from (by first | omega | (simp; omega)))⟩
 replace h1 : a.satisfied = false := h1
 refine R0 ?_
 refine WX.draw [] mixed ?_
 intro bs G0 hΓ0
 refine DX.takes (fuel := 7) ttOk [(0, true), (1, false), (4, true), (5, false), (9, true)] J Z ?_
 refine DX.callV 2 Z J Z Z Z Z Z Z O Z (fun w G bs hI hΓ => f15 w n (by omega) a.node (Tb.kp hI hq0) ((ok_Consumer hoka).1)) ?_
 intro hq4
 have r6 : (⟨#[32]⟩ : Str).size = 1 := rfl
 have r7 : -9223372036854775808 ≤ a.node ∧ a.node ≤ 9223372036854775807 := (ok_Consumer hoka).1
 have r8 : (a03 a.node).size ≤ bd n := hq4
 refine DX.see 3 J Z Z Z Z (looks_cat Z Z Z (by have := bd_le (n + 9); simp; omega)) ?_
 refine DX.callV 6 Z J Z Z Z Z Z Z O Z (fun w G bs hI hΓ => f16 w n (by omega) a.name K0 M0 (hΓ.get 0 Z) ((ok_Consumer hoka).2.2.1)) ?_
 intro hq5
 have q2 := fnm_impl hn0 (show GoT.ok n a.name from (ok_Consumer hoka).2.2.1)
 have r9 : (a07 a.name).size ≤ bd 10 := hq5
 refine DX.see 7 J Z Z Z Z (looks_cat Z Z Z (by have := bd_le (n + 9); simp; omega)) ?_
 refine DX.see 8 J Z Z Z Z (looks_cat Z Z Z (by have := bd_le (n + 9); simp; omega)) ?_
 have r10 : -9223372036854775808 ≤ a.attempts ∧ a.attempts ≤ 9223372036854775807 := (ok_Consumer hoka).2.2.2.1
 have r11 : (a03 a.attempts).size ≤ bd n := hq1
 refine DX.see 10 J Z Z Z Z (looks_cat Z Z Z (by have := bd_le (n + 9); simp; omega)) ?_
 refine DX.takes (fuel := 0) ttOk [(11, true)] J Z ?_
 refine DX.tail2 [] Z Z J ?_
 refine R0 ?_
 have hP2 : a0p a = (((((a03 a.node) ++ (⟨#[32]⟩ : Str)) ++ (a07 a.name)) ++ (⟨#[32]⟩ : Str)) ++ (a03 a.attempts)) := by simp only [a0p, h1, ct, cf]
 refine R1 ?_
 intro w1 G bs hI hΓ
 rw [hP2]
 exact ⟨Z, (show ((((((a03 a.node) ++ (⟨#[32]⟩ : Str)) ++ (a07 a.name)) ++ (⟨#[32]⟩ : Str)) ++ (a03 a.attempts))).size ≤ bd 10 from (by first | omega | (simp; omega)))⟩
theorem f5 (w : World) (n : Nat) (hn : n + 0 ≤ 0) (a : Consumer) (K0 : Option Addr) (M0 : Nat) (N0 : RdSl (hp w) K0 M0 a.name.parts) (K1 : Option Addr) (M1 : Nat) (N1 : RdSl (hp w) K1 M1 a.data.name.parts) (K2 : Option Addr) (M2 : Nat) (N2 : RdSl (hp w) K2 M2 a.data.content) (K3 : Option Addr) (M3 : Nat) (N3 : RdSl (hp w) K3 M3 a.data.keyName.parts) (hoka : GoT.ok n a) :
 Does Tryd.prog 5 #[.agg #[.int .i64 (a.node), .int .i64 (a.index), .slice K0 ((a.name.parts).length) M0, .int .i64 (a.attempts), .int .i64 (a.wait), .bool a.satisfied, .slice K1 ((a.data.name.parts).length) M1, .slice K2 ((a.data.content).length) M2, .slice K3 ((a.data.keyName.parts).length) M3, .int .i64 (a.data.freshUntil), .int .i64 (a.data.signature)]] w emp (fun (rv : Value) (_ : World) => rv = .string (a0q a) ∧ GoT.ok 10 ((a0q a) : Str)) := by
 have hbP := bd_pos n
 have hbB := bd_big (n := n) (by omega)
 have hn0 : bd n = 1048576 := by rw [show n = 0 by omega]; rfl
 have hbT : bd 10 = 9223372036854775807 := rfl
 refine WX.enter (tt := tt) (Γ := [(0, MF.rs .stb K0 M0 a.name.parts), (1, MF.rs .stb K1 M1 a.data.name.parts), (2, MF.rs .stb K2 M2 a.data.content), (3, MF.rs .stb K3 M3 a.data.keyName.parts)]) Tryd.func5 Z J Z (allS_cons Z N0 (allS_cons Z N1 (allS_cons Z N2 (allS_cons Z N3 allS_nil)))) ?_
 refine R0 ?_
 refine WX.draw [] mixed ?_
 intro bs G0 hΓ0
 refine DX.takes (fuel := 5) ttOk [(0, true), (1, false), (4, true), (5, false)] J Z ?_
 refine DX.callV 2 Z J Z Z Z Z Z Z O Z (fun w G bs hI hΓ => f11 w n (by omega) a.node ((ok_Consumer hoka).1)) ?_
 intro hq1
 have r1 : (⟨#[32]⟩ : Str).size = 1 := rfl
 have r2 : -9223372036854775808 ≤ a.node ∧ a.node ≤ 9223372036854775807 := (ok_Consumer hoka).1
 have r3 : (a01 a.node).size ≤ bd n := hq1
 refine DX.see 3 J Z Z Z Z (looks_cat Z Z Z (by have := bd_le (n + 9); simp; omega)) ?_
 refine DX.callV 6 Z J Z Z Z Z Z Z O Z (fun w G bs hI hΓ => f12 w n (by omega) a.name K0 M0 (hΓ.get 0 Z) ((ok_Consumer hoka).2.2.1)) ?_
 intro hq2
 have q1 := fnm_spec hn0 (show GoT.ok n a.name from (ok_Consumer hoka).2.2.1)
 have r4 : (a04 a.name).size ≤ bd 10 := hq2
 refine DX.see 7 J Z Z Z Z (looks_cat Z Z Z (by have := bd_le (n + 9); simp; omega)) ?_
 refine DX.takes (fuel := 0) ttOk [(8, true)] J Z ?_
 refine DX.tail2 [] Z Z J ?_
 refine R0 ?_
 refine WX.cases 13 Z (fun h1 => ?_) (fun h1 => ?_)
 ·skip
  replace h1 : a.satisfied = true := h1
  refine R0 ?_
  have r5 : (⟨#[32, 111, 107]⟩ : Str).size = 3 := rfl
  refine WX.see Z Z Z (fun _ hΓ => looks_cat Z Z Z (by have := bd_le (n + 9); simp; omega)) ?_
  refine R0 ?_
  have hP1 : a0q a = ((((a01 a.node) ++ (⟨#[32]⟩ : Str)) ++ (a04 a.name)) ++ (⟨#[32, 111, 107]⟩ : Str)) := by simp only [a0q, h1, ct, cf]
  refine R1 ?_
  intro w1 G bs hI hΓ
  rw [hP1]
  exact ⟨Z, (show (((((a01 a.node) ++ (⟨#[32]⟩ : Str)) ++ (a04 a.name)) ++ (⟨#[32, 111, 107]⟩ : Str))).size ≤ bd 10 from (by first | omega | (simp; omega)))⟩
 replace h1 : a.satisfied = false := h1
 refine R0 ?_
 refine WX.see Z Z Z (fun _ hΓ => looks_cat Z Z Z (by have := bd_le (n + 9); simp; omega)) ?_
 refine R0 ?_
 refine WX.callV Z Z Z Z Z O Z (fun w G bs hI hΓ => f11 w n (by omega) a.attempts ((ok_Consumer hoka).2.2.2.1)) ?_
 intro hq3
 have r6 : -9223372036854775808 ≤ a.attempts ∧ a.attempts ≤ 9223372036854775807 := (ok_Consumer hoka).2.2.2.1
 have r7 : (a01 a.attempts).size ≤ bd n := hq3
 refine WX.see Z Z Z (fun _ hΓ => looks_cat Z Z Z (by have := bd_le (n + 9); simp; omega)) ?_
 refine R0 ?_
 have hP2 : a0q a = (((((a01 a.node) ++ (⟨#[32]⟩ : Str)) ++ (a04 a.name)) ++ (⟨#[32]⟩ : Str)) ++ (a01 a.attempts)) := by simp only [a0q, h1, ct, cf]
 refine R1 ?_
 intro w1 G bs hI hΓ
 rw [hP2]
 exact ⟨Z, (show ((((((a01 a.node) ++ (⟨#[32]⟩ : Str)) ++ (a04 a.name)) ++ (⟨#[32]⟩ : Str)) ++ (a01 a.attempts))).size ≤ bd 10 from (by first | omega | (simp; omega)))⟩
end Go.Proofs.YtolepebgdfdciaaDoor

namespace Go.Stp
theorem mid {α : Type} (p : List α) (e : α) (l : List α) : (p ++ e :: l)[p.length]? = some e := by simp
theorem mid_set {α : Type} (p : List α) (e x : α) (l : List α) : (p ++ e :: l).set p.length x = (p ++ [x]) ++ l := by simp
theorem mid_app {α : Type} (p : List α) (e : α) (l : List α) : (p ++ [e]) ++ l = p ++ e :: l := by simp
theorem mid_len {α : Type} (p : List α) (e : α) : (p ++ [e]).length = p.length + 1 := by simp
def SzR (r left : Int) (s : Nat) : Prop := r = -1 ∨ ((s : Int) ≤ left ∧ r = left - s)
theorem SzR.pos {r left : Int} {s : Nat} (h : SzR r left s) (hr : 0 ≤ r) : (s : Int) ≤ left ∧ r = left - s := by
 rcases h with h | h
 ·omega
 ·exact h
def SzL (r : Ctl Int Int) (left : Int) (s : Nat) : Prop := r = .ret (-1) ∨ ((s : Int) ≤ left ∧ r = .nxt (left - s))
theorem dF {x : Int} (h : 0 ≤ x) : decide (x < 0) = false := decide_eq_false (by omega)
theorem dT {x : Int} (h : x < 0) : decide (x < 0) = true := decide_eq_true h
theorem wrap_sub {x : Int} {n : Nat} (h0 : 0 ≤ x) (h1 : x ≤ 1048576) (hn : n ≤ 9223372036854775807) : IntKind.i64.wrap (x - (n : Int)) = x - n := wrap_i64 (by unfold I64; omega)
theorem szL_cons {α : Type} [GoT α] [Sz α] (a : α) (l : List α) : szL (a :: l) = sz a + szL l := by simp [szL]
theorem szL_nil {α : Type} [GoT α] [Sz α] : szL ([] : List α) = 0 := rfl
theorem szL_zero {α : Type} [GoT α] [Sz α] (h : ∀ a : α, sz a = 0) : ∀ l : List α, szL l = 0
 | [] => rfl
 | a :: l => by rw [szL_cons, h a, szL_zero h l]
theorem szL_u8 (l : List UInt8) : szL l = 0 := szL_zero (fun _ => rfl) l
theorem bne_self_F {α : Type} [BEq α] [LawfulBEq α] (a : α) : (a != a) = false := by simp
theorem nbeq_self_F {α : Type} [BEq α] [LawfulBEq α] (a : α) : (!(a == a)) = false := by simp
end Go.Stp

namespace Go.Stp
set_option linter.unusedVariables false
set_option linter.unusedSimpArgs false
theorem eqL_StringS : ∀ (l p : (List Str)), a0e (p ++ l) l p.length = none
 | [], _ => rfl
 | e :: l, p => by
  have ih := eqL_StringS l (p ++ [e])
  rw [mid_app, mid_len] at ih
  simp only [a0e, mid, bne_self_F, nbeq_self_F, cond_false]
  exact ih
theorem eq_StringS (a : (List Str)) : a0l a a = true := by
 have h := eqL_StringS a []
 simp only [List.nil_append, List.length_nil] at h
 simp only [a0l, bne_self_F, cond_false, h]
theorem toL_StringS : ∀ (l p z : (List Str)), z.length = l.length → a0i l p.length (p ++ z) = p ++ l
 | [], p, [], _ => rfl
 | e :: l, p, y :: z, h => by
  have ih := toL_StringS l (p ++ [e]) z (by simpa using h)
  rw [mid_app p e l, mid_len] at ih
  simp only [a0i, mid, mid_set]
  exact ih
theorem to_StringS (a : (List Str)) : a0r a = a := by
 simp only [a0r]
 exact toL_StringS a [] _ (by simp)
theorem szL_StringS_R : ∀ (l : (List Str)) (left : Int), (∀ a ∈ l, GoT.ok 10 a) → 0 ≤ left → left ≤ 1048576 → SzL (a0a l left) left (szL l)
 | [], left, _, h0, _ => .inr ⟨by simp [szL_nil]; omega, by simp [szL_nil, a0a]⟩
 | e :: l, left, hk, h0, h1 => by
  have he : e.size ≤ 9223372036854775807 := hk e List.mem_cons_self
  rw [szL_cons, sz_str]
  unfold a0a
  rw [wrap_sub h0 h1 he]
  by_cases hc : left - (e.size : Int) < 0
  ·rw [dT hc, cond_true]; exact .inl rfl
  ·rw [dF (by omega), cond_false]
   rcases szL_StringS_R l (left - (e.size : Int)) (fun a ha => hk a (List.mem_cons_of_mem _ ha)) (by omega) (by omega) with r | ⟨q, r⟩
   ·exact .inl r
   ·exact .inr ⟨by omega, by rw [r]; congr 1; omega⟩
theorem sz_StringS_R (a : (List Str)) (left : Int) (h : GoT.ok 10 a) (h0 : 0 ≤ left) (h1 : left ≤ 1048576) : SzR (a0b a left) left (sz a) := by
 have hl : a.length ≤ 9223372036854775807 := h.1
 rw [sz_list]
 unfold a0b
 rw [wrap_sub h0 h1 hl]
 by_cases hc : left - (a.length : Int) < 0
 ·rw [dT hc, cond_true]; exact .inl rfl
 ·rw [dF (by omega), cond_false]
  rcases szL_StringS_R a (left - (a.length : Int)) h.2 (by omega) (by omega) with r | ⟨q, r⟩
  ·rw [r]; exact .inl rfl
  ·rw [r]; exact .inr ⟨by omega, by show left - (a.length : Int) - (szL a : Int) = _; omega⟩
theorem eq_Name (a : Name) : a0m a a = true := by
 simp only [a0m, bne_self_F, nbeq_self_F, cond_false, Bool.not_true, eq_StringS]
theorem to_Name (a : Name) : a0g a = a := by
 simp only [a0g, to_StringS]
theorem sz_Name_R (a : Name) (left : Int) (h : GoT.ok 10 a) (h0 : 0 ≤ left) (h1 : left ≤ 1048576) : SzR (a00 a left) left (sz a) := by
 rw [sz_Name]
 unfold a00
 rcases sz_StringS_R a.parts left (ok_Name h) (by omega) (by omega) with r0 | ⟨q0, r0⟩
 ·rw [r0]; exact .inl rfl
 rw [r0, dF (by omega), cond_false]
 exact .inr ⟨by omega, by omega⟩
theorem eqL_ByteS : ∀ (l p : (List UInt8)), a0f (p ++ l) l p.length = none
 | [], _ => rfl
 | e :: l, p => by
  have ih := eqL_ByteS l (p ++ [e])
  rw [mid_app, mid_len] at ih
  simp only [a0f, mid, bne_self_F, nbeq_self_F, cond_false]
  exact ih
theorem eq_ByteS (a : (List UInt8)) : a0n a a = true := by
 have h := eqL_ByteS a []
 simp only [List.nil_append, List.length_nil] at h
 simp only [a0n, bne_self_F, cond_false, h]
theorem toL_ByteS : ∀ (l p z : (List UInt8)), z.length = l.length → a0j l p.length (p ++ z) = p ++ l
 | [], p, [], _ => rfl
 | e :: l, p, y :: z, h => by
  have ih := toL_ByteS l (p ++ [e]) z (by simpa using h)
  rw [mid_app p e l, mid_len] at ih
  simp only [a0j, mid, mid_set]
  exact ih
theorem to_ByteS (a : (List UInt8)) : a0s a = a := by
 simp only [a0s]
 exact toL_ByteS a [] _ (by simp)
theorem sz_ByteS_R (a : (List UInt8)) (left : Int) (h : GoT.ok 10 a) (h0 : 0 ≤ left) (h1 : left ≤ 1048576) : SzR (a0c a left) left (sz a) := by
 have hl : a.length ≤ 9223372036854775807 := h.1
 rw [sz_list, szL_u8]
 unfold a0c
 rw [wrap_sub h0 h1 hl]
 by_cases hc : left - (a.length : Int) < 0
 ·rw [dT hc, cond_true]; exact .inl rfl
 ·rw [dF (by omega), cond_false]; exact .inr ⟨by omega, rfl⟩
theorem eq_Data (a : DataP) : a05 a a = true := by
 simp only [a05, bne_self_F, nbeq_self_F, cond_false, Bool.not_true, eq_Name, eq_ByteS]
theorem to_Data (a : DataP) : a0t a = a := by
 simp only [a0t, to_Name, to_ByteS]
theorem sz_Data_R (a : DataP) (left : Int) (h : GoT.ok 10 a) (h0 : 0 ≤ left) (h1 : left ≤ 1048576) : SzR (a08 a left) left (sz a) := by
 rw [sz_DataP]
 unfold a08
 rcases sz_Name_R a.name left (ok_DataP h).1 (by omega) (by omega) with r0 | ⟨q0, r0⟩
 ·rw [r0]; exact .inl rfl
 rw [r0, dF (by omega), cond_false]
 rcases sz_ByteS_R a.content (left - (sz a.name : Int)) (ok_DataP h).2.1 (by omega) (by omega) with r1 | ⟨q1, r1⟩
 ·rw [r1]; exact .inl rfl
 rw [r1, dF (by omega), cond_false]
 rcases sz_Name_R a.keyName ((left - (sz a.name : Int)) - (sz a.content : Int)) (ok_DataP h).2.2.1 (by omega) (by omega) with r2 | ⟨q2, r2⟩
 ·rw [r2]; exact .inl rfl
 rw [r2, dF (by omega), cond_false]
 exact .inr ⟨by omega, by omega⟩
theorem eq_Consumer (a : Consumer) : a02 a a = true := by
 simp only [a02, bne_self_F, nbeq_self_F, cond_false, Bool.not_true, eq_Name, eq_Data]
theorem to_Consumer (a : Consumer) : a09 a = a := by
 simp only [a09, to_Name, to_Data]
theorem sz_Consumer_R (a : Consumer) (left : Int) (h : GoT.ok 10 a) (h0 : 0 ≤ left) (h1 : left ≤ 1048576) : SzR (a0d a left) left (sz a) := by
 rw [sz_Consumer]
 unfold a0d
 rcases sz_Name_R a.name left (ok_Consumer h).2.2.1 (by omega) (by omega) with r0 | ⟨q0, r0⟩
 ·rw [r0]; exact .inl rfl
 rw [r0, dF (by omega), cond_false]
 rcases sz_Data_R a.data (left - (sz a.name : Int)) (ok_Consumer h).2.2.2.2.2.2 (by omega) (by omega) with r1 | ⟨q1, r1⟩
 ·rw [r1]; exact .inl rfl
 rw [r1, dF (by omega), cond_false]
 exact .inr ⟨by omega, by omega⟩
end Go.Stp

namespace Go.Stp
set_option linter.unusedVariables false
set_option linter.unusedSimpArgs false
def a0k (aA : Consumer) : Bool :=
 bif decide ((a0d aA 1048576) < 0) then
  true
 else
  bif (!(((a0p (a09 aA))).toList == ((a0q (a09 aA))).toList)) then
   false
  else
   bif (!(a02 (a09 aA) (a09 aA))) then
    false
   else
    true
end Go.Stp

namespace Go.Proofs.YtolepebgdfdciaaDoor
open Go.Stp
set_option linter.unusedVariables false
set_option linter.unusedSimpArgs false
theorem f3 (w : World) (n : Nat) (hn : n + 0 ≤ 0) (aA : Consumer) (K0 : Option Addr) (M0 : Nat) (N0 : RdSl (hp w) K0 M0 aA.name.parts) (K1 : Option Addr) (M1 : Nat) (N1 : RdSl (hp w) K1 M1 aA.data.name.parts) (K2 : Option Addr) (M2 : Nat) (N2 : RdSl (hp w) K2 M2 aA.data.content) (K3 : Option Addr) (M3 : Nat) (N3 : RdSl (hp w) K3 M3 aA.data.keyName.parts) (hq0 : Tb w) (hokaA : GoT.ok 10 aA) :
 Does Tryd.prog 3 #[.agg #[.int .i64 (aA.node), .int .i64 (aA.index), .slice K0 ((aA.name.parts).length) M0, .int .i64 (aA.attempts), .int .i64 (aA.wait), .bool aA.satisfied, .slice K1 ((aA.data.name.parts).length) M1, .slice K2 ((aA.data.content).length) M2, .slice K3 ((aA.data.keyName.parts).length) M3, .int .i64 (aA.data.freshUntil), .int .i64 (aA.data.signature)]] w emp (fun (rv : Value) (_ : World) => rv = .bool (a0k aA) ∧ True) := by
 have hbP := bd_pos n
 have hbB := bd_big (n := n) (by omega)
 have hn0 : bd n = 1048576 := by rw [show n = 0 by omega]; rfl
 have hbT : bd 10 = 9223372036854775807 := rfl
 refine WX.enter (tt := tt) (Γ := [(0, MF.rs .stb K0 M0 aA.name.parts), (1, MF.rs .stb K1 M1 aA.data.name.parts), (2, MF.rs .stb K2 M2 aA.data.content), (3, MF.rs .stb K3 M3 aA.data.keyName.parts)]) Tryd.func3 Z J Z (allS_cons Z N0 (allS_cons Z N1 (allS_cons Z N2 (allS_cons Z N3 allS_nil)))) ?_
 refine R0 ?_
 refine WX.callV Z Z Z Z Z O Z (fun w G bs hI hΓ => f4 w 10 aA K0 M0 (hΓ.get 0 Z) K1 M1 (hΓ.get 1 Z) K2 M2 (hΓ.get 2 Z) K3 M3 (hΓ.get 3 Z) 1048576 hokaA (show I64 1048576 from (by unfold I64; omega))) ?_
 intro hq1
 refine R0 ?_
 refine WX.cases 11 Z (fun h1 => ?_) (fun h1 => ?_)
 ·skip
  have h1d := B.dt h1
  refine R0 ?_
  have hP1 : a0k aA = true := by simp only [a0k, h1, ct, cf]
  exact R3 hP1
 have h1d := B.df h1
 obtain ⟨hs1, ht1⟩ := (sz_Consumer_R aA 1048576 hokaA (by omega) (by omega)).pos (by omega)
 have hk1 : GoT.ok n aA := GoT.okm (Nat.zero_le n) (Sz.low hokaA (show sz aA ≤ 1048576 by omega))
 refine R0 ?_
 refine WX.callF 4 (fun _ _ h => GoT.ow_rd h) (fun _ f hf => GoT.fak f hf) Z Z Z Z Z O Z (fun w G bs hI hΓ => f6 w n (by omega) aA K0 M0 (hΓ.get 0 Z) K1 M1 (hΓ.get 1 Z) K2 M2 (hΓ.get 2 Z) K3 M3 (hΓ.get 3 Z) hk1) O O ?_
 rintro ⟨⟨⟩, ⟨⟩, ⟨p1, c1⟩, ⟨⟩, ⟨⟩, ⟨⟩, ⟨⟨p2, c2⟩, ⟨p3, c3⟩, ⟨p4, c4⟩, ⟨⟩, ⟨⟩⟩⟩ hq2
 refine WX.callV Z Z Z Z Z O Z (fun w G bs hI hΓ => f5 w n (by omega) (a09 aA) p1 c1 (hΓ.get 4 Z) p2 c2 (hΓ.get 5 Z) p3 c3 (hΓ.get 6 Z) p4 c4 (hΓ.get 7 Z) hq2) ?_
 intro hq3
 refine R0 ?_
 refine WX.callF 12 (fun _ _ h => GoT.ow_rd h) (fun _ f hf => GoT.fak f hf) Z Z Z Z Z O Z (fun w G bs hI hΓ => f6 w n (by omega) aA K0 M0 (hΓ.get 0 Z) K1 M1 (hΓ.get 1 Z) K2 M2 (hΓ.get 2 Z) K3 M3 (hΓ.get 3 Z) hk1) O O ?_
 rintro ⟨⟨⟩, ⟨⟩, ⟨p5, c5⟩, ⟨⟩, ⟨⟩, ⟨⟩, ⟨⟨p6, c6⟩, ⟨p7, c7⟩, ⟨p8, c8⟩, ⟨⟩, ⟨⟩⟩⟩ hq4
 refine R0 ?_
 refine WX.callV Z Z Z Z Z O Z (fun w G bs hI hΓ => f7 w n (by omega) (a09 aA) p5 c5 (hΓ.get 12 Z) p6 c6 (hΓ.get 13 Z) p7 c7 (hΓ.get 14 Z) p8 c8 (hΓ.get 15 Z) (Tb.kp hI hq0) (And.intro (ok_Consumer hq2).1 (And.intro (ok_Consumer hq2).2.1 (And.intro (ok_Consumer hq4).2.2.1 (And.intro (ok_Consumer hq2).2.2.2.1 (And.intro (ok_Consumer hq2).2.2.2.2.1 (And.intro trivial (And.intro (ok_DataP (ok_Consumer hq4).2.2.2.2.2.2).1 (And.intro (ok_DataP (ok_Consumer hq4).2.2.2.2.2.2).2.1 (And.intro (ok_DataP (ok_Consumer hq4).2.2.2.2.2.2).2.2.1 (And.intro (ok_DataP (ok_Consumer hq2).2.2.2.2.2.2).2.2.2.1 (ok_DataP (ok_Consumer hq2).2.2.2.2.2.2).2.2.2.2))))))))))) ?_
 intro hq5
 refine R0 ?_
 refine WX.cases 21 Z (fun h2 => ?_) (fun h2 => ?_)
 ·skip
  have h2d := B.ef (B.nt h2)
  refine R0 ?_
  have hP2 : a0k aA = false := by simp only [a0k, h1, h2, ct, cf]
  exact R3 hP2
 have h2d := B.et (B.nf h2)
 refine R0 ?_
 refine WX.draw [] mixed ?_
 intro bs G0 hΓ0
 refine DX.takes (fuel := 3) ttOk [(0, false), (1, false)] J Z ?_
 refine DX.callF 2 20 (fun _ _ h => GoT.ow_rd h) (fun _ f hf => GoT.fak f hf) Z J Z Z Z Z Z Z O Z (fun w G bs hI hΓ => f6 w n (by omega) aA K0 M0 (hΓ.get 0 Z) K1 M1 (hΓ.get 1 Z) K2 M2 (hΓ.get 2 Z) K3 M3 (hΓ.get 3 Z) hk1) O O ?_
 rintro ⟨⟨⟩, ⟨⟩, ⟨p9, c9⟩, ⟨⟩, ⟨⟩, ⟨⟩, ⟨⟨p10, c10⟩, ⟨p11, c11⟩, ⟨p12, c12⟩, ⟨⟩, ⟨⟩⟩⟩ hq6
 refine DX.callV 3 Z J Z Z Z Z Z Z O Z (fun w G bs hI hΓ => f8 w n (by omega) (a09 aA) p5 c5 (hΓ.get 12 Z) p6 c6 (hΓ.get 13 Z) p7 c7 (hΓ.get 14 Z) p8 c8 (hΓ.get 15 Z) (a09 aA) p9 c9 (hΓ.get 20 Z) p10 c10 (hΓ.get 21 Z) p11 c11 (hΓ.get 22 Z) p12 c12 (hΓ.get 23 Z) (And.intro (ok_Consumer hq2).1 (And.intro (ok_Consumer hq2).2.1 (And.intro (ok_Consumer hq4).2.2.1 (And.intro (ok_Consumer hq2).2.2.2.1 (And.intro (ok_Consumer hq2).2.2.2.2.1 (And.intro trivial (And.intro (ok_DataP (ok_Consumer hq4).2.2.2.2.2.2).1 (And.intro (ok_DataP (ok_Consumer hq4).2.2.2.2.2.2).2.1 (And.intro (ok_DataP (ok_Consumer hq4).2.2.2.2.2.2).2.2.1 (And.intro (ok_DataP (ok_Consumer hq2).2.2.2.2.2.2).2.2.2.1 (ok_DataP (ok_Consumer hq2).2.2.2.2.2.2).2.2.2.2)))))))))) (And.intro (ok_Consumer hq2).1 (And.intro (ok_Consumer hq2).2.1 (And.intro (ok_Consumer hq6).2.2.1 (And.intro (ok_Consumer hq2).2.2.2.1 (And.intro (ok_Consumer hq2).2.2.2.2.1 (And.intro trivial (And.intro (ok_DataP (ok_Consumer hq6).2.2.2.2.2.2).1 (And.intro (ok_DataP (ok_Consumer hq6).2.2.2.2.2.2).2.1 (And.intro (ok_DataP (ok_Consumer hq6).2.2.2.2.2.2).2.2.1 (And.intro (ok_DataP (ok_Consumer hq2).2.2.2.2.2.2).2.2.2.1 (ok_DataP (ok_Consumer hq2).2.2.2.2.2.2).2.2.2.2))))))))))) ?_
 intro hq7
 refine DX.takes (fuel := 0) ttOk [(4, true)] J Z ?_
 refine DX.tail2 [] Z Z J ?_
 refine R0 ?_
 refine WX.cases 26 Z (fun h3 => ?_) (fun h3 => ?_)
 ·skip
  have h3d := (B.nt h3)
  refine R0 ?_
  have hP3 : a0k aA = false := by simp only [a0k, h1, h2, h3, ct, cf]
  exact R3 hP3
 have h3d := (B.nf h3)
 refine R0 ?_
 have hP4 : a0k aA = true := by simp only [a0k, h1, h2, h3, ct, cf]
 exact R3 hP4
end Go.Proofs.YtolepebgdfdciaaDoor

namespace Go.Stp
open Go.RowKit (Below)
open GoT (X k ok sh fa oa)
def Opens (P : Program) (T : TypeId) (α : Type) [GoT α] : Prop :=
 P.cellsOf T = k α ∧ ∀ {H : Type} {enc : TypeId × Value → H} {w : World} {spare : Nat → Bool} {held : Bool} {fuel : Nat} {cs : List Value} {x : DataW H × List MemPlace}, DataW.trod enc P w 0 spare held fuel T cs = some x →
  ∃ (a : α) (y : X α), cs = sh a y ∧ ok 10 a ∧ All (hp w) (fa .der a y)
theorem opens_int {P : Program} {T : TypeId} (h : P.underlying T = some (.int .i64)) (hc : P.cellsOf T = 1) : Opens P T Int := ⟨hc, fun h' => by
 obtain ⟨n, rfl, _, hw⟩ := DataW.trod_int h h'
 exact ⟨n, (), rfl, by simpa [Lit.wf, IntKind.min, IntKind.max, IntKind.signed, IntKind.bits, ok, I64] using hw, (fun _ h_ => by cases h_)⟩⟩
theorem opens_bool {P : Program} {T : TypeId} (h : P.underlying T = some .bool) (hc : P.cellsOf T = 1) : Opens P T Bool := ⟨hc, fun h' => by
 obtain ⟨n, rfl, _⟩ := DataW.trod_bool h h'
 exact ⟨n, (), rfl, trivial, (fun _ h_ => by cases h_)⟩⟩
theorem opens_str {P : Program} {T : TypeId} (h : P.underlying T = some .string) (hc : P.cellsOf T = 1) : Opens P T ByteArray := ⟨hc, fun h' => by
 obtain ⟨n, rfl, _, hw⟩ := DataW.trod_string h h'
 exact ⟨n, (), rfl, (by simp only [maxLen] at hw; omega : n.size ≤ 9223372036854775807), (fun _ h_ => by cases h_)⟩⟩
theorem opens_byte {P : Program} {T : TypeId} (h : P.underlying T = some (.int .u8)) (hc : P.cellsOf T = 1) : Opens P T UInt8 := ⟨hc, fun h' => by
 obtain ⟨n, rfl, _, hw⟩ := DataW.trod_int h h'
 have hn : 0 ≤ n ∧ n ≤ 255 := by simpa [Lit.wf, IntKind.min, IntKind.max, IntKind.signed, IntKind.bits] using hw
 refine ⟨UInt8.ofNat n.toNat, (), ?_, trivial, (fun _ h_ => by cases h_)⟩
 have : ((UInt8.ofNat n.toNat).toNat : Int) = n := by
  rw [UInt8.toNat_ofNat', Nat.mod_eq_of_lt (by omega)]; omega
 simp only [sh]
 rw [this]⟩
theorem cells?_each {w : World} {a : Addr} {n : Nat} {cs : List Value} (h : w.cells? 0 a n = some cs) : ∀ j u, cs[j]? = some u → w.cell? (a.add j) = some u := by
 intro j u hj
 obtain ⟨_, h1, h2⟩ := World.cells?_some h
 rw [h2 j (by rw [← h1]; exact (List.getElem?_eq_some_iff.1 hj).1)]; exact hj
theorem opens_slice {P : Program} {T E : TypeId} {α : Type} [GoT α] (h : P.underlying T = some (.slice E)) (hc : P.cellsOf T = 1) (he : Opens P E α) : Opens P T (List α) := ⟨hc, fun {H enc w spare held fuel cs x} h' => by
 rcases DataW.trod_slice h h' with ⟨rfl, _⟩ | ⟨a, len, cap, elems, rest, n, _, rfl, _, _, hl, hm, hlen, hel, _, _⟩
 ·exact ⟨[], (none, 0), rfl, ⟨Nat.zero_le _, fun _ h_ => by cases h_⟩, fun f hf => by
   obtain rfl := List.mem_singleton.1 hf
   exact ⟨Nat.zero_le _, Nat.zero_le _, [], fun j u h => by simp at h, rfl⟩⟩
 ·have key : ∀ m, m ≤ len → ∃ (l : List α) (xs : List Value), l.length = m ∧ xs.length = m * k α ∧ RdL (hp w) xs l ∧ (∀ b ∈ l, ok 10 b) ∧ CellsAt (hp w) (some a) xs := by
   intro m
   induction m with
   | zero => exact fun _ => ⟨[], [], rfl, by simp, rfl, by simp, fun j u h => by simp at h⟩
   | succ m ih =>
    intro hmle
    obtain ⟨l, xs, h1, h2, h3, h4, h5⟩ := ih (by omega)
    have hm' := hel m (by omega)
    rw [he.1] at hm'
    obtain ⟨y, hy⟩ : ∃ y, elems[m]? = some y := ⟨_, List.getElem?_eq_getElem (by omega)⟩
    rw [hy, Option.bind_eq_some_iff] at hm'
    obtain ⟨cs', hcs, htr⟩ := hm'
    obtain ⟨b, yb, rfl, hok, hfa⟩ := he.2 htr
    refine ⟨l ++ [b], xs ++ sh b yb, by simp [h1], by rw [List.length_append, h2, GoT.len, Nat.add_mul]; omega, h3.snoc hfa, ?_, ?_⟩
    ·intro c hc
     rcases List.mem_append.1 hc with hc | hc
     ·exact h4 c hc
     ·simp at hc; subst hc; exact hok
    ·intro j u hj
     refine ⟨a, rfl, ?_⟩
     by_cases hlt : j < xs.length
     ·rw [List.getElem?_append_left hlt] at hj
      obtain ⟨a', ha', hg⟩ := h5 j u hj
      simp at ha'; subst ha'; exact hg
     ·rw [List.getElem?_append_right (by omega)] at hj
      have := cells?_each hcs _ _ hj
      rw [addr_add_add, h2, show m * k α + (j - m * k α) = j by omega] at this
      exact this
  obtain ⟨l, xs, h1, h2, h3, h4, h5⟩ := key len (Nat.le_refl _)
  have hm' : len ≤ 9223372036854775807 := by simp only [maxLen] at hm; omega
  refine ⟨l, (some a, cap), by simp [sh, h1], ⟨by show l.length ≤ 9223372036854775807; omega, h4⟩, fun f hf => ?_⟩
  obtain rfl := List.mem_singleton.1 hf
  exact ⟨by omega, by omega, xs, h5, h3⟩⟩
def OpensF (P : Program) (fs : List Field) (off : Nat) (β : Type) [GoT β] : Prop :=
 ∀ {H : Type} {enc : TypeId × Value → H} {w : World} {spare : Nat → Bool} {held : Bool} {n : Nat} {cs : List Value},
  (∀ (i : Nat) (f : Field), fs[i]? = some f → ∃ y, DataW.trod enc P w 0 spare held n f.type ((cs.drop f.offset).take (P.cellsOf f.type)) = some y) →
  ∃ (b : β) (y : X β), (cs.drop off).take (k β) = sh b y ∧ ok 10 b ∧ All (hp w) (fa .der b y)
theorem opensF_one {P : Program} {f : Field} {off : Nat} {α : Type} [GoT α] (ho : f.offset = off) (hf : Opens P f.type α) : OpensF P [f] off α := fun {H enc w spare held n cs} h => by
 obtain ⟨y, hy⟩ := h 0 f rfl
 obtain ⟨a, ya, h1, h2, h3⟩ := hf.2 hy
 rw [hf.1, ho] at h1
 exact ⟨a, ya, h1, h2, h3⟩
theorem opensF_cons {P : Program} {f : Field} {fs : List Field} {off : Nat} {α β : Type} [GoT α] [GoT β] (ho : f.offset = off) (hf : Opens P f.type α) (hr : OpensF P fs (off + k α) β) : OpensF P (f :: fs) off (α × β) := fun {H enc w spare held n cs} h => by
 obtain ⟨y, hy⟩ := h 0 f rfl
 obtain ⟨a, ya, h1, h2, h3⟩ := hf.2 hy
 obtain ⟨b, yb, k1, k2, k3⟩ := hr (cs := cs) (fun i g hg => h (i + 1) g (by simpa using hg))
 rw [hf.1, ho] at h1
 refine ⟨(a, b), (ya, yb), ?_, ⟨h2, k2⟩, All.append h3 k3⟩
 show (cs.drop off).take (k α + k β) = sh a ya ++ sh b yb
 rw [← h1, ← k1, List.take_add, List.drop_drop]
theorem opens_struct {P : Program} {T : TypeId} {fs : Array Field} {α β : Type} [GoT β] (e : α → β) (mk : β → α) (hm : ∀ b, e (mk b) = b) (h : P.underlying T = some (.struct fs)) (hc : P.cellsOf T = k β) (hf : OpensF P fs.toList 0 β) :
  @Opens P T α (GoT.via e) := by
 letI : GoT α := GoT.via e
 refine ⟨hc, fun {H enc w spare held fuel cs x} h' => ?_⟩
 obtain ⟨xs, n, _, _, hcl, hxl, hall⟩ := DataW.trod_struct h h'
 obtain ⟨b, y, h1, h2, h3⟩ := hf (cs := cs) (fun i f hi => by
  have hi' : fs[i]? = some f := by simpa using hi
  have := hall i f hi'
  obtain ⟨z, hz⟩ : ∃ z, xs[i]? = some z := ⟨_, List.getElem?_eq_getElem (by rw [hxl]; exact (Array.getElem?_eq_some_iff.1 hi').1)⟩
  exact ⟨z, by rw [this, hz]⟩)
 rw [List.drop_zero, List.take_of_length_le (by rw [hcl, hc]; exact Nat.le_refl _)] at h1
 refine ⟨mk b, y, ?_, ?_, ?_⟩
 ·show cs = sh (e (mk b)) y; rw [hm]; exact h1
 ·show ok 10 (e (mk b)); rw [hm]; exact h2
 ·show All (hp w) (fa .der (e (mk b)) y); rw [hm]; exact h3

def Arg (P : Program) (T : TypeId) (α : Type) [GoT α] (mk : List Value → Value) : Prop :=
 ∀ {H : Type} {enc : TypeId × Value → H} {W : World} {b0 : Nat} {spare : Nat → Bool} {held : Bool} {v : Value} {d : DataW H} {ps : List MemPlace}, Value.okWide P W .any b0 T v → DataW.Trod enc P W 0 spare held T v d ps →
  ∃ (a : α) (y : X α), v = mk (sh a y) ∧ ok 10 a ∧ All (hp W) (fa .der a y)
theorem arg_struct {P : Program} {T : TypeId} {α : Type} [GoT α] {fs : Array Field} (h : P.underlying T = some (.struct fs)) (ho : Opens P T α) : Arg P T α (fun cs => .agg ⟨cs⟩) := by
 intro H enc W b0 spare held v d ps hval ⟨fuel, hf⟩
 simp only [Value.okWide, h] at hval
 obtain ⟨cs, rfl, _⟩ := hval
 obtain ⟨a, y, h1, h2, h3⟩ := ho.2 hf
 refine ⟨a, y, ?_, h2, h3⟩
 have : cs.toList = sh a y := by simpa [Value.cells] using h1
 rw [← this]
theorem trodAll_stays {H : Type} {enc : TypeId × Value → H} {P : Program} (hl : laidOutB P = true) {W W' : World} {sp : Nat → Bool} : ∀ {ts : List TypeId} {vs : List Value} {ds : List (DataW H)} {ps : List MemPlace},
  ts.all (fun t => P.readableRec t && decide (t < P.types.size)) = true → DataW.TrodAll enc P W 0 (fun _ => true) true ts vs ds ps → (∀ p ∈ ps, W.sameAt W' p) → (∀ p ∈ ps, sp p.block = true) → DataW.TrodAll enc P W' 0 sp true ts vs ds ps
 | [], [], [], _, _, h, _, _ => h
 | t :: ts, v :: vs, d :: ds, ps, ha, ⟨p, q, h1, h2, e⟩, hs, hsp => by
  simp only [List.all_cons, Bool.and_eq_true, decide_eq_true_eq] at ha
  subst e
  exact ⟨p, q, WideElems.Trod_stays hl ha.1.1 ha.1.2 h1 (fun x hx => hs x (List.mem_append_left _ hx)) (fun x hx => hsp x (List.mem_append_left _ hx)),
   trodAll_stays hl ha.2 h2 (fun x hx => hs x (List.mem_append_right _ hx)) (fun x hx => hsp x (List.mem_append_right _ hx)), rfl⟩
theorem trodAll_len {H : Type} {enc : TypeId × Value → H} {P : Program} {W : World} {b : Nat} {sp : Nat → Bool} {hd : Bool} : ∀ {ts : List TypeId} {vs : List Value} {ds : List (DataW H)} {ps : List MemPlace}, DataW.TrodAll enc P W b sp hd ts vs ds ps → ds.length = ts.length
 | [], [], [], _, _ => rfl
 | _ :: _, _ :: _, _ :: _, _, ⟨_, _, _, h2, _⟩ => by simp [trodAll_len h2]
theorem law_post {H : Type} {enc : TypeId × Value → H} {P : Program} {f : Func} {s : ChangeSpec} {W W' : World} {args : Array Value} {ds gs : List (DataW H)} {before : List MemPlace} {B : TypeId}
  (hl : laidOutB P = true) (hpar : f.params.toList.all (fun t => P.readableRec t && decide (t < P.types.size)) = true) (hvars : s.vars = []) (hB : f.resultTypes = #[B]) (hu : P.underlying B = some .bool)
  (hfn : ∀ ds : List (DataW H), ds.length = f.params.size → s.fn H ds = { results := [.lit (.bool true)], args := ds })
  (hW : DataW.Whole enc P f.params.toList s.vars false W args.toList ds gs before) (hb : Below W.heap.size W W') : s.post enc P f false true false false W args (.bool true) W' := by
 have hW' := hW
 have hlt : ∀ p ∈ before, p.block < W.heap.size := fun p hp => hW.lt p hp
 obtain ⟨p, q, hA, hV, rfl, hfz, hnd⟩ := hW'
 rw [hvars] at hV
 obtain ⟨rfl, rfl⟩ := ChangeShapes.trodVars_none hV
 have hlen : ds.length = f.params.size := by simpa using trodAll_len hA
 have hdd : s.fn H (ds ++ []) = { results := [.lit (.bool true)], args := ds } := by rw [List.append_nil]; exact hfn ds hlen
 have hres : ∀ (b : Nat) (sp : Nat → Bool) (hd : Bool), DataW.TrodAll enc P W' b sp hd f.resultTypes.toList ((Value.bool true).resultList f.resultTypes.size) (s.fn H (ds ++ [])).results [] := by
  intro b sp hd
  rw [hdd, hB]
  exact trodAll_cons_mk (RowKit.shut_bool hu _) ChangeShapes.trodAll_mk0
 have hargs : ∀ sp : Nat → Bool, (∀ x ∈ p ++ [], sp x.block = true) → DataW.TrodAll enc P W' 0 sp true f.params.toList args.toList (s.fn H (ds ++ [])).args p := by
  intro sp hsp
  rw [hdd]
  exact trodAll_stays hl hpar hA (fun x hx => hb.same (hlt x (by simpa using hx))) (fun x hx => hsp x (by simpa using hx))
 have hvars' : ∀ sp : Nat → Bool, DataW.TrodVars enc P W' sp s.vars (s.fn H (ds ++ [])).vars [] := by
  intro sp; rw [hvars, hdd]; rfl
 have hold : ∀ x ∈ p ++ [], (fun b => decide (b < W.heap.size)) x.block = true := fun x hx => by simpa using hlt x hx
 refine ⟨ds, [], p ++ [], [], p, [], hW, hres _ _ _, hargs _ hold, hvars' _, World.keptBut_mono (fun x hx => ⟨hx, Or.inr (by simpa using hx)⟩) (hb.frame (· ∈ p ++ [])), fun h => (by cases h)⟩
end Go.Stp

namespace Go.Proofs.YtolepebgdfdciaaDoor.Facts
set_option maxRecDepth 100000
theorem laid : laidOutB Tryd.prog = true := by kernel_rfl
theorem rowed : mapsRowed Tryd.prog = true := by kernel_rfl
end Go.Proofs.YtolepebgdfdciaaDoor.Facts

