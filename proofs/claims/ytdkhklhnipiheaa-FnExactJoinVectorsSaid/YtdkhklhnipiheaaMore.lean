/-
  Division, shifts, bits, bytes as a string, parts of slices. No condition.
-/
import Derived.Test.YtdkhklhnipiheaaElem
namespace Go.Stp
open GoT (X k ok sh fa oa)
theorem looks_quo {C : Cx} {env : Env} {L : Locs} {R : Rows} {G : GH} {o : Oper} {x y : Operand} {T T' : Nat} {m n : Int} (ho : o.op = .binOp .quo T x y T') (hx : ev env x = some (.v (.int .i64 m))) (hy : ev env y = some (.v (.int .i64 n))) (h0 : n ≠ 0) : Looks C env L R G o (.v (.int .i64 (IntKind.i64.wrap (m.tdiv n)))) := by
  intro a w G' bs _ hA hI
  unfold execOp
  simp [ho, ev_conc hA hx, ev_conc hA hy, conc, eqGuard, binOp, Op.intDiv, h0]
theorem looks_rem {C : Cx} {env : Env} {L : Locs} {R : Rows} {G : GH} {o : Oper} {x y : Operand} {T T' : Nat} {m n : Int} (ho : o.op = .binOp .rem T x y T') (hx : ev env x = some (.v (.int .i64 m))) (hy : ev env y = some (.v (.int .i64 n))) (h0 : n ≠ 0) : Looks C env L R G o (.v (.int .i64 (m.tmod n))) := by
  intro a w G' bs _ hA hI
  unfold execOp
  simp [ho, ev_conc hA hx, ev_conc hA hy, conc, eqGuard, binOp, Op.intDiv, h0]
theorem tmod_rng (x : Int) {y : Int} (h : 0 < y) : -y < x.tmod y ∧ x.tmod y < y := by
  have h1 := Int.tmod_lt_of_pos x h
  have h2 : -y < x.tmod y := by
    by_cases hx : 0 ≤ x
    · have := Int.tmod_nonneg y hx; omega
    · have h3 := Int.neg_tmod (a := x) (b := y)
      have h4 := Int.tmod_lt_of_pos (-x) h
      omega
  exact ⟨h2, h1⟩
theorem looks_shl {C : Cx} {env : Env} {L : Locs} {R : Rows} {G : GH} {o : Oper} {x y : Operand} {T T' : Nat} {m n : Int} {q : IntKind} (ho : o.op = .binOp .shl T x y T') (hx : ev env x = some (.v (.int .i64 m))) (hy : ev env y = some (.v (.int q n))) (h0 : 0 ≤ n) : Looks C env L R G o (.v (.int .i64 (IntKind.i64.wrap (m * 2 ^ (min n.toNat 64))))) := by
  intro a w G' bs _ hA hI
  unfold execOp
  have h1 : ¬ n < 0 := by omega
  simp [ho, ev_conc hA hx, ev_conc hA hy, conc, eqGuard, binOp, Op.shift, h1, IntKind.bits]
theorem looks_shr {C : Cx} {env : Env} {L : Locs} {R : Rows} {G : GH} {o : Oper} {x y : Operand} {T T' : Nat} {m n : Int} {q : IntKind} (ho : o.op = .binOp .shr T x y T') (hx : ev env x = some (.v (.int .i64 m))) (hy : ev env y = some (.v (.int q n))) (h0 : 0 ≤ n) : Looks C env L R G o (.v (.int .i64 (m.fdiv (2 ^ (min n.toNat 64))))) := by
  intro a w G' bs _ hA hI
  unfold execOp
  have h1 : ¬ n < 0 := by omega
  simp [ho, ev_conc hA hx, ev_conc hA hy, conc, eqGuard, binOp, Op.shift, h1, IntKind.bits]
def bitO (b : BinOp) (x y : Int) : Int :=
  match b with
  | .and => IntKind.i64.wrap ((BitVec.ofInt 64 x &&& BitVec.ofInt 64 y).toNat : Int)
  | .or => IntKind.i64.wrap ((BitVec.ofInt 64 x ||| BitVec.ofInt 64 y).toNat : Int)
  | .xor => IntKind.i64.wrap ((BitVec.ofInt 64 x ^^^ BitVec.ofInt 64 y).toNat : Int)
  | _ => IntKind.i64.wrap ((BitVec.ofInt 64 x &&& ~~~ BitVec.ofInt 64 y).toNat : Int)
def isBit : BinOp → Bool
  | .and | .or | .xor | .andNot => true
  | _ => false
theorem bitO_I64 (b : BinOp) (x y : Int) : I64 (bitO b x y) := by
  unfold bitO; split <;> exact i64_wrap _
theorem looks_bits {C : Cx} {env : Env} {L : Locs} {R : Rows} {G : GH} {o : Oper} {b : BinOp} {x y : Operand} {T T' : Nat} {m n : Int} (ho : o.op = .binOp b T x y T') (hb : isBit b = true) (hx : ev env x = some (.v (.int .i64 m))) (hy : ev env y = some (.v (.int .i64 n))) : Looks C env L R G o (.v (.int .i64 (bitO b m n))) := by
  intro a w G' bs _ hA hI
  unfold execOp
  cases b <;> simp [isBit] at hb <;> simp only [ho, ev_conc hA hx, ev_conc hA hy, conc] <;> simp [eqGuard, binOp, Op.intBits, bitO] <;> rfl
/-- bytes, as a string -/
def bstr (l : List UInt8) : Str := ⟨l.toArray⟩
theorem bstr_size (l : List UInt8) : (bstr l).size = l.length := by simp [bstr, ByteArray.size]
theorem foldl_push : ∀ (l : List UInt8) (s : ByteArray), (l.map fun c => ((c.toNat : Nat) : Int)).foldl (fun r n => r.push (UInt8.ofNat n.toNat)) s = ⟨s.data ++ l.toArray⟩
  | [], s => by simp
  | c :: l, s => by
    simp only [List.map_cons, List.foldl_cons]
    rw [foldl_push l]
    have : (s.push (UInt8.ofNat ((c.toNat : Int)).toNat)).data = s.data.push c := by
      show s.data.push _ = _
      simp
    rw [this]
    simp
theorem rdL_bytes {G : GH} : ∀ {xs : List Value} {l : List UInt8}, RdL G xs l → xs = l.map fun c => Value.int .u8 (c.toNat : Int)
  | xs, [], h => h
  | xs, c :: l, ⟨x, ys, e, _, r⟩ => by rw [e, rdL_bytes r]; rfl
theorem looks_toStr {C : Cx} {env : Env} {L : Locs} {R : Rows} {G : GH} {o : Oper} {x : Operand} {S T E n c : Nat} {si ti te : TI} {p : Option Addr} {l : List UInt8} (ht : TabOk C.P C.tt) (hr : RdSl G p c l) (ho : o.op = .convert S T x) (hS : look C.tt S = some si) (hs : si.desc = .slice E) (hE : look C.tt E = some te) (he : te.desc = .int .u8) (hT : look C.tt T = some ti) (hk : ti.desc = .string)
    (hx : ev env x = some (.v (.slice p n c))) (hn : n = l.length) : Looks C env L R G o (.v (.string (bstr l))) := by
  intro a w G' bs hle hA hI
  have hu : C.P.underlying T = some .string := by rw [← hk]; exact (ht.get hT).1
  have hv : C.P.underlying S = some (.slice E) := by rw [← hs]; exact (ht.get hS).1
  have hw : C.P.underlying E = some (.int .u8) := by rw [← he]; exact (ht.get hE).1
  unfold execOp
  simp only [ho, ev_conc hA hx, conc]
  simp only [Sem.run_bind, run_convert_bytes_string w S T E p n c hv hw hu]
  have hrun : (Conv.bytesToString (.slice p n c)).run C.P w = .ok (.string (bstr l)) w := by
    cases hp : p with
    | none =>
      subst hp
      rw [rdSl_none hr]
      simp [Conv.bytesToString, bstr]
      rfl
    | some ad =>
      subst hp
      obtain ⟨_, _, xs, h4, h5⟩ := hr
      have hxs := rdL_bytes h5
      have hld := run_loadCells_list (P := C.P) w ad xs (fun j u hj => by
        obtain ⟨a', ha, hg⟩ := h4 j u hj
        simp at ha; subst ha
        exact hI.le.cell (gcell_mono hle hg))
      have hlen : xs.length = n := by rw [hxs, hn]; simp
      rw [hlen, hxs] at hld
      have := run_bytesToString (P := C.P) w ad n c (l.map fun c => ((c.toNat : Nat) : Int)) (by rw [hld]; simp [Function.comp_def])
      rw [this, foldl_push]
      simp [bstr]
  rw [hrun]; rfl
/-! ### numbers as text -/
theorem wrap_le {x : Int} (h : 0 ≤ x) : IntKind.i64.wrap x ≤ x := by
  simp [IntKind.wrap, IntKind.bits, IntKind.signed]
  split <;> omega
theorem wrap_quo10 {k : Int} (h : 0 < k) : (IntKind.i64.wrap (k.tdiv 10)).toNat < k.toNat := by
  have h1 : k.tdiv 10 = k / 10 := Int.tdiv_eq_ediv_of_nonneg (by omega)
  have h2 : 0 ≤ k.tdiv 10 := by rw [h1]; omega
  have h3 := wrap_le h2
  rw [h1] at h3
  rw [h1]
  omega
theorem quo10 {k : Int} (h : 0 < k) (hi : k ≤ 9223372036854775807) : IntKind.i64.wrap (k.tdiv 10) = k / 10 := by
  have h1 : k.tdiv 10 = k / 10 := Int.tdiv_eq_ediv_of_nonneg (by omega)
  rw [h1]; exact wrap_i64 (by unfold I64; omega)
def mkInv (k : Int) (s : Nat) : Prop := k ≤ 9223372036854775807 ∧ k.toNat * 10 ^ s ≤ 9223372036854775807 ∧ (s = 0 ∨ 10 ^ (s - 1) ≤ 9223372036854775807)
theorem mkInv_0 {k : Int} (h : k ≤ 9223372036854775807) : mkInv k 0 := ⟨h, by simp; omega, .inl rfl⟩
theorem mkInv_step {k : Int} {s : Nat} (h : 0 < k) (hi : mkInv k s) : mkInv (IntKind.i64.wrap (k.tdiv 10)) (s + 1) := by
  obtain ⟨h1, h2, h3⟩ := hi
  rw [quo10 h h1]
  refine ⟨by omega, ?_, .inr ?_⟩
  · have h4 : (k / 10).toNat * 10 ≤ k.toNat := by omega
    have h5 : (k / 10).toNat * 10 ^ (s + 1) = (k / 10).toNat * 10 * 10 ^ s := by rw [Nat.pow_succ, Nat.mul_assoc, Nat.mul_comm (10 ^ s)]
    rw [h5]
    exact Nat.le_trans (Nat.mul_le_mul_right _ h4) h2
  · have h4 : 1 ≤ k.toNat := by omega
    have h5 : 1 * 10 ^ s ≤ k.toNat * 10 ^ s := Nat.mul_le_mul_right _ h4
    simp only [Nat.add_sub_cancel]
    omega
theorem mkInv_size {k : Int} {s : Nat} (hi : mkInv k s) : s ≤ 20 := by
  obtain ⟨_, _, h3⟩ := hi
  rcases h3 with h3 | h3
  · omega
  · by_cases hs : s ≤ 20
    · exact hs
    · have h4 : 10 ^ 20 ≤ 10 ^ (s - 1) := Nat.pow_le_pow_right (by omega) (by omega)
      have h5 : (10 : Nat) ^ 20 = 100000000000000000000 := by decide
      omega
end Go.Stp
