/-
  FnVecs: the law returns true at all arguments; conditions: those of the statement, no others. Written by a program (pack.py, mklaw2.py).
-/
import Derived.Carry
import Derived.ChangeArms
import Derived.ProofKit
import Derived.OpenShut
import Derived.JoinedCond
import Derived.Test.YtdimfabadjfkiaaKFnVecs8
namespace Go.Stp
set_option linter.unusedVariables false
set_option linter.unusedSimpArgs false
def vb : Nat → Nat → List UInt8
  | 0, n => [UInt8.ofNat n]
  | k + 1, n => if 127 < n then UInt8.ofNat (n % 128 + 128) :: vb k (n / 128) else [UInt8.ofNat n]
theorem vb_small (k : Nat) {n : Nat} (h : n ≤ 127) : vb k n = [UInt8.ofNat n] := by
  cases k with
  | zero => rfl
  | succ k => rw [vb, if_neg (by omega)]
def dv : Nat → Nat → Nat → List UInt8 → Option (Nat × List UInt8)
  | 0, _, _, _ => none
  | _ + 1, _, _, [] => none
  | m + 1, i, acc, c :: l => if c.toNat < 128 then (if c.toNat = 0 ∧ 0 < i then none else if 1000000000000 < acc + c.toNat * 2 ^ (7 * i) then none else some (acc + c.toNat * 2 ^ (7 * i), l)) else dv m (i + 1) (acc + c.toNat % 128 * 2 ^ (7 * i)) l
theorem pow7 (i : Nat) : 2 ^ (7 * (i + 1)) = 128 * 2 ^ (7 * i) := by rw [Nat.mul_add, Nat.pow_add]; omega
theorem dv_vb : ∀ (m i acc n : Nat) (l : List UInt8), n < 128 ^ (m + 1) → (i = 0 ∨ 0 < n) → acc + n * 2 ^ (7 * i) ≤ 1000000000000 → dv (m + 1) i acc (vb m n ++ l) = some (acc + n * 2 ^ (7 * i), l)
  | m, i, acc, n, l, h1, h2, h3 => by
    by_cases hn : 127 < n
    · cases m with
      | zero => omega
      | succ m =>
        rw [vb, if_pos hn, List.cons_append, dv]
        have hc : (UInt8.ofNat (n % 128 + 128)).toNat = n % 128 + 128 := by rw [UInt8.toNat_ofNat']; omega
        rw [hc, if_neg (by omega), show (n % 128 + 128) % 128 = n % 128 by omega]
        have hs : acc + n % 128 * 2 ^ (7 * i) + n / 128 * 2 ^ (7 * (i + 1)) = acc + n * 2 ^ (7 * i) := by
          rw [pow7]
          have : n = n % 128 + n / 128 * 128 := by omega
          calc acc + n % 128 * 2 ^ (7 * i) + n / 128 * (128 * 2 ^ (7 * i)) = acc + (n % 128 * 2 ^ (7 * i) + n / 128 * 128 * 2 ^ (7 * i)) := by rw [Nat.mul_assoc, Nat.add_assoc]
            _ = acc + (n % 128 + n / 128 * 128) * 2 ^ (7 * i) := by rw [Nat.add_mul]
            _ = acc + n * 2 ^ (7 * i) := by rw [← this]
        rw [dv_vb m (i + 1) _ (n / 128) l (by rw [Nat.pow_succ] at h1; exact Nat.div_lt_of_lt_mul (by rw [Nat.mul_comm]; exact h1)) (.inr (by omega)) (by rw [hs]; exact h3), hs]
    · rw [vb_small m (by omega)]
      show dv (m + 1) i acc (UInt8.ofNat n :: l) = _
      have hc : (UInt8.ofNat n).toNat = n := by rw [UInt8.toNat_ofNat']; omega
      rw [dv, hc, if_pos (by omega), if_neg (by omega), if_neg (by omega)]
theorem vb_dv : ∀ (m i acc : Nat) (l : List UInt8) (r : Nat) (l' : List UInt8), dv (m + 1) i acc l = some (r, l') → ∃ n, l = vb m n ++ l' ∧ r = acc + n * 2 ^ (7 * i) ∧ (i = 0 ∨ 0 < n) ∧ r ≤ 1000000000000
  | m, i, acc, [], r, l', h => by cases h
  | m, i, acc, c :: l, r, l', h => by
    rw [dv] at h
    by_cases hc : c.toNat < 128
    · rw [if_pos hc] at h
      by_cases h0 : c.toNat = 0 ∧ 0 < i
      · rw [if_pos h0] at h; cases h
      · rw [if_neg h0] at h
        by_cases hb : 1000000000000 < acc + c.toNat * 2 ^ (7 * i)
        · rw [if_pos hb] at h; cases h
        · rw [if_neg hb] at h
          simp only [Option.some.injEq, Prod.mk.injEq] at h
          obtain ⟨rfl, rfl⟩ := h
          exact ⟨c.toNat, by rw [vb_small m (by omega), UInt8.ofNat_toNat]; rfl, rfl, by omega, by omega⟩
    · rw [if_neg hc] at h
      cases m with
      | zero => cases h
      | succ m =>
        obtain ⟨n, h1, h2, h3, h4⟩ := vb_dv m (i + 1) _ l r l' h
        have hlt := UInt8.toNat_lt c
        have hn : 0 < n := h3.resolve_left (by omega)
        refine ⟨c.toNat % 128 + 128 * n, ?_, ?_, .inr (by omega), h4⟩
        · rw [vb, if_pos (by omega), show (c.toNat % 128 + 128 * n) % 128 + 128 = c.toNat by omega, show (c.toNat % 128 + 128 * n) / 128 = n by omega, UInt8.ofNat_toNat, h1]
          rfl
        · rw [h2, pow7, Nat.add_mul, Nat.add_assoc]
          congr 2
          rw [← Nat.mul_assoc, Nat.mul_comm n 128]
theorem and127 (c : Nat) (h : c ≤ 9223372036854775807) : bitO .and ((c : Nat) : Int) 127 = ((c % 128 : Nat) : Int) := by
  have h2 : (BitVec.ofInt 64 (127 : Int)).toNat = 127 := by decide
  have h3 : c &&& 127 = c % 128 := Nat.and_two_pow_sub_one_eq_mod c 7
  simp only [bitO, BitVec.toNat_and, h2, ofI64 (x := ((c : Nat) : Int)) ⟨by omega, by omega⟩, Int.toNat_natCast, h3]
  exact i64w ⟨by omega, by omega⟩
theorem pw35 {i : Nat} (h : i ≤ 5) : 2 ^ (7 * i) ≤ 34359738368 := by
  have : 2 ^ (7 * i) ≤ 2 ^ 35 := Nat.pow_le_pow_right (by decide) (by omega)
  exact this
theorem orA {acc y i : Nat} (hi : i ≤ 5) (hacc : acc < 2 ^ (7 * i)) (hy : y < 128) : bitO .or ((acc : Nat) : Int) (IntKind.i64.wrap (((y : Nat) : Int) * 2 ^ (min (Int.toNat (7 * ((i : Nat) : Int))) 64))) = ((acc + y * 2 ^ (7 * i) : Nat) : Int) := by
  have hp := pw35 hi
  have he : min (Int.toNat (7 * ((i : Nat) : Int))) 64 = 7 * i := by omega
  have hyW : y * 2 ^ (7 * i) ≤ 127 * 34359738368 := Nat.mul_le_mul (by omega) hp
  have hw : ((y : Nat) : Int) * 2 ^ (7 * i) = ((y * 2 ^ (7 * i) : Nat) : Int) := by push_cast; rfl
  rw [he, hw, i64w ⟨by omega, by omega⟩]
  have h1 : acc ||| y * 2 ^ (7 * i) = acc + y * 2 ^ (7 * i) := by
    rw [Nat.or_comm, Nat.mul_comm y, ← Nat.two_pow_add_eq_or_of_lt hacc, Nat.add_comm]
  simp only [bitO, BitVec.toNat_or, ofI64 (x := ((acc : Nat) : Int)) ⟨by omega, by omega⟩, ofI64 (x := ((y * 2 ^ (7 * i) : Nat) : Int)) ⟨by omega, by omega⟩, Int.toNat_natCast, h1]
  exact i64w ⟨by omega, by omega⟩
theorem rvD (b p : List UInt8) : ∀ (m : Nat) (q l : List UInt8) (acc : Nat), b = p ++ q ++ l → q.length + m ≤ 6 → acc < 2 ^ (7 * q.length) →
    (∃ r l', dv m q.length acc l = some (r, l') ∧ spec_ReadVarint_L1 b ((p.length : Nat) : Int) m q.length ((acc : Nat) : Int) = .ret (((r : Nat) : Int), ((b.length : Nat) : Int) - ((l'.length : Nat) : Int), true)) ∨
    (dv m q.length acc l = none ∧ (spec_ReadVarint_L1 b ((p.length : Nat) : Int) m q.length ((acc : Nat) : Int) = .ret (0, 0, false) ∨ ∃ x, spec_ReadVarint_L1 b ((p.length : Nat) : Int) m q.length ((acc : Nat) : Int) = .nxt x))
  | 0, q, l, acc, _, _, _ => .inr ⟨rfl, .inr ⟨_, rfl⟩⟩
  | m + 1, q, [], acc, hb, _, _ => by
    refine .inr ⟨rfl, .inl ?_⟩
    have h0 : decide (((p.length : Nat) : Int) < 0) = false := by simp
    have h1 : decide (((p.length : Nat) : Int) ≥ (((b).length : Nat) : Int) - ((q.length : Nat) : Int)) = true := by
      refine decide_eq_true ?_
      rw [hb]; simp only [List.length_append, List.length_nil]; omega
    simp only [spec_ReadVarint_L1, h0, h1, cond_false, cond_true]
  | m + 1, q, c :: l, acc, hb, hm, hacc => by
    have hlen : b.length = p.length + q.length + (l.length + 1) := by rw [hb]; simp only [List.length_append, List.length_cons]
    have h0 : decide (((p.length : Nat) : Int) < 0) = false := by simp
    have h1 : decide (((p.length : Nat) : Int) ≥ (((b).length : Nat) : Int) - ((q.length : Nat) : Int)) = false := decide_eq_false (by omega)
    have h2 : b[(((p.length : Nat) : Int) + ((q.length : Nat) : Int)).toNat]? = some c := by
      rw [show (((p.length : Nat) : Int) + ((q.length : Nat) : Int)).toNat = (p ++ q).length by simp; omega, hb]
      exact mid (p ++ q) c l
    have hlt := UInt8.toNat_lt c
    have ho := orA (i := q.length) (acc := acc) (y := c.toNat % 128) (by omega) hacc (by omega)
    have ha := and127 c.toNat (by omega)
    have ih := rvD b p m (q ++ [c]) l (acc + c.toNat % 128 * 2 ^ (7 * q.length)) (by rw [hb]; simp) (by simp; omega) (by
      rw [List.length_append, List.length_cons, List.length_nil, Nat.zero_add, pow7]
      have : c.toNat % 128 * 2 ^ (7 * q.length) ≤ 127 * 2 ^ (7 * q.length) := Nat.mul_le_mul_right _ (by omega)
      omega)
    rw [List.length_append, List.length_cons, List.length_nil, Nat.zero_add] at ih
    simp only [spec_ReadVarint_L1, h0, h1, cond_false, h2, ha, ho, dv]
    by_cases hc : c.toNat < 128
    · have hc1 : decide (((c.toNat : Nat) : Int) < 128) = true := decide_eq_true (by omega)
      have hmod : c.toNat % 128 = c.toNat := Nat.mod_eq_of_lt hc
      rw [hmod] at ho ⊢
      simp only [hc1, cond_true, hc, if_true]
      by_cases hz : c.toNat = 0
      · have hz1 : (((c.toNat : Nat) : Int) == 0) = true := by rw [hz]; rfl
        simp only [hz1, cond_true]
        by_cases hq : 0 < q.length
        · have hq1 : decide (((q.length : Nat) : Int) > 0) = true := decide_eq_true (by omega)
          simp only [hq1, cond_true]
          rw [if_pos ⟨hz, hq⟩]
          exact .inr ⟨rfl, .inl trivial⟩
        · have hq1 : decide (((q.length : Nat) : Int) > 0) = false := decide_eq_false (by omega)
          simp only [hq1, cond_false]
          rw [if_neg (fun h => hq h.2)]
          by_cases hb2 : 1000000000000 < acc + c.toNat * 2 ^ (7 * q.length)
          · have hb3 : decide (((acc + c.toNat * 2 ^ (7 * q.length) : Nat) : Int) > 1000000000000) = true := decide_eq_true (by omega)
            simp only [hb3, cond_true]
            rw [if_pos hb2]
            exact .inr ⟨rfl, .inl trivial⟩
          · have hb3 : decide (((acc + c.toNat * 2 ^ (7 * q.length) : Nat) : Int) > 1000000000000) = false := decide_eq_false (by omega)
            simp only [hb3, cond_false]
            rw [if_neg hb2]
            exact .inl ⟨_, _, rfl, by rw [show ((p.length : Nat) : Int) + ((q.length : Nat) : Int) + 1 = ((b.length : Nat) : Int) - ((l.length : Nat) : Int) by omega]⟩
      · have hz1 : (((c.toNat : Nat) : Int) == 0) = false := by simp only [beq_eq_false_iff_ne]; omega
        simp only [hz1, cond_false]
        rw [if_neg (fun h => hz h.1)]
        by_cases hb2 : 1000000000000 < acc + c.toNat * 2 ^ (7 * q.length)
        · have hb3 : decide (((acc + c.toNat * 2 ^ (7 * q.length) : Nat) : Int) > 1000000000000) = true := decide_eq_true (by omega)
          simp only [hb3, cond_true]
          rw [if_pos hb2]
          exact .inr ⟨rfl, .inl trivial⟩
        · have hb3 : decide (((acc + c.toNat * 2 ^ (7 * q.length) : Nat) : Int) > 1000000000000) = false := decide_eq_false (by omega)
          simp only [hb3, cond_false]
          rw [if_neg hb2]
          exact .inl ⟨_, _, rfl, by rw [show ((p.length : Nat) : Int) + ((q.length : Nat) : Int) + 1 = ((b.length : Nat) : Int) - ((l.length : Nat) : Int) by omega]⟩
    · have hc1 : decide (((c.toNat : Nat) : Int) < 128) = false := decide_eq_false (by omega)
      simp only [hc1, cond_false, hc, if_false]
      exact ih
theorem rv_dv (b p l : List UInt8) (hb : b = p ++ l) : spec_ReadVarint b ((p.length : Nat) : Int) = (match dv 6 0 0 l with | some (r, l') => (((r : Nat) : Int), ((b.length : Nat) : Int) - ((l'.length : Nat) : Int), true) | none => (0, 0, false)) := by
  have h := rvD b p 6 [] l 0 (by rw [hb]; simp) (by simp) (by simp)
  rw [List.length_nil] at h
  unfold spec_ReadVarint
  rcases h with ⟨r, l', h1, h2⟩ | ⟨h1, h2 | ⟨x, h2⟩⟩
  · rw [h1]; exact (by rw [show ((0 : Nat) : Int) = 0 from rfl] at h2; rw [h2])
  · rw [h1]; exact (by rw [show ((0 : Nat) : Int) = 0 from rfl] at h2; rw [h2])
  · rw [h1]; exact (by rw [show ((0 : Nat) : Int) = 0 from rfl] at h2; rw [h2])
theorem rv_suf {b l : List UInt8} (hs : l <:+ b) : spec_ReadVarint b (((b.length : Nat) : Int) - ((l.length : Nat) : Int)) = (match dv 6 0 0 l with | some (r, l') => (((r : Nat) : Int), ((b.length : Nat) : Int) - ((l'.length : Nat) : Int), true) | none => (0, 0, false)) := by
  obtain ⟨p, rfl⟩ := hs
  rw [show (((p ++ l).length : Nat) : Int) - ((l.length : Nat) : Int) = ((p.length : Nat) : Int) by rw [List.length_append]; omega]
  exact rv_dv _ p l rfl
theorem dv_dec {l l' : List UInt8} {n : Nat} (h : dv 6 0 0 l = some (n, l')) : l = vb 5 n ++ l' ∧ n ≤ 1000000000000 := by
  obtain ⟨k, h1, h2, _, h4⟩ := vb_dv 5 0 0 l n l' h
  have : n = k := by rw [h2]; simp
  subst this
  exact ⟨h1, h4⟩
theorem dv_enc {n : Nat} (h : n ≤ 1000000000000) (l : List UInt8) : dv 6 0 0 (vb 5 n ++ l) = some (n, l) := by
  have := dv_vb 5 0 0 n l (Nat.lt_of_le_of_lt h (by decide)) (.inl rfl) (by simpa using h)
  simpa using this
theorem dv_suf {b l l' : List UInt8} {n : Nat} (hs : l <:+ b) (h : dv 6 0 0 l = some (n, l')) : l' <:+ b := by
  obtain ⟨p, rfl⟩ := hs
  rw [(dv_dec h).1, ← List.append_assoc]
  exact List.suffix_append _ _
theorem toU8_nat {m : Nat} (h : m < 256) : toU8 ((m : Nat) : Int) = UInt8.ofNat m := by
  unfold toU8
  rw [show (((m : Nat) : Int) % 256).toNat = m by omega]
theorem or128 {r : Nat} (h : r < 128) : bitO .or ((r : Nat) : Int) 128 = ((r + 128 : Nat) : Int) := by
  have h2 : (BitVec.ofInt 64 (128 : Int)).toNat = 128 := by decide
  have h3 : r ||| 128 = r + 128 := by
    have := Nat.two_pow_add_eq_or_of_lt (i := 7) (b := r) h 1
    rw [Nat.or_comm, Nat.add_comm]
    exact this.symm
  simp only [bitO, BitVec.toNat_or, h2, ofI64 (x := ((r : Nat) : Int)) ⟨by omega, by omega⟩, Int.toNat_natCast, h3]
  exact i64w ⟨by omega, by omega⟩
theorem avL : ∀ (k n : Nat) (out : List UInt8), n < 128 ^ (k + 1) → n ≤ 1000000000000 → (spec_AppendVarint_L1 ((n : Nat) : Int) out).2 ++ [toU8 (spec_AppendVarint_L1 ((n : Nat) : Int) out).1] = out ++ vb k n
  | k, n, out, h, hn => by
    rw [spec_AppendVarint_L1]
    by_cases h1 : 127 < n
    · rw [if_pos (by omega), sh7, show ((n : Nat) : Int) / 128 = ((n / 128 : Nat) : Int) by omega, and127 n (by omega), or128 (by omega), toU8_nat (by omega)]
      cases k with
      | zero => omega
      | succ k =>
        rw [avL k (n / 128) _ (by rw [Nat.pow_succ] at h; exact Nat.div_lt_of_lt_mul (by rw [Nat.mul_comm]; exact h)) (by omega), vb, if_pos h1, List.append_assoc]
        rfl
    · rw [if_neg (by omega), vb_small k (by omega)]
      show out ++ [toU8 ((n : Nat) : Int)] = _
      rw [toU8_nat (by omega)]
theorem in_of {a b n : Int} (h : a ≤ n ∧ n ≤ b) : spec_l1In n a b = true := by
  unfold spec_l1In
  rw [show decide (n ≥ a) = true from decide_eq_true h.1]
  exact decide_eq_true h.2
theorem av_vb (b : List UInt8) {n : Nat} (h : n ≤ 1000000000000) : spec_AppendVarint b ((n : Nat) : Int) = b ++ vb 5 n := by
  unfold spec_AppendVarint
  rw [in_of ⟨by omega, by omega⟩]
  have := avL 5 n b (Nat.lt_of_le_of_lt h (by decide)) h
  rcases e : spec_AppendVarint_L1 ((n : Nat) : Int) b with ⟨x, o⟩
  rw [e] at this
  exact this
def db (most : Nat) (l : List UInt8) : Option (List UInt8 × List UInt8) :=
  match dv 6 0 0 l with
  | none => none
  | some (n, l1) => if n ≤ most ∧ n ≤ l1.length then some (l1.take n, l1.drop n) else none
theorem db_enc {most : Nat} {s : List UInt8} (h : s.length ≤ most) (h2 : s.length ≤ 1000000000000) (l : List UInt8) : db most (vb 5 s.length ++ (s ++ l)) = some (s, l) := by
  unfold db
  rw [dv_enc h2]
  dsimp only
  rw [if_pos ⟨h, by rw [List.length_append]; omega⟩, List.take_left, List.drop_left]
theorem db_dec {most : Nat} {l s l' : List UInt8} (h : db most l = some (s, l')) : l = vb 5 s.length ++ (s ++ l') ∧ s.length ≤ most := by
  unfold db at h
  cases e : dv 6 0 0 l with
  | none => rw [e] at h; cases h
  | some r =>
    obtain ⟨n, l1⟩ := r
    rw [e] at h
    dsimp only at h
    by_cases hc : n ≤ most ∧ n ≤ l1.length
    · rw [if_pos hc] at h
      simp only [Option.some.injEq, Prod.mk.injEq] at h
      obtain ⟨rfl, rfl⟩ := h
      have hl : (l1.take n).length = n := by rw [List.length_take]; omega
      rw [hl, List.take_append_drop]
      exact ⟨(dv_dec e).1, hc.1⟩
    · rw [if_neg hc] at h; cases h
theorem db_suf {most : Nat} {b l s l' : List UInt8} (hs : l <:+ b) (h : db most l = some (s, l')) : l' <:+ b := by
  obtain ⟨p, rfl⟩ := hs
  rw [(db_dec h).1, ← List.append_assoc, ← List.append_assoc]
  exact List.suffix_append _ _
theorem rb_db {b l : List UInt8} (most : Nat) (hs : l <:+ b) : spec_ReadBytes b (((b.length : Nat) : Int) - ((l.length : Nat) : Int)) ((most : Nat) : Int) = (match db most l with | some (s, l') => (s, ((b.length : Nat) : Int) - ((l'.length : Nat) : Int), true) | none => ([], 0, false)) := by
  unfold spec_ReadBytes db
  rw [rv_suf hs]
  cases e : dv 6 0 0 l with
  | none => rfl
  | some r =>
    obtain ⟨n, l1⟩ := r
    obtain ⟨p, hp⟩ := dv_suf hs e
    have hlen : b.length = p.length + l1.length := by rw [← hp, List.length_append]
    have hdrop : b.drop (Int.toNat (((b.length : Nat) : Int) - ((l1.length : Nat) : Int))) = l1 := by
      rw [show Int.toNat (((b.length : Nat) : Int) - ((l1.length : Nat) : Int)) = p.length by omega, ← hp, List.drop_left]
    simp only [Bool.not_true, cond_false]
    by_cases h1 : n ≤ most
    · have d1 : decide (((n : Nat) : Int) > ((most : Nat) : Int)) = false := decide_eq_false (by omega)
      simp only [d1, cond_false]
      by_cases h2 : n ≤ l1.length
      · have d2 : decide (((n : Nat) : Int) > ((b.length : Nat) : Int) - (((b.length : Nat) : Int) - ((l1.length : Nat) : Int))) = false := decide_eq_false (by omega)
        simp only [d2, cond_false, hdrop]
        rw [if_pos ⟨h1, h2⟩]
        dsimp only
        rw [show Int.toNat (((b.length : Nat) : Int) - ((l1.length : Nat) : Int) + ((n : Nat) : Int)) - Int.toNat (((b.length : Nat) : Int) - ((l1.length : Nat) : Int)) = n by omega, List.length_drop, show ((b.length : Nat) : Int) - ((l1.length : Nat) : Int) + ((n : Nat) : Int) = ((b.length : Nat) : Int) - ((l1.length - n : Nat) : Int) by omega]
      · have d2 : decide (((n : Nat) : Int) > ((b.length : Nat) : Int) - (((b.length : Nat) : Int) - ((l1.length : Nat) : Int))) = true := decide_eq_true (by omega)
        simp only [d2, cond_true]
        rw [if_neg (fun h => h2 h.2)]
    · have d1 : decide (((n : Nat) : Int) > ((most : Nat) : Int)) = true := decide_eq_true (by omega)
      simp only [d1, cond_true]
      rw [if_neg (fun h => h1 h.1)]
def dn : Nat → List UInt8 → List Str → Option (List Str × List UInt8)
  | 0, l, acc => some (acc, l)
  | m + 1, l, acc => match db 8 l with
    | none => none
    | some (s, l') => dn m l' (acc ++ [bstr s])
def es (p : Str) : List UInt8 := vb 5 p.size ++ p.data.toList
def ens (l : List Str) : List UInt8 := l.flatMap es
theorem bstr_data (p : Str) : bstr p.data.toList = p := by cases p; simp [bstr]
theorem dn_enc : ∀ (ps : List Str) (l : List UInt8) (acc : List Str), (∀ p ∈ ps, p.size ≤ 8) → dn ps.length (ens ps ++ l) acc = some (acc ++ ps, l)
  | [], l, acc, _ => by simp [dn, ens]
  | p :: ps, l, acc, h => by
    have h8 := h p List.mem_cons_self
    have hl : p.data.toList.length = p.size := rfl
    have he : ens (p :: ps) ++ l = vb 5 p.data.toList.length ++ (p.data.toList ++ (ens ps ++ l)) := by
      simp only [ens, List.flatMap_cons, es, hl, List.append_assoc]
    rw [he, List.length_cons, dn, db_enc (by omega) (by omega)]
    dsimp only
    rw [bstr_data, dn_enc ps l _ (fun q hq => h q (List.mem_cons_of_mem _ hq)), List.append_assoc]
    rfl
theorem dn_dec : ∀ (m : Nat) (l : List UInt8) (acc ns : List Str) (l' : List UInt8), dn m l acc = some (ns, l') → ∃ ps, ns = acc ++ ps ∧ ps.length = m ∧ l = ens ps ++ l'
  | 0, l, acc, ns, l', h => by
    simp only [dn, Option.some.injEq, Prod.mk.injEq] at h
    obtain ⟨rfl, rfl⟩ := h
    exact ⟨[], by simp, rfl, by simp [ens]⟩
  | m + 1, l, acc, ns, l', h => by
    rw [dn] at h
    cases e : db 8 l with
    | none => rw [e] at h; cases h
    | some r =>
      obtain ⟨s, l1⟩ := r
      rw [e] at h
      obtain ⟨ps, h1, h2, h3⟩ := dn_dec m l1 _ ns l' h
      refine ⟨bstr s :: ps, by rw [h1, List.append_assoc]; rfl, by rw [List.length_cons, h2], ?_⟩
      rw [(db_dec e).1, h3]
      simp only [ens, List.flatMap_cons, es, bstr_size, List.append_assoc]
      simp [bstr]
theorem rnD {b : List UInt8} : ∀ (m : Nat) (l : List UInt8) (acc : List Str), l <:+ b → spec_ReadName_L1 b m (((b.length : Nat) : Int) - ((l.length : Nat) : Int)) acc = (match dn m l acc with | some (ns, l') => .nxt (((b.length : Nat) : Int) - ((l'.length : Nat) : Int), ns) | none => .ret (Name.mk [], 0, false))
  | 0, l, acc, _ => rfl
  | m + 1, l, acc, hs => by
    rw [spec_ReadName_L1, dn, show (8 : Int) = ((8 : Nat) : Int) from rfl, rb_db 8 hs]
    cases e : db 8 l with
    | none => rfl
    | some r =>
      obtain ⟨s, l1⟩ := r
      simp only [Bool.not_true, cond_false]
      exact rnD m l1 _ (db_suf hs e)
def dnm (l : List UInt8) : Option (Name × List UInt8) :=
  match dv 6 0 0 l with
  | none => none
  | some (k, l1) => if 6 < k then none else match dn k l1 [] with
    | none => none
    | some (ns, l') => bif spec_ValidName (Name.mk ns) then some (Name.mk ns, l') else none
def en (n : Name) : List UInt8 := vb 5 n.parts.length ++ ens n.parts
theorem dnm_enc {n : Name} (h : spec_ValidName n = true) (l : List UInt8) : dnm (en n ++ l) = some (n, l) := by
  obtain ⟨h1, h2⟩ := vnB_spec h
  unfold dnm en
  rw [List.append_assoc, dv_enc (by omega)]
  dsimp only
  rw [if_neg (by omega), dn_enc n.parts l [] h2]
  dsimp only
  rw [List.nil_append, show Name.mk n.parts = n from rfl, h]
  rfl
theorem dnm_dec {l : List UInt8} {n : Name} {l' : List UInt8} (h : dnm l = some (n, l')) : l = en n ++ l' ∧ spec_ValidName n = true := by
  unfold dnm at h
  cases e : dv 6 0 0 l with
  | none => rw [e] at h; cases h
  | some r =>
    obtain ⟨k, l1⟩ := r
    rw [e] at h
    dsimp only at h
    by_cases hk : 6 < k
    · rw [if_pos hk] at h; cases h
    · rw [if_neg hk] at h
      cases e2 : dn k l1 [] with
      | none => rw [e2] at h; cases h
      | some r =>
        obtain ⟨ns, l2⟩ := r
        rw [e2] at h
        dsimp only at h
        cases hv : spec_ValidName (Name.mk ns)
        · rw [hv] at h; cases h
        · rw [hv] at h
          simp only [cond_true, Option.some.injEq, Prod.mk.injEq] at h
          obtain ⟨rfl, rfl⟩ := h
          obtain ⟨ps, h1, h2, h3⟩ := dn_dec k l1 [] ns l2 e2
          rw [List.nil_append] at h1
          subst h1
          refine ⟨?_, hv⟩
          unfold en
          rw [(dv_dec e).1, h3, ← h2, List.append_assoc]
theorem dnm_suf {b l : List UInt8} {n : Name} {l' : List UInt8} (hs : l <:+ b) (h : dnm l = some (n, l')) : l' <:+ b := by
  obtain ⟨p, rfl⟩ := hs
  rw [(dnm_dec h).1, ← List.append_assoc]
  exact List.suffix_append _ _
theorem rn_dnm {b l : List UInt8} (hs : l <:+ b) : spec_ReadName b (((b.length : Nat) : Int) - ((l.length : Nat) : Int)) = (match dnm l with | some (n, l') => (n, ((b.length : Nat) : Int) - ((l'.length : Nat) : Int), true) | none => (Name.mk [], 0, false)) := by
  unfold spec_ReadName dnm
  rw [rv_suf hs]
  cases e : dv 6 0 0 l with
  | none => rfl
  | some r =>
    obtain ⟨k, l1⟩ := r
    simp only [Bool.not_true, cond_false, Int.toNat_natCast]
    by_cases hk : 6 < k
    · have d1 : decide (((k : Nat) : Int) > 6) = true := decide_eq_true (by omega)
      simp only [d1, cond_true]
      rw [if_pos hk]
    · have d1 : decide (((k : Nat) : Int) > 6) = false := decide_eq_false (by omega)
      simp only [d1, cond_false]
      rw [if_neg hk, rnD k l1 [] (dv_suf hs e)]
      cases e2 : dn k l1 [] with
      | none => rfl
      | some r =>
        obtain ⟨ns, l2⟩ := r
        dsimp only
        cases hv : spec_ValidName (Name.mk ns) <;> rfl
theorem anL : ∀ (ps : List Str) (b : List UInt8), (∀ p ∈ ps, p.size ≤ 8) → spec_AppendName_L1 ps b = b ++ ens ps
  | [], b, _ => by simp [spec_AppendName_L1, ens]
  | p :: ps, b, h => by
    have h8 := h p List.mem_cons_self
    have hl : p.data.toList.length = p.size := rfl
    simp only [spec_AppendName_L1, spec_AppendBytes, hl]
    rw [av_vb _ (by omega), anL ps _ (fun q hq => h q (List.mem_cons_of_mem _ hq))]
    simp only [ens, List.flatMap_cons, es, List.append_assoc]
theorem an_en (b : List UInt8) {n : Name} (h : spec_ValidName n = true) : spec_AppendName b n = b ++ en n := by
  obtain ⟨h1, h2⟩ := vnB_spec h
  unfold spec_AppendName en
  rw [h, av_vb _ (by omega)]
  simp only [Bool.not_true, cond_false]
  rw [anL n.parts _ h2, List.append_assoc]
def dvec : Nat → List UInt8 → List TableEntry → Option (List TableEntry × List UInt8)
  | 0, l, acc => some (acc, l)
  | m + 1, l, acc => match dnm l with
    | none => none
    | some (n, l1) => match dv 6 0 0 l1 with
      | none => none
      | some (x, l2) => dvec m l2 (acc ++ [⟨n, ((x : Nat) : Int)⟩])
def ee (e : TableEntry) : List UInt8 := en e.name ++ vb 5 e.value.toNat
def OkE (e : TableEntry) : Prop := spec_ValidName e.name = true ∧ 0 ≤ e.value ∧ e.value ≤ 1000000000000
theorem dvec_enc : ∀ (es_ : List TableEntry) (l : List UInt8) (acc : List TableEntry), (∀ e ∈ es_, OkE e) → dvec es_.length (es_.flatMap ee ++ l) acc = some (acc ++ es_, l)
  | [], l, acc, _ => by simp [dvec]
  | e :: es_, l, acc, h => by
    obtain ⟨h1, h2, h3⟩ := h e List.mem_cons_self
    have he : (e :: es_).flatMap ee ++ l = en e.name ++ (vb 5 e.value.toNat ++ (es_.flatMap ee ++ l)) := by simp only [List.flatMap_cons, ee, List.append_assoc]
    rw [he, List.length_cons, dvec, dnm_enc h1]
    dsimp only
    rw [dv_enc (by omega)]
    dsimp only
    rw [show ((e.value.toNat : Nat) : Int) = e.value by omega, dvec_enc es_ l _ (fun d hd => h d (List.mem_cons_of_mem _ hd)), List.append_assoc]
    rfl
theorem dvec_dec : ∀ (m : Nat) (l : List UInt8) (acc v : List TableEntry) (l' : List UInt8), dvec m l acc = some (v, l') → ∃ es_, v = acc ++ es_ ∧ es_.length = m ∧ l = es_.flatMap ee ++ l'
  | 0, l, acc, v, l', h => by
    simp only [dvec, Option.some.injEq, Prod.mk.injEq] at h
    obtain ⟨rfl, rfl⟩ := h
    exact ⟨[], by simp, rfl, by simp⟩
  | m + 1, l, acc, v, l', h => by
    rw [dvec] at h
    cases e : dnm l with
    | none => rw [e] at h; cases h
    | some r =>
      obtain ⟨n, l1⟩ := r
      rw [e] at h
      dsimp only at h
      cases e2 : dv 6 0 0 l1 with
      | none => rw [e2] at h; cases h
      | some r =>
        obtain ⟨x, l2⟩ := r
        rw [e2] at h
        obtain ⟨es_, h1, h2, h3⟩ := dvec_dec m l2 _ v l' h
        refine ⟨⟨n, ((x : Nat) : Int)⟩ :: es_, by rw [h1, List.append_assoc]; rfl, by rw [List.length_cons, h2], ?_⟩
        rw [(dnm_dec e).1, (dv_dec e2).1, h3]
        simp only [List.flatMap_cons, ee, Int.toNat_natCast, List.append_assoc]
theorem dvecD {b : List UInt8} : ∀ (m : Nat) (l : List UInt8) (acc : List TableEntry), l <:+ b → spec_DecodeVector_L1 b m (((b.length : Nat) : Int) - ((l.length : Nat) : Int)) acc = (match dvec m l acc with | some (v, l') => .nxt (((b.length : Nat) : Int) - ((l'.length : Nat) : Int), v) | none => .ret (StateVector.mk [], false))
  | 0, l, acc, _ => rfl
  | m + 1, l, acc, hs => by
    rw [spec_DecodeVector_L1, dvec, rn_dnm hs]
    cases e : dnm l with
    | none => rfl
    | some r =>
      obtain ⟨n, l1⟩ := r
      simp only [Bool.not_true, cond_false]
      rw [rv_suf (dnm_suf hs e)]
      cases e2 : dv 6 0 0 l1 with
      | none => rfl
      | some r =>
        obtain ⟨x, l2⟩ := r
        simp only [Bool.not_true, cond_false]
        exact dvecD m l2 _ (dv_suf (dnm_suf hs e) e2)
def dall (b : List UInt8) : StateVector × Bool :=
  match dv 6 0 0 b with
  | none => (StateVector.mk [], false)
  | some (k, l1) => if 20 < k then (StateVector.mk [], false) else match dvec k l1 [] with
    | none => (StateVector.mk [], false)
    | some (v, l') => if l' = [] then (bif spec_ValidVector (StateVector.mk v) then (StateVector.mk v, true) else (StateVector.mk [], false)) else (StateVector.mk [], false)
theorem dec_all (b : List UInt8) : spec_DecodeVector b = dall b := by
  unfold spec_DecodeVector dall
  have h0 := rv_suf (b := b) (l := b) (List.suffix_refl b)
  rw [Int.sub_self] at h0
  rw [h0]
  cases e : dv 6 0 0 b with
  | none => rfl
  | some r =>
    obtain ⟨k, l1⟩ := r
    simp only [Bool.not_true, cond_false, Int.toNat_natCast]
    by_cases hk : 20 < k
    · have d1 : decide (((k : Nat) : Int) > 20) = true := decide_eq_true (by omega)
      simp only [d1, cond_true]
      rw [if_pos hk]
    · have d1 : decide (((k : Nat) : Int) > 20) = false := decide_eq_false (by omega)
      simp only [d1, cond_false]
      rw [if_neg hk, dvecD k l1 [] (dv_suf (List.suffix_refl b) e)]
      cases e2 : dvec k l1 [] with
      | none => rfl
      | some r =>
        obtain ⟨v, l2⟩ := r
        dsimp only
        by_cases hl : l2 = []
        · subst hl
          have : ((((b.length : Nat) : Int) - ((([] : List UInt8).length : Nat) : Int)) != ((b.length : Nat) : Int)) = false := by simp
          simp only [this, cond_false]
          rw [if_pos trivial]
          cases spec_ValidVector (StateVector.mk v) <;> rfl
        · have : ((((b.length : Nat) : Int) - ((l2.length : Nat) : Int)) != ((b.length : Nat) : Int)) = true := by
            have : l2.length ≠ 0 := fun h => hl (List.eq_nil_of_length_eq_zero h)
            simp only [bne_iff_ne, ne_eq]
            omega
          simp only [this, cond_true]
          rw [if_neg hl]
theorem evL : ∀ (es_ : List TableEntry) (b : List UInt8), (∀ e ∈ es_, OkE e) → spec_EncodeVector_L1 es_ b = b ++ es_.flatMap ee
  | [], b, _ => by simp [spec_EncodeVector_L1]
  | e :: es_, b, h => by
    obtain ⟨h1, h2, h3⟩ := h e List.mem_cons_self
    simp only [spec_EncodeVector_L1]
    have hv : e.value = ((e.value.toNat : Nat) : Int) := by omega
    rw [an_en b h1, hv, av_vb _ (by omega), evL es_ _ (fun d hd => h d (List.mem_cons_of_mem _ hd))]
    simp only [List.flatMap_cons, ee, List.append_assoc]
theorem vtB : ∀ (r p : List TableEntry), spec_ValidTable_L1 (p ++ r) r p.length = none → ∀ e ∈ r, spec_ValidName e.name = true
  | [], p, _, e, he => by cases he
  | x :: r, p, h, e, he => by
    have ih := vtB r (p ++ [x])
    rw [mid_app, mid_len] at ih
    simp only [spec_ValidTable_L1] at h
    cases hv : spec_ValidName x.name
    · rw [hv] at h; cases h
    · rw [hv] at h
      simp only [Bool.not_true, cond_false] at h
      have hr : spec_ValidTable_L1 (p ++ x :: r) r (p.length + 1) = none := by
        rcases List.eq_nil_or_concat p with rfl | ⟨q, d, rfl⟩
        · exact h
        · have h2 : decide ((((q.concat d).length : Nat) : Int) > 0) = true := by first | (simp; done) | (simp; omega)
          have h3 : (q.concat d ++ x :: r)[((((q.concat d).length : Nat) : Int) - 1).toNat]? = some d := by
            rw [show ((((q.concat d).length : Nat) : Int) - 1).toNat = q.length by simp, List.concat_eq_append, List.append_assoc]
            exact mid q d _
          simp only [h2, cond_true, h3] at h
          cases h4 : decide (spec_CompareNames d.name x.name ≥ 0)
          · rw [h4] at h; exact h
          · rw [h4] at h; cases h
      rcases List.mem_cons.1 he with rfl | he
      · exact hv
      · exact ih hr e he
theorem vtRes (l : List TableEntry) : ∀ (r : List TableEntry) (i : Nat), spec_ValidTable_L1 l r i = none ∨ spec_ValidTable_L1 l r i = some false
  | [], i => .inl rfl
  | x :: r, i => by
    have ih := vtRes l r (i + 1)
    simp only [spec_ValidTable_L1]
    cases (!(spec_ValidName x.name))
    · simp only [cond_false]
      cases decide (((i : Nat) : Int) > 0)
      · exact ih
      · simp only [cond_true]
        cases l[(((i : Nat) : Int) - 1).toNat]? with
        | none => exact .inl rfl
        | some d =>
          dsimp only
          cases decide (spec_CompareNames d.name x.name ≥ 0)
          · exact ih
          · exact .inr rfl
    · exact .inr rfl
theorem vvB {v : StateVector} (h : spec_ValidVector v = true) : v.entries.length ≤ 20 ∧ ∀ e ∈ v.entries, OkE e := by
  unfold spec_ValidVector at h
  have q : ∀ l : List TableEntry, (spec_ValidVector_L1 l = none ∧ ∀ e ∈ l, 1 ≤ e.value ∧ e.value ≤ 1000) ∨ spec_ValidVector_L1 l = some false := by
    intro l
    induction l with
    | nil => exact .inl ⟨rfl, fun e he => by cases he⟩
    | cons x l ih =>
      simp only [spec_ValidVector_L1]
      cases hx : spec_l1In x.value 1 1000
      · exact .inr rfl
      · rcases ih with ⟨h1, h2⟩ | h1
        · exact .inl ⟨h1, fun e he => (List.mem_cons.1 he).elim (fun z => z ▸ inR_specP hx) (h2 e)⟩
        · exact .inr h1
  rcases q v.entries with ⟨h1, h2⟩ | h1
  · rw [h1] at h
    have h3 : spec_ValidTable v.entries = true := h
    unfold spec_ValidTable at h3
    rcases vtRes v.entries v.entries 0 with h4 | h4
    · rw [h4] at h3
      have h5 := of_decide_eq_true (show decide ((((v.entries).length : Nat) : Int) ≤ 20) = true from h3)
      refine ⟨by omega, fun e he => ⟨vtB v.entries [] h4 e he, by have := h2 e he; omega, by have := h2 e he; omega⟩⟩
    · rw [h4] at h3; cases h3
  · rw [h1] at h; cases h
theorem enc_all {v : StateVector} (h : spec_ValidVector v = true) : spec_EncodeVector v = vb 5 v.entries.length ++ v.entries.flatMap ee := by
  obtain ⟨h1, h2⟩ := vvB h
  unfold spec_EncodeVector
  rw [h, av_vb _ (by omega)]
  simp only [Bool.not_true, cond_false, List.nil_append]
  exact evL v.entries _ h2
theorem dec_enc (v : StateVector) : spec_DecodeVector (spec_EncodeVector v) = bif spec_ValidVector v then (v, true) else (StateVector.mk [], false) := by
  cases h : spec_ValidVector v
  · unfold spec_EncodeVector
    rw [h]
    rfl
  · obtain ⟨h1, h2⟩ := vvB h
    rw [enc_all h, dec_all]
    unfold dall
    rw [dv_enc (by omega)]
    dsimp only
    have := dvec_enc v.entries [] [] h2
    rw [List.append_nil] at this
    rw [if_neg (by omega), this]
    dsimp only
    rw [if_pos rfl, List.nil_append, show StateVector.mk v.entries = v from rfl, h, cond_true]
theorem enc_dec {b : List UInt8} (h : (spec_DecodeVector b).2 = true) : spec_EncodeVector (spec_DecodeVector b).1 = b := by
  rw [dec_all] at h ⊢
  unfold dall at h ⊢
  cases e : dv 6 0 0 b with
  | none => rw [e] at h; cases h
  | some r =>
    obtain ⟨k, l1⟩ := r
    rw [e] at h
    dsimp only at h ⊢
    by_cases hk : 20 < k
    · rw [if_pos hk] at h; cases h
    · rw [if_neg hk] at h ⊢
      cases e2 : dvec k l1 [] with
      | none => rw [e2] at h; cases h
      | some r =>
        obtain ⟨v, l2⟩ := r
        rw [e2] at h
        dsimp only at h ⊢
        by_cases hl : l2 = []
        · rw [if_pos hl] at h ⊢
          subst hl
          cases hv : spec_ValidVector (StateVector.mk v)
          · rw [hv] at h; cases h
          · simp only [cond_true]
            obtain ⟨es_, h1, h2, h3⟩ := dvec_dec k l1 [] v [] e2
            rw [List.nil_append] at h1
            subst h1
            rw [enc_all hv, (dv_dec e).1, h3, List.append_nil]
            show vb 5 v.length ++ _ = _
            rw [h2]
        · rw [if_neg hl] at h; cases h
end Go.Stp

namespace Go.Stp
open Go.RowKit (Below)
open GoT (X k ok sh fa oa)
def Opens (P : Program) (T : TypeId) (α : Type) [GoT α] : Prop :=
  P.cellsOf T = k α ∧ ∀ {H : Type} {enc : TypeId × Value → H} {w : World} {spare : Nat → Bool} {held : Bool} {fuel : Nat} {cs : List Value} {x : DataW H × List MemPlace}, DataW.trod enc P w 0 spare held fuel T cs = some x →
    ∃ (a : α) (y : X α), cs = sh a y ∧ ok 10 a ∧ All (hp w) (fa .der a y)
theorem opens_byte {P : Program} {T : TypeId} (h : P.underlying T = some (.int .u8)) (hc : P.cellsOf T = 1) : Opens P T UInt8 := ⟨hc, fun h' => by
  obtain ⟨n, rfl, _, hw⟩ := DataW.trod_int h h'
  have hn : 0 ≤ n ∧ n ≤ 255 := by simpa [Lit.wf, IntKind.min, IntKind.max, IntKind.signed, IntKind.bits] using hw
  refine ⟨UInt8.ofNat n.toNat, (), ?_, trivial, (fun _ h_ => by cases h_)⟩
  have : ((UInt8.ofNat n.toNat).toNat : Int) = n := by
    rw [UInt8.toNat_ofNat', Nat.mod_eq_of_lt (by omega)]; omega
  simp only [sh]
  rw [this]⟩
theorem cells?_each {w : World} {a : Addr} {n : Nat} {cs : List Value} (h : w.cells? 0 a n = some cs) : ∀ j u, cs[j]? = some u → w.cell? (a.add j) = some u := by
  intro j u hj
  obtain ⟨_, h1, h2⟩ := World.cells?_some h
  rw [h2 j (by rw [← h1]; exact (List.getElem?_eq_some_iff.1 hj).1)]; exact hj
theorem opens_slice {P : Program} {T E : TypeId} {α : Type} [GoT α] (h : P.underlying T = some (.slice E)) (hc : P.cellsOf T = 1) (he : Opens P E α) : Opens P T (List α) := ⟨hc, fun {H enc w spare held fuel cs x} h' => by
  rcases DataW.trod_slice h h' with ⟨rfl, _⟩ | ⟨a, len, cap, elems, rest, n, _, rfl, _, _, hl, hm, hlen, hel, _, _⟩
  · exact ⟨[], (none, 0), rfl, ⟨Nat.zero_le _, fun _ h_ => by cases h_⟩, fun f hf => by
      obtain rfl := List.mem_singleton.1 hf
      exact ⟨Nat.zero_le _, Nat.zero_le _, [], fun j u h => by simp at h, rfl⟩⟩
  · have key : ∀ m, m ≤ len → ∃ (l : List α) (xs : List Value), l.length = m ∧ xs.length = m * k α ∧ RdL (hp w) xs l ∧ (∀ b ∈ l, ok 10 b) ∧ CellsAt (hp w) (some a) xs := by
      intro m
      induction m with
      | zero => exact fun _ => ⟨[], [], rfl, by simp, rfl, by simp, fun j u h => by simp at h⟩
      | succ m ih =>
        intro hmle
        obtain ⟨l, xs, h1, h2, h3, h4, h5⟩ := ih (by omega)
        have hm' := hel m (by omega)
        rw [he.1] at hm'
        obtain ⟨y, hy⟩ : ∃ y, elems[m]? = some y := ⟨_, List.getElem?_eq_getElem (by omega)⟩
        rw [hy, Option.bind_eq_some_iff] at hm'
        obtain ⟨cs', hcs, htr⟩ := hm'
        obtain ⟨b, yb, rfl, hok, hfa⟩ := he.2 htr
        refine ⟨l ++ [b], xs ++ sh b yb, by simp [h1], by rw [List.length_append, h2, GoT.len, Nat.add_mul]; omega, h3.snoc hfa, ?_, ?_⟩
        · intro c hc
          rcases List.mem_append.1 hc with hc | hc
          · exact h4 c hc
          · simp at hc; subst hc; exact hok
        · intro j u hj
          refine ⟨a, rfl, ?_⟩
          by_cases hlt : j < xs.length
          · rw [List.getElem?_append_left hlt] at hj
            obtain ⟨a', ha', hg⟩ := h5 j u hj
            simp at ha'; subst ha'; exact hg
          · rw [List.getElem?_append_right (by omega)] at hj
            have := cells?_each hcs _ _ hj
            rw [addr_add_add, h2, show m * k α + (j - m * k α) = j by omega] at this
            exact this
    obtain ⟨l, xs, h1, h2, h3, h4, h5⟩ := key len (Nat.le_refl _)
    have hm' : len ≤ 9223372036854775807 := by simp only [maxLen] at hm; omega
    refine ⟨l, (some a, cap), by simp [sh, h1], ⟨by show l.length ≤ 9223372036854775807; omega, h4⟩, fun f hf => ?_⟩
    obtain rfl := List.mem_singleton.1 hf
    exact ⟨by omega, by omega, xs, h5, h3⟩⟩
def Arg (P : Program) (T : TypeId) (α : Type) [GoT α] (mk : List Value → Value) : Prop :=
  ∀ {H : Type} {enc : TypeId × Value → H} {W : World} {b0 : Nat} {spare : Nat → Bool} {held : Bool} {v : Value} {d : DataW H} {ps : List MemPlace}, Value.okWide P W .any b0 T v → DataW.Trod enc P W 0 spare held T v d ps →
    ∃ (a : α) (y : X α), v = mk (sh a y) ∧ ok 10 a ∧ All (hp W) (fa .der a y)
theorem arg_slice {P : Program} {T E : TypeId} {α : Type} [GoT α] (h : P.underlying T = some (.slice E)) (ho : Opens P T (List α)) : Arg P T (List α) (fun cs => cs.headD undef) := by
  intro H enc W b0 spare held v d ps hval ⟨fuel, hf⟩
  obtain ⟨a, y, h1, h2, h3⟩ := ho.2 hf
  refine ⟨a, y, ?_, h2, h3⟩
  cases v with
  | agg cs => simp [Value.okWide, h, Cell.okWide, Cell.ok] at hval
  | _ => first | (simp [Value.cells, sh] at h1; done) | (simp [Value.cells, sh] at h1; simp [sh, h1])
theorem trodAll_stays {H : Type} {enc : TypeId × Value → H} {P : Program} (hl : laidOutB P = true) {W W' : World} {sp : Nat → Bool} : ∀ {ts : List TypeId} {vs : List Value} {ds : List (DataW H)} {ps : List MemPlace},
    ts.all (fun t => P.readableRec t && decide (t < P.types.size)) = true → DataW.TrodAll enc P W 0 (fun _ => true) true ts vs ds ps → (∀ p ∈ ps, W.sameAt W' p) → (∀ p ∈ ps, sp p.block = true) → DataW.TrodAll enc P W' 0 sp true ts vs ds ps
  | [], [], [], _, _, h, _, _ => h
  | t :: ts, v :: vs, d :: ds, ps, ha, ⟨p, q, h1, h2, e⟩, hs, hsp => by
    simp only [List.all_cons, Bool.and_eq_true, decide_eq_true_eq] at ha
    subst e
    exact ⟨p, q, WideElems.Trod_stays hl ha.1.1 ha.1.2 h1 (fun x hx => hs x (List.mem_append_left _ hx)) (fun x hx => hsp x (List.mem_append_left _ hx)),
      trodAll_stays hl ha.2 h2 (fun x hx => hs x (List.mem_append_right _ hx)) (fun x hx => hsp x (List.mem_append_right _ hx)), rfl⟩
theorem trodAll_len {H : Type} {enc : TypeId × Value → H} {P : Program} {W : World} {b : Nat} {sp : Nat → Bool} {hd : Bool} : ∀ {ts : List TypeId} {vs : List Value} {ds : List (DataW H)} {ps : List MemPlace}, DataW.TrodAll enc P W b sp hd ts vs ds ps → ds.length = ts.length
  | [], [], [], _, _ => rfl
  | _ :: _, _ :: _, _ :: _, _, ⟨_, _, _, h2, _⟩ => by simp [trodAll_len h2]
theorem law_post {H : Type} {enc : TypeId × Value → H} {P : Program} {f : Func} {s : ChangeSpec} {W W' : World} {args : Array Value} {ds gs : List (DataW H)} {before : List MemPlace} {B : TypeId}
    (hl : laidOutB P = true) (hpar : f.params.toList.all (fun t => P.readableRec t && decide (t < P.types.size)) = true) (hvars : s.vars = []) (hB : f.resultTypes = #[B]) (hu : P.underlying B = some .bool)
    (hfn : ∀ ds : List (DataW H), ds.length = f.params.size → s.fn H ds = { results := [.lit (.bool true)], args := ds })
    (hW : DataW.Whole enc P f.params.toList s.vars false W args.toList ds gs before) (hb : Below W.heap.size W W') : s.post enc P f false true false false W args (.bool true) W' := by
  have hW' := hW
  have hlt : ∀ p ∈ before, p.block < W.heap.size := fun p hp => hW.lt p hp
  obtain ⟨p, q, hA, hV, rfl, hfz, hnd⟩ := hW'
  rw [hvars] at hV
  obtain ⟨rfl, rfl⟩ := ChangeShapes.trodVars_none hV
  have hlen : ds.length = f.params.size := by simpa using trodAll_len hA
  have hdd : s.fn H (ds ++ []) = { results := [.lit (.bool true)], args := ds } := by rw [List.append_nil]; exact hfn ds hlen
  have hres : ∀ (b : Nat) (sp : Nat → Bool) (hd : Bool), DataW.TrodAll enc P W' b sp hd f.resultTypes.toList ((Value.bool true).resultList f.resultTypes.size) (s.fn H (ds ++ [])).results [] := by
    intro b sp hd
    rw [hdd, hB]
    exact trodAll_cons_mk (RowKit.shut_bool hu _) ChangeShapes.trodAll_mk0
  have hargs : ∀ sp : Nat → Bool, (∀ x ∈ p ++ [], sp x.block = true) → DataW.TrodAll enc P W' 0 sp true f.params.toList args.toList (s.fn H (ds ++ [])).args p := by
    intro sp hsp
    rw [hdd]
    exact trodAll_stays hl hpar hA (fun x hx => hb.same (hlt x (by simpa using hx))) (fun x hx => hsp x (by simpa using hx))
  have hvars' : ∀ sp : Nat → Bool, DataW.TrodVars enc P W' sp s.vars (s.fn H (ds ++ [])).vars [] := by
    intro sp; rw [hvars, hdd]; rfl
  have hold : ∀ x ∈ p ++ [], (fun b => decide (b < W.heap.size)) x.block = true := fun x hx => by simpa using hlt x hx
  refine ⟨ds, [], p ++ [], [], p, [], hW, hres _ _ _, hargs _ hold, hvars' _, World.keptBut_mono (fun x hx => ⟨hx, Or.inr (by simpa using hx)⟩) (hb.frame (· ∈ p ++ [])), fun h => (by cases h)⟩
end Go.Stp

namespace Go.Proofs.Ytdimfabadjfkiaa.Facts
set_option maxRecDepth 100000
theorem laid : laidOutB Try.prog = true := by kernel_rfl
theorem rowed : mapsRowed Try.prog = true := by kernel_rfl
end Go.Proofs.Ytdimfabadjfkiaa.Facts

namespace Go.Stp
set_option linter.unusedVariables false
set_option linter.unusedSimpArgs false
open Classical in
theorem true_FnVecs (code : List UInt8) (hcode : GoT.ok 10 code) : laws_FnVecs code = true := by
  obtain ⟨ha, hb, hc⟩ := drawVecs_gd code
  obtain ⟨j1, j2, j3, j4, j5, j6, j7⟩ := join_laws ha hb hc
  have hr : ∀ l : List TableEntry, laws_sameRows l l = true := fun l => by rw [sameRows_eq]; exact decide_eq_true rfl
  have hs : ∀ l : List UInt8, laws_same l l = true := fun l => by rw [same_eq]; exact decide_eq_true rfl
  have h7 : (spec_VectorLeq (spec_DrawVecs code).1 (spec_DrawVecs code).2.1 == laws_sameRows (spec_JoinVectors (spec_DrawVecs code).1 (spec_DrawVecs code).2.1).entries (spec_DrawVecs code).2.1.entries) = true := by
    rw [sameRows_eq]
    cases h : spec_VectorLeq (spec_DrawVecs code).1 (spec_DrawVecs code).2.1
    · have : ¬ (spec_JoinVectors (spec_DrawVecs code).1 (spec_DrawVecs code).2.1).entries = (spec_DrawVecs code).2.1.entries := fun z => by rw [j7.2 z] at h; cases h
      rw [decide_eq_false this]; rfl
    · rw [decide_eq_true (j7.1 h)]; rfl
  have h7' := h7
  rw [j2] at h7'
  have h8 := nt_leq (spec_DrawVecs code).1 (spec_DrawVecs code).2.1
  have hd := dec_enc (spec_DrawEncodeVector code)
  have hq : (spec_DecodeVector (spec_DrawDecodeVector code)).2 = true → laws_same (spec_EncodeVector (spec_DecodeVector (spec_DrawDecodeVector code)).1) (spec_DrawDecodeVector code) = true := fun h => by rw [enc_dec h]; exact hs _
  unfold laws_FnVecs
  simp only [same_JoinVectors', same_VectorLeq, same_NewerThan', same_EncodeVector', same_DecodeVector', same_SeqOf', same_VectorSum', same_ValidVector', hr, hs, bne_self_F, nbeq_self_F, beq_self_eq_true, Bool.not_true, cond_false, hd, j1, j2, j3, j4, j5, j6, h7, h7', h8, cond_true]
  cases laws_big code
  · simp only [cond_false]
    cases hv : spec_ValidVector (spec_DrawEncodeVector code)
    · simp only [cond_false, nbeq_self_F]
      cases hk : (spec_DecodeVector (spec_DrawDecodeVector code)).2
      · simp only [cond_false]
      · simp only [cond_true, hq hk, Bool.not_true, cond_false]
    · simp only [cond_true, nbeq_self_F, hr, Bool.not_true, cond_false]
      cases hk : (spec_DecodeVector (spec_DrawDecodeVector code)).2
      · simp only [cond_false]
      · simp only [cond_true, hq hk, Bool.not_true, cond_false]
  · rfl
end Go.Stp
namespace Go.Proofs.Ytdimfabadjfkiaa
open Go.Stp
open Go.RowKit (Below)
open Go.ChangeShapes Go.WideShapes Go.ChangeAt
namespace LawFnVecs
theorem own : ownKnob Try.prog.godebug = none := by kernel_rfl
theorem laid : laidOutB Try.prog = true := Facts.laid
set_option maxRecDepth 100000 in
theorem lifted (os : Os) (started : os.Started) (H : Type) (enc : TypeId × Value → H) :
    ReturnsInHanded {} Try.checked os 4 .any (Rows.fnVecsSpec.pre6 enc Try.prog Try.f4 Rows.fnVecsRow.domain false) (Rows.fnVecsSpec.post enc Try.prog Try.f4 false true false false) := by
  refine returnsInHanded_of_change (C := Try.checked) own started (by kernel_rfl) Try.func4
    (ChangeSpec.witness6 (enc := enc) (C := Try.checked) false ⟨#[], #[.slice none 0 0], []⟩ 8 (by kernel_rfl) (by kernel_rfl) (by kernel_rfl) (by kernel_rfl)) ?_
  intro W base args ds gs before hval0 hW _ _
  have hval : ∀ (j : Nat) t v, Try.f4.params[j]? = some t → args[j]? = some v → Value.okWide Try.prog W .any base t v := hval0
  have hW' := hW
  obtain ⟨p, q, hA0, _⟩ := hW
  have hA : DataW.TrodAll enc Try.prog W 0 (fun _ => true) true Try.f4.params.toList args.toList ds p := hA0
  rw [Try.params4] at hA hval
  obtain ⟨v0, vs0, d0, ds0, p0, q0, hargs, rfl, rfl, h0, r0⟩ := ChangeShapes.trodAll_cons hA
  obtain ⟨rfl, rfl, rfl⟩ := trodAll_nil r0
  obtain rfl : args = #[v0] := by cases args; simp_all
  obtain ⟨a0, x0, rfl, k0, g0⟩ := (arg_slice Try.underlying22 (opens_slice Try.underlying22 (by kernel_rfl) (opens_byte Try.underlying5 (by kernel_rfl)))) (hval 0 22 _ rfl rfl) h0
  have ht := true_FnVecs a0 k0
  refine (f4 W 0 (by decide) a0 x0.1 x0.2 (g0 (MF.rs .der x0.1 x0.2 a0) (List.mem_cons_self)) k0).2.mono fun e W1 ⟨v, he, hb, hv⟩ => ?_
  rw [ht] at hv
  obtain ⟨rfl, _⟩ := hv
  subst he
  exact ⟨_, rfl, law_post laid (by kernel_rfl) rfl rfl Try.underlying4 (fun ds h => by match ds, h with | [_], _ => rfl) hW' hb.below⟩
set_option maxRecDepth 100000 in
theorem c_inPlace : (Rows.fnVecsRow.inPlace == Try.prog.inPlace 4) = true := by kernel_rfl
set_option maxRecDepth 100000 in
theorem c_unfollowed : (Rows.fnVecsRow.unfollowed == Try.prog.unfollowed 4) = true := by kernel_rfl
set_option maxRecDepth 100000 in
theorem c_recurses : (Rows.fnVecsRow.recurses == Try.prog.recurses 4) = true := by kernel_rfl
set_option maxRecDepth 100000 in
theorem c_named : (Rows.fnVecsRow.named == Try.prog.varsNamed 4) = true := by kernel_rfl
set_option maxRecDepth 100000 in
theorem c_read : Try.f4.params.all (Try.pinned.checked.prog.readableRec ·) = true := by kernel_rfl
set_option maxRecDepth 100000 in
theorem c_maps : (Rows.fnVecsRow.maps == (Try.f4.params.toList ++ Rows.fnVecsSpec.plain.varTypes Try.pinned.checked.prog).any (Try.pinned.checked.prog.mapsRec ·)) = true := by kernel_rfl
set_option maxRecDepth 100000 in
theorem c_ifaces : (Rows.fnVecsRow.ifaces == (Try.f4.params.toList ++ Rows.fnVecsSpec.plain.varTypes Try.pinned.checked.prog).any (Try.pinned.checked.prog.ifacesRec ·)) = true := by kernel_rfl
set_option maxRecDepth 100000 in
theorem c_loops : (Rows.fnVecsRow.loops == (Try.f4.params.toList ++ Rows.fnVecsSpec.plain.varTypes Try.pinned.checked.prog).any (Try.pinned.checked.prog.loopsFrom ·)) = true := by kernel_rfl
set_option maxRecDepth 100000 in
theorem c_wide : (Rows.fnVecsRow.wideKeys == (Try.f4.params.toList ++ Rows.fnVecsSpec.plain.varTypes Try.pinned.checked.prog ++ Try.f4.resultTypes.toList).any (Try.pinned.checked.prog.wideKeysFrom ·)) = true := by kernel_rfl
set_option maxRecDepth 100000 in
theorem c_rread : Try.f4.resultTypes.all (fun t => Try.pinned.checked.prog.readableRec t && decide (t < Try.pinned.checked.prog.types.size)) = true := by kernel_rfl
set_option maxRecDepth 100000 in
theorem c_veiled : (Rows.fnVecsRow.veiled == (Try.f4.params.toList ++ Rows.fnVecsSpec.plain.varTypes Try.pinned.checked.prog ++ Try.f4.resultTypes.toList).any (Try.pinned.checked.prog.veiledRec ·)) = true := by kernel_rfl
set_option maxRecDepth 100000 in
theorem c_vfits : Rows.fnVecsRow.veiledFits Try.pinned.checked.prog Try.f4.params.toList (Try.f4.params.toList ++ Rows.fnVecsSpec.plain.varTypes Try.pinned.checked.prog ++ Try.f4.resultTypes.toList) = true := by kernel_rfl
set_option maxRecDepth 100000 in
theorem c_enter : Try.pinned.checked.prog.mayEnter = true := by kernel_rfl
set_option maxRecDepth 100000 in
theorem c_heard : Try.pinned.checked.prog.stopsHeard = true := by kernel_rfl
set_option maxRecDepth 100000 in
theorem c_lifted : (Rows.fnVecsRow.lifted == Try.pinned.checked.prog.liftsFinal) = true := by kernel_rfl
set_option maxRecDepth 100000 in
theorem c_plainKeys : (Rows.fnVecsRow.plainKeys == Try.pinned.checked.prog.plainKeys) = true := by kernel_rfl
set_option maxRecDepth 100000 in
theorem c_make : (Try.pinned.checked.prog.make == some Rows.fnVecsRow.make) = true := by kernel_rfl
set_option maxRecDepth 100000 in
theorem closed : joinedFacts Try.pinned.checked.prog 4 Try.f4 Rows.fnVecsSpec Rows.fnVecsRow = true := by
  unfold joinedFacts
  rw [show laidOutB Try.pinned.checked.prog = true from laid, show mapsRowed Try.pinned.checked.prog = true from Facts.rowed, show (Rows.fnVecsRow.inPlace == Try.pinned.checked.prog.inPlace 4) = true from c_inPlace, show (Rows.fnVecsRow.unfollowed == Try.pinned.checked.prog.unfollowed 4) = true from c_unfollowed, show (Rows.fnVecsRow.recurses == Try.pinned.checked.prog.recurses 4) = true from c_recurses, show (Rows.fnVecsRow.named == Try.pinned.checked.prog.varsNamed 4) = true from c_named, c_read, c_maps, c_ifaces, c_loops, c_wide, c_rread, c_veiled, c_vfits, c_enter, c_heard, c_lifted, c_plainKeys, c_make]
  kernel_rfl
theorem over : Rows.fnVecsRow.holds Try.pinned (OpenSpec.ofChange Rows.fnVecsSpec) :=
  OpenClaim.holds_of_wide 4 Try.f4 rfl rfl rfl rfl rfl rfl rfl ⟨rfl, rfl, rfl, rfl, rfl⟩ rfl rfl rfl rfl rfl (by kernel_rfl) Try.func4 closed
    (of_decide_eq_true (by kernel_rfl)) (by unfold Func.isWrapper; first | (rw [if_pos (by decide +kernel)]; kernel_rfl) | (rw [if_neg (by decide +kernel)]; exact ⟨rfl, rfl⟩))
    (fun os started H enc _ => lifted os started H enc)
theorem proved : Rows.FnVecsSaid := over
#print axioms proved
end LawFnVecs
end Go.Proofs.Ytdimfabadjfkiaa

