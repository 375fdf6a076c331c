/-
  What the proof of one law needs: rules of the program logic, functions as Lean functions, contracts. No condition but what each says. Written by a program (pack.py) out of my own texts.
-/
import Derived.Laws.IdiomStrings
import Derived.Test.YtdimfabadjfkiaaKFnVecs2
namespace Go.Stp
set_option linter.unusedVariables false
set_option linter.unusedSimpArgs false
def laws_big (code : (List UInt8)) : Bool :=
  (decide ((((code).length : Nat) : Int) > 1048576))
theorem bitAnd255 (x : Int) : 0 ≤ bitO .and x 255 ∧ bitO .and x 255 ≤ 255 := by
  have h : (BitVec.ofInt 64 x).toNat &&& 255 ≤ 255 := Nat.and_le_right
  have h2 : (BitVec.ofInt 64 (255 : Int)).toNat = 255 := by decide
  simp only [bitO, BitVec.toNat_and, h2]
  rw [wrap_i64 (by unfold I64; omega)]
  omega
theorem tmod_below {x n : Int} (h : 0 ≤ x) (hn : 0 < n) : 0 ≤ Int.tmod x n ∧ (Int.tmod x n < n ∨ (Int.tmod x n = 0 ∧ n ≤ 0)) :=
  ⟨Int.tmod_nonneg n h, .inl (Int.tmod_lt_of_pos x hn)⟩
set_option maxRecDepth 100000 in
def spec_l1New_L1 : List UInt8 → Nat → Int → Int
  | [], i, h_ => h_
  | e1 :: rest_, i, h_ =>
    bif decide (((i : Nat) : Int) < 4000) then
      spec_l1New_L1 rest_ (i + 1) (bitO .and (IntKind.i64.wrap ((IntKind.i64.wrap ((IntKind.i64.wrap (h_ * 137)) + ((e1).toNat : Int))) + 11)) 1073741823)
    else
      h_
set_option maxRecDepth 100000 in
def spec_l1New (code : (List UInt8)) : Int × Int :=
  match spec_l1New_L1 code 0 (IntKind.i64.wrap (192917 + (((code).length : Nat) : Int))) with
    | h_ =>
      (0, h_)
set_option maxRecDepth 100000 in
theorem spec_l1New_L1_eqs : True := by
  have h1 := @spec_l1New_L1.eq_1
  have h2 := @spec_l1New_L1.eq_2
  trivial
def spec_l1Byte (c_b : (List UInt8)) (c_i : Int) (c_h : Int) : Int × Int × Int :=
  bif decide (c_i < (((c_b).length : Nat) : Int)) then
    match (c_b)[(c_i).toNat]? with
      | none => default
      | some e1 =>
        ((bitO .and (IntKind.i64.wrap ((bitO .and (bitO .xor (Int.fdiv (IntKind.i64.wrap ((IntKind.i64.wrap (c_h * 6364136223846793005)) + 1442695040888963407)) (2 ^ (min (Int.toNat (33 : Int)) 64))) (Int.fdiv (IntKind.i64.wrap ((IntKind.i64.wrap (c_h * 6364136223846793005)) + 1442695040888963407)) (2 ^ (min (Int.toNat (47 : Int)) 64)))) 255) + ((e1).toNat : Int))) 255), c_i + 1, IntKind.i64.wrap ((IntKind.i64.wrap (c_h * 6364136223846793005)) + 1442695040888963407))
  else
    ((bitO .and (bitO .xor (Int.fdiv (IntKind.i64.wrap ((IntKind.i64.wrap (c_h * 6364136223846793005)) + 1442695040888963407)) (2 ^ (min (Int.toNat (33 : Int)) 64))) (Int.fdiv (IntKind.i64.wrap ((IntKind.i64.wrap (c_h * 6364136223846793005)) + 1442695040888963407)) (2 ^ (min (Int.toNat (47 : Int)) 64)))) 255), c_i, IntKind.i64.wrap ((IntKind.i64.wrap (c_h * 6364136223846793005)) + 1442695040888963407))
theorem l1Byte_rng (b : List UInt8) (i h : Int) : 0 ≤ (spec_l1Byte b i h).1 ∧ (spec_l1Byte b i h).1 ≤ 255 := by
  unfold spec_l1Byte
  cases decide (i < ((b.length : Nat) : Int))
  · exact bitAnd255 _
  · simp only [cond_true]
    cases b[i.toNat]? with
    | none => exact ⟨Int.le_refl (0 : Int), (by decide : (0 : Int) ≤ 255)⟩
    | some e => exact bitAnd255 _
def spec_l1Below (c_b : (List UInt8)) (c_i : Int) (c_h : Int) (n_ : Int) : Int × Int × Int :=
  bif decide (n_ ≤ 0) then
    (0, c_i, c_h)
  else
    bif decide (n_ ≤ 256) then
      match spec_l1Byte c_b c_i c_h with
        | (u1, u2, u3) =>
          ((Int.tmod u1 n_), u2, u3)
    else
      match spec_l1Byte c_b c_i c_h with
        | (u4, u5, u6) =>
          match spec_l1Byte c_b u5 u6 with
            | (u7, u8, u9) =>
              match spec_l1Byte c_b u8 u9 with
                | (u10, u11, u12) =>
                  ((Int.tmod (((u4 * 65536) + (u7 * 256)) + u10) n_), u11, u12)
theorem l1Below_rng (b : List UInt8) (i h n : Int) : 0 ≤ (spec_l1Below b i h n).1 ∧ ((spec_l1Below b i h n).1 < n ∨ ((spec_l1Below b i h n).1 = 0 ∧ n ≤ 0)) := by
  unfold spec_l1Below
  cases hn : decide (n ≤ 0)
  · have h0 := of_decide_eq_false hn
    simp only [cond_false]
    cases decide (n ≤ 256)
    · simp only [cond_false]
      have q1 := l1Byte_rng b i h
      rcases e1 : spec_l1Byte b i h with ⟨x1, i1, h1⟩
      have q2 := l1Byte_rng b i1 h1
      rcases e2 : spec_l1Byte b i1 h1 with ⟨x2, i2, h2⟩
      have q3 := l1Byte_rng b i2 h2
      rcases e3 : spec_l1Byte b i2 h2 with ⟨x3, i3, h3⟩
      rw [e1] at q1
      rw [e2] at q2
      rw [e3] at q3
      dsimp only at q1 q2 q3 ⊢
      exact tmod_below (by omega) (by omega)
    · exact tmod_below (l1Byte_rng _ _ _).1 (by omega)
  · have h0 := of_decide_eq_true hn
    exact ⟨Int.le_refl _, .inr ⟨rfl, h0⟩⟩
end Go.Stp

namespace Go.Stp
open GoT (X k ok sh fa oa)
theorem RdL.bytes (G : GH) : ∀ (l : List UInt8), RdL G (l.map fun b => Value.int .u8 b.toNat) l
  | [] => rfl
  | _ :: l => ⟨(), _, rfl, All.nil, RdL.bytes G l⟩
theorem toB_run {P : Program} {tt : TT} (ht : TabOk P tt) {S D E : Nat} {ts td te : TI} (hS : look tt S = some ts) (hSd : ts.desc = .string) (hD : look tt D = some td) (hDd : td.desc = .slice E) (hE : look tt E = some te) (hEd : te.desc = .int .u8) (w : World) (s : ByteArray) (hmax : s.size ≤ 9223372036854775807) :
    ∃ c w' h, (convert S D (.string s)).run P w = .ok (.slice (some ⟨w.heap.size, 0, none⟩) s.size c) w' ∧ Kp emp w w' ∧ Le h (hp w') ∧ (∀ x o, h x = some o → w.heap.size ≤ x) ∧ RdSl h (some ⟨w.heap.size, 0, none⟩) c s.data.toList := by
  have hu1 : P.underlying S = some .string := by rw [← hSd]; exact (ht.get hS).1
  have hu2 : P.underlying D = some (.slice E) := by rw [← hDd]; exact (ht.get hD).1
  have hu3 : P.underlying E = some (.int .u8) := by rw [← hEd]; exact (ht.get hE).1
  have hrun := run_bytes_of_string (P := P) w S D E s hu1 hu2 hu3
  generalize hc : grownCap w s.size 0 E = c at hrun
  have hge : s.size ≤ c := hc ▸ grownCap_ge w s.size 0 E
  generalize hob : Obj.cells (bytesRow s c) E ((bytesRow s c).size, (bytesRow s c).size + 1) = ob at hrun
  have hk : Kp emp w (w.drew.alloc ob) := by
    have h1 : Kp emp w w.drew := ⟨rfl, rfl, rfl, Nat.le_refl _, fun _ _ _ => rfl⟩
    exact h1.trans ((Kp.refl emp w.drew).alloc _)
  have hat : hp (w.drew.alloc ob) w.heap.size = some ob := by
    show (w.heap.push ob)[w.heap.size]? = some ob
    simp
  refine ⟨c, w.drew.alloc ob, sgl w.heap.size ob, hrun, hk, sgl_le hat, fun x o hx => ?_, hge, hmax, s.data.toList.map (fun b => Value.int .u8 b.toNat), fun j u hj => ⟨_, rfl, ?_⟩, RdL.bytes _ _⟩
  · by_cases hxx : x = w.heap.size
    · omega
    · rw [sgl_ne _ hxx] at hx; cases hx
  · have hlt : j < s.data.size := by
      have := (List.getElem?_eq_some_iff.1 hj).1
      simpa using this
    subst hob
    rw [Addr.add_lit]
    simp only [gcell, sgl_self, bytesRow]
    rw [List.getElem?_map] at hj
    simp only [Nat.zero_add, Option.isSome_none, Bool.false_eq_true, if_false]
    rw [Array.getElem?_append_left (by simpa using hlt), Array.getElem?_map]
    simpa using hj
theorem WX.toB {C : Cx} {ops : Array Oper} {o : Oper} {r : List Oper} {st : List It} {env : Env} {L : Locs} {R : Rows} {Γ : Facts} {x : Operand} {S D E d : Nat} {ts td te : TI} {s : ByteArray} (n : Nat) (ht : TabOk C.P C.tt) (hg : gd ops env o = some true) (hd : o.dst = some d) (hlt : Nat.blt d C.fn.ntmps = true) (ho : o.op = .convert S D x)
    (hS : look C.tt S = some ts) (hSd : ts.desc = .string) (hD : look C.tt D = some td) (hDd : td.desc = .slice E) (hE : look C.tt E = some te) (hEd : te.desc = .int .u8) (hx : ev env x = some (.v (.string s))) (hmax : s.size ≤ 9223372036854775807)
    (k : ∀ p c, WX C (.ops ops r :: st) ((d, .v (.slice (some p) (s.data.toList).length c)) :: env) L R ((n, MF.rs .stb (some p) c s.data.toList) :: Γ)) : WX C (.ops ops (o :: r) :: st) env L R Γ := by
  rintro a w ⟨G, bs, hA, hI, hΓ⟩
  show wpList C.P ops (cont C st) (o :: r) a w
  unfold wpList
  rw [if_pos (gd_sound hA hg)]
  refine .inl ?_
  unfold Oper.wp
  obtain ⟨c, w', h, hrun, hk, hle, hdom, hrd⟩ := toB_run ht hS hSd hD hDd hE hEd w s hmax
  have hexec : (execOp a.eval o).run C.P w = .ok (.value (.slice (some ⟨w.heap.size, 0, none⟩) s.size c)) w' := by
    unfold execOp
    simp only [ho, ev_conc hA hx, conc_v, Sem.run_bind, Sem.run_pure, Result.andThen_ok, hrun]
  rw [hexec]
  simp only [Oper.upon, hd]
  obtain ⟨hI', hdj⟩ := hI.called (emp_le _) (fun _ _ h => by cases h) hk hle (fun b o hb => .inl (hdom b o hb))
  refine k _ c _ _ ⟨_, bs, hA.put (by simpa [Nat.blt_eq] using hlt) (.v _), hI', ?_⟩
  exact AllK.new (G := cut G emp) hΓ n (MF.rs .stb _ c s.data.toList) (le_join_l _ _) (le_join_r hdj.symm) (fun _ => hdj) (fun hk => by cases hk) hrd
theorem looks_slB {C : Cx} {env : Env} {L : Locs} {R : Rows} {G : GH} {o : Oper} {x y z : Operand} {T n c kk : Nat} {p : Option Addr} {l h : Int} (m m2 : Nat) (ht : TabOk C.P C.tt) (ho : o.op = .slice T x (some y) (some z) none) (hT : elemO C.tt T = some kk)
    (hx : ev env x = some (.v (.slice p n c))) (hy : ev env y = some (.v (.int .i64 l))) (hz : ev env z = some (.v (.int .i64 h))) (h0 : l = (m : Int)) (h1 : h = (m2 : Int)) (h2 : m ≤ m2) (h3 : m2 ≤ c) : Looks C env L R G o (.v (.slice (offP p c m kk) (m2 - m) (c - m))) := by
  intro a w G' bs _ hA hI
  subst h0 h1
  obtain ⟨hu, hs⟩ := elemO_info ht hT w
  unfold execOp
  simp only [ho, Option.map, ev_conc hA hx, ev_conc hA hy, ev_conc hA hz, conc, Sem.run_bind, run_sliceAt_slice w T _ _ _ _ hu, run_slice_lh w T p n c hu .i64 .i64 (m : Int) (m2 : Int) (by omega) (by omega) (by omega), hs, Result.andThen_ok]
  simp only [sliced, Int.toNat_natCast, offP]
  rfl
theorem u8_ofInt (p : UInt8) : BitVec.ofInt 8 (p.toNat : Int) = p.toBitVec := by
  apply BitVec.eq_of_toNat_eq
  have := UInt8.toNat_lt p
  simp only [BitVec.toNat_ofInt]
  show ((p.toNat : Int) % ((2 ^ 8 : Nat) : Int)).toNat = p.toBitVec.toNat
  have : p.toBitVec.toNat = p.toNat := rfl
  omega
theorem looks_orU8 {C : Cx} {env : Env} {L : Locs} {R : Rows} {G : GH} {o : Oper} {x y : Operand} {T T' : Nat} {m n : Int} {p q : UInt8} (ho : o.op = .binOp .or T x y T') (hx : ev env x = some (.v (.int .u8 m))) (hy : ev env y = some (.v (.int .u8 n))) (hm : m = (p.toNat : Int)) (hn : n = (q.toNat : Int)) : Looks C env L R G o (.v (.int .u8 ((p ||| q).toNat : Int))) := by
  intro a w G' bs _ hA hI
  subst hm hn
  have h2 : ∀ z : Nat, z < 256 → IntKind.u8.wrap (z : Int) = (z : Int) := fun z hz => by
    simp [IntKind.wrap, IntKind.bits, IntKind.signed]
    omega
  have h1 : IntKind.u8.wrap ((BitVec.ofInt 8 (p.toNat : Int) ||| BitVec.ofInt 8 (q.toNat : Int)).toNat : Int) = ((p ||| q).toNat : Int) := by
    rw [u8_ofInt, u8_ofInt]
    exact h2 (p ||| q).toNat (UInt8.toNat_lt _)
  unfold execOp
  simp only [ho, ev_conc hA hx, ev_conc hA hy, conc]
  simp only [eqGuard, binOp, Op.intBits, IntKind.bits]
  simp
  rw [← UInt8.toNat_or]
  exact h2 (p ||| q).toNat (UInt8.toNat_lt _)
end Go.Stp

namespace Go.Stp
theorem looks_strB {C : Cx} {env : Env} {L : Locs} {R : Rows} {G : GH} {o : Oper} {x y z : Operand} {T : Nat} {ti : TI} {s : Str} {l h : Int} (m m2 : Nat) (ht : TabOk C.P C.tt) (ho : o.op = .slice T x (some y) (some z) none) (hT : look C.tt T = some ti) (hk : ti.desc = .string)
    (hx : ev env x = some (.v (.string s))) (hy : ev env y = some (.v (.int .i64 l))) (hz : ev env z = some (.v (.int .i64 h))) (h0 : l = (m : Int)) (h1 : h = (m2 : Int)) (h2 : m ≤ m2) (h3 : m2 ≤ s.size) : Looks C env L R G o (.v (.string (s.extract m m2))) := by
  intro a w G' bs _ hA hI
  subst h0 h1
  have hu : C.P.underlying T = some .string := by rw [← hk]; exact (ht.get hT).1
  unfold execOp
  simp only [ho, Option.map, ev_conc hA hx, ev_conc hA hy, ev_conc hA hz, conc, Sem.run_bind, run_sliceAt_string w T _ _ _ _ hu]
  simp [Instr.slice, Instr.sliceBounds, run_underlying hu, run_sliceBound, Sem.run_bind, h2, h3]
section
open GoT (k X sh oa)
variable {α : Type} [GoT α]
theorem OwL.take {h : GH} : ∀ {xs : List Value} {l : List α} (i : Nat), OwL h xs l → OwL h (xs.take (i * k α)) (l.take i)
  | xs, [], i, e => by
    have : xs = [] := e
    subst this
    simp only [List.take_nil]; rfl
  | xs, a :: l, 0, _ => by simp only [Nat.zero_mul, List.take_zero]; rfl
  | xs, a :: l, i + 1, ⟨x, ys, h1, h2, e, q1, q2, q3, q4, q5⟩ => by
    refine ⟨x, ys.take (i * k α), h1, h2, ?_, q1, q2, q3, q4, q5.take i⟩
    rw [e, Nat.add_mul, Nat.one_mul, List.take_append, GoT.len, List.take_of_length_le (by rw [GoT.len]; omega), Nat.add_sub_cancel]
theorem OwL.drop {h : GH} : ∀ {xs : List Value} {l : List α} (i : Nat), OwL h xs l → OwL h (xs.drop (i * k α)) (l.drop i)
  | xs, [], i, e => by
    have : xs = [] := e
    subst this
    simp only [List.drop_nil]; rfl
  | xs, a :: l, 0, e => by simpa using e
  | xs, a :: l, i + 1, ⟨x, ys, h1, h2, e, q1, q2, q3, q4, q5⟩ => by
    have := (q5.drop i).mono q2
    rw [e, Nat.add_mul, Nat.one_mul, List.drop_append, GoT.len, List.drop_eq_nil_of_le (by rw [GoT.len]; omega), Nat.add_sub_cancel, List.nil_append]
    simpa using this
theorem os_pre {p : Option Addr} {c : Nat} {l : List α} {h : GH} (m : Nat) (hs : Sep h [MF.os p c l]) : Sep h [MF.os p c (l.take m)] := by
  refine one_sep (?_ : OwSl h p c (l.take m))
  rcases (sep_one hs : OwSl h p c l) with ⟨h1, h2⟩ | ⟨b, o, T, cur, h', k1, k2, k3, k4, k5, k6, k7, k8⟩
  · exact .inl ⟨h1, by rw [h2, List.take_nil]⟩
  · refine .inr ⟨b, o, T, cur, h', k1, k2, k3, k4, by rw [List.length_take]; omega, k6, k7, ?_⟩
    have := k8.take m
    rw [List.take_take] at this
    rw [List.length_take]
    rwa [show min m l.length * k α = min (m * k α) (l.length * k α) from Nat.mul_min_mul_right ..|>.symm]
theorem os_suf {p : Option Addr} {c : Nat} {l : List α} {h : GH} (m : Nat) (hm : m ≤ l.length) (hs : Sep h [MF.os p c l]) : Sep h [MF.os (offP p c m (k α)) (c - m) (l.drop m)] := by
  refine one_sep (?_ : OwSl h _ _ (l.drop m))
  rcases (sep_one hs : OwSl h p c l) with ⟨h1, h2⟩ | ⟨b, o, T, cur, h', k1, k2, k3, k4, k5, k6, k7, k8⟩
  · exact .inl ⟨by omega, by rw [h2, List.drop_nil]⟩
  · by_cases hc : c = m
    · exact .inl ⟨by omega, List.drop_eq_nil_of_le (by omega)⟩
    · subst k1
      have h0 : m * k α + (c - m) * k α = c * k α := by rw [← Nat.add_mul]; congr 1; omega
      refine .inr ⟨b, o + m * k α, T, cur, h', by unfold offP; rw [if_neg hc]; show some (Addr.add ⟨b, o, none⟩ (m * k α)) = _; rw [Addr.add_lit], k2, k3, k4, by rw [List.length_drop]; omega, by omega, by omega, ?_⟩
      have := k8.drop m
      rw [List.drop_take, List.drop_drop] at this
      rw [List.length_drop, Nat.sub_mul]
      exact this
end
def pickE (env : Env) : List Nat → Option Env
  | [] => some []
  | d :: ds => (match look env d with
    | some x => (match pickE env ds with | some q => some ((d, x) :: q) | none => none)
    | none => none)
theorem pickE_look {env : Env} : ∀ {ds : List Nat} {env' : Env}, pickE env ds = some env' → ∀ d x, look env' d = some x → look env d = some x
  | [], env', h, d, x, hx => by simp [pickE] at h; subst h; simp [look] at hx
  | e :: ds, env', h, d, x, hx => by
    simp only [pickE] at h
    split at h
    · rename_i y hy
      split at h
      · rename_i q hq
        simp only [Option.some.injEq] at h; subst h
        rw [look_cons] at hx
        split at hx
        · rename_i hed; subst hed; rw [← hx]; exact hy
        · exact pickE_look hq d x hx
      · cases h
    · cases h
theorem WX.trim {C : Cx} {s : List It} {env env' : Env} {L : Locs} {R : Rows} {Γ Γ' : Facts} (ds ks : List Nat) (he : pickE env ds = some env') (hk : pickK ks Γ = some Γ') (k : WX C s env' L R Γ') : WX C s env L R Γ := by
  rintro a w ⟨G, bs, hA, hI, hΓ⟩
  exact k a w ⟨G, bs, ⟨hA.size, hA.dfr, fun d x hx => hA.slot d x (pickE_look he d x hx)⟩, hI, hΓ.pick hk⟩
end Go.Stp

namespace Go.Proofs.Ytdimfabadjfkiaa
open Go.Stp
set_option linter.unusedVariables false
set_option linter.unusedSimpArgs false
theorem f5 (w : World) (n : Nat) (code : (List UInt8)) (K0 : Option Addr) (M0 : Nat) (N0 : RdSl (hp w) K0 M0 code) (hokcode : GoT.ok n code) :
  Does Try.prog 5 #[.slice K0 ((code).length) M0] w emp (fun (rv : Value) (_ : World) => rv = .bool (laws_big code) ∧ True) := by
 refine WX.enter (tt := tt) (Γ := [(0, MF.rs .stb K0 M0 code)]) Try.func5 rfl (by kernel_rfl) rfl (allS_cons rfl N0 allS_nil) ?_
 refine R0 ?_
 have hP1 : laws_big code = (decide ((((code).length : Nat) : Int) > 1048576)) := by simp only [laws_big, ct, cf]
 exact R3 hP1
theorem f34 (w : World) (n : Nat) (hn : n + 0 ≤ 9) (code : (List UInt8)) (K0 : Option Addr) (M0 : Nat) (N0 : RdSl (hp w) K0 M0 code) (hokcode : GoT.ok n code) (o0_ : Int) (o1_ : Int) (hres : spec_l1New code = (o0_, o1_)) :
  Does Try.prog 34 #[.slice K0 ((code).length) M0] w emp (Post w emp (fun b_ : Nat => .pointer (some ⟨b_, 0, none⟩)) (fun b_ => [MF.bx b_ 80 [.slice K0 ((code).length) M0, .int .i64 (o0_), .int .i64 (o1_)]]) (NN (o0_) ∧ I64 (o1_))) := by
 have hbP := bd_pos n
 have hbB := bd_big (n := n) (by omega)
 refine WX.enter (tt := tt) (Γ := [(0, MF.rs .stb K0 M0 code)]) Try.func34 rfl (by kernel_rfl) rfl (allS_cons rfl N0 allS_nil) ?_
 refine R0 ?_
 refine WX.see rfl rfl rfl (fun _ hΓ => looks_wrap rfl rfl rfl rfl) ?_
 refine R0 ?_
 have r1 : (code).length ≤ bd n := (okl hokcode).1
 refine WX.loop (ι := Int × Nat) ⟨fun | (h_, i) => (i ≤ (code).length) ∧ (-9223372036854775808 ≤ h_ ∧ h_ ≤ 9223372036854775807) ∧ (spec_l1New_L1 code 0 (IntKind.i64.wrap (192917 + (((code).length : Nat) : Int))) = spec_l1New_L1 ((code).drop i) i h_), fun | (h_, i) => (code).length - i, fun | (h_, i) => [(3, .v (.int .i64 (h_))), (4, .v (.int .i64 (((i : Nat) : Int)))), (0, .v (.slice K0 ((code).length) M0))], fun | (h_, i) => [], fun | (h_, i) => [], fun | (h_, i) => [(0, MF.rs .stb K0 M0 code)]⟩ (IntKind.i64.wrap (192917 + (((code).length : Nat) : Int)), 0) ⟨(Nat.zero_le _), (i64_wrap _), rfl⟩
  (.cons rfl (.cons rfl (.cons rfl (.nil)))) .nil .nil [0] rfl ?_
 rintro ⟨h_, i⟩ hpre
 have hpre_ : (i ≤ (code).length) ∧ (-9223372036854775808 ≤ h_ ∧ h_ ≤ 9223372036854775807) ∧ (spec_l1New_L1 code 0 (IntKind.i64.wrap (192917 + (((code).length : Nat) : Int))) = spec_l1New_L1 ((code).drop i) i h_) := hpre
 clear hpre
 obtain ⟨v1, v2, v3⟩ := hpre_
 refine R0 ?_
 refine WX.cases 12 rfl (fun h1 => ?_) (fun h1 => ?_)
 ·skip
  have h1d := B.dt h1
  have e1i : i < (code).length := (by omega)
  obtain ⟨e1, e1h⟩ : ∃ e1, (code)[i]? = some e1 := ⟨_, List.getElem?_eq_getElem e1i⟩
  refine R0 ?_
  refine WX.cases 15 rfl (fun h2 => ?_) (fun h2 => ?_)
  ·skip
   have h2d := B.dt h2
   refine R0 ?_
   refine WX.see rfl rfl rfl (fun _ hΓ => looks_wrap rfl rfl rfl rfl) ?_
   refine R0 ?_
   refine WX.idx 0 i ttOk rfl rfl rfl rfl rfl rfl rfl rfl rfl rfl e1i ?_
   rintro ad1 rfl
   refine WX.ldE 0 1 e1 ttOk rfl rfl rfl rfl rfl rfl rfl rfl e1h (fun _ => rfl) (fun _ => rfl) ?_
   rintro ⟨⟩
   refine WX.see rfl rfl rfl (fun _ hΓ => looks_ofU8 ttOk rfl rfl rfl rfl rfl rfl) ?_
   refine WX.see rfl rfl rfl (fun _ hΓ => looks_wrap rfl rfl rfl rfl) ?_
   refine WX.see rfl rfl rfl (fun _ hΓ => looks_wrap rfl rfl rfl rfl) ?_
   refine WX.see rfl rfl rfl (fun _ hΓ => looks_bits rfl rfl rfl rfl) ?_
   refine R0 ?_
   refine WX.see rfl rfl rfl (fun _ hΓ => looks_arith rfl rfl rfl rfl (by unfold I64; first | omega | (simp only [List.length_take] at *; omega))) ?_
   refine R0 ?_
   exact WX.iter (bitO .and (IntKind.i64.wrap ((IntKind.i64.wrap ((IntKind.i64.wrap (h_ * 137)) + ((e1).toNat : Int))) + 11)) 1073741823, i + 1) ⟨(by omega), (bitO_I64 .and (IntKind.i64.wrap ((IntKind.i64.wrap ((IntKind.i64.wrap (h_ * 137)) + ((e1).toNat : Int))) + 11)) 1073741823), (by rw [v3, drop_get e1h]; simp only [spec_l1New_L1, h2, ct, cf])⟩ (by first | (dsimp only; omega) | omega) (.cons rfl (.cons rfl (.cons rfl (.nil)))) .nil .nil [0] rfl
  ·skip
   have h2d := B.df h2
   refine R0 ?_
   have hX1 : spec_l1New_L1 code 0 (IntKind.i64.wrap (192917 + (((code).length : Nat) : Int))) = h_ := by rw [v3, drop_get e1h]; simp only [spec_l1New_L1, h2, ct, cf]
   have hP1 : spec_l1New code = (0, h_) := by simp only [spec_l1New, hX1, ct, cf]
   have hz1 := hP1.symm.trans hres
   obtain ⟨hz1, hz2⟩ := Prod.mk.inj hz1
   subst hz1
   subst hz2
   refine WX.retQ rfl ?_
   intro w1 G bs hI hΓ
   exact Post.ofL 31 [] (bs 31) hI hΓ rfl rfl rfl rfl (⟨(show NN 0 from by unfold NN; omega), v2⟩)
 ·skip
  have h1d := B.df h1
  refine R0 ?_
  have hX2 : spec_l1New_L1 code 0 (IntKind.i64.wrap (192917 + (((code).length : Nat) : Int))) = h_ := by rw [v3, List.drop_eq_nil_of_le (show (code).length ≤ i by omega)]; simp only [spec_l1New_L1, ct, cf]
  have hP2 : spec_l1New code = (0, h_) := by simp only [spec_l1New, hX2, ct, cf]
  have hz1 := hP2.symm.trans hres
  obtain ⟨hz1, hz2⟩ := Prod.mk.inj hz1
  subst hz1
  subst hz2
  refine WX.retQ rfl ?_
  intro w1 G bs hI hΓ
  exact Post.ofL 31 [] (bs 31) hI hΓ rfl rfl rfl rfl (⟨(show NN 0 from by unfold NN; omega), v2⟩)
theorem f66 (w : World) (n : Nat) (hn : n + 0 ≤ 9) (H : GH) (hH : Le H (hp w)) (bc_ : Nat) (c_b : (List UInt8)) (K0 : Option Addr) (M0 : Nat) (N0 : RdSl (cut (hp w) H) K0 M0 c_b) (c_i : Int) (c_h : Int) (hown : Sep H [MF.bx bc_ 80 [.slice K0 ((c_b).length) M0, .int .i64 (c_i), .int .i64 (c_h)]]) (hokc_b : GoT.ok n c_b) (hokc_i : NN c_i) (hokc_h : GoT.ok n c_h) (o0_ : Int) (o1_ : Int) (o2_ : Int) (hres : spec_l1Byte c_b c_i c_h = (o0_, o1_, o2_)) :
  Does Try.prog 66 #[.pointer (some ⟨bc_, 0, none⟩)] w H (Post w H (fun _ : Unit => .int .i64 (o0_)) (fun _ => [MF.bx bc_ 80 [.slice K0 ((c_b).length) M0, .int .i64 (o1_), .int .i64 (o2_)]]) (GoT.ok n (o0_ : Int) ∧ NN (o1_) ∧ I64 (o2_))) := by
 have hbP := bd_pos n
 have hbB := bd_big (n := n) (by omega)
 have hc_bz : (c_b).length ≤ bd n := (okl hokc_b).1
 refine WX.enterP (tt := tt) (Γ := [(0, MF.rs .stb K0 M0 c_b)]) 1 Try.func66 rfl (by kernel_rfl) rfl (allS_cons rfl N0 allS_nil) hH hown (fun f hf => by cases hf) rfl ?_
 refine R0 ?_
 refine WX.see rfl rfl rfl (fun _ hΓ => looks_wrap rfl rfl rfl rfl) ?_
 refine WX.see rfl rfl rfl (fun _ hΓ => looks_wrap rfl rfl rfl rfl) ?_
 refine R0 ?_
 refine WX.draw [] mixed ?_
 intro bs G0 hΓ0
 refine DX.takes (fuel := 9) ttOk [(0, true), (1, true), (2, true), (3, false)] (by kernel_rfl) rfl ?_
 refine DX.see 4 (by kernel_rfl) rfl rfl rfl rfl (looks_shr rfl rfl rfl (by decide)) ?_
 refine DX.takes (fuel := 4) ttOk [(5, true), (6, true), (7, true), (8, false)] (by kernel_rfl) rfl ?_
 refine DX.see 9 (by kernel_rfl) rfl rfl rfl rfl (looks_shr rfl rfl rfl (by decide)) ?_
 refine DX.see 10 (by kernel_rfl) rfl rfl rfl rfl (looks_bits rfl rfl rfl rfl) ?_
 refine DX.see 11 (by kernel_rfl) rfl rfl rfl rfl (looks_bits rfl rfl rfl rfl) ?_
 refine DX.takes (fuel := 0) ttOk [(12, true)] (by kernel_rfl) rfl ?_
 refine DX.tail2 [] rfl rfl (by kernel_rfl) ?_
 refine R0 ?_
 refine WX.draw [] mixed ?_
 intro bs G0 hΓ0
 refine DX.takes (fuel := 0) ttOk [(0, true), (1, true), (2, true), (3, false), (4, true), (5, true), (6, true), (7, false), (8, true), (9, true)] (by kernel_rfl) rfl ?_
 refine DX.tail2 [] rfl rfl (by kernel_rfl) ?_
 refine R0 ?_
 refine WX.cases 34 rfl (fun h1 => ?_) (fun h1 => ?_)
 ·skip
  have h1d := B.dt h1
  refine R0 ?_
  refine WX.draw [] mixed ?_
  intro bs G0 hΓ0
  refine DX.takes (fuel := 6) ttOk [(0, true), (1, true), (2, true), (3, true), (4, false), (5, true), (6, true), (7, true), (8, false)] (by kernel_rfl) rfl ?_
  have r1 : 0 ≤ c_i ∧ c_i ≤ 9223372036854775807 := hokc_i
  refine DX.slot 43 (y := .v (.int .i64 (((c_i).toNat : Nat) : Int))) rfl (fun _ => congrArg (Value.int .i64) (show c_i = (((c_i).toNat : Nat) : Int) from by omega)) ?_
  have e1i : (c_i).toNat < (c_b).length := (by first | assumption | omega)
  obtain ⟨e1, e1h⟩ : ∃ e1, (c_b)[(c_i).toNat]? = some e1 := ⟨_, List.getElem?_eq_getElem e1i⟩
  refine DX.idx 9 0 ((c_i).toNat) ttOk hΓ0 (by kernel_rfl) rfl rfl rfl rfl rfl rfl rfl rfl rfl rfl rfl e1i ?_
  rintro ad1 rfl
  refine DX.ldE 10 0 2 e1 ttOk hΓ0 (by kernel_rfl) rfl rfl rfl rfl rfl rfl rfl rfl e1h (fun _ => rfl) (fun _ => rfl) ?_
  rintro ⟨⟩
  refine DX.see 11 (by kernel_rfl) rfl rfl rfl rfl (looks_ofU8 ttOk rfl rfl rfl rfl rfl rfl) ?_
  refine DX.seeP 12 (by kernel_rfl) rfl rfl rfl rfl (looksP_wrap rfl rfl rfl rfl) ?_
  refine DX.see 13 (by kernel_rfl) rfl rfl rfl rfl (looks_bits rfl rfl rfl rfl) ?_
  refine DX.takes (fuel := 0) ttOk [(14, true)] (by kernel_rfl) rfl ?_
  refine DX.tail2 [] rfl rfl (by kernel_rfl) ?_
  refine R0 ?_
  refine WX.see rfl rfl rfl (fun _ hΓ => looks_arith rfl rfl rfl rfl (by unfold I64; first | omega | (simp only [List.length_take] at *; omega))) ?_
  refine R0 ?_
  have hP1 : spec_l1Byte c_b c_i c_h = (bitO .and (IntKind.i64.wrap ((bitO .and (bitO .xor (Int.fdiv (IntKind.i64.wrap ((IntKind.i64.wrap (c_h * 6364136223846793005)) + 1442695040888963407)) (2 ^ (min (Int.toNat (33 : Int)) 64))) (Int.fdiv (IntKind.i64.wrap ((IntKind.i64.wrap (c_h * 6364136223846793005)) + 1442695040888963407)) (2 ^ (min (Int.toNat (47 : Int)) 64)))) 255) + ((e1).toNat : Int))) 255, c_i + 1, IntKind.i64.wrap ((IntKind.i64.wrap (c_h * 6364136223846793005)) + 1442695040888963407)) := by simp only [spec_l1Byte, h1, e1h, ct, cf]
  have hz1 := hP1.symm.trans hres
  obtain ⟨hz1, hz2⟩ := Prod.mk.inj hz1
  obtain ⟨hz2, hz3⟩ := Prod.mk.inj hz2
  subst hz1
  subst hz2
  subst hz3
  refine R1 ?_
  intro w1 G bs hI hΓ
  exact Post.ofL 999 [] () hI hΓ rfl rfl rfl (by rw [hI.pin _ rfl]; first | done | rfl) (⟨(show I64 (bitO .and (IntKind.i64.wrap ((bitO .and (bitO .xor (Int.fdiv (IntKind.i64.wrap ((IntKind.i64.wrap (c_h * 6364136223846793005)) + 1442695040888963407)) (2 ^ (min (Int.toNat (33 : Int)) 64))) (Int.fdiv (IntKind.i64.wrap ((IntKind.i64.wrap (c_h * 6364136223846793005)) + 1442695040888963407)) (2 ^ (min (Int.toNat (47 : Int)) 64)))) 255) + ((e1).toNat : Int))) 255) from bitO_I64 _ _ _), ⟨(show NN (c_i + 1) from by unfold NN; omega), (i64_wrap _)⟩⟩)
 ·skip
  have h1d := B.df h1
  refine R0 ?_
  have hP2 : spec_l1Byte c_b c_i c_h = (bitO .and (bitO .xor (Int.fdiv (IntKind.i64.wrap ((IntKind.i64.wrap (c_h * 6364136223846793005)) + 1442695040888963407)) (2 ^ (min (Int.toNat (33 : Int)) 64))) (Int.fdiv (IntKind.i64.wrap ((IntKind.i64.wrap (c_h * 6364136223846793005)) + 1442695040888963407)) (2 ^ (min (Int.toNat (47 : Int)) 64)))) 255, c_i, IntKind.i64.wrap ((IntKind.i64.wrap (c_h * 6364136223846793005)) + 1442695040888963407)) := by simp only [spec_l1Byte, h1, ct, cf]
  have hz1 := hP2.symm.trans hres
  obtain ⟨hz1, hz2⟩ := Prod.mk.inj hz1
  obtain ⟨hz2, hz3⟩ := Prod.mk.inj hz2
  subst hz1
  subst hz2
  subst hz3
  refine R1 ?_
  intro w1 G bs hI hΓ
  exact Post.ofL 999 [] () hI hΓ rfl rfl rfl (by rw [hI.pin _ rfl]; first | done | rfl) (⟨(show I64 (bitO .and (bitO .xor (Int.fdiv (IntKind.i64.wrap ((IntKind.i64.wrap (c_h * 6364136223846793005)) + 1442695040888963407)) (2 ^ (min (Int.toNat (33 : Int)) 64))) (Int.fdiv (IntKind.i64.wrap ((IntKind.i64.wrap (c_h * 6364136223846793005)) + 1442695040888963407)) (2 ^ (min (Int.toNat (47 : Int)) 64)))) 255) from bitO_I64 _ _ _), ⟨hokc_i, (i64_wrap _)⟩⟩)
theorem f35 (w : World) (n : Nat) (hn : n + 0 ≤ 9) (H : GH) (hH : Le H (hp w)) (bc_ : Nat) (c_b : (List UInt8)) (K0 : Option Addr) (M0 : Nat) (N0 : RdSl (cut (hp w) H) K0 M0 c_b) (c_i : Int) (c_h : Int) (n_ : Int) (hown : Sep H [MF.bx bc_ 80 [.slice K0 ((c_b).length) M0, .int .i64 (c_i), .int .i64 (c_h)]]) (hokc_b : GoT.ok n c_b) (hokc_i : NN c_i) (hokc_h : GoT.ok n c_h) (hokn_ : GoT.ok n n_) (o0_ : Int) (o1_ : Int) (o2_ : Int) (hres : spec_l1Below c_b c_i c_h n_ = (o0_, o1_, o2_)) :
  Does Try.prog 35 #[.pointer (some ⟨bc_, 0, none⟩), .int .i64 (n_)] w H (Post w H (fun _ : Unit => .int .i64 (o0_)) (fun _ => [MF.bx bc_ 80 [.slice K0 ((c_b).length) M0, .int .i64 (o1_), .int .i64 (o2_)]]) (GoT.ok n (o0_ : Int) ∧ NN (o1_) ∧ I64 (o2_))) := by
 have hbP := bd_pos n
 have hbB := bd_big (n := n) (by omega)
 have hc_bz : (c_b).length ≤ bd n := (okl hokc_b).1
 refine WX.enterP (tt := tt) (Γ := [(0, MF.rs .stb K0 M0 c_b)]) 1 Try.func35 rfl (by kernel_rfl) rfl (allS_cons rfl N0 allS_nil) hH hown (fun f hf => by cases hf) rfl ?_
 refine R0 ?_
 refine WX.cases 9 rfl (fun h1 => ?_) (fun h1 => ?_)
 ·skip
  have h1d := B.dt h1
  refine R0 ?_
  have hP1 : spec_l1Below c_b c_i c_h n_ = (0, c_i, c_h) := by simp only [spec_l1Below, h1, ct, cf]
  have hz1 := hP1.symm.trans hres
  obtain ⟨hz1, hz2⟩ := Prod.mk.inj hz1
  obtain ⟨hz2, hz3⟩ := Prod.mk.inj hz2
  subst hz1
  subst hz2
  subst hz3
  refine R1 ?_
  intro w1 G bs hI hΓ
  exact Post.ofL 999 [] () hI hΓ rfl rfl rfl (by rw [hI.pin _ rfl]; first | done | rfl) (⟨(show I64 0 from (by unfold I64; omega)), ⟨hokc_i, hokc_h⟩⟩)
 ·skip
  have h1d := B.df h1
  refine R0 ?_
  refine WX.cases 11 rfl (fun h2 => ?_) (fun h2 => ?_)
  ·skip
   have h2d := B.dt h2
   refine R0 ?_
   obtain ⟨⟨u1, u2, u3⟩, hu1⟩ : ∃ r_, spec_l1Byte c_b c_i c_h = r_ := ⟨_, rfl⟩
   refine WX.callP (ds := fun _ => [])  999 2 rfl (fun _ _ _ => All.nil) (fun _ f hf => by cases hf) rfl rfl rfl rfl rfl (fun _ => rfl) rfl (fun w G bs H hI hH hs hΓ => f66 w n (by omega) H hH (bs 999) c_b K0 M0 (hΓ.get 0 rfl) c_i c_h hs hokc_b hokc_i hokc_h u1 u2 u3 hu1) (fun _ => rfl) (fun _ => rfl) ?_
   rintro ⟨⟩ hq1
   have q1 := l1Byte_rng c_b c_i c_h
   rw [hu1] at q1
   try dsimp only at q1
   refine R0 ?_
   have r1 := tmod_rng u1 (show (0 : Int) < n_ by omega)
   refine WX.see rfl rfl rfl (fun _ hΓ => looks_rem rfl rfl rfl (by omega)) ?_
   refine R0 ?_
   have hP2 : spec_l1Below c_b c_i c_h n_ = (Int.tmod u1 n_, u2, u3) := by simp only [spec_l1Below, h1, h2, hu1, ct, cf]
   have r2 : -9223372036854775808 ≤ n_ ∧ n_ ≤ 9223372036854775807 := hokn_
   have r3 : -9223372036854775808 ≤ u1 ∧ u1 ≤ 9223372036854775807 := hq1.1
   have hz1 := hP2.symm.trans hres
   obtain ⟨hz1, hz2⟩ := Prod.mk.inj hz1
   obtain ⟨hz2, hz3⟩ := Prod.mk.inj hz2
   subst hz1
   subst hz2
   subst hz3
   refine R1 ?_
   intro w1 G bs hI hΓ
   exact Post.ofL 999 [] () hI hΓ rfl rfl rfl (by rw [hI.pin _ rfl]; first | done | rfl) (⟨(show I64 (Int.tmod u1 n_) from (by unfold I64; omega)), ⟨hq1.2.1, hq1.2.2⟩⟩)
  ·skip
   have h2d := B.df h2
   refine R0 ?_
   obtain ⟨⟨u4, u5, u6⟩, hu2⟩ : ∃ r_, spec_l1Byte c_b c_i c_h = r_ := ⟨_, rfl⟩
   refine WX.callP (ds := fun _ => [])  999 3 rfl (fun _ _ _ => All.nil) (fun _ f hf => by cases hf) rfl rfl rfl rfl rfl (fun _ => rfl) rfl (fun w G bs H hI hH hs hΓ => f66 w n (by omega) H hH (bs 999) c_b K0 M0 (hΓ.get 0 rfl) c_i c_h hs hokc_b hokc_i hokc_h u4 u5 u6 hu2) (fun _ => rfl) (fun _ => rfl) ?_
   rintro ⟨⟩ hq2
   have q2 := l1Byte_rng c_b c_i c_h
   rw [hu2] at q2
   try dsimp only at q2
   refine R0 ?_
   obtain ⟨⟨u7, u8, u9⟩, hu3⟩ : ∃ r_, spec_l1Byte c_b u5 u6 = r_ := ⟨_, rfl⟩
   refine WX.callP (ds := fun _ => [])  999 4 rfl (fun _ _ _ => All.nil) (fun _ f hf => by cases hf) rfl rfl rfl rfl rfl (fun _ => rfl) rfl (fun w G bs H hI hH hs hΓ => f66 w n (by omega) H hH (bs 999) c_b K0 M0 (hΓ.get 0 rfl) u5 u6 hs hokc_b hq2.2.1 hq2.2.2 u7 u8 u9 hu3) (fun _ => rfl) (fun _ => rfl) ?_
   rintro ⟨⟩ hq3
   have q3 := l1Byte_rng c_b u5 u6
   rw [hu3] at q3
   try dsimp only at q3
   refine R0 ?_
   obtain ⟨⟨u10, u11, u12⟩, hu4⟩ : ∃ r_, spec_l1Byte c_b u8 u9 = r_ := ⟨_, rfl⟩
   refine WX.callP (ds := fun _ => [])  999 5 rfl (fun _ _ _ => All.nil) (fun _ f hf => by cases hf) rfl rfl rfl rfl rfl (fun _ => rfl) rfl (fun w G bs H hI hH hs hΓ => f66 w n (by omega) H hH (bs 999) c_b K0 M0 (hΓ.get 0 rfl) u8 u9 hs hokc_b hq3.2.1 hq3.2.2 u10 u11 u12 hu4) (fun _ => rfl) (fun _ => rfl) ?_
   rintro ⟨⟩ hq4
   have q4 := l1Byte_rng c_b u8 u9
   rw [hu4] at q4
   try dsimp only at q4
   refine R0 ?_
   have r4 : -9223372036854775808 ≤ u4 ∧ u4 ≤ 9223372036854775807 := hq2.1
   refine WX.see rfl rfl rfl (fun _ hΓ => looks_arith rfl rfl rfl rfl (by unfold I64; first | omega | (simp only [List.length_take] at *; omega))) ?_
   refine R0 ?_
   have r5 : -9223372036854775808 ≤ u7 ∧ u7 ≤ 9223372036854775807 := hq3.1
   refine WX.see rfl rfl rfl (fun _ hΓ => looks_arith rfl rfl rfl rfl (by unfold I64; first | omega | (simp only [List.length_take] at *; omega))) ?_
   refine WX.see rfl rfl rfl (fun _ hΓ => looks_arith rfl rfl rfl rfl (by unfold I64; first | omega | (simp only [List.length_take] at *; omega))) ?_
   refine R0 ?_
   have r6 : -9223372036854775808 ≤ u10 ∧ u10 ≤ 9223372036854775807 := hq4.1
   refine WX.see rfl rfl rfl (fun _ hΓ => looks_arith rfl rfl rfl rfl (by unfold I64; first | omega | (simp only [List.length_take] at *; omega))) ?_
   refine R0 ?_
   have r7 := tmod_rng (((u4 * 65536) + (u7 * 256)) + u10) (show (0 : Int) < n_ by omega)
   refine WX.see rfl rfl rfl (fun _ hΓ => looks_rem rfl rfl rfl (by omega)) ?_
   refine R0 ?_
   have hP3 : spec_l1Below c_b c_i c_h n_ = (Int.tmod (((u4 * 65536) + (u7 * 256)) + u10) n_, u11, u12) := by simp only [spec_l1Below, h1, h2, hu2, hu3, hu4, ct, cf]
   have r8 : -9223372036854775808 ≤ n_ ∧ n_ ≤ 9223372036854775807 := hokn_
   have hz1 := hP3.symm.trans hres
   obtain ⟨hz1, hz2⟩ := Prod.mk.inj hz1
   obtain ⟨hz2, hz3⟩ := Prod.mk.inj hz2
   subst hz1
   subst hz2
   subst hz3
   refine R1 ?_
   intro w1 G bs hI hΓ
   exact Post.ofL 999 [] () hI hΓ rfl rfl rfl (by rw [hI.pin _ rfl]; first | done | rfl) (⟨(show I64 (Int.tmod (((u4 * 65536) + (u7 * 256)) + u10) n_) from (by unfold I64; omega)), ⟨hq4.2.1, hq4.2.2⟩⟩)
end Go.Proofs.Ytdimfabadjfkiaa

namespace Go.Stp
set_option linter.unusedVariables false
set_option linter.unusedSimpArgs false
def impl_copyName (n_ : Name) : Name :=
  n_
def spec_l4Copy (n_ : Name) : Name :=
  n_
end Go.Stp

namespace Go.Proofs.Ytdimfabadjfkiaa
open Go.Stp
set_option linter.unusedVariables false
set_option linter.unusedSimpArgs false
theorem f84 (w : World) (n : Nat) (hn : n + 0 ≤ 9) (s : (List Str)) (ps : Option Addr) (cs : Nat) (N0 : RdSl (hp w) ps cs s) (hoks : GoT.ok n s) :
  Does Try.prog 84 #[.slice ps ((s).length) cs] w emp (Post w emp (fun x : GoT.X ((List Str)) => (GoT.sh (s : (List Str)) x).headD undef) (fun x => GoT.oa (s : (List Str)) x) (GoT.ok n (s : (List Str)))) := by
 have hbP := bd_pos n
 have hbB := bd_big (n := n) (by omega)
 refine WX.enter (tt := tt) (Γ := [(0, MF.rs .stb ps cs s)]) Try.func84 rfl (by kernel_rfl) rfl (allS_cons rfl N0 allS_nil) ?_
 refine R0 ?_
 refine WX.see rfl rfl rfl (fun _ hΓ => looks_nil ttOk rfl rfl rfl rfl) ?_
 refine WX.cases 4 rfl (fun hp1 => ?_) (fun hp1 => ?_)
 ·skip
  obtain rfl : ps = none := by simpa using hp1
  refine WX.know (fun G hΓ => rdSl_none (hΓ.get 0 rfl)) ?_
  intro ln1
  refine R0 ?_
  subst ln1
  refine WX.free 1 (MF.os none 0 ([] : List Str)) (owSl_nil _ _) ?_
  refine R1 ?_
  intro w1 G bs hI hΓ
  exact Post.of [1] (none, 0) hI hΓ rfl rfl rfl (by assumption)
 ·skip
  refine R0 ?_
  refine WX.bld ttOk rfl rfl rfl rfl rfl rfl rfl ?_
  intro p1
  refine R0 ?_
  refine WX.free 2 (MF.ol [] ([] : List Str)) rfl ?_
  have r1 : (s).length ≤ bd n := (okl hoks).1
  refine WX.appG1 5 0 3 (s : List Str).length ttOk rfl rfl rfl rfl rfl rfl rfl rfl rfl rfl rfl rfl rfl (by simp) (by omega) (by omega) (fun _ _ _ => rfl) ?_
  intro ys1 p2 c1
  refine WX.know (fun G hΓ => (hΓ.get 3 rfl : RdL _ _ _).flat) ?_
  intro hf1
  refine WX.turn [2] 4 rfl (fun h hs => ol_flat hs hf1) (gs := [MF.ol ([] ++ ys1) (s : List Str)]) rfl ?_
  refine R0 ?_
  refine WX.seal 5 4 5 rfl rfl rfl rfl rfl ?_
  refine R1 ?_
  intro w1 G bs hI hΓ
  exact Post.of [6] (p2, c1) hI hΓ rfl rfl rfl (by assumption)
theorem f85 (w : World) (n : Nat) (hn : n + 0 ≤ 9) (s : (List UInt8)) (ps : Option Addr) (cs : Nat) (N0 : RdSl (hp w) ps cs s) (hoks : GoT.ok n s) :
  Does Try.prog 85 #[.slice ps ((s).length) cs] w emp (Post w emp (fun x : GoT.X ((List UInt8)) => (GoT.sh (s : (List UInt8)) x).headD undef) (fun x => GoT.oa (s : (List UInt8)) x) (GoT.ok n (s : (List UInt8)))) := by
 have hbP := bd_pos n
 have hbB := bd_big (n := n) (by omega)
 refine WX.enter (tt := tt) (Γ := [(0, MF.rs .stb ps cs s)]) Try.func85 rfl (by kernel_rfl) rfl (allS_cons rfl N0 allS_nil) ?_
 refine R0 ?_
 refine WX.see rfl rfl rfl (fun _ hΓ => looks_nil ttOk rfl rfl rfl rfl) ?_
 refine WX.cases 4 rfl (fun hp1 => ?_) (fun hp1 => ?_)
 ·skip
  obtain rfl : ps = none := by simpa using hp1
  refine WX.know (fun G hΓ => rdSl_none (hΓ.get 0 rfl)) ?_
  intro ln1
  refine R0 ?_
  subst ln1
  refine WX.free 1 (MF.os none 0 ([] : List UInt8)) (owSl_nil _ _) ?_
  refine R1 ?_
  intro w1 G bs hI hΓ
  exact Post.of [1] (none, 0) hI hΓ rfl rfl rfl (by assumption)
 ·skip
  refine R0 ?_
  refine WX.bld ttOk rfl rfl rfl rfl rfl rfl rfl ?_
  intro p1
  refine R0 ?_
  refine WX.free 2 (MF.ol [] ([] : List UInt8)) rfl ?_
  have r1 : (s).length ≤ bd n := (okl hoks).1
  refine WX.appG1 5 0 3 (s : List UInt8).length ttOk rfl rfl rfl rfl rfl rfl rfl rfl rfl rfl rfl rfl rfl (by simp) (by omega) (by omega) (fun _ _ _ => rfl) ?_
  intro ys1 p2 c1
  refine WX.know (fun G hΓ => (hΓ.get 3 rfl : RdL _ _ _).flat) ?_
  intro hf1
  refine WX.turn [2] 4 rfl (fun h hs => ol_flat hs hf1) (gs := [MF.ol ([] ++ ys1) (s : List UInt8)]) rfl ?_
  refine R0 ?_
  refine WX.seal 5 4 5 rfl rfl rfl rfl rfl ?_
  refine R1 ?_
  intro w1 G bs hI hΓ
  exact Post.of [6] (p2, c1) hI hΓ rfl rfl rfl (by assumption)
theorem f53 (w : World) (n : Nat) (hn : n + 0 ≤ 9) (n_ : Name) (K0 : Option Addr) (M0 : Nat) (N0 : RdSl (hp w) K0 M0 n_.parts) (hokn_ : GoT.ok n n_) :
  Does Try.prog 53 #[.agg #[.slice K0 ((n_.parts).length) M0]] w emp (Post w emp (fun x : GoT.X (Name) => .agg ⟨GoT.sh ((impl_copyName n_) : Name) x⟩) (fun x => GoT.oa ((impl_copyName n_) : Name) x) (GoT.ok n ((impl_copyName n_) : Name))) := by
 have hbP := bd_pos n
 have hbB := bd_big (n := n) (by omega)
 refine WX.enter (tt := tt) (Γ := [(0, MF.rs .stb K0 M0 n_.parts)]) Try.func53 rfl (by kernel_rfl) rfl (allS_cons rfl N0 allS_nil) ?_
 refine R0 ?_
 refine WX.callF 1 (fun _ _ h => GoT.ow_rd h) (fun _ f hf => GoT.fak f hf) rfl rfl rfl rfl rfl (fun _ => rfl) rfl (fun w G bs hI hΓ => f84 w n (by omega) n_.parts K0 M0 (hΓ.get 0 rfl) (ok_Name hokn_)) (fun _ => rfl) (fun _ => rfl) ?_
 rintro ⟨p1, c1⟩ hq1
 refine R0 ?_
 have hP1 : impl_copyName n_ = n_ := by simp only [impl_copyName, ct, cf]
 refine R1 ?_
 intro w1 G bs hI hΓ
 rw [hP1]
 exact Post.of [2] (p1, c1) hI hΓ rfl rfl rfl hq1
theorem f54 (w : World) (n : Nat) (hn : n + 0 ≤ 9) (n_ : Name) (K0 : Option Addr) (M0 : Nat) (N0 : RdSl (hp w) K0 M0 n_.parts) (hokn_ : GoT.ok n n_) :
  Does Try.prog 54 #[.agg #[.slice K0 ((n_.parts).length) M0]] w emp (Post w emp (fun x : GoT.X (Name) => .agg ⟨GoT.sh ((spec_l4Copy n_) : Name) x⟩) (fun x => GoT.oa ((spec_l4Copy n_) : Name) x) (GoT.ok n ((spec_l4Copy n_) : Name))) := by
 have hbP := bd_pos n
 have hbB := bd_big (n := n) (by omega)
 refine WX.enter (tt := tt) (Γ := [(0, MF.rs .stb K0 M0 n_.parts)]) Try.func54 rfl (by kernel_rfl) rfl (allS_cons rfl N0 allS_nil) ?_
 refine R0 ?_
 refine WX.bld ttOk rfl rfl rfl rfl rfl rfl rfl ?_
 intro p1
 refine R0 ?_
 refine WX.free 1 (MF.ol [] ([] : List Str)) rfl ?_
 have r1 : (n_.parts).length ≤ bd n := (okl (ok_Name hokn_)).1
 refine WX.appG1 3 0 2 (n_.parts : List Str).length ttOk rfl rfl rfl rfl rfl rfl rfl rfl rfl rfl rfl rfl rfl (by simp) (by omega) (by omega) (fun _ _ _ => rfl) ?_
 intro ys1 p2 c1
 refine WX.know (fun G hΓ => (hΓ.get 2 rfl : RdL _ _ _).flat) ?_
 intro hf1
 refine WX.turn [1] 3 rfl (fun h hs => ol_flat hs hf1) (gs := [MF.ol ([] ++ ys1) (n_.parts : List Str)]) rfl ?_
 refine R0 ?_
 refine WX.seal 3 3 4 rfl rfl rfl rfl rfl ?_
 have hP1 : spec_l4Copy n_ = n_ := by simp only [spec_l4Copy, ct, cf]
 refine R1 ?_
 intro w1 G bs hI hΓ
 rw [hP1]
 exact Post.of [5] (p2, c1) hI hΓ rfl rfl rfl (okl_mk (by omega) (okl (ok_Name hokn_)).2 : GoT.ok n (n_.parts : List Str))
end Go.Proofs.Ytdimfabadjfkiaa

namespace Go.Stp
set_option linter.unusedVariables false
set_option linter.unusedSimpArgs false
def slices_Equal_string_L1 (s2 : (List Str)) : List Str → Nat → Option (Bool)
  | [], i => none
  | e1 :: rest_, i =>
    match (s2)[i]? with
      | none => default
      | some e2 =>
        bif (!((e1).toList == (e2).toList)) then
          (some false)
        else
          slices_Equal_string_L1 s2 rest_ (i + 1)
def slices_Equal_string (s1 : (List Str)) (s2 : (List Str)) : Bool :=
  bif ((((s1).length : Nat) : Int) != (((s2).length : Nat) : Int)) then
    false
  else
    match slices_Equal_string_L1 s2 s1 0 with
      | some r_ => r_
      | none =>
        true
def impl_EqualNames (a : Name) (b : Name) : Bool :=
  (slices_Equal_string a.parts b.parts)
def spec_l4Cmp (a : Str) (b : Str) : Int :=
  bif (Op.bytesLess (a).toList (b).toList) then
    (-1)
  else
    bif (!(Op.bytesLess (a).toList (b).toList || (a).toList == (b).toList)) then
      1
    else
      0
def spec_CompareNames_L1 (b : Name) : List Str → Nat → Option (Int)
  | [], i => none
  | e1 :: rest_, i =>
    bif decide (((i : Nat) : Int) < (((b.parts).length : Nat) : Int)) then
      match (b.parts)[i]? with
        | none => default
        | some e2 =>
          bif ((spec_l4Cmp e1 e2) != 0) then
            (some (spec_l4Cmp e1 e2))
          else
            spec_CompareNames_L1 b rest_ (i + 1)
    else
      none
def spec_CompareNames (a : Name) (b : Name) : Int :=
  match spec_CompareNames_L1 b a.parts 0 with
    | some r_ => r_
    | none =>
      bif decide ((((a.parts).length : Nat) : Int) < (((b.parts).length : Nat) : Int)) then
        (-1)
      else
        bif decide ((((a.parts).length : Nat) : Int) > (((b.parts).length : Nat) : Int)) then
          1
        else
          0
def spec_EqualNames (a : Name) (b : Name) : Bool :=
  ((spec_CompareNames a b) == 0)
end Go.Stp

namespace Go.Proofs.Ytdimfabadjfkiaa
open Go.Stp
set_option linter.unusedVariables false
set_option linter.unusedSimpArgs false
theorem f103 (w : World) (n : Nat) (hn : n + 0 ≤ 9) (s1 : (List Str)) (K0 : Option Addr) (M0 : Nat) (N0 : RdSl (hp w) K0 M0 s1) (s2 : (List Str)) (K1 : Option Addr) (M1 : Nat) (N1 : RdSl (hp w) K1 M1 s2) (hoks1 : GoT.ok n s1) (hoks2 : GoT.ok n s2) :
  Does Try.prog 103 #[.slice K0 ((s1).length) M0, .slice K1 ((s2).length) M1] w emp (fun (rv : Value) (_ : World) => rv = .bool (slices_Equal_string s1 s2) ∧ True) := by
 have hbP := bd_pos n
 have hbB := bd_big (n := n) (by omega)
 refine WX.enter (tt := tt) (Γ := [(0, MF.rs .stb K0 M0 s1), (1, MF.rs .stb K1 M1 s2)]) Try.func103 rfl (by kernel_rfl) rfl (allS_cons rfl N0 (allS_cons rfl N1 allS_nil)) ?_
 refine R0 ?_
 refine WX.cases 10 rfl (fun h1 => ?_) (fun h1 => ?_)
 ·skip
  have h1d := B.nt' h1
  refine R0 ?_
  have hP1 : slices_Equal_string s1 s2 = false := by simp only [slices_Equal_string, h1, ct, cf]
  exact R3 hP1
 ·skip
  have h1d := B.nf' h1
  refine R0 ?_
  have r1 : (s1).length ≤ bd n := (okl hoks1).1
  refine WX.loop (ι := Nat) ⟨fun i => (i ≤ (s1).length) ∧ (slices_Equal_string_L1 s2 s1 0 = slices_Equal_string_L1 s2 ((s1).drop i) i), fun i => (s1).length - i, fun i => [(13, .v (.int .i64 (((i : Nat) : Int)))), (12, .v (.int .i64 ((((s1).length : Nat) : Int)))), (0, .v (.slice K0 ((s1).length) M0)), (1, .v (.slice K1 ((s2).length) M1))], fun i => [], fun i => [], fun i => [(0, MF.rs .stb K0 M0 s1), (1, MF.rs .stb K1 M1 s2)]⟩ 0 ⟨(Nat.zero_le _), rfl⟩
   (.cons rfl (.cons rfl (.cons rfl (.cons rfl (.nil))))) .nil .nil [0, 1] rfl ?_
  rintro i hpre
  have hpre_ : (i ≤ (s1).length) ∧ (slices_Equal_string_L1 s2 s1 0 = slices_Equal_string_L1 s2 ((s1).drop i) i) := hpre
  clear hpre
  obtain ⟨v1, v2⟩ := hpre_
  refine R0 ?_
  refine WX.cases 14 rfl (fun h2 => ?_) (fun h2 => ?_)
  ·skip
   have h2d := B.dt h2
   have e1i : i < (s1).length := (by omega)
   obtain ⟨e1, e1h⟩ : ∃ e1, (s1)[i]? = some e1 := ⟨_, List.getElem?_eq_getElem e1i⟩
   have ok1 : GoT.ok n e1 := (okl hoks1).2 _ (List.mem_of_getElem? e1h)
   refine R0 ?_
   refine WX.draw [] mixed ?_
   intro bs G0 hΓ0
   refine DX.takes (fuel := 7) ttOk [(0, true), (1, true)] (by kernel_rfl) rfl ?_
   refine DX.idx 2 0 i ttOk hΓ0 (by kernel_rfl) rfl rfl rfl rfl rfl rfl rfl rfl rfl rfl rfl e1i ?_
   rintro ad1 rfl
   refine DX.ldE 3 0 2 e1 ttOk hΓ0 (by kernel_rfl) rfl rfl rfl rfl rfl rfl rfl rfl e1h (fun _ => rfl) (fun _ => rfl) ?_
   rintro ⟨⟩
   refine DX.takes (fuel := 3) ttOk [(4, true), (5, true)] (by kernel_rfl) rfl ?_
   have e2i : i < (s2).length := (by first | assumption | omega)
   obtain ⟨e2, e2h⟩ : ∃ e2, (s2)[i]? = some e2 := ⟨_, List.getElem?_eq_getElem e2i⟩
   have ok2 : GoT.ok n e2 := (okl hoks2).2 _ (List.mem_of_getElem? e2h)
   refine DX.idx 6 1 i ttOk hΓ0 (by kernel_rfl) rfl rfl rfl rfl rfl rfl rfl rfl rfl rfl rfl e2i ?_
   rintro ad2 rfl
   refine DX.ldE 7 1 2 e2 ttOk hΓ0 (by kernel_rfl) rfl rfl rfl rfl rfl rfl rfl rfl e2h (fun _ => rfl) (fun _ => rfl) ?_
   rintro ⟨⟩
   refine DX.takes (fuel := 0) ttOk [(8, true)] (by kernel_rfl) rfl ?_
   refine DX.tail2 [] rfl rfl (by kernel_rfl) ?_
   refine R0 ?_
   refine WX.cases 24 rfl (fun h3 => ?_) (fun h3 => ?_)
   ·skip
    have h3d := B.ef (B.nt h3)
    refine R0 ?_
    have hP2 : slices_Equal_string_L1 s2 s1 0 = (some false) := by rw [v2, drop_get e1h]; simp only [slices_Equal_string_L1, e2h, h3, ct, cf]
    have hP3 : slices_Equal_string s1 s2 = false := by simp only [slices_Equal_string, h1, hP2, ct, cf]
    exact R3 hP3
   ·skip
    have h3d := B.et (B.nf h3)
    refine R0 ?_
    refine WX.see rfl rfl rfl (fun _ hΓ => looks_arith rfl rfl rfl rfl (by unfold I64; first | omega | (simp only [List.length_take] at *; omega))) ?_
    refine R0 ?_
    exact WX.iter (i + 1) ⟨(by omega), (by rw [v2, drop_get e1h]; simp only [slices_Equal_string_L1, e2h, h3, ct, cf])⟩ (by first | (dsimp only; omega) | omega) (.cons rfl (.cons rfl (.cons rfl (.cons rfl (.nil))))) .nil .nil [0, 1] rfl
  ·skip
   have h2d := B.df h2
   refine R0 ?_
   have hX1 : slices_Equal_string_L1 s2 s1 0 = none := by rw [v2, List.drop_eq_nil_of_le (show (s1).length ≤ i by omega)]; simp only [slices_Equal_string_L1, ct, cf]
   have hP4 : slices_Equal_string s1 s2 = true := by simp only [slices_Equal_string, h1, hX1, ct, cf]
   exact R3 hP4
theorem f95 (w : World) (n : Nat) (hn : n + 0 ≤ 9) (a : Name) (pa : Option Addr) (ca : Nat) (N0 : RdSl (hp w) pa ca a.parts) (b : Name) (pb : Option Addr) (cb : Nat) (N1 : RdSl (hp w) pb cb b.parts) (hoka : GoT.ok n a) (hokb : GoT.ok n b) :
  Does Try.prog 95 #[.agg #[.slice pa ((a.parts).length) ca], .agg #[.slice pb ((b.parts).length) cb]] w emp (fun (rv : Value) (_ : World) => rv = .bool (impl_EqualNames a b) ∧ True) := by
 have hbP := bd_pos n
 have hbB := bd_big (n := n) (by omega)
 refine WX.enter (tt := tt) (Γ := [(0, MF.rs .stb pa ca a.parts), (1, MF.rs .stb pb cb b.parts)]) Try.func95 rfl (by kernel_rfl) rfl (allS_cons rfl N0 (allS_cons rfl N1 allS_nil)) ?_
 refine R0 ?_
 refine WX.callV rfl rfl rfl rfl rfl (fun _ => rfl) rfl (fun w G bs hI hΓ => f103 w n (by omega) a.parts pa ca (hΓ.get 0 rfl) b.parts pb cb (hΓ.get 1 rfl) (ok_Name hoka) (ok_Name hokb)) ?_
 intro hq1
 refine R0 ?_
 have hP1 : impl_EqualNames a b = (slices_Equal_string a.parts b.parts) := by simp only [impl_EqualNames, ct, cf]
 exact R3 hP1
theorem f100 (w : World) (n : Nat) (hn : n + 0 ≤ 9) (a : Str) (b : Str) (hoka : GoT.ok n a) (hokb : GoT.ok n b) :
  Does Try.prog 100 #[.string a, .string b] w emp (fun (rv : Value) (_ : World) => rv = .int .i64 ((spec_l4Cmp a b)) ∧ GoT.ok n ((spec_l4Cmp a b) : Int)) := by
 have hbP := bd_pos n
 have hbB := bd_big (n := n) (by omega)
 refine WX.enter (tt := tt) (Γ := []) Try.func100 rfl (by kernel_rfl) rfl allS_nil ?_
 refine R0 ?_
 refine WX.cases 5 rfl (fun h1 => ?_) (fun h1 => ?_)
 ·skip
  refine R0 ?_
  have hP1 : spec_l4Cmp a b = (-1) := by simp only [spec_l4Cmp, h1, ct, cf]
  refine R1 ?_
  intro w1 G bs hI hΓ
  rw [hP1]
  exact ⟨rfl, (show I64 (-1) from (by unfold I64; omega))⟩
 ·skip
  refine R0 ?_
  refine WX.cases 9 rfl (fun h2 => ?_) (fun h2 => ?_)
  ·skip
   refine R0 ?_
   have hP2 : spec_l4Cmp a b = 1 := by first | (simp only [spec_l4Cmp, h1, h2, ct, cf]; done) | (unfold spec_l4Cmp; rw [h2, h1]; simp only [ct, cf])
   refine R1 ?_
   intro w1 G bs hI hΓ
   rw [hP2]
   exact ⟨rfl, (show I64 1 from (by unfold I64; omega))⟩
  ·skip
   refine R0 ?_
   have hP3 : spec_l4Cmp a b = 0 := by first | (simp only [spec_l4Cmp, h1, h2, ct, cf]; done) | (unfold spec_l4Cmp; rw [h2, h1]; simp only [ct, cf])
   refine R1 ?_
   intro w1 G bs hI hΓ
   rw [hP3]
   exact ⟨rfl, (show I64 0 from (by unfold I64; omega))⟩
theorem f83 (w : World) (n : Nat) (hn : n + 0 ≤ 9) (a : Name) (pa : Option Addr) (ca : Nat) (N0 : RdSl (hp w) pa ca a.parts) (b : Name) (pb : Option Addr) (cb : Nat) (N1 : RdSl (hp w) pb cb b.parts) (hoka : GoT.ok n a) (hokb : GoT.ok n b) :
  Does Try.prog 83 #[.agg #[.slice pa ((a.parts).length) ca], .agg #[.slice pb ((b.parts).length) cb]] w emp (fun (rv : Value) (_ : World) => rv = .int .i64 ((spec_CompareNames a b)) ∧ GoT.ok n ((spec_CompareNames a b) : Int)) := by
 have hbP := bd_pos n
 have hbB := bd_big (n := n) (by omega)
 refine WX.enter (tt := tt) (Γ := [(0, MF.rs .stb pa ca a.parts), (1, MF.rs .stb pb cb b.parts)]) Try.func83 rfl (by kernel_rfl) rfl (allS_cons rfl N0 (allS_cons rfl N1 allS_nil)) ?_
 refine R0 ?_
 have r1 : (a.parts).length ≤ bd n := (okl (ok_Name hoka)).1
 refine WX.loop (ι := Nat) ⟨fun i => (i ≤ (a.parts).length) ∧ (spec_CompareNames_L1 b a.parts 0 = spec_CompareNames_L1 b ((a.parts).drop i) i), fun i => (a.parts).length - i, fun i => [(5, .v (.int .i64 (((i : Nat) : Int)))), (3, .p 3 0), (2, .p 2 0)], fun i => [(3, ⟨41, [.slice pb ((b.parts).length) cb]⟩), (2, ⟨41, [.slice pa ((a.parts).length) ca]⟩)], fun i => [], fun i => [(0, MF.rs .stb pa ca a.parts), (1, MF.rs .stb pb cb b.parts)]⟩ 0 ⟨(Nat.zero_le _), rfl⟩
  (.cons rfl (.cons rfl (.cons rfl (.nil)))) (.cons rfl (.cons rfl (.nil))) .nil [0, 1] rfl ?_
 rintro i hpre
 have hpre_ : (i ≤ (a.parts).length) ∧ (spec_CompareNames_L1 b a.parts 0 = spec_CompareNames_L1 b ((a.parts).drop i) i) := hpre
 clear hpre
 obtain ⟨v1, v2⟩ := hpre_
 refine R0 ?_
 refine WX.cases 12 rfl (fun h1 => ?_) (fun h1 => ?_)
 ·skip
  have h1d := B.dt h1
  have e1i : i < (a.parts).length := (by omega)
  obtain ⟨e1, e1h⟩ : ∃ e1, (a.parts)[i]? = some e1 := ⟨_, List.getElem?_eq_getElem e1i⟩
  have ok1 : GoT.ok n e1 := (okl (ok_Name hoka)).2 _ (List.mem_of_getElem? e1h)
  refine R0 ?_
  refine WX.cases 18 rfl (fun h2 => ?_) (fun h2 => ?_)
  ·skip
   have h2d := B.dt h2
   refine R0 ?_
   refine WX.draw [] mixed ?_
   intro bs G0 hΓ0
   refine DX.takes (fuel := 9) ttOk [(0, true), (1, false), (2, true)] (by kernel_rfl) rfl ?_
   refine DX.idx 3 0 i ttOk hΓ0 (by kernel_rfl) rfl rfl rfl rfl rfl rfl rfl rfl rfl rfl rfl e1i ?_
   rintro ad1 rfl
   refine DX.ldE 4 0 2 e1 ttOk hΓ0 (by kernel_rfl) rfl rfl rfl rfl rfl rfl rfl rfl e1h (fun _ => rfl) (fun _ => rfl) ?_
   rintro ⟨⟩
   refine DX.takes (fuel := 4) ttOk [(5, true), (6, false), (7, true)] (by kernel_rfl) rfl ?_
   have e2i : i < (b.parts).length := (by first | assumption | omega)
   obtain ⟨e2, e2h⟩ : ∃ e2, (b.parts)[i]? = some e2 := ⟨_, List.getElem?_eq_getElem e2i⟩
   have ok2 : GoT.ok n e2 := (okl (ok_Name hokb)).2 _ (List.mem_of_getElem? e2h)
   refine DX.idx 8 1 i ttOk hΓ0 (by kernel_rfl) rfl rfl rfl rfl rfl rfl rfl rfl rfl rfl rfl e2i ?_
   rintro ad2 rfl
   refine DX.ldE 9 1 2 e2 ttOk hΓ0 (by kernel_rfl) rfl rfl rfl rfl rfl rfl rfl rfl e2h (fun _ => rfl) (fun _ => rfl) ?_
   rintro ⟨⟩
   refine DX.callV 10 rfl (by kernel_rfl) rfl rfl rfl rfl rfl rfl (fun _ => rfl) rfl (fun w G bs hI hΓ => f100 w n (by omega) e1 e2 ok1 ok2) ?_
   intro hq1
   refine DX.takes (fuel := 0) ttOk [(11, true)] (by kernel_rfl) rfl ?_
   refine DX.tail2 [] rfl rfl (by kernel_rfl) ?_
   refine R0 ?_
   refine WX.cases 33 rfl (fun h3 => ?_) (fun h3 => ?_)
   ·skip
    have h3d := B.nt' h3
    refine R0 ?_
    have hP1 : spec_CompareNames_L1 b a.parts 0 = (some (spec_l4Cmp e1 e2)) := by rw [v2, drop_get e1h]; simp only [spec_CompareNames_L1, h2, e2h, h3, ct, cf]
    have hP2 : spec_CompareNames a b = (spec_l4Cmp e1 e2) := by simp only [spec_CompareNames, hP1, ct, cf]
    refine R1 ?_
    intro w1 G bs hI hΓ
    rw [hP2]
    exact ⟨rfl, hq1⟩
   ·skip
    have h3d := B.nf' h3
    refine R0 ?_
    refine WX.see rfl rfl rfl (fun _ hΓ => looks_arith rfl rfl rfl rfl (by unfold I64; first | omega | (simp only [List.length_take] at *; omega))) ?_
    refine R0 ?_
    exact WX.iter (i + 1) ⟨(by omega), (by rw [v2, drop_get e1h]; simp only [spec_CompareNames_L1, h2, e2h, h3, ct, cf])⟩ (by first | (dsimp only; omega) | omega) (.cons rfl (.cons rfl (.cons rfl (.nil)))) (.cons rfl (.cons rfl (.nil))) .nil [0, 1] rfl
  ·skip
   have h2d := B.df h2
   refine R0 ?_
   have hX1 : spec_CompareNames_L1 b a.parts 0 = none := by rw [v2, drop_get e1h]; simp only [spec_CompareNames_L1, h2, ct, cf]
   refine WX.cases 35 rfl (fun h4 => ?_) (fun h4 => ?_)
   ·skip
    have h4d := B.dt h4
    refine R0 ?_
    have hP3 : spec_CompareNames a b = (-1) := by simp only [spec_CompareNames, hX1, h4, ct, cf]
    refine R1 ?_
    intro w1 G bs hI hΓ
    rw [hP3]
    exact ⟨rfl, (show I64 (-1) from (by unfold I64; omega))⟩
   ·skip
    have h4d := B.df h4
    refine R0 ?_
    refine WX.cases 43 rfl (fun h5 => ?_) (fun h5 => ?_)
    ·skip
     have h5d := B.dt h5
     refine R0 ?_
     have hP4 : spec_CompareNames a b = 1 := by simp only [spec_CompareNames, hX1, h4, h5, ct, cf]
     refine R1 ?_
     intro w1 G bs hI hΓ
     rw [hP4]
     exact ⟨rfl, (show I64 1 from (by unfold I64; omega))⟩
    ·skip
     have h5d := B.df h5
     refine R0 ?_
     have hP5 : spec_CompareNames a b = 0 := by simp only [spec_CompareNames, hX1, h4, h5, ct, cf]
     refine R1 ?_
     intro w1 G bs hI hΓ
     rw [hP5]
     exact ⟨rfl, (show I64 0 from (by unfold I64; omega))⟩
 ·skip
  have h1d := B.df h1
  refine R0 ?_
  have hX2 : spec_CompareNames_L1 b a.parts 0 = none := by rw [v2, List.drop_eq_nil_of_le (show (a.parts).length ≤ i by omega)]; simp only [spec_CompareNames_L1, ct, cf]
  refine WX.cases 35 rfl (fun h6 => ?_) (fun h6 => ?_)
  ·skip
   have h6d := B.dt h6
   refine R0 ?_
   have hP6 : spec_CompareNames a b = (-1) := by simp only [spec_CompareNames, hX2, h6, ct, cf]
   refine R1 ?_
   intro w1 G bs hI hΓ
   rw [hP6]
   exact ⟨rfl, (show I64 (-1) from (by unfold I64; omega))⟩
  ·skip
   have h6d := B.df h6
   refine R0 ?_
   refine WX.cases 43 rfl (fun h7 => ?_) (fun h7 => ?_)
   ·skip
    have h7d := B.dt h7
    refine R0 ?_
    have hP7 : spec_CompareNames a b = 1 := by simp only [spec_CompareNames, hX2, h6, h7, ct, cf]
    refine R1 ?_
    intro w1 G bs hI hΓ
    rw [hP7]
    exact ⟨rfl, (show I64 1 from (by unfold I64; omega))⟩
   ·skip
    have h7d := B.df h7
    refine R0 ?_
    have hP8 : spec_CompareNames a b = 0 := by simp only [spec_CompareNames, hX2, h6, h7, ct, cf]
    refine R1 ?_
    intro w1 G bs hI hΓ
    rw [hP8]
    exact ⟨rfl, (show I64 0 from (by unfold I64; omega))⟩
theorem f99 (w : World) (n : Nat) (hn : n + 0 ≤ 9) (a : Name) (pa : Option Addr) (ca : Nat) (N0 : RdSl (hp w) pa ca a.parts) (b : Name) (pb : Option Addr) (cb : Nat) (N1 : RdSl (hp w) pb cb b.parts) (hoka : GoT.ok n a) (hokb : GoT.ok n b) :
  Does Try.prog 99 #[.agg #[.slice pa ((a.parts).length) ca], .agg #[.slice pb ((b.parts).length) cb]] w emp (fun (rv : Value) (_ : World) => rv = .bool (spec_EqualNames a b) ∧ True) := by
 have hbP := bd_pos n
 have hbB := bd_big (n := n) (by omega)
 refine WX.enter (tt := tt) (Γ := [(0, MF.rs .stb pa ca a.parts), (1, MF.rs .stb pb cb b.parts)]) Try.func99 rfl (by kernel_rfl) rfl (allS_cons rfl N0 (allS_cons rfl N1 allS_nil)) ?_
 refine R0 ?_
 refine WX.callV rfl rfl rfl rfl rfl (fun _ => rfl) rfl (fun w G bs hI hΓ => f83 w n (by omega) a pa ca (hΓ.get 0 rfl) b pb cb (hΓ.get 1 rfl) hoka hokb) ?_
 intro hq1
 refine R0 ?_
 have hP1 : spec_EqualNames a b = ((spec_CompareNames a b) == 0) := by simp only [spec_EqualNames, ct, cf]
 exact R3 hP1
end Go.Proofs.Ytdimfabadjfkiaa

namespace Go.Stp
set_option linter.unusedVariables false
set_option linter.unusedSimpArgs false
def impl_ValidPart_L1 : List UInt8 → Option (Bool)
  | [] => none
  | e1 :: rest_ =>
    bif decide (((e1).toNat : Int) ≥ 97) then
      bif decide (((e1).toNat : Int) ≤ 122) then
        impl_ValidPart_L1 rest_
      else
        bif decide (((e1).toNat : Int) ≥ 48) then
          bif decide (((e1).toNat : Int) ≤ 57) then
            impl_ValidPart_L1 rest_
          else
            bif (!(((e1).toNat : Int) == 45)) then
              (some false)
            else
              impl_ValidPart_L1 rest_
        else
          bif (!(((e1).toNat : Int) == 45)) then
            (some false)
          else
            impl_ValidPart_L1 rest_
    else
      bif decide (((e1).toNat : Int) ≥ 48) then
        bif decide (((e1).toNat : Int) ≤ 57) then
          impl_ValidPart_L1 rest_
        else
          bif (!(((e1).toNat : Int) == 45)) then
            (some false)
          else
            impl_ValidPart_L1 rest_
      else
        bif (!(((e1).toNat : Int) == 45)) then
          (some false)
        else
          impl_ValidPart_L1 rest_
def impl_ValidPart (s : Str) : Bool :=
  match impl_ValidPart_L1 ((s).data.toList) with
    | some r_ => r_
    | none =>
      (impl_InRange (((s).size : Nat) : Int) 1 8)
def spec_ValidPart_L1 : List UInt8 → Option (Bool)
  | [] => none
  | e1 :: rest_ =>
    bif (!(spec_l1In ((e1).toNat : Int) 97 122)) then
      bif (!(spec_l1In ((e1).toNat : Int) 48 57)) then
        bif (((e1).toNat : Int) != 45) then
          (some false)
        else
          spec_ValidPart_L1 rest_
      else
        spec_ValidPart_L1 rest_
    else
      spec_ValidPart_L1 rest_
def spec_ValidPart (s : Str) : Bool :=
  bif (!(spec_l1In (((s).size : Nat) : Int) 1 8)) then
    false
  else
    match spec_ValidPart_L1 ((s).data.toList) with
      | some r_ => r_
      | none =>
        true
def slices_IndexFunc_string_L1 (fq : Str → Bool) : List Str → Nat → Option (Int)
  | [], i => none
  | e1 :: rest_, i =>
    bif fq e1 then
      (some ((i : Nat) : Int))
    else
      slices_IndexFunc_string_L1 fq rest_ (i + 1)
def slices_IndexFunc_string (s : (List Str)) (fq : Str → Bool) : Int :=
  match slices_IndexFunc_string_L1 fq s 0 with
    | some r_ => r_
    | none =>
      (-1)
def slices_ContainsFunc_string (s : (List Str)) (fq : Str → Bool) : Bool :=
  (decide ((slices_IndexFunc_string s fq) ≥ 0))
def impl_ValidName_c1 (p_ : Str) : Bool :=
  (!(impl_ValidPart p_))
def impl_ValidName (n_ : Name) : Bool :=
  bif decide ((((n_.parts).length : Nat) : Int) ≤ 6) then
    (!(slices_ContainsFunc_string n_.parts (fun e0_ => (impl_ValidName_c1 e0_))))
  else
    false
def spec_ValidName_L1 : List Str → Option (Bool)
  | [] => none
  | e1 :: rest_ =>
    bif (!(spec_ValidPart e1)) then
      (some false)
    else
      spec_ValidName_L1 rest_
def spec_ValidName (n_ : Name) : Bool :=
  match spec_ValidName_L1 n_.parts with
    | some r_ => r_
    | none =>
      (decide ((((n_.parts).length : Nat) : Int) ≤ 6))
end Go.Stp

namespace Go.Proofs.Ytdimfabadjfkiaa
open Go.Stp
set_option linter.unusedVariables false
set_option linter.unusedSimpArgs false
theorem f91 (w : World) (n : Nat) (hn : n + 0 ≤ 9) (s : Str) (hoks : GoT.ok n s) :
  Does Try.prog 91 #[.string s] w emp (fun (rv : Value) (_ : World) => rv = .bool (impl_ValidPart s) ∧ True) := by
 have hbP := bd_pos n
 have hbB := bd_big (n := n) (by omega)
 refine WX.enter (tt := tt) (Γ := []) Try.func91 rfl (by kernel_rfl) rfl allS_nil ?_
 refine R0 ?_
 have r1 : (s).size ≤ bd n := hoks
 refine WX.loop (ι := Nat) ⟨fun i => (i ≤ ((s).data.toList).length) ∧ (impl_ValidPart_L1 ((s).data.toList) = impl_ValidPart_L1 (((s).data.toList).drop i)), fun i => ((s).data.toList).length - i, fun i => [(7, .v (.int .i64 (((i : Nat) : Int)))), (6, .v (.int .i64 ((((s).size : Nat) : Int)))), (0, .v (.string s))], fun i => [], fun i => [], fun i => []⟩ 0 ⟨(Nat.zero_le _), rfl⟩
  (.cons rfl (.cons rfl (.cons rfl (.nil)))) .nil .nil [] rfl ?_
 rintro i hpre
 have hpre_ : (i ≤ ((s).data.toList).length) ∧ (impl_ValidPart_L1 ((s).data.toList) = impl_ValidPart_L1 (((s).data.toList).drop i)) := hpre
 clear hpre
 obtain ⟨v1, v2⟩ := hpre_
 refine R0 ?_
 refine WX.cases 8 rfl (fun h1 => ?_) (fun h1 => ?_)
 ·skip
  have h1d := B.dt h1
  have e1i : i < ((s).data.toList).length := (by (have hz_ : ((s).data.toList).length = (s).size := by simp); omega)
  obtain ⟨e1, e1h⟩ : ∃ e1, ((s).data.toList)[i]? = some e1 := ⟨_, List.getElem?_eq_getElem e1i⟩
  refine R0 ?_
  refine WX.see rfl rfl rfl (fun _ hΓ => looks_strIdx ttOk rfl rfl rfl rfl rfl e1h) ?_
  refine R0 ?_
  refine WX.cases 15 rfl (fun h2 => ?_) (fun h2 => ?_)
  ·skip
   have h2d := B.dt h2
   refine R0 ?_
   refine WX.cases 19 rfl (fun h3 => ?_) (fun h3 => ?_)
   ·skip
    have h3d := B.dt h3
    refine R0 ?_
    refine WX.see rfl rfl rfl (fun _ hΓ => looks_arith rfl rfl rfl rfl (by unfold I64; first | omega | (simp only [List.length_take] at *; omega))) ?_
    refine R0 ?_
    exact WX.iter (i + 1) ⟨(by omega), (by rw [v2, drop_get e1h]; simp only [impl_ValidPart_L1, h2, h3, ct, cf])⟩ (by first | (dsimp only; omega) | omega) (.cons rfl (.cons rfl (.cons rfl (.nil)))) .nil .nil [] rfl
   ·skip
    have h3d := B.df h3
    refine R0 ?_
    refine WX.cases 22 rfl (fun h4 => ?_) (fun h4 => ?_)
    ·skip
     have h4d := B.dt h4
     refine R0 ?_
     refine WX.cases 27 rfl (fun h5 => ?_) (fun h5 => ?_)
     ·skip
      have h5d := B.dt h5
      refine R0 ?_
      refine WX.see rfl rfl rfl (fun _ hΓ => looks_arith rfl rfl rfl rfl (by unfold I64; first | omega | (simp only [List.length_take] at *; omega))) ?_
      refine R0 ?_
      exact WX.iter (i + 1) ⟨(by omega), (by rw [v2, drop_get e1h]; simp only [impl_ValidPart_L1, h2, h3, h4, h5, ct, cf])⟩ (by first | (dsimp only; omega) | omega) (.cons rfl (.cons rfl (.cons rfl (.nil)))) .nil .nil [] rfl
     ·skip
      have h5d := B.df h5
      refine R0 ?_
      refine WX.cases 31 rfl (fun h6 => ?_) (fun h6 => ?_)
      ·skip
       have h6d := B.ef (B.nt h6)
       refine R0 ?_
       have hP1 : impl_ValidPart_L1 ((s).data.toList) = (some false) := by rw [v2, drop_get e1h]; simp only [impl_ValidPart_L1, h2, h3, h4, h5, h6, ct, cf]
       have hP2 : impl_ValidPart s = false := by simp only [impl_ValidPart, hP1, ct, cf]
       exact R3 hP2
      ·skip
       have h6d := B.et (B.nf h6)
       refine R0 ?_
       refine WX.see rfl rfl rfl (fun _ hΓ => looks_arith rfl rfl rfl rfl (by unfold I64; first | omega | (simp only [List.length_take] at *; omega))) ?_
       refine R0 ?_
       exact WX.iter (i + 1) ⟨(by omega), (by rw [v2, drop_get e1h]; simp only [impl_ValidPart_L1, h2, h3, h4, h5, h6, ct, cf])⟩ (by first | (dsimp only; omega) | omega) (.cons rfl (.cons rfl (.cons rfl (.nil)))) .nil .nil [] rfl
    ·skip
     have h4d := B.df h4
     refine R0 ?_
     refine WX.cases 31 rfl (fun h7 => ?_) (fun h7 => ?_)
     ·skip
      have h7d := B.ef (B.nt h7)
      refine R0 ?_
      have hP3 : impl_ValidPart_L1 ((s).data.toList) = (some false) := by rw [v2, drop_get e1h]; simp only [impl_ValidPart_L1, h2, h3, h4, h7, ct, cf]
      have hP4 : impl_ValidPart s = false := by simp only [impl_ValidPart, hP3, ct, cf]
      exact R3 hP4
     ·skip
      have h7d := B.et (B.nf h7)
      refine R0 ?_
      refine WX.see rfl rfl rfl (fun _ hΓ => looks_arith rfl rfl rfl rfl (by unfold I64; first | omega | (simp only [List.length_take] at *; omega))) ?_
      refine R0 ?_
      exact WX.iter (i + 1) ⟨(by omega), (by rw [v2, drop_get e1h]; simp only [impl_ValidPart_L1, h2, h3, h4, h7, ct, cf])⟩ (by first | (dsimp only; omega) | omega) (.cons rfl (.cons rfl (.cons rfl (.nil)))) .nil .nil [] rfl
  ·skip
   have h2d := B.df h2
   refine R0 ?_
   refine WX.cases 22 rfl (fun h8 => ?_) (fun h8 => ?_)
   ·skip
    have h8d := B.dt h8
    refine R0 ?_
    refine WX.cases 27 rfl (fun h9 => ?_) (fun h9 => ?_)
    ·skip
     have h9d := B.dt h9
     refine R0 ?_
     refine WX.see rfl rfl rfl (fun _ hΓ => looks_arith rfl rfl rfl rfl (by unfold I64; first | omega | (simp only [List.length_take] at *; omega))) ?_
     refine R0 ?_
     exact WX.iter (i + 1) ⟨(by omega), (by rw [v2, drop_get e1h]; simp only [impl_ValidPart_L1, h2, h8, h9, ct, cf])⟩ (by first | (dsimp only; omega) | omega) (.cons rfl (.cons rfl (.cons rfl (.nil)))) .nil .nil [] rfl
    ·skip
     have h9d := B.df h9
     refine R0 ?_
     refine WX.cases 31 rfl (fun h10 => ?_) (fun h10 => ?_)
     ·skip
      have h10d := B.ef (B.nt h10)
      refine R0 ?_
      have hP5 : impl_ValidPart_L1 ((s).data.toList) = (some false) := by rw [v2, drop_get e1h]; simp only [impl_ValidPart_L1, h2, h8, h9, h10, ct, cf]
      have hP6 : impl_ValidPart s = false := by simp only [impl_ValidPart, hP5, ct, cf]
      exact R3 hP6
     ·skip
      have h10d := B.et (B.nf h10)
      refine R0 ?_
      refine WX.see rfl rfl rfl (fun _ hΓ => looks_arith rfl rfl rfl rfl (by unfold I64; first | omega | (simp only [List.length_take] at *; omega))) ?_
      refine R0 ?_
      exact WX.iter (i + 1) ⟨(by omega), (by rw [v2, drop_get e1h]; simp only [impl_ValidPart_L1, h2, h8, h9, h10, ct, cf])⟩ (by first | (dsimp only; omega) | omega) (.cons rfl (.cons rfl (.cons rfl (.nil)))) .nil .nil [] rfl
   ·skip
    have h8d := B.df h8
    refine R0 ?_
    refine WX.cases 31 rfl (fun h11 => ?_) (fun h11 => ?_)
    ·skip
     have h11d := B.ef (B.nt h11)
     refine R0 ?_
     have hP7 : impl_ValidPart_L1 ((s).data.toList) = (some false) := by rw [v2, drop_get e1h]; simp only [impl_ValidPart_L1, h2, h8, h11, ct, cf]
     have hP8 : impl_ValidPart s = false := by simp only [impl_ValidPart, hP7, ct, cf]
     exact R3 hP8
    ·skip
     have h11d := B.et (B.nf h11)
     refine R0 ?_
     refine WX.see rfl rfl rfl (fun _ hΓ => looks_arith rfl rfl rfl rfl (by unfold I64; first | omega | (simp only [List.length_take] at *; omega))) ?_
     refine R0 ?_
     exact WX.iter (i + 1) ⟨(by omega), (by rw [v2, drop_get e1h]; simp only [impl_ValidPart_L1, h2, h8, h11, ct, cf])⟩ (by first | (dsimp only; omega) | omega) (.cons rfl (.cons rfl (.cons rfl (.nil)))) .nil .nil [] rfl
 ·skip
  have h1d := B.df h1
  refine R0 ?_
  have hX1 : impl_ValidPart_L1 ((s).data.toList) = none := by rw [v2, List.drop_eq_nil_of_le (show ((s).data.toList).length ≤ i by (have hz_ : ((s).data.toList).length = (s).size := by simp); omega)]; simp only [impl_ValidPart_L1, ct, cf]
  refine WX.callV rfl rfl rfl rfl rfl (fun _ => rfl) rfl (fun w G bs hI hΓ => f63 w n (by omega) (((s).size : Nat) : Int) 1 8 (show I64 (((s).size : Nat) : Int) from (by unfold I64; omega)) (show I64 1 from (by unfold I64; omega)) (show I64 8 from (by unfold I64; omega))) ?_
  intro hq1
  refine R0 ?_
  have hP9 : impl_ValidPart s = (impl_InRange (((s).size : Nat) : Int) 1 8) := by simp only [impl_ValidPart, hX1, ct, cf]
  exact R3 hP9
theorem f92 (w : World) (n : Nat) (hn : n + 0 ≤ 9) (s : Str) (hoks : GoT.ok n s) :
  Does Try.prog 92 #[.string s] w emp (fun (rv : Value) (_ : World) => rv = .bool (spec_ValidPart s) ∧ True) := by
 have hbP := bd_pos n
 have hbB := bd_big (n := n) (by omega)
 refine WX.enter (tt := tt) (Γ := []) Try.func92 rfl (by kernel_rfl) rfl allS_nil ?_
 refine R0 ?_
 have r1 : (s).size ≤ bd n := hoks
 refine WX.callV rfl rfl rfl rfl rfl (fun _ => rfl) rfl (fun w G bs hI hΓ => f64 w n (by omega) (((s).size : Nat) : Int) 1 8 (show I64 (((s).size : Nat) : Int) from (by unfold I64; omega)) (show I64 1 from (by unfold I64; omega)) (show I64 8 from (by unfold I64; omega))) ?_
 intro hq1
 refine R0 ?_
 refine WX.cases 8 rfl (fun h1 => ?_) (fun h1 => ?_)
 ·skip
  have h1d := (B.nt h1)
  refine R0 ?_
  have hP1 : spec_ValidPart s = false := by simp only [spec_ValidPart, h1, ct, cf]
  exact R3 hP1
 ·skip
  have h1d := (B.nf h1)
  have h1r := inR_spec (B.nf h1)
  refine R0 ?_
  refine WX.loop (ι := Nat) ⟨fun i => (i ≤ ((s).data.toList).length) ∧ (spec_ValidPart_L1 ((s).data.toList) = spec_ValidPart_L1 (((s).data.toList).drop i)), fun i => ((s).data.toList).length - i, fun i => [(3, .v (.int .i64 (((i : Nat) : Int)))), (0, .v (.string s))], fun i => [], fun i => [], fun i => []⟩ 0 ⟨(Nat.zero_le _), rfl⟩
   (.cons rfl (.cons rfl (.nil))) .nil .nil [] rfl ?_
  rintro i hpre
  have hpre_ : (i ≤ ((s).data.toList).length) ∧ (spec_ValidPart_L1 ((s).data.toList) = spec_ValidPart_L1 (((s).data.toList).drop i)) := hpre
  clear hpre
  obtain ⟨v1, v2⟩ := hpre_
  refine R0 ?_
  refine WX.cases 12 rfl (fun h2 => ?_) (fun h2 => ?_)
  ·skip
   have h2d := B.dt h2
   have e1i : i < ((s).data.toList).length := (by (have hz_ : ((s).data.toList).length = (s).size := by simp); omega)
   obtain ⟨e1, e1h⟩ : ∃ e1, ((s).data.toList)[i]? = some e1 := ⟨_, List.getElem?_eq_getElem e1i⟩
   refine R0 ?_
   refine WX.see rfl rfl rfl (fun _ hΓ => looks_strIdx ttOk rfl rfl rfl rfl rfl e1h) ?_
   refine WX.see rfl rfl rfl (fun _ hΓ => looks_ofU8 ttOk rfl rfl rfl rfl rfl rfl) ?_
   refine R0 ?_
   have r2 : (e1).toNat < 256 := UInt8.toNat_lt _
   refine WX.callV rfl rfl rfl rfl rfl (fun _ => rfl) rfl (fun w G bs hI hΓ => f64 w n (by omega) ((e1).toNat : Int) 97 122 (show I64 ((e1).toNat : Int) from (by unfold I64; omega)) (show I64 97 from (by unfold I64; omega)) (show I64 122 from (by unfold I64; omega))) ?_
   intro hq2
   refine R0 ?_
   refine WX.cases 22 rfl (fun h3 => ?_) (fun h3 => ?_)
   ·skip
    have h3d := (B.nt h3)
    refine R0 ?_
    refine WX.callV rfl rfl rfl rfl rfl (fun _ => rfl) rfl (fun w G bs hI hΓ => f64 w n (by omega) ((e1).toNat : Int) 48 57 (show I64 ((e1).toNat : Int) from (by unfold I64; omega)) (show I64 48 from (by unfold I64; omega)) (show I64 57 from (by unfold I64; omega))) ?_
    intro hq3
    refine R0 ?_
    refine WX.cases 27 rfl (fun h4 => ?_) (fun h4 => ?_)
    ·skip
     have h4d := (B.nt h4)
     refine R0 ?_
     refine WX.cases 30 rfl (fun h5 => ?_) (fun h5 => ?_)
     ·skip
      have h5d := B.nt' h5
      refine R0 ?_
      have hP2 : spec_ValidPart_L1 ((s).data.toList) = (some false) := by rw [v2, drop_get e1h]; simp only [spec_ValidPart_L1, h3, h4, h5, ct, cf]
      have hP3 : spec_ValidPart s = false := by simp only [spec_ValidPart, h1, hP2, ct, cf]
      exact R3 hP3
     ·skip
      have h5d := B.nf' h5
      refine R0 ?_
      refine WX.see rfl rfl rfl (fun _ hΓ => looks_arith rfl rfl rfl rfl (by unfold I64; first | omega | (simp only [List.length_take] at *; omega))) ?_
      refine R0 ?_
      exact WX.iter (i + 1) ⟨(by omega), (by rw [v2, drop_get e1h]; simp only [spec_ValidPart_L1, h3, h4, h5, ct, cf])⟩ (by first | (dsimp only; omega) | omega) (.cons rfl (.cons rfl (.nil))) .nil .nil [] rfl
    ·skip
     have h4d := (B.nf h4)
     have h4r := inR_spec (B.nf h4)
     refine R0 ?_
     refine WX.see rfl rfl rfl (fun _ hΓ => looks_arith rfl rfl rfl rfl (by unfold I64; first | omega | (simp only [List.length_take] at *; omega))) ?_
     refine R0 ?_
     exact WX.iter (i + 1) ⟨(by omega), (by rw [v2, drop_get e1h]; simp only [spec_ValidPart_L1, h3, h4, ct, cf])⟩ (by first | (dsimp only; omega) | omega) (.cons rfl (.cons rfl (.nil))) .nil .nil [] rfl
   ·skip
    have h3d := (B.nf h3)
    have h3r := inR_spec (B.nf h3)
    refine R0 ?_
    refine WX.see rfl rfl rfl (fun _ hΓ => looks_arith rfl rfl rfl rfl (by unfold I64; first | omega | (simp only [List.length_take] at *; omega))) ?_
    refine R0 ?_
    exact WX.iter (i + 1) ⟨(by omega), (by rw [v2, drop_get e1h]; simp only [spec_ValidPart_L1, h3, ct, cf])⟩ (by first | (dsimp only; omega) | omega) (.cons rfl (.cons rfl (.nil))) .nil .nil [] rfl
  ·skip
   have h2d := B.df h2
   refine R0 ?_
   have hX1 : spec_ValidPart_L1 ((s).data.toList) = none := by rw [v2, List.drop_eq_nil_of_le (show ((s).data.toList).length ≤ i by (have hz_ : ((s).data.toList).length = (s).size := by simp); omega)]; simp only [spec_ValidPart_L1, ct, cf]
   have hP4 : spec_ValidPart s = true := by simp only [spec_ValidPart, h1, hX1, ct, cf]
   exact R3 hP4
theorem f102 (w : World) (n : Nat) (hn : n + 0 ≤ 9) (s : (List Str)) (ps : Option Addr) (cs : Nat) (N0 : RdSl (hp w) ps cs s) (fg : FuncId) (fc : List Value) (fq : Str → Bool) (ff : ∀ w1, Kp emp w w1 → ∀ (e0 : Str) (x0 : GoT.X Str), GoT.ok n e0 → All (hp w1) (GoT.fa .der e0 x0) → Does Try.prog fg ([(GoT.sh e0 x0).headD undef] ++ fc).toArray w1 emp (fun rv _ => rv = .bool (fq e0) ∧ True)) (hoks : GoT.ok n s) :
  Does Try.prog 102 #[.slice ps ((s).length) cs, .func (.func fg) #[] fc.toArray] w emp (fun (rv : Value) (_ : World) => rv = .int .i64 ((slices_IndexFunc_string s fq)) ∧ GoT.ok n ((slices_IndexFunc_string s fq) : Int)) := by
 have hbP := bd_pos n
 have hbB := bd_big (n := n) (by omega)
 refine WX.enter (tt := tt) (Γ := [(0, MF.rs .stb ps cs s)]) Try.func102 rfl (by kernel_rfl) rfl (allS_cons rfl N0 allS_nil) ?_
 refine R0 ?_
 have r1 : (s).length ≤ bd n := (okl hoks).1
 refine WX.loop (ι := Nat) ⟨fun i => (i ≤ (s).length) ∧ (slices_IndexFunc_string_L1 fq s 0 = slices_IndexFunc_string_L1 fq ((s).drop i) i), fun i => (s).length - i, fun i => [(8, .v (.int .i64 (((i : Nat) : Int)))), (7, .v (.int .i64 ((((s).length : Nat) : Int)))), (0, .v (.slice ps ((s).length) cs)), (1, .v (.func (.func fg) #[] fc.toArray))], fun i => [], fun i => [], fun i => [(0, MF.rs .stb ps cs s)]⟩ 0 ⟨(Nat.zero_le _), rfl⟩
  (.cons rfl (.cons rfl (.cons rfl (.cons rfl (.nil))))) .nil .nil [0] rfl ?_
 rintro i hpre
 have hpre_ : (i ≤ (s).length) ∧ (slices_IndexFunc_string_L1 fq s 0 = slices_IndexFunc_string_L1 fq ((s).drop i) i) := hpre
 clear hpre
 obtain ⟨v1, v2⟩ := hpre_
 refine R0 ?_
 refine WX.cases 9 rfl (fun h1 => ?_) (fun h1 => ?_)
 ·skip
  have h1d := B.dt h1
  have e1i : i < (s).length := (by omega)
  obtain ⟨e1, e1h⟩ : ∃ e1, (s)[i]? = some e1 := ⟨_, List.getElem?_eq_getElem e1i⟩
  have ok1 : GoT.ok n e1 := (okl hoks).2 _ (List.mem_of_getElem? e1h)
  refine R0 ?_
  refine WX.idx 0 i ttOk rfl rfl rfl rfl rfl rfl rfl rfl rfl rfl e1i ?_
  rintro ad1 rfl
  refine WX.ldE 0 1 e1 ttOk rfl rfl rfl rfl rfl rfl rfl rfl e1h (fun _ => rfl) (fun _ => rfl) ?_
  rintro ⟨⟩
  refine WX.callV rfl rfl rfl rfl rfl (fun _ => rfl) rfl (fun w G bs hI hΓ => ff w hI.keep e1 () ok1 All.nil) ?_
  intro hq1
  refine R0 ?_
  refine WX.cases 16 rfl (fun h2 => ?_) (fun h2 => ?_)
  ·skip
   refine R0 ?_
   have hP1 : slices_IndexFunc_string_L1 fq s 0 = (some ((i : Nat) : Int)) := by rw [v2, drop_get e1h]; simp only [slices_IndexFunc_string_L1, h2, ct, cf]
   have hP2 : slices_IndexFunc_string s fq = ((i : Nat) : Int) := by simp only [slices_IndexFunc_string, hP1, ct, cf]
   refine R1 ?_
   intro w1 G bs hI hΓ
   rw [hP2]
   exact ⟨rfl, (show I64 ((i : Nat) : Int) from (by unfold I64; omega))⟩
  ·skip
   refine R0 ?_
   refine WX.see rfl rfl rfl (fun _ hΓ => looks_arith rfl rfl rfl rfl (by unfold I64; first | omega | (simp only [List.length_take] at *; omega))) ?_
   refine R0 ?_
   exact WX.iter (i + 1) ⟨(by omega), (by rw [v2, drop_get e1h]; simp only [slices_IndexFunc_string_L1, h2, ct, cf])⟩ (by first | (dsimp only; omega) | omega) (.cons rfl (.cons rfl (.cons rfl (.cons rfl (.nil))))) .nil .nil [0] rfl
 ·skip
  have h1d := B.df h1
  refine R0 ?_
  have hX1 : slices_IndexFunc_string_L1 fq s 0 = none := by rw [v2, List.drop_eq_nil_of_le (show (s).length ≤ i by omega)]; simp only [slices_IndexFunc_string_L1, ct, cf]
  have hP3 : slices_IndexFunc_string s fq = (-1) := by simp only [slices_IndexFunc_string, hX1, ct, cf]
  refine R1 ?_
  intro w1 G bs hI hΓ
  rw [hP3]
  exact ⟨rfl, (show I64 (-1) from (by unfold I64; omega))⟩
theorem ltL_slices_IndexFunc_string : ∀ (f : Str → Bool) (l : List Str) (i : Nat) (j : Int), slices_IndexFunc_string_L1 f l i = some j → j < ((i + l.length : Nat) : Int)
  | f, [], i, j, h => by cases h
  | f, x :: l, i, j, h => by
    simp only [slices_IndexFunc_string_L1] at h
    cases hx : f x
    · rw [hx, cond_false] at h
      have := ltL_slices_IndexFunc_string f l (i + 1) j h
      simp only [List.length_cons]; omega
    · rw [hx, cond_true] at h
      cases h
      simp only [List.length_cons]; omega
theorem ltI_slices_IndexFunc_string (l : List Str) (f : Str → Bool) : slices_IndexFunc_string l f < ((l.length : Nat) : Int) := by
  unfold slices_IndexFunc_string
  cases h : slices_IndexFunc_string_L1 f l 0 with
  | none => show (-1 : Int) < _; omega
  | some j => have := ltL_slices_IndexFunc_string f l 0 j h; show j < _; omega
theorem f89 (w : World) (n : Nat) (hn : n + 0 ≤ 9) (s : (List Str)) (ps : Option Addr) (cs : Nat) (N0 : RdSl (hp w) ps cs s) (fg : FuncId) (fc : List Value) (fq : Str → Bool) (ff : ∀ w1, Kp emp w w1 → ∀ (e0 : Str) (x0 : GoT.X Str), GoT.ok n e0 → All (hp w1) (GoT.fa .der e0 x0) → Does Try.prog fg ([(GoT.sh e0 x0).headD undef] ++ fc).toArray w1 emp (fun rv _ => rv = .bool (fq e0) ∧ True)) (hoks : GoT.ok n s) :
  Does Try.prog 89 #[.slice ps ((s).length) cs, .func (.func fg) #[] fc.toArray] w emp (fun (rv : Value) (_ : World) => rv = .bool (slices_ContainsFunc_string s fq) ∧ True) := by
 have hbP := bd_pos n
 have hbB := bd_big (n := n) (by omega)
 refine WX.enter (tt := tt) (Γ := [(0, MF.rs .stb ps cs s)]) Try.func89 rfl (by kernel_rfl) rfl (allS_cons rfl N0 allS_nil) ?_
 refine R0 ?_
 refine WX.callV rfl rfl rfl rfl rfl (fun _ => rfl) rfl (fun w G bs hI hΓ => f102 w n (by omega) s ps cs (hΓ.get 0 rfl) fg fc fq (fun w1_ hb_ => ff w1_ (hI.keep.trans hb_)) hoks) ?_
 intro hq1
 have q1 := ltI_slices_IndexFunc_string s fq
 refine R0 ?_
 have hP1 : slices_ContainsFunc_string s fq = (decide ((slices_IndexFunc_string s fq) ≥ 0)) := by simp only [slices_ContainsFunc_string, ct, cf]
 exact R3 hP1
theorem f90 (w : World) (n : Nat) (hn : n + 0 ≤ 9) (p_ : Str) (hokp_ : GoT.ok n p_) :
  Does Try.prog 90 #[.string p_] w emp (fun (rv : Value) (_ : World) => rv = .bool (impl_ValidName_c1 p_) ∧ True) := by
 have hbP := bd_pos n
 have hbB := bd_big (n := n) (by omega)
 refine WX.enter (tt := tt) (Γ := []) Try.func90 rfl (by kernel_rfl) rfl allS_nil ?_
 refine R0 ?_
 refine WX.callV rfl rfl rfl rfl rfl (fun _ => rfl) rfl (fun w G bs hI hΓ => f91 w n (by omega) p_ hokp_) ?_
 intro hq1
 refine R0 ?_
 have hP1 : impl_ValidName_c1 p_ = (!(impl_ValidPart p_)) := by simp only [impl_ValidName_c1, ct, cf]
 exact R3 hP1
theorem f70 (w : World) (n : Nat) (hn : n + 0 ≤ 9) (n_ : Name) (K0 : Option Addr) (M0 : Nat) (N0 : RdSl (hp w) K0 M0 n_.parts) (hokn_ : GoT.ok n n_) :
  Does Try.prog 70 #[.agg #[.slice K0 ((n_.parts).length) M0]] w emp (fun (rv : Value) (_ : World) => rv = .bool (impl_ValidName n_) ∧ True) := by
 have hbP := bd_pos n
 have hbB := bd_big (n := n) (by omega)
 refine WX.enter (tt := tt) (Γ := [(0, MF.rs .stb K0 M0 n_.parts)]) Try.func70 rfl (by kernel_rfl) rfl (allS_cons rfl N0 allS_nil) ?_
 refine R0 ?_
 refine WX.cases 7 rfl (fun h1 => ?_) (fun h1 => ?_)
 ·skip
  have h1d := B.dt h1
  refine R0 ?_
  refine WX.callV rfl rfl rfl rfl rfl (fun _ => rfl) rfl (fun w G bs hI hΓ => f89 w n (by omega) n_.parts K0 M0 (hΓ.get 0 rfl) 90 [] (fun e0_ => (impl_ValidName_c1 e0_)) (fun w1_ hb_ e0_ x0_ hk0_ hx0_ => f90 w1_ n (by omega) e0_ hk0_) (ok_Name hokn_)) ?_
  intro hq1
  refine R0 ?_
  have hP1 : impl_ValidName n_ = (!(slices_ContainsFunc_string n_.parts (fun e0_ => (impl_ValidName_c1 e0_)))) := by simp only [impl_ValidName, h1, ct, cf]
  exact R3 hP1
 ·skip
  have h1d := B.df h1
  refine R0 ?_
  have hP2 : impl_ValidName n_ = false := by simp only [impl_ValidName, h1, ct, cf]
  exact R3 hP2
theorem f72 (w : World) (n : Nat) (hn : n + 0 ≤ 9) (n_ : Name) (K0 : Option Addr) (M0 : Nat) (N0 : RdSl (hp w) K0 M0 n_.parts) (hokn_ : GoT.ok n n_) :
  Does Try.prog 72 #[.agg #[.slice K0 ((n_.parts).length) M0]] w emp (fun (rv : Value) (_ : World) => rv = .bool (spec_ValidName n_) ∧ True) := by
 have hbP := bd_pos n
 have hbB := bd_big (n := n) (by omega)
 refine WX.enter (tt := tt) (Γ := [(0, MF.rs .stb K0 M0 n_.parts)]) Try.func72 rfl (by kernel_rfl) rfl (allS_cons rfl N0 allS_nil) ?_
 refine R0 ?_
 have r1 : (n_.parts).length ≤ bd n := (okl (ok_Name hokn_)).1
 refine WX.loop (ι := Nat) ⟨fun i => (i ≤ (n_.parts).length) ∧ (spec_ValidName_L1 n_.parts = spec_ValidName_L1 ((n_.parts).drop i)), fun i => (n_.parts).length - i, fun i => [(3, .v (.int .i64 (((i : Nat) : Int)))), (1, .p 1 0)], fun i => [(1, ⟨41, [.slice K0 ((n_.parts).length) M0]⟩)], fun i => [], fun i => [(0, MF.rs .stb K0 M0 n_.parts)]⟩ 0 ⟨(Nat.zero_le _), rfl⟩
  (.cons rfl (.cons rfl (.nil))) (.cons rfl (.nil)) .nil [0] rfl ?_
 rintro i hpre
 have hpre_ : (i ≤ (n_.parts).length) ∧ (spec_ValidName_L1 n_.parts = spec_ValidName_L1 ((n_.parts).drop i)) := hpre
 clear hpre
 obtain ⟨v1, v2⟩ := hpre_
 refine R0 ?_
 refine WX.cases 8 rfl (fun h1 => ?_) (fun h1 => ?_)
 ·skip
  have h1d := B.dt h1
  have e1i : i < (n_.parts).length := (by omega)
  obtain ⟨e1, e1h⟩ : ∃ e1, (n_.parts)[i]? = some e1 := ⟨_, List.getElem?_eq_getElem e1i⟩
  have ok1 : GoT.ok n e1 := (okl (ok_Name hokn_)).2 _ (List.mem_of_getElem? e1h)
  refine R0 ?_
  refine WX.idx 0 i ttOk rfl rfl rfl rfl rfl rfl rfl rfl rfl rfl e1i ?_
  rintro ad1 rfl
  refine WX.ldE 0 1 e1 ttOk rfl rfl rfl rfl rfl rfl rfl rfl e1h (fun _ => rfl) (fun _ => rfl) ?_
  rintro ⟨⟩
  refine WX.callV rfl rfl rfl rfl rfl (fun _ => rfl) rfl (fun w G bs hI hΓ => f92 w n (by omega) e1 ok1) ?_
  intro hq1
  refine R0 ?_
  refine WX.cases 17 rfl (fun h2 => ?_) (fun h2 => ?_)
  ·skip
   have h2d := (B.nt h2)
   refine R0 ?_
   have hP1 : spec_ValidName_L1 n_.parts = (some false) := by rw [v2, drop_get e1h]; simp only [spec_ValidName_L1, h2, ct, cf]
   have hP2 : spec_ValidName n_ = false := by simp only [spec_ValidName, hP1, ct, cf]
   exact R3 hP2
  ·skip
   have h2d := (B.nf h2)
   refine R0 ?_
   refine WX.see rfl rfl rfl (fun _ hΓ => looks_arith rfl rfl rfl rfl (by unfold I64; first | omega | (simp only [List.length_take] at *; omega))) ?_
   refine R0 ?_
   exact WX.iter (i + 1) ⟨(by omega), (by rw [v2, drop_get e1h]; simp only [spec_ValidName_L1, h2, ct, cf])⟩ (by first | (dsimp only; omega) | omega) (.cons rfl (.cons rfl (.nil))) (.cons rfl (.nil)) .nil [0] rfl
 ·skip
  have h1d := B.df h1
  refine R0 ?_
  have hX1 : spec_ValidName_L1 n_.parts = none := by rw [v2, List.drop_eq_nil_of_le (show (n_.parts).length ≤ i by omega)]; simp only [spec_ValidName_L1, ct, cf]
  have hP3 : spec_ValidName n_ = (decide ((((n_.parts).length : Nat) : Int) ≤ 6)) := by simp only [spec_ValidName, hX1, ct, cf]
  exact R3 hP3
end Go.Proofs.Ytdimfabadjfkiaa

namespace Go.Stp
set_option linter.unusedVariables false
set_option linter.unusedSimpArgs false
def cmp_isNaN_string (x_ : Str) : Bool :=
  (!((x_).toList == (x_).toList))
def cmp_Compare_string (x_ : Str) (y : Str) : Int :=
  bif (cmp_isNaN_string x_) then
    bif (cmp_isNaN_string y) then
      0
    else
      (-1)
  else
    bif (cmp_isNaN_string y) then
      1
    else
      bif (Op.bytesLess (x_).toList (y).toList) then
        (-1)
      else
        bif (!(Op.bytesLess (x_).toList (y).toList || (x_).toList == (y).toList)) then
          1
        else
          0
def slices_Compare_string_L1 (s2 : (List Str)) : List Str → Nat → Option (Int)
  | [], i => none
  | e1 :: rest_, i =>
    bif decide (((i : Nat) : Int) ≥ (((s2).length : Nat) : Int)) then
      (some 1)
    else
      match (s2)[i]? with
        | none => default
        | some e2 =>
          bif ((cmp_Compare_string e1 e2) != 0) then
            (some (cmp_Compare_string e1 e2))
          else
            slices_Compare_string_L1 s2 rest_ (i + 1)
def slices_Compare_string (s1 : (List Str)) (s2 : (List Str)) : Int :=
  match slices_Compare_string_L1 s2 s1 0 with
    | some r_ => r_
    | none =>
      bif decide ((((s1).length : Nat) : Int) < (((s2).length : Nat) : Int)) then
        (-1)
      else
        0
def impl_CompareNames (a : Name) (b : Name) : Int :=
  (slices_Compare_string a.parts b.parts)
def impl_ValidTable_L1 (l : (List TableEntry)) : List TableEntry → Nat → Option (Bool)
  | [], i => none
  | e1 :: rest_, i =>
    bif (!(impl_ValidName e1.name)) then
      (some false)
    else
      bif decide (((i : Nat) : Int) > 0) then
        match (l)[(((i : Nat) : Int) - 1).toNat]? with
          | none => default
          | some e2 =>
            bif decide ((impl_CompareNames e2.name e1.name) ≥ 0) then
              (some false)
            else
              impl_ValidTable_L1 l rest_ (i + 1)
      else
        impl_ValidTable_L1 l rest_ (i + 1)
def impl_ValidTable (l : (List TableEntry)) : Bool :=
  match impl_ValidTable_L1 l l 0 with
    | some r_ => r_
    | none =>
      (decide ((((l).length : Nat) : Int) ≤ 20))
def spec_ValidTable_L1 (l : (List TableEntry)) : List TableEntry → Nat → Option (Bool)
  | [], i => none
  | e1 :: rest_, i =>
    bif (!(spec_ValidName e1.name)) then
      (some false)
    else
      bif decide (((i : Nat) : Int) > 0) then
        match (l)[(((i : Nat) : Int) - 1).toNat]? with
          | none => default
          | some e2 =>
            bif decide ((spec_CompareNames e2.name e1.name) ≥ 0) then
              (some false)
            else
              spec_ValidTable_L1 l rest_ (i + 1)
      else
        spec_ValidTable_L1 l rest_ (i + 1)
def spec_ValidTable (l : (List TableEntry)) : Bool :=
  match spec_ValidTable_L1 l l 0 with
    | some r_ => r_
    | none =>
      (decide ((((l).length : Nat) : Int) ≤ 20))
def slices_IndexFunc_TableEntry_L1 (fq : TableEntry → Bool) : List TableEntry → Nat → Option (Int)
  | [], i => none
  | e1 :: rest_, i =>
    bif fq e1 then
      (some ((i : Nat) : Int))
    else
      slices_IndexFunc_TableEntry_L1 fq rest_ (i + 1)
def slices_IndexFunc_TableEntry (s : (List TableEntry)) (fq : TableEntry → Bool) : Int :=
  match slices_IndexFunc_TableEntry_L1 fq s 0 with
    | some r_ => r_
    | none =>
      (-1)
def slices_ContainsFunc_TableEntry (s : (List TableEntry)) (fq : TableEntry → Bool) : Bool :=
  (decide ((slices_IndexFunc_TableEntry s fq) ≥ 0))
def impl_ValidVector_c1 (e_ : TableEntry) : Bool :=
  (!(impl_InRange e_.value 1 1000))
def impl_ValidVector (v : StateVector) : Bool :=
  bif (impl_ValidTable v.entries) then
    (!(slices_ContainsFunc_TableEntry v.entries (fun e0_ => (impl_ValidVector_c1 e0_))))
  else
    false
def spec_ValidVector_L1 : List TableEntry → Option (Bool)
  | [] => none
  | e1 :: rest_ =>
    bif (!(spec_l1In e1.value 1 1000)) then
      (some false)
    else
      spec_ValidVector_L1 rest_
def spec_ValidVector (v : StateVector) : Bool :=
  match spec_ValidVector_L1 v.entries with
    | some r_ => r_
    | none =>
      (spec_ValidTable v.entries)
end Go.Stp

namespace Go.Proofs.Ytdimfabadjfkiaa
open Go.Stp
set_option linter.unusedVariables false
set_option linter.unusedSimpArgs false
theorem f106 (w : World) (n : Nat) (hn : n + 0 ≤ 9) (x_ : Str) (hokx_ : GoT.ok n x_) :
  Does Try.prog 106 #[.string x_] w emp (fun (rv : Value) (_ : World) => rv = .bool (cmp_isNaN_string x_) ∧ True) := by
 refine WX.enter (tt := tt) (Γ := []) Try.func106 rfl (by kernel_rfl) rfl allS_nil ?_
 refine R0 ?_
 have hP1 : cmp_isNaN_string x_ = (!((x_).toList == (x_).toList)) := by simp only [cmp_isNaN_string, ct, cf]
 exact R3 hP1
theorem f104 (w : World) (n : Nat) (hn : n + 0 ≤ 9) (x_ : Str) (y : Str) (hokx_ : GoT.ok n x_) (hoky : GoT.ok n y) :
  Does Try.prog 104 #[.string x_, .string y] w emp (fun (rv : Value) (_ : World) => rv = .int .i64 ((cmp_Compare_string x_ y)) ∧ GoT.ok n ((cmp_Compare_string x_ y) : Int)) := by
 have hbP := bd_pos n
 have hbB := bd_big (n := n) (by omega)
 refine WX.enter (tt := tt) (Γ := []) Try.func104 rfl (by kernel_rfl) rfl allS_nil ?_
 refine R0 ?_
 refine WX.callV rfl rfl rfl rfl rfl (fun _ => rfl) rfl (fun w G bs hI hΓ => f106 w n (by omega) x_ hokx_) ?_
 intro hq1
 refine R0 ?_
 refine WX.callV rfl rfl rfl rfl rfl (fun _ => rfl) rfl (fun w G bs hI hΓ => f106 w n (by omega) y hoky) ?_
 intro hq2
 refine R0 ?_
 refine WX.cases 11 rfl (fun h1 => ?_) (fun h1 => ?_)
 ·skip
  refine R0 ?_
  refine WX.cases 12 rfl (fun h2 => ?_) (fun h2 => ?_)
  ·skip
   refine R0 ?_
   have hP1 : cmp_Compare_string x_ y = 0 := by simp only [cmp_Compare_string, h1, h2, ct, cf]
   refine R1 ?_
   intro w1 G bs hI hΓ
   rw [hP1]
   exact ⟨rfl, (show I64 0 from (by unfold I64; omega))⟩
  ·skip
   refine R0 ?_
   have hP2 : cmp_Compare_string x_ y = (-1) := by simp only [cmp_Compare_string, h1, h2, ct, cf]
   refine R1 ?_
   intro w1 G bs hI hΓ
   rw [hP2]
   exact ⟨rfl, (show I64 (-1) from (by unfold I64; omega))⟩
 ·skip
  refine R0 ?_
  refine WX.cases 13 rfl (fun h3 => ?_) (fun h3 => ?_)
  ·skip
   refine R0 ?_
   have hP3 : cmp_Compare_string x_ y = 1 := by simp only [cmp_Compare_string, h1, h3, ct, cf]
   refine R1 ?_
   intro w1 G bs hI hΓ
   rw [hP3]
   exact ⟨rfl, (show I64 1 from (by unfold I64; omega))⟩
  ·skip
   refine R0 ?_
   refine WX.cases 16 rfl (fun h4 => ?_) (fun h4 => ?_)
   ·skip
    refine R0 ?_
    have hP4 : cmp_Compare_string x_ y = (-1) := by simp only [cmp_Compare_string, h1, h3, h4, ct, cf]
    refine R1 ?_
    intro w1 G bs hI hΓ
    rw [hP4]
    exact ⟨rfl, (show I64 (-1) from (by unfold I64; omega))⟩
   ·skip
    refine R0 ?_
    refine WX.cases 19 rfl (fun h5 => ?_) (fun h5 => ?_)
    ·skip
     refine R0 ?_
     have hP5 : cmp_Compare_string x_ y = 1 := by first | (simp only [cmp_Compare_string, h1, h3, h4, h5, ct, cf]; done) | (unfold cmp_Compare_string; rw [h5, h4, h3, h1]; simp only [ct, cf])
     refine R1 ?_
     intro w1 G bs hI hΓ
     rw [hP5]
     exact ⟨rfl, (show I64 1 from (by unfold I64; omega))⟩
    ·skip
     refine R0 ?_
     have hP6 : cmp_Compare_string x_ y = 0 := by first | (simp only [cmp_Compare_string, h1, h3, h4, h5, ct, cf]; done) | (unfold cmp_Compare_string; rw [h5, h4, h3, h1]; simp only [ct, cf])
     refine R1 ?_
     intro w1 G bs hI hΓ
     rw [hP6]
     exact ⟨rfl, (show I64 0 from (by unfold I64; omega))⟩
theorem f96 (w : World) (n : Nat) (hn : n + 0 ≤ 9) (s1 : (List Str)) (K0 : Option Addr) (M0 : Nat) (N0 : RdSl (hp w) K0 M0 s1) (s2 : (List Str)) (K1 : Option Addr) (M1 : Nat) (N1 : RdSl (hp w) K1 M1 s2) (hoks1 : GoT.ok n s1) (hoks2 : GoT.ok n s2) :
  Does Try.prog 96 #[.slice K0 ((s1).length) M0, .slice K1 ((s2).length) M1] w emp (fun (rv : Value) (_ : World) => rv = .int .i64 ((slices_Compare_string s1 s2)) ∧ GoT.ok n ((slices_Compare_string s1 s2) : Int)) := by
 have hbP := bd_pos n
 have hbB := bd_big (n := n) (by omega)
 refine WX.enter (tt := tt) (Γ := [(0, MF.rs .stb K0 M0 s1), (1, MF.rs .stb K1 M1 s2)]) Try.func96 rfl (by kernel_rfl) rfl (allS_cons rfl N0 (allS_cons rfl N1 allS_nil)) ?_
 refine R0 ?_
 have r1 : (s1).length ≤ bd n := (okl hoks1).1
 refine WX.loop (ι := Nat) ⟨fun i => (i ≤ (s1).length) ∧ (slices_Compare_string_L1 s2 s1 0 = slices_Compare_string_L1 s2 ((s1).drop i) i), fun i => (s1).length - i, fun i => [(11, .v (.int .i64 (((i : Nat) : Int)))), (10, .v (.int .i64 ((((s1).length : Nat) : Int)))), (9, .v (.slice K0 ((s1).length) M0)), (0, .v (.slice K0 ((s1).length) M0)), (1, .v (.slice K1 ((s2).length) M1))], fun i => [], fun i => [], fun i => [(0, MF.rs .stb K0 M0 s1), (1, MF.rs .stb K1 M1 s2)]⟩ 0 ⟨(Nat.zero_le _), rfl⟩
  (.cons rfl (.cons rfl (.cons rfl (.cons rfl (.cons rfl (.nil)))))) .nil .nil [0, 1] rfl ?_
 rintro i hpre
 have hpre_ : (i ≤ (s1).length) ∧ (slices_Compare_string_L1 s2 s1 0 = slices_Compare_string_L1 s2 ((s1).drop i) i) := hpre
 clear hpre
 obtain ⟨v1, v2⟩ := hpre_
 refine R0 ?_
 refine WX.cases 12 rfl (fun h1 => ?_) (fun h1 => ?_)
 ·skip
  have h1d := B.dt h1
  have e1i : i < (s1).length := (by omega)
  obtain ⟨e1, e1h⟩ : ∃ e1, (s1)[i]? = some e1 := ⟨_, List.getElem?_eq_getElem e1i⟩
  have ok1 : GoT.ok n e1 := (okl hoks1).2 _ (List.mem_of_getElem? e1h)
  refine R0 ?_
  refine WX.idx 0 i ttOk rfl rfl rfl rfl rfl rfl rfl rfl rfl rfl e1i ?_
  rintro ad1 rfl
  refine WX.ldE 0 2 e1 ttOk rfl rfl rfl rfl rfl rfl rfl rfl e1h (fun _ => rfl) (fun _ => rfl) ?_
  rintro ⟨⟩
  refine R0 ?_
  refine WX.cases 19 rfl (fun h2 => ?_) (fun h2 => ?_)
  ·skip
   have h2d := B.dt h2
   refine R0 ?_
   have hP1 : slices_Compare_string_L1 s2 s1 0 = (some 1) := by rw [v2, drop_get e1h]; simp only [slices_Compare_string_L1, h2, ct, cf]
   have hP2 : slices_Compare_string s1 s2 = 1 := by simp only [slices_Compare_string, hP1, ct, cf]
   refine R1 ?_
   intro w1 G bs hI hΓ
   rw [hP2]
   exact ⟨rfl, (show I64 1 from (by unfold I64; omega))⟩
  ·skip
   have h2d := B.df h2
   refine R0 ?_
   have e2i : i < (s2).length := (by first | assumption | omega)
   obtain ⟨e2, e2h⟩ : ∃ e2, (s2)[i]? = some e2 := ⟨_, List.getElem?_eq_getElem e2i⟩
   have ok2 : GoT.ok n e2 := (okl hoks2).2 _ (List.mem_of_getElem? e2h)
   refine WX.idx 1 i ttOk rfl rfl rfl rfl rfl rfl rfl rfl rfl rfl e2i ?_
   rintro ad2 rfl
   refine WX.ldE 1 2 e2 ttOk rfl rfl rfl rfl rfl rfl rfl rfl e2h (fun _ => rfl) (fun _ => rfl) ?_
   rintro ⟨⟩
   refine R0 ?_
   refine WX.callV rfl rfl rfl rfl rfl (fun _ => rfl) rfl (fun w G bs hI hΓ => f104 w n (by omega) e1 e2 ok1 ok2) ?_
   intro hq1
   refine R0 ?_
   refine WX.cases 28 rfl (fun h3 => ?_) (fun h3 => ?_)
   ·skip
    have h3d := B.nt' h3
    refine R0 ?_
    have hP3 : slices_Compare_string_L1 s2 s1 0 = (some (cmp_Compare_string e1 e2)) := by rw [v2, drop_get e1h]; simp only [slices_Compare_string_L1, h2, e2h, h3, ct, cf]
    have hP4 : slices_Compare_string s1 s2 = (cmp_Compare_string e1 e2) := by simp only [slices_Compare_string, hP3, ct, cf]
    refine R1 ?_
    intro w1 G bs hI hΓ
    rw [hP4]
    exact ⟨rfl, hq1⟩
   ·skip
    have h3d := B.nf' h3
    refine R0 ?_
    refine WX.see rfl rfl rfl (fun _ hΓ => looks_arith rfl rfl rfl rfl (by unfold I64; first | omega | (simp only [List.length_take] at *; omega))) ?_
    refine R0 ?_
    exact WX.iter (i + 1) ⟨(by omega), (by rw [v2, drop_get e1h]; simp only [slices_Compare_string_L1, h2, e2h, h3, ct, cf])⟩ (by first | (dsimp only; omega) | omega) (.cons rfl (.cons rfl (.cons rfl (.cons rfl (.cons rfl (.nil)))))) .nil .nil [0, 1] rfl
 ·skip
  have h1d := B.df h1
  refine R0 ?_
  have hX1 : slices_Compare_string_L1 s2 s1 0 = none := by rw [v2, List.drop_eq_nil_of_le (show (s1).length ≤ i by omega)]; simp only [slices_Compare_string_L1, ct, cf]
  refine WX.cases 35 rfl (fun h4 => ?_) (fun h4 => ?_)
  ·skip
   have h4d := B.dt h4
   refine R0 ?_
   have hP5 : slices_Compare_string s1 s2 = (-1) := by simp only [slices_Compare_string, hX1, h4, ct, cf]
   refine R1 ?_
   intro w1 G bs hI hΓ
   rw [hP5]
   exact ⟨rfl, (show I64 (-1) from (by unfold I64; omega))⟩
  ·skip
   have h4d := B.df h4
   refine R0 ?_
   have hP6 : slices_Compare_string s1 s2 = 0 := by simp only [slices_Compare_string, hX1, h4, ct, cf]
   refine R1 ?_
   intro w1 G bs hI hΓ
   rw [hP6]
   exact ⟨rfl, (show I64 0 from (by unfold I64; omega))⟩
theorem f80 (w : World) (n : Nat) (hn : n + 0 ≤ 9) (a : Name) (pa : Option Addr) (ca : Nat) (N0 : RdSl (hp w) pa ca a.parts) (b : Name) (pb : Option Addr) (cb : Nat) (N1 : RdSl (hp w) pb cb b.parts) (hoka : GoT.ok n a) (hokb : GoT.ok n b) :
  Does Try.prog 80 #[.agg #[.slice pa ((a.parts).length) ca], .agg #[.slice pb ((b.parts).length) cb]] w emp (fun (rv : Value) (_ : World) => rv = .int .i64 ((impl_CompareNames a b)) ∧ GoT.ok n ((impl_CompareNames a b) : Int)) := by
 have hbP := bd_pos n
 have hbB := bd_big (n := n) (by omega)
 refine WX.enter (tt := tt) (Γ := [(0, MF.rs .stb pa ca a.parts), (1, MF.rs .stb pb cb b.parts)]) Try.func80 rfl (by kernel_rfl) rfl (allS_cons rfl N0 (allS_cons rfl N1 allS_nil)) ?_
 refine R0 ?_
 refine WX.callV rfl rfl rfl rfl rfl (fun _ => rfl) rfl (fun w G bs hI hΓ => f96 w n (by omega) a.parts pa ca (hΓ.get 0 rfl) b.parts pb cb (hΓ.get 1 rfl) (ok_Name hoka) (ok_Name hokb)) ?_
 intro hq1
 refine R0 ?_
 have hP1 : impl_CompareNames a b = (slices_Compare_string a.parts b.parts) := by simp only [impl_CompareNames, ct, cf]
 refine R1 ?_
 intro w1 G bs hI hΓ
 rw [hP1]
 exact ⟨rfl, hq1⟩
theorem f61 (w : World) (n : Nat) (hn : n + 0 ≤ 9) (l : (List TableEntry)) (pl : Option Addr) (cl : Nat) (N0 : RdSl (hp w) pl cl l) (hokl : GoT.ok n l) :
  Does Try.prog 61 #[.slice pl ((l).length) cl] w emp (fun (rv : Value) (_ : World) => rv = .bool (impl_ValidTable l) ∧ True) := by
 have hbP := bd_pos n
 have hbB := bd_big (n := n) (by omega)
 refine WX.enter (tt := tt) (Γ := [(0, MF.rs .stb pl cl l)]) Try.func61 rfl (by kernel_rfl) rfl (allS_cons rfl N0 allS_nil) ?_
 refine R0 ?_
 have r1 : (l).length ≤ bd n := (okl hokl).1
 refine WX.loop (ι := Nat) ⟨fun i => (i ≤ (l).length) ∧ (impl_ValidTable_L1 l l 0 = impl_ValidTable_L1 l ((l).drop i) i), fun i => (l).length - i, fun i => [(7, .v (.int .i64 (((i : Nat) : Int)))), (6, .v (.int .i64 ((((l).length : Nat) : Int)))), (5, .v (.slice pl ((l).length) cl)), (0, .v (.slice pl ((l).length) cl))], fun i => [], fun i => [], fun i => [(0, MF.rs .stb pl cl l)]⟩ 0 ⟨(Nat.zero_le _), rfl⟩
  (.cons rfl (.cons rfl (.cons rfl (.cons rfl (.nil))))) .nil .nil [0] rfl ?_
 rintro i hpre
 have hpre_ : (i ≤ (l).length) ∧ (impl_ValidTable_L1 l l 0 = impl_ValidTable_L1 l ((l).drop i) i) := hpre
 clear hpre
 obtain ⟨v1, v2⟩ := hpre_
 refine R0 ?_
 refine WX.cases 8 rfl (fun h1 => ?_) (fun h1 => ?_)
 ·skip
  have h1d := B.dt h1
  have e1i : i < (l).length := (by omega)
  obtain ⟨e1, e1h⟩ : ∃ e1, (l)[i]? = some e1 := ⟨_, List.getElem?_eq_getElem e1i⟩
  have ok1 : GoT.ok n e1 := (okl hokl).2 _ (List.mem_of_getElem? e1h)
  refine R0 ?_
  refine WX.idx 0 i ttOk rfl rfl rfl rfl rfl rfl rfl rfl rfl rfl e1i ?_
  rintro ad1 rfl
  refine WX.ldE 0 1 e1 ttOk rfl rfl rfl rfl rfl rfl rfl rfl e1h (fun _ => rfl) (fun _ => rfl) ?_
  rintro ⟨⟨p1, c1⟩, ⟨⟩⟩
  refine R0 ?_
  refine WX.draw [] mixed ?_
  intro bs G0 hΓ0
  refine DX.takes (fuel := 18) ttOk [(0, true), (1, false)] (by kernel_rfl) rfl ?_
  refine DX.callV 2 rfl (by kernel_rfl) rfl rfl rfl rfl rfl rfl (fun _ => rfl) rfl (fun w G bs hI hΓ => f70 w n (by omega) e1.name p1 c1 (hΓ.get 1 rfl) ((ok_TableEntry ok1).1)) ?_
  intro hq1
  refine DX.takes (fuel := 15) ttOk [(3, true), (4, true)] (by kernel_rfl) rfl ?_
  refine DX.cases 16 rfl (fun h2 => ?_) (fun h2 => ?_)
  ·skip
   have h2d := (B.nt h2)
   refine DX.takes (fuel := 0) ttOk [(5, true), (6, true), (7, true), (8, true), (9, true), (10, true), (11, true), (12, true), (13, true), (14, true), (15, true), (16, true), (17, true), (18, true), (19, true)] (by kernel_rfl) rfl ?_
   refine DX.tail2 [] rfl rfl (by kernel_rfl) ?_
   refine R0 ?_
   have hP1 : impl_ValidTable_L1 l l 0 = (some false) := by rw [v2, drop_get e1h]; simp only [impl_ValidTable_L1, h2, ct, cf]
   have hP2 : impl_ValidTable l = false := by simp only [impl_ValidTable, hP1, ct, cf]
   exact R3 hP2
  ·skip
   have h2d := (B.nf h2)
   refine DX.takes (fuel := 12) ttOk [(5, true), (6, true), (7, true)] (by kernel_rfl) rfl ?_
   refine DX.cases 19 rfl (fun h3 => ?_) (fun h3 => ?_)
   ·skip
    have h3d := B.dt h3
    refine DX.takes (fuel := 10) ttOk [(8, true), (9, true)] (by kernel_rfl) rfl ?_
    refine DX.seeP 10 (by kernel_rfl) rfl rfl rfl rfl (looksP_arith rfl rfl rfl rfl (by unfold I64; first | omega | (simp only [List.length_take] at *; omega))) ?_
    refine DX.slot 22 (y := .v (.int .i64 (((((i : Nat) : Int) - 1).toNat : Nat) : Int))) rfl (fun _ => congrArg (Value.int .i64) (show ((i : Nat) : Int) - 1 = (((((i : Nat) : Int) - 1).toNat : Nat) : Int) from by omega)) ?_
    have e2i : (((i : Nat) : Int) - 1).toNat < (l).length := (by first | assumption | omega)
    obtain ⟨e2, e2h⟩ : ∃ e2, (l)[(((i : Nat) : Int) - 1).toNat]? = some e2 := ⟨_, List.getElem?_eq_getElem e2i⟩
    have ok2 : GoT.ok n e2 := (okl hokl).2 _ (List.mem_of_getElem? e2h)
    refine DX.idx 11 0 ((((i : Nat) : Int) - 1).toNat) ttOk hΓ0 (by kernel_rfl) rfl rfl rfl rfl rfl rfl rfl rfl rfl rfl rfl e2i ?_
    rintro ad2 ⟨⟩
    refine DX.takes (fuel := 7) ttOk [(12, true)] (by kernel_rfl) rfl ?_
    refine DX.ldE 13 0 2 e2 ttOk hΓ0 (by kernel_rfl) rfl rfl rfl rfl rfl rfl rfl rfl e2h (fun _ => rfl) (fun _ => rfl) ?_
    rintro ⟨⟨p2, c2⟩, ⟨⟩⟩
    refine DX.takes (fuel := 4) ttOk [(14, true), (15, false)] (by kernel_rfl) rfl ?_
    refine DX.callV 16 rfl (by kernel_rfl) rfl rfl rfl rfl rfl rfl (fun _ => rfl) rfl (fun w G bs hI hΓ => f80 w n (by omega) e2.name p2 c2 (hΓ.get 2 rfl) e1.name p1 c1 (hΓ.get 1 rfl) ((ok_TableEntry ok2).1) ((ok_TableEntry ok1).1)) ?_
    intro hq2
    refine DX.takes (fuel := 0) ttOk [(17, true), (18, true), (19, true)] (by kernel_rfl) rfl ?_
    refine DX.tail2 [] rfl rfl (by kernel_rfl) ?_
    refine R0 ?_
    refine WX.cases 31 rfl (fun h4 => ?_) (fun h4 => ?_)
    ·skip
     have h4d := B.dt h4
     refine R0 ?_
     have hP3 : impl_ValidTable_L1 l l 0 = (some false) := by rw [v2, drop_get e1h]; simp only [impl_ValidTable_L1, h2, h3, e2h, h4, ct, cf]
     have hP4 : impl_ValidTable l = false := by simp only [impl_ValidTable, hP3, ct, cf]
     exact R3 hP4
    ·skip
     have h4d := B.df h4
     refine R0 ?_
     refine WX.see rfl rfl rfl (fun _ hΓ => looks_arith rfl rfl rfl rfl (by unfold I64; first | omega | (simp only [List.length_take] at *; omega))) ?_
     refine R0 ?_
     exact WX.iter (i + 1) ⟨(by omega), (by rw [v2, drop_get e1h]; simp only [impl_ValidTable_L1, h2, h3, e2h, h4, ct, cf])⟩ (by first | (dsimp only; omega) | omega) (.cons rfl (.cons rfl (.cons rfl (.cons rfl (.nil))))) .nil .nil [0] rfl
   ·skip
    have h3d := B.df h3
    refine DX.takes (fuel := 0) ttOk [(8, true), (9, true), (10, true), (11, true), (12, true), (13, true), (14, true), (15, true), (16, true), (17, true), (18, true), (19, true)] (by kernel_rfl) rfl ?_
    refine DX.tail2 [] rfl rfl (by kernel_rfl) ?_
    refine R0 ?_
    refine WX.see rfl rfl rfl (fun _ hΓ => looks_arith rfl rfl rfl rfl (by unfold I64; first | omega | (simp only [List.length_take] at *; omega))) ?_
    refine R0 ?_
    exact WX.iter (i + 1) ⟨(by omega), (by rw [v2, drop_get e1h]; simp only [impl_ValidTable_L1, h2, h3, ct, cf])⟩ (by first | (dsimp only; omega) | omega) (.cons rfl (.cons rfl (.cons rfl (.cons rfl (.nil))))) .nil .nil [0] rfl
 ·skip
  have h1d := B.df h1
  refine R0 ?_
  have hX1 : impl_ValidTable_L1 l l 0 = none := by rw [v2, List.drop_eq_nil_of_le (show (l).length ≤ i by omega)]; simp only [impl_ValidTable_L1, ct, cf]
  have hP5 : impl_ValidTable l = (decide ((((l).length : Nat) : Int) ≤ 20)) := by simp only [impl_ValidTable, hX1, ct, cf]
  exact R3 hP5
theorem f65 (w : World) (n : Nat) (hn : n + 0 ≤ 9) (l : (List TableEntry)) (pl : Option Addr) (cl : Nat) (N0 : RdSl (hp w) pl cl l) (hokl : GoT.ok n l) :
  Does Try.prog 65 #[.slice pl ((l).length) cl] w emp (fun (rv : Value) (_ : World) => rv = .bool (spec_ValidTable l) ∧ True) := by
 have hbP := bd_pos n
 have hbB := bd_big (n := n) (by omega)
 refine WX.enter (tt := tt) (Γ := [(0, MF.rs .stb pl cl l)]) Try.func65 rfl (by kernel_rfl) rfl (allS_cons rfl N0 allS_nil) ?_
 refine R0 ?_
 have r1 : (l).length ≤ bd n := (okl hokl).1
 refine WX.loop (ι := Nat) ⟨fun i => (i ≤ (l).length) ∧ (spec_ValidTable_L1 l l 0 = spec_ValidTable_L1 l ((l).drop i) i), fun i => (l).length - i, fun i => [(3, .v (.int .i64 (((i : Nat) : Int)))), (0, .v (.slice pl ((l).length) cl))], fun i => [], fun i => [], fun i => [(0, MF.rs .stb pl cl l)]⟩ 0 ⟨(Nat.zero_le _), rfl⟩
  (.cons rfl (.cons rfl (.nil))) .nil .nil [0] rfl ?_
 rintro i hpre
 have hpre_ : (i ≤ (l).length) ∧ (spec_ValidTable_L1 l l 0 = spec_ValidTable_L1 l ((l).drop i) i) := hpre
 clear hpre
 obtain ⟨v1, v2⟩ := hpre_
 refine R0 ?_
 refine WX.cases 7 rfl (fun h1 => ?_) (fun h1 => ?_)
 ·skip
  have h1d := B.dt h1
  have e1i : i < (l).length := (by omega)
  obtain ⟨e1, e1h⟩ : ∃ e1, (l)[i]? = some e1 := ⟨_, List.getElem?_eq_getElem e1i⟩
  have ok1 : GoT.ok n e1 := (okl hokl).2 _ (List.mem_of_getElem? e1h)
  refine R0 ?_
  refine WX.draw [] mixed ?_
  intro bs G0 hΓ0
  refine DX.takes (fuel := 24) ttOk [(0, true), (1, true)] (by kernel_rfl) rfl ?_
  refine DX.idx 2 0 i ttOk hΓ0 (by kernel_rfl) rfl rfl rfl rfl rfl rfl rfl rfl rfl rfl rfl e1i ?_
  rintro ad1 rfl
  refine DX.takes (fuel := 22) ttOk [(3, true)] (by kernel_rfl) rfl ?_
  refine DX.ldE 4 0 1 e1 ttOk hΓ0 (by kernel_rfl) rfl rfl rfl rfl rfl rfl rfl rfl e1h (fun _ => rfl) (fun _ => rfl) ?_
  rintro ⟨⟨p1, c1⟩, ⟨⟩⟩
  refine DX.callV 5 rfl (by kernel_rfl) rfl rfl rfl rfl rfl rfl (fun _ => rfl) rfl (fun w G bs hI hΓ => f72 w n (by omega) e1.name p1 c1 (hΓ.get 1 rfl) ((ok_TableEntry ok1).1)) ?_
  intro hq1
  refine DX.takes (fuel := 18) ttOk [(6, true), (7, true)] (by kernel_rfl) rfl ?_
  refine DX.cases 17 rfl (fun h2 => ?_) (fun h2 => ?_)
  ·skip
   have h2d := (B.nt h2)
   refine DX.takes (fuel := 0) ttOk [(8, true), (9, true), (10, true), (11, true), (12, true), (13, true), (14, true), (15, true), (16, true), (17, true), (18, true), (19, true), (20, true), (21, true), (22, true), (23, true), (24, true), (25, true)] (by kernel_rfl) rfl ?_
   refine DX.tail2 [] rfl rfl (by kernel_rfl) ?_
   refine R0 ?_
   have hP1 : spec_ValidTable_L1 l l 0 = (some false) := by rw [v2, drop_get e1h]; simp only [spec_ValidTable_L1, h2, ct, cf]
   have hP2 : spec_ValidTable l = false := by simp only [spec_ValidTable, hP1, ct, cf]
   exact R3 hP2
  ·skip
   have h2d := (B.nf h2)
   refine DX.takes (fuel := 15) ttOk [(8, true), (9, true), (10, true)] (by kernel_rfl) rfl ?_
   refine DX.cases 20 rfl (fun h3 => ?_) (fun h3 => ?_)
   ·skip
    have h3d := B.dt h3
    refine DX.takes (fuel := 13) ttOk [(11, true), (12, true)] (by kernel_rfl) rfl ?_
    refine DX.seeP 13 (by kernel_rfl) rfl rfl rfl rfl (looksP_arith rfl rfl rfl rfl (by unfold I64; first | omega | (simp only [List.length_take] at *; omega))) ?_
    refine DX.slot 23 (y := .v (.int .i64 (((((i : Nat) : Int) - 1).toNat : Nat) : Int))) rfl (fun _ => congrArg (Value.int .i64) (show ((i : Nat) : Int) - 1 = (((((i : Nat) : Int) - 1).toNat : Nat) : Int) from by omega)) ?_
    have e2i : (((i : Nat) : Int) - 1).toNat < (l).length := (by first | assumption | omega)
    obtain ⟨e2, e2h⟩ : ∃ e2, (l)[(((i : Nat) : Int) - 1).toNat]? = some e2 := ⟨_, List.getElem?_eq_getElem e2i⟩
    have ok2 : GoT.ok n e2 := (okl hokl).2 _ (List.mem_of_getElem? e2h)
    refine DX.idx 14 0 ((((i : Nat) : Int) - 1).toNat) ttOk hΓ0 (by kernel_rfl) rfl rfl rfl rfl rfl rfl rfl rfl rfl rfl rfl e2i ?_
    rintro ad2 ⟨⟩
    refine DX.takes (fuel := 10) ttOk [(15, true)] (by kernel_rfl) rfl ?_
    refine DX.ldE 16 0 2 e2 ttOk hΓ0 (by kernel_rfl) rfl rfl rfl rfl rfl rfl rfl rfl e2h (fun _ => rfl) (fun _ => rfl) ?_
    rintro ⟨⟨p2, c2⟩, ⟨⟩⟩
    refine DX.takes (fuel := 7) ttOk [(17, true), (18, true)] (by kernel_rfl) rfl ?_
    refine DX.idx 19 0 i ttOk hΓ0 (by kernel_rfl) rfl rfl rfl rfl rfl rfl rfl rfl rfl rfl rfl e1i ?_
    rintro ad3 ⟨⟩
    refine DX.takes (fuel := 5) ttOk [(20, true)] (by kernel_rfl) rfl ?_
    refine DX.ldE 21 0 3 e1 ttOk hΓ0 (by kernel_rfl) rfl rfl rfl rfl rfl rfl rfl rfl e1h (fun _ => rfl) (fun _ => rfl) ?_
    rintro ⟨⟨p3, c3⟩, ⟨⟩⟩
    refine DX.callV 22 rfl (by kernel_rfl) rfl rfl rfl rfl rfl rfl (fun _ => rfl) rfl (fun w G bs hI hΓ => f83 w n (by omega) e2.name p2 c2 (hΓ.get 2 rfl) e1.name p3 c3 (hΓ.get 3 rfl) ((ok_TableEntry ok2).1) ((ok_TableEntry ok1).1)) ?_
    intro hq2
    refine DX.takes (fuel := 0) ttOk [(23, true), (24, true), (25, true)] (by kernel_rfl) rfl ?_
    refine DX.tail2 [] rfl rfl (by kernel_rfl) ?_
    refine R0 ?_
    refine WX.cases 35 rfl (fun h4 => ?_) (fun h4 => ?_)
    ·skip
     have h4d := B.dt h4
     refine R0 ?_
     have hP3 : spec_ValidTable_L1 l l 0 = (some false) := by rw [v2, drop_get e1h]; simp only [spec_ValidTable_L1, h2, h3, e2h, h4, ct, cf]
     have hP4 : spec_ValidTable l = false := by simp only [spec_ValidTable, hP3, ct, cf]
     exact R3 hP4
    ·skip
     have h4d := B.df h4
     refine R0 ?_
     refine WX.see rfl rfl rfl (fun _ hΓ => looks_arith rfl rfl rfl rfl (by unfold I64; first | omega | (simp only [List.length_take] at *; omega))) ?_
     refine R0 ?_
     exact WX.iter (i + 1) ⟨(by omega), (by rw [v2, drop_get e1h]; simp only [spec_ValidTable_L1, h2, h3, e2h, h4, ct, cf])⟩ (by first | (dsimp only; omega) | omega) (.cons rfl (.cons rfl (.nil))) .nil .nil [0] rfl
   ·skip
    have h3d := B.df h3
    refine DX.takes (fuel := 0) ttOk [(11, true), (12, true), (13, true), (14, true), (15, true), (16, true), (17, true), (18, true), (19, true), (20, true), (21, true), (22, true), (23, true), (24, true), (25, true)] (by kernel_rfl) rfl ?_
    refine DX.tail2 [] rfl rfl (by kernel_rfl) ?_
    refine R0 ?_
    refine WX.see rfl rfl rfl (fun _ hΓ => looks_arith rfl rfl rfl rfl (by unfold I64; first | omega | (simp only [List.length_take] at *; omega))) ?_
    refine R0 ?_
    exact WX.iter (i + 1) ⟨(by omega), (by rw [v2, drop_get e1h]; simp only [spec_ValidTable_L1, h2, h3, ct, cf])⟩ (by first | (dsimp only; omega) | omega) (.cons rfl (.cons rfl (.nil))) .nil .nil [0] rfl
 ·skip
  have h1d := B.df h1
  refine R0 ?_
  have hX1 : spec_ValidTable_L1 l l 0 = none := by rw [v2, List.drop_eq_nil_of_le (show (l).length ≤ i by omega)]; simp only [spec_ValidTable_L1, ct, cf]
  have hP5 : spec_ValidTable l = (decide ((((l).length : Nat) : Int) ≤ 20)) := by simp only [spec_ValidTable, hX1, ct, cf]
  exact R3 hP5
theorem f78 (w : World) (n : Nat) (hn : n + 0 ≤ 9) (s : (List TableEntry)) (ps : Option Addr) (cs : Nat) (N0 : RdSl (hp w) ps cs s) (fg : FuncId) (fc : List Value) (fq : TableEntry → Bool) (ff : ∀ w1, Kp emp w w1 → ∀ (e0 : TableEntry) (x0 : GoT.X TableEntry), GoT.ok n e0 → All (hp w1) (GoT.fa .der e0 x0) → Does Try.prog fg ([Value.agg ⟨GoT.sh e0 x0⟩] ++ fc).toArray w1 emp (fun rv _ => rv = .bool (fq e0) ∧ True)) (hoks : GoT.ok n s) :
  Does Try.prog 78 #[.slice ps ((s).length) cs, .func (.func fg) #[] fc.toArray] w emp (fun (rv : Value) (_ : World) => rv = .int .i64 ((slices_IndexFunc_TableEntry s fq)) ∧ GoT.ok n ((slices_IndexFunc_TableEntry s fq) : Int)) := by
 have hbP := bd_pos n
 have hbB := bd_big (n := n) (by omega)
 refine WX.enter (tt := tt) (Γ := [(0, MF.rs .stb ps cs s)]) Try.func78 rfl (by kernel_rfl) rfl (allS_cons rfl N0 allS_nil) ?_
 refine R0 ?_
 have r1 : (s).length ≤ bd n := (okl hoks).1
 refine WX.loop (ι := Nat) ⟨fun i => (i ≤ (s).length) ∧ (slices_IndexFunc_TableEntry_L1 fq s 0 = slices_IndexFunc_TableEntry_L1 fq ((s).drop i) i), fun i => (s).length - i, fun i => [(8, .v (.int .i64 (((i : Nat) : Int)))), (7, .v (.int .i64 ((((s).length : Nat) : Int)))), (0, .v (.slice ps ((s).length) cs)), (1, .v (.func (.func fg) #[] fc.toArray))], fun i => [], fun i => [], fun i => [(0, MF.rs .stb ps cs s)]⟩ 0 ⟨(Nat.zero_le _), rfl⟩
  (.cons rfl (.cons rfl (.cons rfl (.cons rfl (.nil))))) .nil .nil [0] rfl ?_
 rintro i hpre
 have hpre_ : (i ≤ (s).length) ∧ (slices_IndexFunc_TableEntry_L1 fq s 0 = slices_IndexFunc_TableEntry_L1 fq ((s).drop i) i) := hpre
 clear hpre
 obtain ⟨v1, v2⟩ := hpre_
 refine R0 ?_
 refine WX.cases 9 rfl (fun h1 => ?_) (fun h1 => ?_)
 ·skip
  have h1d := B.dt h1
  have e1i : i < (s).length := (by omega)
  obtain ⟨e1, e1h⟩ : ∃ e1, (s)[i]? = some e1 := ⟨_, List.getElem?_eq_getElem e1i⟩
  have ok1 : GoT.ok n e1 := (okl hoks).2 _ (List.mem_of_getElem? e1h)
  refine R0 ?_
  refine WX.idx 0 i ttOk rfl rfl rfl rfl rfl rfl rfl rfl rfl rfl e1i ?_
  rintro ad1 rfl
  refine WX.ldE 0 1 e1 ttOk rfl rfl rfl rfl rfl rfl rfl rfl e1h (fun _ => rfl) (fun _ => rfl) ?_
  rintro ⟨⟨p1, c1⟩, ⟨⟩⟩
  refine WX.callV rfl rfl rfl rfl rfl (fun _ => rfl) rfl (fun w G bs hI hΓ => ff w hI.keep e1 ((p1, c1), ()) ok1 (All.cons (hΓ.get 1 rfl : RdSl _ _ _ _) All.nil)) ?_
  intro hq1
  refine R0 ?_
  refine WX.cases 16 rfl (fun h2 => ?_) (fun h2 => ?_)
  ·skip
   refine R0 ?_
   have hP1 : slices_IndexFunc_TableEntry_L1 fq s 0 = (some ((i : Nat) : Int)) := by rw [v2, drop_get e1h]; simp only [slices_IndexFunc_TableEntry_L1, h2, ct, cf]
   have hP2 : slices_IndexFunc_TableEntry s fq = ((i : Nat) : Int) := by simp only [slices_IndexFunc_TableEntry, hP1, ct, cf]
   refine R1 ?_
   intro w1 G bs hI hΓ
   rw [hP2]
   exact ⟨rfl, (show I64 ((i : Nat) : Int) from (by unfold I64; omega))⟩
  ·skip
   refine R0 ?_
   refine WX.see rfl rfl rfl (fun _ hΓ => looks_arith rfl rfl rfl rfl (by unfold I64; first | omega | (simp only [List.length_take] at *; omega))) ?_
   refine R0 ?_
   exact WX.iter (i + 1) ⟨(by omega), (by rw [v2, drop_get e1h]; simp only [slices_IndexFunc_TableEntry_L1, h2, ct, cf])⟩ (by first | (dsimp only; omega) | omega) (.cons rfl (.cons rfl (.cons rfl (.cons rfl (.nil))))) .nil .nil [0] rfl
 ·skip
  have h1d := B.df h1
  refine R0 ?_
  have hX1 : slices_IndexFunc_TableEntry_L1 fq s 0 = none := by rw [v2, List.drop_eq_nil_of_le (show (s).length ≤ i by omega)]; simp only [slices_IndexFunc_TableEntry_L1, ct, cf]
  have hP3 : slices_IndexFunc_TableEntry s fq = (-1) := by simp only [slices_IndexFunc_TableEntry, hX1, ct, cf]
  refine R1 ?_
  intro w1 G bs hI hΓ
  rw [hP3]
  exact ⟨rfl, (show I64 (-1) from (by unfold I64; omega))⟩
theorem ltL_slices_IndexFunc_TableEntry : ∀ (f : TableEntry → Bool) (l : List TableEntry) (i : Nat) (j : Int), slices_IndexFunc_TableEntry_L1 f l i = some j → j < ((i + l.length : Nat) : Int)
  | f, [], i, j, h => by cases h
  | f, x :: l, i, j, h => by
    simp only [slices_IndexFunc_TableEntry_L1] at h
    cases hx : f x
    · rw [hx, cond_false] at h
      have := ltL_slices_IndexFunc_TableEntry f l (i + 1) j h
      simp only [List.length_cons]; omega
    · rw [hx, cond_true] at h
      cases h
      simp only [List.length_cons]; omega
theorem ltI_slices_IndexFunc_TableEntry (l : List TableEntry) (f : TableEntry → Bool) : slices_IndexFunc_TableEntry l f < ((l.length : Nat) : Int) := by
  unfold slices_IndexFunc_TableEntry
  cases h : slices_IndexFunc_TableEntry_L1 f l 0 with
  | none => show (-1 : Int) < _; omega
  | some j => have := ltL_slices_IndexFunc_TableEntry f l 0 j h; show j < _; omega
theorem f51 (w : World) (n : Nat) (hn : n + 0 ≤ 9) (s : (List TableEntry)) (ps : Option Addr) (cs : Nat) (N0 : RdSl (hp w) ps cs s) (fg : FuncId) (fc : List Value) (fq : TableEntry → Bool) (ff : ∀ w1, Kp emp w w1 → ∀ (e0 : TableEntry) (x0 : GoT.X TableEntry), GoT.ok n e0 → All (hp w1) (GoT.fa .der e0 x0) → Does Try.prog fg ([Value.agg ⟨GoT.sh e0 x0⟩] ++ fc).toArray w1 emp (fun rv _ => rv = .bool (fq e0) ∧ True)) (hoks : GoT.ok n s) :
  Does Try.prog 51 #[.slice ps ((s).length) cs, .func (.func fg) #[] fc.toArray] w emp (fun (rv : Value) (_ : World) => rv = .bool (slices_ContainsFunc_TableEntry s fq) ∧ True) := by
 have hbP := bd_pos n
 have hbB := bd_big (n := n) (by omega)
 refine WX.enter (tt := tt) (Γ := [(0, MF.rs .stb ps cs s)]) Try.func51 rfl (by kernel_rfl) rfl (allS_cons rfl N0 allS_nil) ?_
 refine R0 ?_
 refine WX.callV rfl rfl rfl rfl rfl (fun _ => rfl) rfl (fun w G bs hI hΓ => f78 w n (by omega) s ps cs (hΓ.get 0 rfl) fg fc fq (fun w1_ hb_ => ff w1_ (hI.keep.trans hb_)) hoks) ?_
 intro hq1
 have q1 := ltI_slices_IndexFunc_TableEntry s fq
 refine R0 ?_
 have hP1 : slices_ContainsFunc_TableEntry s fq = (decide ((slices_IndexFunc_TableEntry s fq) ≥ 0)) := by simp only [slices_ContainsFunc_TableEntry, ct, cf]
 exact R3 hP1
theorem f62 (w : World) (n : Nat) (hn : n + 0 ≤ 9) (e_ : TableEntry) (K0 : Option Addr) (M0 : Nat) (N0 : RdSl (hp w) K0 M0 e_.name.parts) (hoke_ : GoT.ok n e_) :
  Does Try.prog 62 #[.agg #[.slice K0 ((e_.name.parts).length) M0, .int .i64 (e_.value)]] w emp (fun (rv : Value) (_ : World) => rv = .bool (impl_ValidVector_c1 e_) ∧ True) := by
 have hbP := bd_pos n
 have hbB := bd_big (n := n) (by omega)
 refine WX.enter (tt := tt) (Γ := [(0, MF.rs .stb K0 M0 e_.name.parts)]) Try.func62 rfl (by kernel_rfl) rfl (allS_cons rfl N0 allS_nil) ?_
 refine R0 ?_
 refine WX.callV rfl rfl rfl rfl rfl (fun _ => rfl) rfl (fun w G bs hI hΓ => f63 w n (by omega) e_.value 1 1000 ((ok_TableEntry hoke_).2) (show I64 1 from (by unfold I64; omega)) (show I64 1000 from (by unfold I64; omega))) ?_
 intro hq1
 refine R0 ?_
 have hP1 : impl_ValidVector_c1 e_ = (!(impl_InRange e_.value 1 1000)) := by simp only [impl_ValidVector_c1, ct, cf]
 exact R3 hP1
theorem f32 (w : World) (n : Nat) (hn : n + 0 ≤ 9) (v : StateVector) (pv : Option Addr) (cv : Nat) (N0 : RdSl (hp w) pv cv v.entries) (hokv : GoT.ok n v) :
  Does Try.prog 32 #[.agg #[.slice pv ((v.entries).length) cv]] w emp (fun (rv : Value) (_ : World) => rv = .bool (impl_ValidVector v) ∧ True) := by
 have hbP := bd_pos n
 have hbB := bd_big (n := n) (by omega)
 refine WX.enter (tt := tt) (Γ := [(0, MF.rs .stb pv cv v.entries)]) Try.func32 rfl (by kernel_rfl) rfl (allS_cons rfl N0 allS_nil) ?_
 refine R0 ?_
 refine WX.callV rfl rfl rfl rfl rfl (fun _ => rfl) rfl (fun w G bs hI hΓ => f61 w n (by omega) v.entries pv cv (hΓ.get 0 rfl) (ok_StateVector hokv)) ?_
 intro hq1
 refine R0 ?_
 refine WX.cases 6 rfl (fun h1 => ?_) (fun h1 => ?_)
 ·skip
  refine R0 ?_
  refine WX.callV rfl rfl rfl rfl rfl (fun _ => rfl) rfl (fun w G bs hI hΓ => f51 w n (by omega) v.entries pv cv (hΓ.get 0 rfl) 62 [] (fun e0_ => (impl_ValidVector_c1 e0_)) (fun w1_ hb_ e0_ x0_ hk0_ hx0_ => f62 w1_ n (by omega) e0_ x0_.1.1 x0_.1.2 (hx0_ _ List.mem_cons_self) hk0_) (ok_StateVector hokv)) ?_
  intro hq2
  refine R0 ?_
  have hP1 : impl_ValidVector v = (!(slices_ContainsFunc_TableEntry v.entries (fun e0_ => (impl_ValidVector_c1 e0_)))) := by simp only [impl_ValidVector, h1, ct, cf]
  exact R3 hP1
 ·skip
  refine R0 ?_
  have hP2 : impl_ValidVector v = false := by simp only [impl_ValidVector, h1, ct, cf]
  exact R3 hP2
theorem f33 (w : World) (n : Nat) (hn : n + 0 ≤ 9) (v : StateVector) (pv : Option Addr) (cv : Nat) (N0 : RdSl (hp w) pv cv v.entries) (hokv : GoT.ok n v) :
  Does Try.prog 33 #[.agg #[.slice pv ((v.entries).length) cv]] w emp (fun (rv : Value) (_ : World) => rv = .bool (spec_ValidVector v) ∧ True) := by
 have hbP := bd_pos n
 have hbB := bd_big (n := n) (by omega)
 refine WX.enter (tt := tt) (Γ := [(0, MF.rs .stb pv cv v.entries)]) Try.func33 rfl (by kernel_rfl) rfl (allS_cons rfl N0 allS_nil) ?_
 refine R0 ?_
 have r1 : (v.entries).length ≤ bd n := (okl (ok_StateVector hokv)).1
 refine WX.loop (ι := Nat) ⟨fun i => (i ≤ (v.entries).length) ∧ (spec_ValidVector_L1 v.entries = spec_ValidVector_L1 ((v.entries).drop i)), fun i => (v.entries).length - i, fun i => [(3, .v (.int .i64 (((i : Nat) : Int)))), (1, .p 1 0)], fun i => [(1, ⟨30, [.slice pv ((v.entries).length) cv]⟩)], fun i => [], fun i => [(0, MF.rs .stb pv cv v.entries)]⟩ 0 ⟨(Nat.zero_le _), rfl⟩
  (.cons rfl (.cons rfl (.nil))) (.cons rfl (.nil)) .nil [0] rfl ?_
 rintro i hpre
 have hpre_ : (i ≤ (v.entries).length) ∧ (spec_ValidVector_L1 v.entries = spec_ValidVector_L1 ((v.entries).drop i)) := hpre
 clear hpre
 obtain ⟨v1, v2⟩ := hpre_
 refine R0 ?_
 refine WX.cases 8 rfl (fun h1 => ?_) (fun h1 => ?_)
 ·skip
  have h1d := B.dt h1
  have e1i : i < (v.entries).length := (by omega)
  obtain ⟨e1, e1h⟩ : ∃ e1, (v.entries)[i]? = some e1 := ⟨_, List.getElem?_eq_getElem e1i⟩
  have ok1 : GoT.ok n e1 := (okl (ok_StateVector hokv)).2 _ (List.mem_of_getElem? e1h)
  refine R0 ?_
  refine WX.idx 0 i ttOk rfl rfl rfl rfl rfl rfl rfl rfl rfl rfl e1i ?_
  rintro ad1 rfl
  refine R0 ?_
  refine WX.ldE 0 1 e1 ttOk rfl rfl rfl rfl rfl rfl rfl rfl e1h (fun _ => rfl) (fun _ => rfl) ?_
  rintro ⟨⟨p1, c1⟩, ⟨⟩⟩
  refine WX.callV rfl rfl rfl rfl rfl (fun _ => rfl) rfl (fun w G bs hI hΓ => f64 w n (by omega) e1.value 1 1000 ((ok_TableEntry ok1).2) (show I64 1 from (by unfold I64; omega)) (show I64 1000 from (by unfold I64; omega))) ?_
  intro hq1
  refine R0 ?_
  refine WX.cases 18 rfl (fun h2 => ?_) (fun h2 => ?_)
  ·skip
   have h2d := (B.nt h2)
   refine R0 ?_
   have hP1 : spec_ValidVector_L1 v.entries = (some false) := by rw [v2, drop_get e1h]; simp only [spec_ValidVector_L1, h2, ct, cf]
   have hP2 : spec_ValidVector v = false := by simp only [spec_ValidVector, hP1, ct, cf]
   exact R3 hP2
  ·skip
   have h2d := (B.nf h2)
   have h2r := inR_spec (B.nf h2)
   refine R0 ?_
   refine WX.see rfl rfl rfl (fun _ hΓ => looks_arith rfl rfl rfl rfl (by unfold I64; first | omega | (simp only [List.length_take] at *; omega))) ?_
   refine R0 ?_
   exact WX.iter (i + 1) ⟨(by omega), (by rw [v2, drop_get e1h]; simp only [spec_ValidVector_L1, h2, ct, cf])⟩ (by first | (dsimp only; omega) | omega) (.cons rfl (.cons rfl (.nil))) (.cons rfl (.nil)) .nil [0] rfl
 ·skip
  have h1d := B.df h1
  refine R0 ?_
  have hX1 : spec_ValidVector_L1 v.entries = none := by rw [v2, List.drop_eq_nil_of_le (show (v.entries).length ≤ i by omega)]; simp only [spec_ValidVector_L1, ct, cf]
  refine WX.callV rfl rfl rfl rfl rfl (fun _ => rfl) rfl (fun w G bs hI hΓ => f65 w n (by omega) v.entries pv cv (hΓ.get 0 rfl) (ok_StateVector hokv)) ?_
  intro hq2
  refine R0 ?_
  have hP3 : spec_ValidVector v = (spec_ValidTable v.entries) := by simp only [spec_ValidVector, hX1, ct, cf]
  exact R3 hP3
end Go.Proofs.Ytdimfabadjfkiaa

namespace Go.Stp
set_option linter.unusedVariables false
set_option linter.unusedSimpArgs false
def impl_indexOfName_c1 (n_ : Name) (e_ : TableEntry) : Bool :=
  (impl_EqualNames e_.name n_)
def impl_indexOfName (l : (List TableEntry)) (n_ : Name) : Int :=
  (slices_IndexFunc_TableEntry l (fun e0_ => (impl_indexOfName_c1 n_ e0_)))
def spec_l6Find_L1 (n_ : Name) : List TableEntry → Nat → Option (Int)
  | [], i => none
  | e1 :: rest_, i =>
    bif (spec_EqualNames e1.name n_) then
      (some ((i : Nat) : Int))
    else
      spec_l6Find_L1 n_ rest_ (i + 1)
def spec_l6Find (l : (List TableEntry)) (n_ : Name) : Int :=
  match spec_l6Find_L1 n_ l 0 with
    | some r_ => r_
    | none =>
      (-1)
def impl_LookupEntry (l : (List TableEntry)) (n_ : Name) : Int × Bool :=
  bif decide ((impl_indexOfName l n_) < 0) then
    (0, false)
  else
    match (l)[((impl_indexOfName l n_)).toNat]? with
      | none => default
      | some e1 =>
        (e1.value, true)
def spec_LookupEntry (l : (List TableEntry)) (n_ : Name) : Int × Bool :=
  bif decide ((spec_l6Find l n_) < 0) then
    (0, false)
  else
    match (l)[((spec_l6Find l n_)).toNat]? with
      | none => default
      | some e1 =>
        (e1.value, true)
def impl_SeqOf (v : StateVector) (n_ : Name) : Int :=
  ((impl_LookupEntry v.entries n_).1)
def spec_SeqOf (v : StateVector) (n_ : Name) : Int :=
  ((spec_LookupEntry v.entries n_).1)
def impl_NewerThan_L2 (a : StateVector) (e1 : TableEntry) (out2 : List TableEntry) (k : Int) : (List TableEntry) × Int :=
  if k < (impl_SeqOf a e1.name) then
    if (((out2).length : Nat) : Int) < 20 then
      impl_NewerThan_L2 a e1 (((out2 ++ [(TableEntry.mk (impl_copyName e1.name) (IntKind.i64.wrap (k + 1)))])) : List TableEntry) (IntKind.i64.wrap (k + 1))
    else
      (((out2) : List TableEntry), k)
  else
    (((out2) : List TableEntry), k)
termination_by 20 - out2.length
decreasing_by all_goals (simp only [List.length_append, List.length_cons, List.length_nil]; omega)
def impl_NewerThan_L1 (a : StateVector) (b : StateVector) : List TableEntry → (List TableEntry) → (List TableEntry)
  | [], out => ((out) : List TableEntry)
  | e1 :: rest_, out =>
    match impl_NewerThan_L2 a e1 (out : List TableEntry) (impl_SeqOf b e1.name) with
      | (out2, k) =>
        impl_NewerThan_L1 a b rest_ ((out2) : List TableEntry)
def impl_NewerThan (a : StateVector) (b : StateVector) : (List TableEntry) :=
  match impl_NewerThan_L1 a b a.entries ([] : List TableEntry) with
    | out =>
      out
def spec_NewerThan_L2 (a : StateVector) (e1 : TableEntry) (out2 : List TableEntry) (k : Int) : (List TableEntry) × Int :=
  if k < (spec_SeqOf a e1.name) then
    if (((out2).length : Nat) : Int) < 20 then
      spec_NewerThan_L2 a e1 (((out2 ++ [(TableEntry.mk (spec_l4Copy e1.name) (IntKind.i64.wrap (k + 1)))])) : List TableEntry) (IntKind.i64.wrap (k + 1))
    else
      (((out2) : List TableEntry), k)
  else
    (((out2) : List TableEntry), k)
termination_by 20 - out2.length
decreasing_by all_goals (simp only [List.length_append, List.length_cons, List.length_nil]; omega)
def spec_NewerThan_L1 (a : StateVector) (b : StateVector) : List TableEntry → (List TableEntry) → (List TableEntry)
  | [], out => ((out) : List TableEntry)
  | e1 :: rest_, out =>
    match spec_NewerThan_L2 a e1 (out : List TableEntry) (spec_SeqOf b e1.name) with
      | (out2, k) =>
        spec_NewerThan_L1 a b rest_ ((out2) : List TableEntry)
def spec_NewerThan (a : StateVector) (b : StateVector) : (List TableEntry) :=
  match spec_NewerThan_L1 a b a.entries ([] : List TableEntry) with
    | out =>
      out
end Go.Stp

namespace Go.Proofs.Ytdimfabadjfkiaa
open Go.Stp
set_option linter.unusedVariables false
set_option linter.unusedSimpArgs false
theorem f94 (w : World) (n : Nat) (hn : n + 0 ≤ 9) (e_ : TableEntry) (K0 : Option Addr) (M0 : Nat) (N0 : RdSl (hp w) K0 M0 e_.name.parts) (n_ : Name) (bn_ : Addr) (hn_ : RdSl (hp w) (some bn_) 1 [n_]) (hoke_ : GoT.ok n e_) (hokn_ : GoT.ok n n_) :
  Does Try.prog 94 #[.agg #[.slice K0 ((e_.name.parts).length) M0, .int .i64 (e_.value)], .pointer (some bn_)] w emp (fun (rv : Value) (_ : World) => rv = .bool (impl_indexOfName_c1 n_ e_) ∧ True) := by
 have hbP := bd_pos n
 have hbB := bd_big (n := n) (by omega)
 refine WX.enter (tt := tt) (Γ := [(0, MF.rs .stb K0 M0 e_.name.parts), (1, MF.rs .stb (some bn_) 1 ([n_]))]) Try.func94 rfl (by kernel_rfl) rfl (allS_cons rfl N0 (allS_cons rfl hn_ allS_nil)) ?_
 have n_h : ([n_] : List Name)[0]? = some n_ := rfl
 refine WX.slot 1 (y := .e (some bn_) 0 1 0) rfl (fun _ => cap_eq) ?_
 refine R0 ?_
 refine WX.ldE 1 2 n_ ttOk rfl rfl rfl rfl rfl rfl rfl rfl n_h (fun _ => rfl) (fun _ => rfl) ?_
 rintro ⟨p1, c1⟩
 refine WX.callV rfl rfl rfl rfl rfl (fun _ => rfl) rfl (fun w G bs hI hΓ => f95 w n (by omega) e_.name K0 M0 (hΓ.get 0 rfl) n_ p1 c1 (hΓ.get 2 rfl) ((ok_TableEntry hoke_).1) hokn_) ?_
 intro hq1
 refine R0 ?_
 have hP1 : impl_indexOfName_c1 n_ e_ = (impl_EqualNames e_.name n_) := by simp only [impl_indexOfName_c1, ct, cf]
 exact R3 hP1
theorem f77 (w : World) (n : Nat) (hn : n + 0 ≤ 9) (l : (List TableEntry)) (pl : Option Addr) (cl : Nat) (N0 : RdSl (hp w) pl cl l) (n_ : Name) (K1 : Option Addr) (M1 : Nat) (N1 : RdSl (hp w) K1 M1 n_.parts) (hokl : GoT.ok n l) (hokn_ : GoT.ok n n_) :
  Does Try.prog 77 #[.slice pl ((l).length) cl, .agg #[.slice K1 ((n_.parts).length) M1]] w emp (fun (rv : Value) (_ : World) => rv = .int .i64 ((impl_indexOfName l n_)) ∧ GoT.ok n ((impl_indexOfName l n_) : Int)) := by
 have hbP := bd_pos n
 have hbB := bd_big (n := n) (by omega)
 refine WX.enter (tt := tt) (Γ := [(0, MF.rs .stb pl cl l), (1, MF.rs .stb K1 M1 n_.parts)]) Try.func77 rfl (by kernel_rfl) rfl (allS_cons rfl N0 (allS_cons rfl N1 allS_nil)) ?_
 refine R0 ?_
 refine WX.callV rfl rfl rfl rfl rfl (fun _ => rfl) rfl (fun w G bs hI hΓ => f78 w n (by omega) l pl cl (hΓ.get 0 rfl) 94 [Value.pointer (some ⟨bs 3, 0, none⟩)] (fun e0_ => (impl_indexOfName_c1 n_ e0_)) (fun w1_ hb_ e0_ x0_ hk0_ hx0_ => f94 w1_ n (by omega) e0_ x0_.1.1 x0_.1.2 (hx0_ _ List.mem_cons_self) n_ ⟨bs 3, 0, none⟩ ((rd_box (α := Name) (a := n_) (x := (K1, M1)) (hI.loc 3 _ rfl).1 (All.cons (hΓ.get 1 rfl : RdSl _ _ _ _) All.nil)).mono (kp_le hb_)) hk0_ hokn_) hokl) ?_
 intro hq1
 have q1 := ltI_slices_IndexFunc_TableEntry l (fun e0_ => (impl_indexOfName_c1 n_ e0_))
 refine R0 ?_
 have hP1 : impl_indexOfName l n_ = (slices_IndexFunc_TableEntry l (fun e0_ => (impl_indexOfName_c1 n_ e0_))) := by simp only [impl_indexOfName, ct, cf]
 refine R1 ?_
 intro w1 G bs hI hΓ
 rw [hP1]
 exact ⟨rfl, hq1⟩
theorem f82 (w : World) (n : Nat) (hn : n + 0 ≤ 9) (l : (List TableEntry)) (pl : Option Addr) (cl : Nat) (N0 : RdSl (hp w) pl cl l) (n_ : Name) (K1 : Option Addr) (M1 : Nat) (N1 : RdSl (hp w) K1 M1 n_.parts) (hokl : GoT.ok n l) (hokn_ : GoT.ok n n_) :
  Does Try.prog 82 #[.slice pl ((l).length) cl, .agg #[.slice K1 ((n_.parts).length) M1]] w emp (fun (rv : Value) (_ : World) => rv = .int .i64 ((spec_l6Find l n_)) ∧ GoT.ok n ((spec_l6Find l n_) : Int)) := by
 have hbP := bd_pos n
 have hbB := bd_big (n := n) (by omega)
 refine WX.enter (tt := tt) (Γ := [(0, MF.rs .stb pl cl l), (1, MF.rs .stb K1 M1 n_.parts)]) Try.func82 rfl (by kernel_rfl) rfl (allS_cons rfl N0 (allS_cons rfl N1 allS_nil)) ?_
 refine R0 ?_
 have r1 : (l).length ≤ bd n := (okl hokl).1
 refine WX.loop (ι := Nat) ⟨fun i => (i ≤ (l).length) ∧ (spec_l6Find_L1 n_ l 0 = spec_l6Find_L1 n_ ((l).drop i) i), fun i => (l).length - i, fun i => [(5, .v (.int .i64 (((i : Nat) : Int)))), (3, .p 3 0), (0, .v (.slice pl ((l).length) cl))], fun i => [(3, ⟨41, [.slice K1 ((n_.parts).length) M1]⟩)], fun i => [], fun i => [(0, MF.rs .stb pl cl l), (1, MF.rs .stb K1 M1 n_.parts)]⟩ 0 ⟨(Nat.zero_le _), rfl⟩
  (.cons rfl (.cons rfl (.cons rfl (.nil)))) (.cons rfl (.nil)) .nil [0, 1] rfl ?_
 rintro i hpre
 have hpre_ : (i ≤ (l).length) ∧ (spec_l6Find_L1 n_ l 0 = spec_l6Find_L1 n_ ((l).drop i) i) := hpre
 clear hpre
 obtain ⟨v1, v2⟩ := hpre_
 refine R0 ?_
 refine WX.cases 9 rfl (fun h1 => ?_) (fun h1 => ?_)
 ·skip
  have h1d := B.dt h1
  have e1i : i < (l).length := (by omega)
  obtain ⟨e1, e1h⟩ : ∃ e1, (l)[i]? = some e1 := ⟨_, List.getElem?_eq_getElem e1i⟩
  have ok1 : GoT.ok n e1 := (okl hokl).2 _ (List.mem_of_getElem? e1h)
  refine R0 ?_
  refine WX.draw [] mixed ?_
  intro bs G0 hΓ0
  refine DX.takes (fuel := 5) ttOk [(0, true), (1, true)] (by kernel_rfl) rfl ?_
  refine DX.idx 2 0 i ttOk hΓ0 (by kernel_rfl) rfl rfl rfl rfl rfl rfl rfl rfl rfl rfl rfl e1i ?_
  rintro ad1 rfl
  refine DX.takes (fuel := 3) ttOk [(3, true)] (by kernel_rfl) rfl ?_
  refine DX.ldE 4 0 2 e1 ttOk hΓ0 (by kernel_rfl) rfl rfl rfl rfl rfl rfl rfl rfl e1h (fun _ => rfl) (fun _ => rfl) ?_
  rintro ⟨⟨p1, c1⟩, ⟨⟩⟩
  refine DX.takes (fuel := 1) ttOk [(5, false)] (by kernel_rfl) rfl ?_
  refine DX.callV 6 rfl (by kernel_rfl) rfl rfl rfl rfl rfl rfl (fun _ => rfl) rfl (fun w G bs hI hΓ => f99 w n (by omega) e1.name p1 c1 (hΓ.get 2 rfl) n_ K1 M1 (hΓ.get 1 rfl) ((ok_TableEntry ok1).1) hokn_) ?_
  intro hq1
  refine DX.tail2 [] rfl rfl (by kernel_rfl) ?_
  refine R0 ?_
  refine WX.cases 18 rfl (fun h2 => ?_) (fun h2 => ?_)
  ·skip
   refine R0 ?_
   have hP1 : spec_l6Find_L1 n_ l 0 = (some ((i : Nat) : Int)) := by rw [v2, drop_get e1h]; simp only [spec_l6Find_L1, h2, ct, cf]
   have hP2 : spec_l6Find l n_ = ((i : Nat) : Int) := by simp only [spec_l6Find, hP1, ct, cf]
   refine R1 ?_
   intro w1 G bs hI hΓ
   rw [hP2]
   exact ⟨rfl, (show I64 ((i : Nat) : Int) from (by unfold I64; omega))⟩
  ·skip
   refine R0 ?_
   refine WX.see rfl rfl rfl (fun _ hΓ => looks_arith rfl rfl rfl rfl (by unfold I64; first | omega | (simp only [List.length_take] at *; omega))) ?_
   refine R0 ?_
   exact WX.iter (i + 1) ⟨(by omega), (by rw [v2, drop_get e1h]; simp only [spec_l6Find_L1, h2, ct, cf])⟩ (by first | (dsimp only; omega) | omega) (.cons rfl (.cons rfl (.cons rfl (.nil)))) (.cons rfl (.nil)) .nil [0, 1] rfl
 ·skip
  have h1d := B.df h1
  refine R0 ?_
  have hX1 : spec_l6Find_L1 n_ l 0 = none := by rw [v2, List.drop_eq_nil_of_le (show (l).length ≤ i by omega)]; simp only [spec_l6Find_L1, ct, cf]
  have hP3 : spec_l6Find l n_ = (-1) := by simp only [spec_l6Find, hX1, ct, cf]
  refine R1 ?_
  intro w1 G bs hI hΓ
  rw [hP3]
  exact ⟨rfl, (show I64 (-1) from (by unfold I64; omega))⟩
theorem lt_iFL : ∀ (f : TableEntry → Bool) (l : List TableEntry) (i : Nat) (j : Int), slices_IndexFunc_TableEntry_L1 f l i = some j → j < ((i + l.length : Nat) : Int)
  | f, [], i, j, h => by cases h
  | f, x :: l, i, j, h => by
    simp only [slices_IndexFunc_TableEntry_L1] at h
    cases hx : f x
    · rw [hx, cond_false] at h
      have := lt_iFL f l (i + 1) j h
      simp only [List.length_cons]; omega
    · rw [hx, cond_true] at h
      cases h
      simp only [List.length_cons]; omega
theorem lt_indexOfName (l : List TableEntry) (n_ : Name) : impl_indexOfName l n_ < ((l.length : Nat) : Int) := by
  unfold impl_indexOfName slices_IndexFunc_TableEntry
  cases h : slices_IndexFunc_TableEntry_L1 (fun e0_ => impl_indexOfName_c1 n_ e0_) l 0 with
  | none => show (-1 : Int) < _; omega
  | some j => have := lt_iFL _ l 0 j h; show j < _; omega
theorem lt_l6L (n_ : Name) : ∀ (l : List TableEntry) (i : Nat) (j : Int), spec_l6Find_L1 n_ l i = some j → j < ((i + l.length : Nat) : Int)
  | [], i, j, h => by cases h
  | x :: l, i, j, h => by
    simp only [spec_l6Find_L1] at h
    cases hx : spec_EqualNames x.name n_
    · rw [hx, cond_false] at h
      have := lt_l6L n_ l (i + 1) j h
      simp only [List.length_cons]; omega
    · rw [hx, cond_true] at h
      cases h
      simp only [List.length_cons]; omega
theorem lt_l6Find (l : List TableEntry) (n_ : Name) : spec_l6Find l n_ < ((l.length : Nat) : Int) := by
  unfold spec_l6Find
  cases h : spec_l6Find_L1 n_ l 0 with
  | none => show (-1 : Int) < _; omega
  | some j => have := lt_l6L n_ l 0 j h; show j < _; omega
theorem f59 (w : World) (n : Nat) (hn : n + 0 ≤ 9) (l : (List TableEntry)) (pl : Option Addr) (cl : Nat) (N0 : RdSl (hp w) pl cl l) (n_ : Name) (K1 : Option Addr) (M1 : Nat) (N1 : RdSl (hp w) K1 M1 n_.parts) (hokl : GoT.ok n l) (hokn_ : GoT.ok n n_) :
  Does Try.prog 59 #[.slice pl ((l).length) cl, .agg #[.slice K1 ((n_.parts).length) M1]] w emp (fun (rv : Value) (_ : World) => rv = .tuple #[.int .i64 ((impl_LookupEntry l n_).1), .bool ((impl_LookupEntry l n_).2)] ∧ GoT.ok n ((impl_LookupEntry l n_).1 : Int)) := by
 have hbP := bd_pos n
 have hbB := bd_big (n := n) (by omega)
 refine WX.enter (tt := tt) (Γ := [(0, MF.rs .stb pl cl l), (1, MF.rs .stb K1 M1 n_.parts)]) Try.func59 rfl (by kernel_rfl) rfl (allS_cons rfl N0 (allS_cons rfl N1 allS_nil)) ?_
 refine R0 ?_
 refine WX.callV rfl rfl rfl rfl rfl (fun _ => rfl) rfl (fun w G bs hI hΓ => f77 w n (by omega) l pl cl (hΓ.get 0 rfl) n_ K1 M1 (hΓ.get 1 rfl) hokl hokn_) ?_
 intro hq1
 have q1 := lt_indexOfName l n_
 refine R0 ?_
 refine WX.cases 11 rfl (fun h1 => ?_) (fun h1 => ?_)
 ·skip
  have h1d := B.dt h1
  refine R0 ?_
  have hP1 : impl_LookupEntry l n_ = (0, false) := by simp only [impl_LookupEntry, h1, ct, cf]
  refine R1 ?_
  intro w1 G bs hI hΓ
  rw [hP1]
  exact ⟨rfl, (show I64 0 from (by unfold I64; omega))⟩
 ·skip
  have h1d := B.df h1
  refine R0 ?_
  have r1 : (l).length ≤ bd n := (okl hokl).1
  have r2 : -9223372036854775808 ≤ (impl_indexOfName l n_) ∧ (impl_indexOfName l n_) ≤ 9223372036854775807 := hq1
  refine WX.slot 13 (y := .v (.int .i64 ((((impl_indexOfName l n_)).toNat : Nat) : Int))) rfl (fun _ => congrArg (Value.int .i64) (show (impl_indexOfName l n_) = ((((impl_indexOfName l n_)).toNat : Nat) : Int) from by omega)) ?_
  have e1i : ((impl_indexOfName l n_)).toNat < (l).length := (by first | assumption | omega)
  obtain ⟨e1, e1h⟩ : ∃ e1, (l)[((impl_indexOfName l n_)).toNat]? = some e1 := ⟨_, List.getElem?_eq_getElem e1i⟩
  have ok1 : GoT.ok n e1 := (okl hokl).2 _ (List.mem_of_getElem? e1h)
  refine WX.idx 0 (((impl_indexOfName l n_)).toNat) ttOk rfl rfl rfl rfl rfl rfl rfl rfl rfl rfl e1i ?_
  rintro ad1 rfl
  refine R0 ?_
  refine WX.ldE 0 2 e1 ttOk rfl rfl rfl rfl rfl rfl rfl rfl e1h (fun _ => rfl) (fun _ => rfl) ?_
  rintro ⟨⟨p1, c1⟩, ⟨⟩⟩
  refine R0 ?_
  have hP2 : impl_LookupEntry l n_ = (e1.value, true) := by simp only [impl_LookupEntry, h1, e1h, ct, cf]
  refine R1 ?_
  intro w1 G bs hI hΓ
  rw [hP2]
  exact ⟨rfl, (ok_TableEntry ok1).2⟩
theorem f60 (w : World) (n : Nat) (hn : n + 0 ≤ 9) (l : (List TableEntry)) (pl : Option Addr) (cl : Nat) (N0 : RdSl (hp w) pl cl l) (n_ : Name) (K1 : Option Addr) (M1 : Nat) (N1 : RdSl (hp w) K1 M1 n_.parts) (hokl : GoT.ok n l) (hokn_ : GoT.ok n n_) :
  Does Try.prog 60 #[.slice pl ((l).length) cl, .agg #[.slice K1 ((n_.parts).length) M1]] w emp (fun (rv : Value) (_ : World) => rv = .tuple #[.int .i64 ((spec_LookupEntry l n_).1), .bool ((spec_LookupEntry l n_).2)] ∧ GoT.ok n ((spec_LookupEntry l n_).1 : Int)) := by
 have hbP := bd_pos n
 have hbB := bd_big (n := n) (by omega)
 refine WX.enter (tt := tt) (Γ := [(0, MF.rs .stb pl cl l), (1, MF.rs .stb K1 M1 n_.parts)]) Try.func60 rfl (by kernel_rfl) rfl (allS_cons rfl N0 (allS_cons rfl N1 allS_nil)) ?_
 refine R0 ?_
 refine WX.callV rfl rfl rfl rfl rfl (fun _ => rfl) rfl (fun w G bs hI hΓ => f82 w n (by omega) l pl cl (hΓ.get 0 rfl) n_ K1 M1 (hΓ.get 1 rfl) hokl hokn_) ?_
 intro hq1
 have q1 := lt_l6Find l n_
 refine R0 ?_
 refine WX.cases 11 rfl (fun h1 => ?_) (fun h1 => ?_)
 ·skip
  have h1d := B.dt h1
  refine R0 ?_
  have hP1 : spec_LookupEntry l n_ = (0, false) := by simp only [spec_LookupEntry, h1, ct, cf]
  refine R1 ?_
  intro w1 G bs hI hΓ
  rw [hP1]
  exact ⟨rfl, (show I64 0 from (by unfold I64; omega))⟩
 ·skip
  have h1d := B.df h1
  refine R0 ?_
  have r1 : (l).length ≤ bd n := (okl hokl).1
  have r2 : -9223372036854775808 ≤ (spec_l6Find l n_) ∧ (spec_l6Find l n_) ≤ 9223372036854775807 := hq1
  refine WX.slot 13 (y := .v (.int .i64 ((((spec_l6Find l n_)).toNat : Nat) : Int))) rfl (fun _ => congrArg (Value.int .i64) (show (spec_l6Find l n_) = ((((spec_l6Find l n_)).toNat : Nat) : Int) from by omega)) ?_
  have e1i : ((spec_l6Find l n_)).toNat < (l).length := (by first | assumption | omega)
  obtain ⟨e1, e1h⟩ : ∃ e1, (l)[((spec_l6Find l n_)).toNat]? = some e1 := ⟨_, List.getElem?_eq_getElem e1i⟩
  have ok1 : GoT.ok n e1 := (okl hokl).2 _ (List.mem_of_getElem? e1h)
  refine WX.idx 0 (((spec_l6Find l n_)).toNat) ttOk rfl rfl rfl rfl rfl rfl rfl rfl rfl rfl e1i ?_
  rintro ad1 rfl
  refine R0 ?_
  refine WX.ldE 0 2 e1 ttOk rfl rfl rfl rfl rfl rfl rfl rfl e1h (fun _ => rfl) (fun _ => rfl) ?_
  rintro ⟨⟨p1, c1⟩, ⟨⟩⟩
  refine R0 ?_
  have hP2 : spec_LookupEntry l n_ = (e1.value, true) := by simp only [spec_LookupEntry, h1, e1h, ct, cf]
  refine R1 ?_
  intro w1 G bs hI hΓ
  rw [hP2]
  exact ⟨rfl, (ok_TableEntry ok1).2⟩
theorem f28 (w : World) (n : Nat) (hn : n + 0 ≤ 9) (v : StateVector) (pv : Option Addr) (cv : Nat) (N0 : RdSl (hp w) pv cv v.entries) (n_ : Name) (K1 : Option Addr) (M1 : Nat) (N1 : RdSl (hp w) K1 M1 n_.parts) (hokv : GoT.ok n v) (hokn_ : GoT.ok n n_) :
  Does Try.prog 28 #[.agg #[.slice pv ((v.entries).length) cv], .agg #[.slice K1 ((n_.parts).length) M1]] w emp (fun (rv : Value) (_ : World) => rv = .int .i64 ((impl_SeqOf v n_)) ∧ GoT.ok n ((impl_SeqOf v n_) : Int)) := by
 have hbP := bd_pos n
 have hbB := bd_big (n := n) (by omega)
 refine WX.enter (tt := tt) (Γ := [(0, MF.rs .stb pv cv v.entries), (1, MF.rs .stb K1 M1 n_.parts)]) Try.func28 rfl (by kernel_rfl) rfl (allS_cons rfl N0 (allS_cons rfl N1 allS_nil)) ?_
 refine R0 ?_
 refine WX.callV rfl rfl rfl rfl rfl (fun _ => rfl) rfl (fun w G bs hI hΓ => f59 w n (by omega) v.entries pv cv (hΓ.get 0 rfl) n_ K1 M1 (hΓ.get 1 rfl) (ok_StateVector hokv) hokn_) ?_
 intro hq1
 refine R0 ?_
 have hP1 : impl_SeqOf v n_ = ((impl_LookupEntry v.entries n_).1) := by simp only [impl_SeqOf, ct, cf]
 refine R1 ?_
 intro w1 G bs hI hΓ
 rw [hP1]
 exact ⟨rfl, hq1⟩
theorem f29 (w : World) (n : Nat) (hn : n + 0 ≤ 9) (v : StateVector) (pv : Option Addr) (cv : Nat) (N0 : RdSl (hp w) pv cv v.entries) (n_ : Name) (K1 : Option Addr) (M1 : Nat) (N1 : RdSl (hp w) K1 M1 n_.parts) (hokv : GoT.ok n v) (hokn_ : GoT.ok n n_) :
  Does Try.prog 29 #[.agg #[.slice pv ((v.entries).length) cv], .agg #[.slice K1 ((n_.parts).length) M1]] w emp (fun (rv : Value) (_ : World) => rv = .int .i64 ((spec_SeqOf v n_)) ∧ GoT.ok n ((spec_SeqOf v n_) : Int)) := by
 have hbP := bd_pos n
 have hbB := bd_big (n := n) (by omega)
 refine WX.enter (tt := tt) (Γ := [(0, MF.rs .stb pv cv v.entries), (1, MF.rs .stb K1 M1 n_.parts)]) Try.func29 rfl (by kernel_rfl) rfl (allS_cons rfl N0 (allS_cons rfl N1 allS_nil)) ?_
 refine R0 ?_
 refine WX.callV rfl rfl rfl rfl rfl (fun _ => rfl) rfl (fun w G bs hI hΓ => f60 w n (by omega) v.entries pv cv (hΓ.get 0 rfl) n_ K1 M1 (hΓ.get 1 rfl) (ok_StateVector hokv) hokn_) ?_
 intro hq1
 refine R0 ?_
 have hP1 : spec_SeqOf v n_ = ((spec_LookupEntry v.entries n_).1) := by simp only [spec_SeqOf, ct, cf]
 refine R1 ?_
 intro w1 G bs hI hΓ
 rw [hP1]
 exact ⟨rfl, hq1⟩
theorem f23 (w : World) (n : Nat) (hn : n + 0 ≤ 9) (a : StateVector) (pa : Option Addr) (ca : Nat) (N0 : RdSl (hp w) pa ca a.entries) (b : StateVector) (pb : Option Addr) (cb : Nat) (N1 : RdSl (hp w) pb cb b.entries) (hoka : GoT.ok n a) (hokb : GoT.ok n b) :
  Does Try.prog 23 #[.agg #[.slice pa ((a.entries).length) ca], .agg #[.slice pb ((b.entries).length) cb]] w emp (Post w emp (fun x : GoT.X ((List TableEntry)) => (GoT.sh ((impl_NewerThan a b) : (List TableEntry)) x).headD undef) (fun x => GoT.oa ((impl_NewerThan a b) : (List TableEntry)) x) (GoT.ok n ((impl_NewerThan a b) : (List TableEntry)))) := by
 have hbP := bd_pos n
 have hbB := bd_big (n := n) (by omega)
 refine WX.enter (tt := tt) (Γ := [(0, MF.rs .stb pa ca a.entries), (1, MF.rs .stb pb cb b.entries)]) Try.func23 rfl (by kernel_rfl) rfl (allS_cons rfl N0 (allS_cons rfl N1 allS_nil)) ?_
 refine R0 ?_
 refine WX.bld ttOk rfl rfl rfl rfl rfl rfl rfl ?_
 intro p1
 refine R0 ?_
 refine WX.free 2 (MF.ol [] ([] : List TableEntry)) rfl ?_
 have r1 : (a.entries).length ≤ bd n := (okl (ok_StateVector hoka)).1
 refine WX.loop (ι := (Option Addr) × Nat × (List Value) × (List TableEntry) × Nat) ⟨fun | (pout, cout, xsout, out, i) => (i ≤ (a.entries).length) ∧ (∀ z_ ∈ out, GoT.ok n z_) ∧ (out.length ≤ 20) ∧ (impl_NewerThan_L1 a b a.entries ([] : List TableEntry) = impl_NewerThan_L1 a b ((a.entries).drop i) out), fun | (pout, cout, xsout, out, i) => (a.entries).length - i, fun | (pout, cout, xsout, out, i) => [(5, .v (.slice pout ((out).length) cout)), (13, .v (.int .i64 (((i : Nat) : Int)))), (12, .v (.int .i64 ((((a.entries).length : Nat) : Int)))), (11, .v (.slice pa ((a.entries).length) ca)), (3, .p 3 0), (2, .p 2 0)], fun | (pout, cout, xsout, out, i) => [(3, ⟨30, [.slice pb ((b.entries).length) cb]⟩), (2, ⟨30, [.slice pa ((a.entries).length) ca]⟩)], fun | (pout, cout, xsout, out, i) => [(9, ⟨2, pout, (out).length, cout, xsout⟩)], fun | (pout, cout, xsout, out, i) => [(0, MF.rs .stb pa ca a.entries), (1, MF.rs .stb pb cb b.entries), (2, MF.ol xsout (out : List TableEntry))]⟩ (p1, 0, [], ([] : List TableEntry), 0) ⟨(Nat.zero_le _), (fun a ha => by cases ha), (by simp), rfl⟩
  (.cons rfl (.cons rfl (.cons rfl (.cons rfl (.cons rfl (.cons rfl (.nil))))))) (.cons rfl (.cons rfl (.nil))) (.cons rfl (.nil)) [0, 1, 2] rfl ?_
 rintro ⟨pout, cout, xsout, out, i⟩ hpre
 have hpre_ : (i ≤ (a.entries).length) ∧ (∀ z_ ∈ out, GoT.ok n z_) ∧ (out.length ≤ 20) ∧ (impl_NewerThan_L1 a b a.entries ([] : List TableEntry) = impl_NewerThan_L1 a b ((a.entries).drop i) out) := hpre
 clear hpre
 obtain ⟨v1, v2, v3, v4⟩ := hpre_
 refine R0 ?_
 refine WX.cases 14 rfl (fun h1 => ?_) (fun h1 => ?_)
 ·skip
  have h1d := B.dt h1
  have e1i : i < (a.entries).length := (by omega)
  obtain ⟨e1, e1h⟩ : ∃ e1, (a.entries)[i]? = some e1 := ⟨_, List.getElem?_eq_getElem e1i⟩
  have ok1 : GoT.ok n e1 := (okl (ok_StateVector hoka)).2 _ (List.mem_of_getElem? e1h)
  refine R0 ?_
  refine WX.idx 0 i ttOk rfl rfl rfl rfl rfl rfl rfl rfl rfl rfl e1i ?_
  rintro ad1 rfl
  refine WX.ldE 0 3 e1 ttOk rfl rfl rfl rfl rfl rfl rfl rfl e1h (fun _ => rfl) (fun _ => rfl) ?_
  rintro ⟨⟨p2, c1⟩, ⟨⟩⟩
  refine R0 ?_
  refine WX.callV rfl rfl rfl rfl rfl (fun _ => rfl) rfl (fun w G bs hI hΓ => f28 w n (by omega) b pb cb (hΓ.get 1 rfl) e1.name p2 c1 (hΓ.get 3 rfl) hokb ((ok_TableEntry ok1).1)) ?_
  intro hq1
  refine R0 ?_
  refine WX.loop (ι := (Option Addr) × Nat × (List Value) × (List TableEntry) × Int) ⟨fun | (pout2, cout2, xsout2, out2, k) => (∀ z_ ∈ out2, GoT.ok n z_) ∧ (-9223372036854775808 ≤ k ∧ k ≤ 9223372036854775807) ∧ (out2.length ≤ 20) ∧ (impl_NewerThan_L2 a e1 (out : List TableEntry) (impl_SeqOf b e1.name) = impl_NewerThan_L2 a e1 out2 k), fun | (pout2, cout2, xsout2, out2, k) => 20 - out2.length, fun | (pout2, cout2, xsout2, out2, k) => [(5, .v (.slice pout2 ((out2).length) cout2)), (8, .v (.int .i64 (k))), (7, .p 7 0), (13, .v (.int .i64 (((i : Nat) : Int)))), (12, .v (.int .i64 ((((a.entries).length : Nat) : Int)))), (11, .v (.slice (some ad1) ((a.entries).length) ca)), (3, .p 3 0), (2, .p 2 0)], fun | (pout2, cout2, xsout2, out2, k) => [(7, ⟨63, [.slice p2 ((e1.name.parts).length) c1, .int .i64 (e1.value)]⟩), (3, ⟨30, [.slice pb ((b.entries).length) cb]⟩), (2, ⟨30, [.slice (some ad1) ((a.entries).length) ca]⟩)], fun | (pout2, cout2, xsout2, out2, k) => [(9, ⟨2, pout2, (out2).length, cout2, xsout2⟩)], fun | (pout2, cout2, xsout2, out2, k) => [(0, MF.rs .stb (some ad1) ca a.entries), (1, MF.rs .stb pb cb b.entries), (2, MF.ol xsout2 (out2 : List TableEntry)), (3, MF.rs .stb p2 c1 e1.name.parts)]⟩ (pout, cout, xsout, (out : List TableEntry), (impl_SeqOf b e1.name)) ⟨v2, hq1, (by first | assumption | omega | (simp; omega)), rfl⟩
   (.cons rfl (.cons rfl (.cons rfl (.cons rfl (.cons rfl (.cons rfl (.cons rfl (.cons rfl (.nil))))))))) (.cons rfl (.cons rfl (.cons rfl (.nil)))) (.cons rfl (.nil)) [0, 1, 2, 3] rfl ?_
  rintro ⟨pout2, cout2, xsout2, out2, k⟩ hpre
  have hpre_ : (∀ z_ ∈ out2, GoT.ok n z_) ∧ (-9223372036854775808 ≤ k ∧ k ≤ 9223372036854775807) ∧ (out2.length ≤ 20) ∧ (impl_NewerThan_L2 a e1 (out : List TableEntry) (impl_SeqOf b e1.name) = impl_NewerThan_L2 a e1 out2 k) := hpre
  clear hpre
  obtain ⟨v5, v6, v7, v8⟩ := hpre_
  refine R0 ?_
  refine WX.callV rfl rfl rfl rfl rfl (fun _ => rfl) rfl (fun w G bs hI hΓ => f28 w n (by omega) a (some ad1) ca (hΓ.get 0 rfl) e1.name p2 c1 (hΓ.get 3 rfl) hoka ((ok_TableEntry ok1).1)) ?_
  intro hq2
  refine R0 ?_
  refine WX.cases 27 rfl (fun h2 => ?_) (fun h2 => ?_)
  ·skip
   have h2d := B.dt h2
   refine R0 ?_
   refine WX.cases 31 rfl (fun h3 => ?_) (fun h3 => ?_)
   ·skip
    have h3d := B.dt h3
    refine R0 ?_
    refine WX.callF 4 (fun _ _ h => GoT.ow_rd h) (fun _ f hf => GoT.fak f hf) rfl rfl rfl rfl rfl (fun _ => rfl) rfl (fun w G bs hI hΓ => f53 w n (by omega) e1.name p2 c1 (hΓ.get 3 rfl) ((ok_TableEntry ok1).1)) (fun _ => rfl) (fun _ => rfl) ?_
    rintro ⟨p3, c2⟩ hq3
    refine R0 ?_
    refine WX.see rfl rfl rfl (fun _ hΓ => looks_wrap rfl rfl rfl rfl) ?_
    refine R0 ?_
    refine WX.bld ttOk rfl rfl rfl rfl rfl rfl rfl ?_
    intro p4
    refine WX.turn [5] 6 rfl (fun h hs => ol_one (α := TableEntry) (a := (TableEntry.mk (impl_copyName e1.name) (IntKind.i64.wrap (k + 1)))) (x := ((p3, c2), ())) hs) (gs := [MF.ol [.slice p3 (((impl_copyName e1.name).parts).length) c2, .int .i64 (IntKind.i64.wrap (k + 1))] ([(TableEntry.mk (impl_copyName e1.name) (IntKind.i64.wrap (k + 1)))] : List TableEntry)]) rfl ?_
    refine WX.know (fun G hΓ => (hΓ.get 6 rfl : OwL _ _ _).rd.one) ?_
    intro ho1
    refine WX.appR1 9 41 ((out2 ++ [(TableEntry.mk (impl_copyName e1.name) (IntKind.i64.wrap (k + 1)))]) : List TableEntry).length ttOk rfl rfl rfl rfl rfl rfl rfl rfl rfl rfl rfl rfl rfl ho1 (by simp) (by simp; omega) (by simp; omega) (fun _ _ => rfl) ?_
    intro p5 c3
    refine WX.turn [2, 6] 7 rfl (fun h hs => ol_app hs) (gs := [MF.ol (xsout2 ++ [.slice p3 (((impl_copyName e1.name).parts).length) c2, .int .i64 (IntKind.i64.wrap (k + 1))]) ((out2 ++ [(TableEntry.mk (impl_copyName e1.name) (IntKind.i64.wrap (k + 1)))]) : List TableEntry)]) rfl ?_
    refine R0 ?_
    refine WX.see rfl rfl rfl (fun _ hΓ => looks_wrap rfl rfl rfl rfl) ?_
    refine R0 ?_
    refine WX.turn [7] 2 rfl (fun _ h => h) rfl ?_
    exact WX.iter (p5, c3, (xsout2 ++ [.slice p3 (((impl_copyName e1.name).parts).length) c2, .int .i64 (IntKind.i64.wrap (k + 1))]), ((out2 ++ [(TableEntry.mk (impl_copyName e1.name) (IntKind.i64.wrap (k + 1)))]) : List TableEntry), IntKind.i64.wrap (k + 1)) ⟨(all_app v5 (all_cons (α := TableEntry) (And.intro hq3 (i64_wrap _)) (fun a ha => by cases ha))), (i64_wrap _), (by first | assumption | omega | (simp; omega)), (by rw [v8]; rw [impl_NewerThan_L2]; simp only [h2, h2d, h3, h3d, ct, cf, ↓reduceIte, Bool.false_eq_true])⟩ (by simp; omega) (.cons rfl (.cons rfl (.cons rfl (.cons rfl (.cons rfl (.cons rfl (.cons rfl (.cons rfl (.nil))))))))) (.cons rfl (.cons rfl (.cons rfl (.nil)))) (.cons rfl (.nil)) [0, 1, 2, 3] rfl
   ·skip
    have h3d := B.df h3
    refine R0 ?_
    have hX1 : impl_NewerThan_L2 a e1 (out : List TableEntry) (impl_SeqOf b e1.name) = (((out2) : List TableEntry), k) := by rw [v8]; rw [impl_NewerThan_L2]; simp only [h2, h2d, h3, h3d, ct, cf, ↓reduceIte, Bool.false_eq_true]
    refine WX.see rfl rfl rfl (fun _ hΓ => looks_arith rfl rfl rfl rfl (by unfold I64; first | omega | (simp only [List.length_take] at *; omega))) ?_
    refine R0 ?_
    exact WX.iter (pout2, cout2, xsout2, (out2 : List TableEntry), i + 1) ⟨(by omega), v5, (by first | assumption | omega | (simp; omega)), (by rw [v4, drop_get e1h]; simp only [impl_NewerThan_L1, hX1, ct, cf])⟩ (by first | (dsimp only; omega) | omega) (.cons rfl (.cons rfl (.cons rfl (.cons rfl (.cons rfl (.cons rfl (.nil))))))) (.cons rfl (.cons rfl (.nil))) (.cons rfl (.nil)) [0, 1, 2] rfl
  ·skip
   have h2d := B.df h2
   refine R0 ?_
   have hX2 : impl_NewerThan_L2 a e1 (out : List TableEntry) (impl_SeqOf b e1.name) = (((out2) : List TableEntry), k) := by rw [v8]; rw [impl_NewerThan_L2]; simp only [h2, h2d, ct, cf, ↓reduceIte, Bool.false_eq_true]
   refine WX.see rfl rfl rfl (fun _ hΓ => looks_arith rfl rfl rfl rfl (by unfold I64; first | omega | (simp only [List.length_take] at *; omega))) ?_
   refine R0 ?_
   exact WX.iter (pout2, cout2, xsout2, (out2 : List TableEntry), i + 1) ⟨(by omega), v5, (by first | assumption | omega | (simp; omega)), (by rw [v4, drop_get e1h]; simp only [impl_NewerThan_L1, hX2, ct, cf])⟩ (by first | (dsimp only; omega) | omega) (.cons rfl (.cons rfl (.cons rfl (.cons rfl (.cons rfl (.cons rfl (.nil))))))) (.cons rfl (.cons rfl (.nil))) (.cons rfl (.nil)) [0, 1, 2] rfl
 ·skip
  have h1d := B.df h1
  refine R0 ?_
  have hX3 : impl_NewerThan_L1 a b a.entries ([] : List TableEntry) = ((out) : List TableEntry) := by rw [v4, List.drop_eq_nil_of_le (show (a.entries).length ≤ i by omega)]; simp only [impl_NewerThan_L1, ct, cf]
  refine WX.seal 9 2 8 rfl rfl rfl rfl rfl ?_
  have hP1 : impl_NewerThan a b = out := by simp only [impl_NewerThan, hX3, ct, cf]
  refine R1 ?_
  intro w1 G bs hI hΓ
  rw [hP1]
  exact Post.of [9] (pout, cout) hI hΓ rfl rfl rfl (okl_mk (by omega) v2 : GoT.ok n (out : List TableEntry))
theorem f24 (w : World) (n : Nat) (hn : n + 0 ≤ 9) (a : StateVector) (pa : Option Addr) (ca : Nat) (N0 : RdSl (hp w) pa ca a.entries) (b : StateVector) (pb : Option Addr) (cb : Nat) (N1 : RdSl (hp w) pb cb b.entries) (hoka : GoT.ok n a) (hokb : GoT.ok n b) :
  Does Try.prog 24 #[.agg #[.slice pa ((a.entries).length) ca], .agg #[.slice pb ((b.entries).length) cb]] w emp (Post w emp (fun x : GoT.X ((List TableEntry)) => (GoT.sh ((spec_NewerThan a b) : (List TableEntry)) x).headD undef) (fun x => GoT.oa ((spec_NewerThan a b) : (List TableEntry)) x) (GoT.ok n ((spec_NewerThan a b) : (List TableEntry)))) := by
 have hbP := bd_pos n
 have hbB := bd_big (n := n) (by omega)
 refine WX.enter (tt := tt) (Γ := [(0, MF.rs .stb pa ca a.entries), (1, MF.rs .stb pb cb b.entries)]) Try.func24 rfl (by kernel_rfl) rfl (allS_cons rfl N0 (allS_cons rfl N1 allS_nil)) ?_
 refine R0 ?_
 refine WX.bld ttOk rfl rfl rfl rfl rfl rfl rfl ?_
 intro p1
 refine R0 ?_
 refine WX.free 2 (MF.ol [] ([] : List TableEntry)) rfl ?_
 have r1 : (a.entries).length ≤ bd n := (okl (ok_StateVector hoka)).1
 refine WX.loop (ι := (Option Addr) × Nat × (List Value) × (List TableEntry) × Nat) ⟨fun | (pout, cout, xsout, out, i) => (i ≤ (a.entries).length) ∧ (∀ z_ ∈ out, GoT.ok n z_) ∧ (out.length ≤ 20) ∧ (spec_NewerThan_L1 a b a.entries ([] : List TableEntry) = spec_NewerThan_L1 a b ((a.entries).drop i) out), fun | (pout, cout, xsout, out, i) => (a.entries).length - i, fun | (pout, cout, xsout, out, i) => [(5, .v (.slice pout ((out).length) cout)), (6, .v (.int .i64 (((i : Nat) : Int)))), (3, .p 3 0), (2, .p 2 0)], fun | (pout, cout, xsout, out, i) => [(3, ⟨30, [.slice pb ((b.entries).length) cb]⟩), (2, ⟨30, [.slice pa ((a.entries).length) ca]⟩)], fun | (pout, cout, xsout, out, i) => [(11, ⟨2, pout, (out).length, cout, xsout⟩)], fun | (pout, cout, xsout, out, i) => [(0, MF.rs .stb pa ca a.entries), (1, MF.rs .stb pb cb b.entries), (2, MF.ol xsout (out : List TableEntry))]⟩ (p1, 0, [], ([] : List TableEntry), 0) ⟨(Nat.zero_le _), (fun a ha => by cases ha), (by simp), rfl⟩
  (.cons rfl (.cons rfl (.cons rfl (.cons rfl (.nil))))) (.cons rfl (.cons rfl (.nil))) (.cons rfl (.nil)) [0, 1, 2] rfl ?_
 rintro ⟨pout, cout, xsout, out, i⟩ hpre
 have hpre_ : (i ≤ (a.entries).length) ∧ (∀ z_ ∈ out, GoT.ok n z_) ∧ (out.length ≤ 20) ∧ (spec_NewerThan_L1 a b a.entries ([] : List TableEntry) = spec_NewerThan_L1 a b ((a.entries).drop i) out) := hpre
 clear hpre
 obtain ⟨v1, v2, v3, v4⟩ := hpre_
 refine R0 ?_
 refine WX.cases 16 rfl (fun h1 => ?_) (fun h1 => ?_)
 ·skip
  have h1d := B.dt h1
  have e1i : i < (a.entries).length := (by omega)
  obtain ⟨e1, e1h⟩ : ∃ e1, (a.entries)[i]? = some e1 := ⟨_, List.getElem?_eq_getElem e1i⟩
  have ok1 : GoT.ok n e1 := (okl (ok_StateVector hoka)).2 _ (List.mem_of_getElem? e1h)
  refine R0 ?_
  refine WX.idx 0 i ttOk rfl rfl rfl rfl rfl rfl rfl rfl rfl rfl e1i ?_
  rintro ad1 rfl
  refine R0 ?_
  refine WX.ldE 0 3 e1 ttOk rfl rfl rfl rfl rfl rfl rfl rfl e1h (fun _ => rfl) (fun _ => rfl) ?_
  rintro ⟨⟨p2, c1⟩, ⟨⟩⟩
  refine R0 ?_
  refine WX.callV rfl rfl rfl rfl rfl (fun _ => rfl) rfl (fun w G bs hI hΓ => f29 w n (by omega) a (some ad1) ca (hΓ.get 0 rfl) e1.name p2 c1 (hΓ.get 3 rfl) hoka ((ok_TableEntry ok1).1)) ?_
  intro hq1
  refine R0 ?_
  refine WX.callV rfl rfl rfl rfl rfl (fun _ => rfl) rfl (fun w G bs hI hΓ => f29 w n (by omega) b pb cb (hΓ.get 1 rfl) e1.name p2 c1 (hΓ.get 3 rfl) hokb ((ok_TableEntry ok1).1)) ?_
  intro hq2
  refine R0 ?_
  refine WX.loop (ι := (Option Addr) × Nat × (List Value) × (List TableEntry) × Int) ⟨fun | (pout2, cout2, xsout2, out2, k) => (∀ z_ ∈ out2, GoT.ok n z_) ∧ (-9223372036854775808 ≤ k ∧ k ≤ 9223372036854775807) ∧ (out2.length ≤ 20) ∧ (spec_NewerThan_L2 a e1 (out : List TableEntry) (spec_SeqOf b e1.name) = spec_NewerThan_L2 a e1 out2 k), fun | (pout2, cout2, xsout2, out2, k) => 20 - out2.length, fun | (pout2, cout2, xsout2, out2, k) => [(5, .v (.slice pout2 ((out2).length) cout2)), (9, .v (.int .i64 (k))), (8, .v (.int .i64 ((spec_SeqOf a e1.name)))), (7, .p 7 0), (6, .v (.int .i64 (((i : Nat) : Int)))), (3, .p 3 0), (2, .p 2 0)], fun | (pout2, cout2, xsout2, out2, k) => [(7, ⟨41, [.slice p2 ((e1.name.parts).length) c1]⟩), (3, ⟨30, [.slice pb ((b.entries).length) cb]⟩), (2, ⟨30, [.slice (some ad1) ((a.entries).length) ca]⟩)], fun | (pout2, cout2, xsout2, out2, k) => [(11, ⟨2, pout2, (out2).length, cout2, xsout2⟩)], fun | (pout2, cout2, xsout2, out2, k) => [(0, MF.rs .stb (some ad1) ca a.entries), (1, MF.rs .stb pb cb b.entries), (2, MF.ol xsout2 (out2 : List TableEntry)), (3, MF.rs .stb p2 c1 e1.name.parts)]⟩ (pout, cout, xsout, (out : List TableEntry), (spec_SeqOf b e1.name)) ⟨v2, hq2, (by first | assumption | omega | (simp; omega)), rfl⟩
   (.cons rfl (.cons rfl (.cons rfl (.cons rfl (.cons rfl (.cons rfl (.cons rfl (.nil)))))))) (.cons rfl (.cons rfl (.cons rfl (.nil)))) (.cons rfl (.nil)) [0, 1, 2, 3] rfl ?_
  rintro ⟨pout2, cout2, xsout2, out2, k⟩ hpre
  have hpre_ : (∀ z_ ∈ out2, GoT.ok n z_) ∧ (-9223372036854775808 ≤ k ∧ k ≤ 9223372036854775807) ∧ (out2.length ≤ 20) ∧ (spec_NewerThan_L2 a e1 (out : List TableEntry) (spec_SeqOf b e1.name) = spec_NewerThan_L2 a e1 out2 k) := hpre
  clear hpre
  obtain ⟨v5, v6, v7, v8⟩ := hpre_
  refine R0 ?_
  refine WX.cases 34 rfl (fun h2 => ?_) (fun h2 => ?_)
  ·skip
   have h2d := B.dt h2
   refine R0 ?_
   refine WX.cases 38 rfl (fun h3 => ?_) (fun h3 => ?_)
   ·skip
    have h3d := B.dt h3
    refine R0 ?_
    refine WX.callF 4 (fun _ _ h => GoT.ow_rd h) (fun _ f hf => GoT.fak f hf) rfl rfl rfl rfl rfl (fun _ => rfl) rfl (fun w G bs hI hΓ => f54 w n (by omega) e1.name p2 c1 (hΓ.get 3 rfl) ((ok_TableEntry ok1).1)) (fun _ => rfl) (fun _ => rfl) ?_
    rintro ⟨p3, c2⟩ hq3
    refine R0 ?_
    refine WX.see rfl rfl rfl (fun _ hΓ => looks_wrap rfl rfl rfl rfl) ?_
    refine R0 ?_
    refine WX.bld ttOk rfl rfl rfl rfl rfl rfl rfl ?_
    intro p4
    refine WX.turn [5] 6 rfl (fun h hs => ol_one (α := TableEntry) (a := (TableEntry.mk (spec_l4Copy e1.name) (IntKind.i64.wrap (k + 1)))) (x := ((p3, c2), ())) hs) (gs := [MF.ol [.slice p3 (((spec_l4Copy e1.name).parts).length) c2, .int .i64 (IntKind.i64.wrap (k + 1))] ([(TableEntry.mk (spec_l4Copy e1.name) (IntKind.i64.wrap (k + 1)))] : List TableEntry)]) rfl ?_
    refine WX.know (fun G hΓ => (hΓ.get 6 rfl : OwL _ _ _).rd.one) ?_
    intro ho1
    refine WX.appR1 11 48 ((out2 ++ [(TableEntry.mk (spec_l4Copy e1.name) (IntKind.i64.wrap (k + 1)))]) : List TableEntry).length ttOk rfl rfl rfl rfl rfl rfl rfl rfl rfl rfl rfl rfl rfl ho1 (by simp) (by simp; omega) (by simp; omega) (fun _ _ => rfl) ?_
    intro p5 c3
    refine WX.turn [2, 6] 7 rfl (fun h hs => ol_app hs) (gs := [MF.ol (xsout2 ++ [.slice p3 (((spec_l4Copy e1.name).parts).length) c2, .int .i64 (IntKind.i64.wrap (k + 1))]) ((out2 ++ [(TableEntry.mk (spec_l4Copy e1.name) (IntKind.i64.wrap (k + 1)))]) : List TableEntry)]) rfl ?_
    refine R0 ?_
    refine WX.see rfl rfl rfl (fun _ hΓ => looks_wrap rfl rfl rfl rfl) ?_
    refine R0 ?_
    refine WX.turn [7] 2 rfl (fun _ h => h) rfl ?_
    exact WX.iter (p5, c3, (xsout2 ++ [.slice p3 (((spec_l4Copy e1.name).parts).length) c2, .int .i64 (IntKind.i64.wrap (k + 1))]), ((out2 ++ [(TableEntry.mk (spec_l4Copy e1.name) (IntKind.i64.wrap (k + 1)))]) : List TableEntry), IntKind.i64.wrap (k + 1)) ⟨(all_app v5 (all_cons (α := TableEntry) (And.intro hq3 (i64_wrap _)) (fun a ha => by cases ha))), (i64_wrap _), (by first | assumption | omega | (simp; omega)), (by rw [v8]; rw [spec_NewerThan_L2]; simp only [h2, h2d, h3, h3d, ct, cf, ↓reduceIte, Bool.false_eq_true])⟩ (by simp; omega) (.cons rfl (.cons rfl (.cons rfl (.cons rfl (.cons rfl (.cons rfl (.cons rfl (.nil)))))))) (.cons rfl (.cons rfl (.cons rfl (.nil)))) (.cons rfl (.nil)) [0, 1, 2, 3] rfl
   ·skip
    have h3d := B.df h3
    refine R0 ?_
    have hX1 : spec_NewerThan_L2 a e1 (out : List TableEntry) (spec_SeqOf b e1.name) = (((out2) : List TableEntry), k) := by rw [v8]; rw [spec_NewerThan_L2]; simp only [h2, h2d, h3, h3d, ct, cf, ↓reduceIte, Bool.false_eq_true]
    refine WX.see rfl rfl rfl (fun _ hΓ => looks_arith rfl rfl rfl rfl (by unfold I64; first | omega | (simp only [List.length_take] at *; omega))) ?_
    refine R0 ?_
    exact WX.iter (pout2, cout2, xsout2, (out2 : List TableEntry), i + 1) ⟨(by omega), v5, (by first | assumption | omega | (simp; omega)), (by rw [v4, drop_get e1h]; simp only [spec_NewerThan_L1, hX1, ct, cf])⟩ (by first | (dsimp only; omega) | omega) (.cons rfl (.cons rfl (.cons rfl (.cons rfl (.nil))))) (.cons rfl (.cons rfl (.nil))) (.cons rfl (.nil)) [0, 1, 2] rfl
  ·skip
   have h2d := B.df h2
   refine R0 ?_
   have hX2 : spec_NewerThan_L2 a e1 (out : List TableEntry) (spec_SeqOf b e1.name) = (((out2) : List TableEntry), k) := by rw [v8]; rw [spec_NewerThan_L2]; simp only [h2, h2d, ct, cf, ↓reduceIte, Bool.false_eq_true]
   refine WX.see rfl rfl rfl (fun _ hΓ => looks_arith rfl rfl rfl rfl (by unfold I64; first | omega | (simp only [List.length_take] at *; omega))) ?_
   refine R0 ?_
   exact WX.iter (pout2, cout2, xsout2, (out2 : List TableEntry), i + 1) ⟨(by omega), v5, (by first | assumption | omega | (simp; omega)), (by rw [v4, drop_get e1h]; simp only [spec_NewerThan_L1, hX2, ct, cf])⟩ (by first | (dsimp only; omega) | omega) (.cons rfl (.cons rfl (.cons rfl (.cons rfl (.nil))))) (.cons rfl (.cons rfl (.nil))) (.cons rfl (.nil)) [0, 1, 2] rfl
 ·skip
  have h1d := B.df h1
  refine R0 ?_
  have hX3 : spec_NewerThan_L1 a b a.entries ([] : List TableEntry) = ((out) : List TableEntry) := by rw [v4, List.drop_eq_nil_of_le (show (a.entries).length ≤ i by omega)]; simp only [spec_NewerThan_L1, ct, cf]
  refine WX.seal 11 2 8 rfl rfl rfl rfl rfl ?_
  have hP1 : spec_NewerThan a b = out := by simp only [spec_NewerThan, hX3, ct, cf]
  refine R1 ?_
  intro w1 G bs hI hΓ
  rw [hP1]
  exact Post.of [9] (pout, cout) hI hΓ rfl rfl rfl (okl_mk (by omega) v2 : GoT.ok n (out : List TableEntry))
end Go.Proofs.Ytdimfabadjfkiaa

namespace Go.Stp
set_option linter.unusedVariables false
set_option linter.unusedSimpArgs false
def spec_l1Int (c_b : (List UInt8)) (c_i : Int) (c_h : Int) (list : (List Int)) : Int × Int × Int :=
  match spec_l1Below c_b c_i c_h (((list).length : Nat) : Int) with
    | (u1, u2, u3) =>
      match (list)[(u1).toNat]? with
        | none => default
        | some e1 =>
          (e1, u2, u3)
def spec_l1Str (c_b : (List UInt8)) (c_i : Int) (c_h : Int) (list : (List Str)) : Str × Int × Int :=
  match spec_l1Below c_b c_i c_h (((list).length : Nat) : Int) with
    | (u1, u2, u3) =>
      match (list)[(u1).toNat]? with
        | none => default
        | some e1 =>
          (e1, u2, u3)
def spec_l4Split_L1 (s : Str) (by_ : UInt8) (i : Nat) (out : List Str) (from_ : Int) : Nat × (List Str) × Int :=
  if ((i : Nat) : Int) ≤ (((s).size : Nat) : Int) then
    if (((i : Nat) : Int) == (((s).size : Nat) : Int)) = true then
      spec_l4Split_L1 s by_ (i + 1) (((out ++ [((s).extract (Int.toNat from_) i)])) : List Str) (((i : Nat) : Int) + 1)
    else
      match ((s).data.toList)[i]? with
        | none => default
        | some e1 =>
          if (((e1).toNat : Int) == ((by_).toNat : Int)) = true then
            spec_l4Split_L1 s by_ (i + 1) (((out ++ [((s).extract (Int.toNat from_) i)])) : List Str) (((i : Nat) : Int) + 1)
          else
            spec_l4Split_L1 s by_ (i + 1) ((out) : List Str) from_
  else
    (i, ((out) : List Str), from_)
termination_by (s).size + 1 - i
decreasing_by all_goals (simp_wf; omega)
def spec_l4Split (s : Str) (by_ : UInt8) : (List Str) :=
  match spec_l4Split_L1 s by_ 0 ([] : List Str) 0 with
    | (i, out, from_) =>
      out
theorem l4some {s : Str} {i : Nat} (h : i < s.size) : ∃ e, (s.data.toList)[i]? = some e := ⟨_, List.getElem?_eq_getElem (show i < s.data.toList.length from by rw [Array.length_toList]; exact h)⟩
theorem l4mono (s : Str) (b : UInt8) : ∀ (m i : Nat) (out : List Str) (f : Int), s.size + 1 - i = m → out.length ≤ (spec_l4Split_L1 s b i out f).2.1.length
  | 0, i, out, f, h => by rw [spec_l4Split_L1, if_neg (by omega)]; exact Nat.le_refl _
  | m + 1, i, out, f, h => by
    rw [spec_l4Split_L1, if_pos (by omega)]
    by_cases h2 : i = s.size
    · rw [if_pos (by simp [h2])]
      have := l4mono s b m (i + 1) (out ++ [s.extract (Int.toNat f) i]) (((i : Nat) : Int) + 1) (by omega)
      rw [List.length_append] at this
      omega
    · obtain ⟨e, he⟩ := l4some (s := s) (i := i) (by omega)
      rw [if_neg (by simp; omega), he]
      dsimp only
      have h3 := l4mono s b m (i + 1) (out ++ [s.extract (Int.toNat f) i]) (((i : Nat) : Int) + 1) (by omega)
      have h4 := l4mono s b m (i + 1) out f (by omega)
      rw [List.length_append] at h3
      split
      · omega
      · exact h4
theorem l4one (s : Str) (b : UInt8) : ∀ (m i : Nat) (out : List Str) (f : Int), s.size - i = m → i ≤ s.size → 1 ≤ (spec_l4Split_L1 s b i out f).2.1.length
  | m, i, out, f, h, hi => by
    rw [spec_l4Split_L1, if_pos (by omega)]
    have h3 := l4mono s b _ (i + 1) (out ++ [s.extract (Int.toNat f) i]) (((i : Nat) : Int) + 1) rfl
    rw [List.length_append, List.length_cons] at h3
    by_cases h2 : i = s.size
    · rw [if_pos (by simp [h2])]
      omega
    · obtain ⟨e, he⟩ := l4some (s := s) (i := i) (by omega)
      rw [if_neg (by simp; omega), he]
      dsimp only
      split
      · omega
      · exact l4one s b (m - 1) (i + 1) out f (by omega) (by omega)
termination_by m => m
decreasing_by omega
theorem len_l4Split (s : Str) (b : UInt8) : 1 ≤ (spec_l4Split s b).length := l4one s b _ 0 [] 0 rfl (Nat.zero_le _)
def spec_ParseName (s : Str) : Name × Bool :=
  bif ((s).toList == ((⟨#[47]⟩ : Str)).toList) then
    ((Name.mk ([])), true)
  else
    bif decide (((((spec_l4Split s (47 : UInt8))).length : Nat) : Int) < 2) then
      ((Name.mk ([])), false)
    else
      match ((spec_l4Split s (47 : UInt8)))[0]? with
        | none => default
        | some e1 =>
          bif (!((e1).toList == ((⟨#[]⟩ : Str)).toList)) then
            ((Name.mk ([])), false)
          else
            bif (!(spec_ValidName (Name.mk (List.drop 1 (spec_l4Split s (47 : UInt8)))))) then
              ((Name.mk ([])), false)
            else
              ((Name.mk (List.drop 1 (spec_l4Split s (47 : UInt8)))), true)
def spec_l4Of (s : Str) : Name :=
  ((spec_ParseName s).1)
def spec_AppendPart (n_ : Name) (s : Str) : Name × Bool :=
  bif (!(spec_ValidName (Name.mk (n_.parts ++ [s])))) then
    ((spec_l4Copy n_), false)
  else
    ((Name.mk (n_.parts ++ [s])), true)
theorem aP_len (n_ : Name) (s : Str) : (spec_AppendPart n_ s).1.parts.length ≤ n_.parts.length + 1 := by
  unfold spec_AppendPart
  cases (!(spec_ValidName (Name.mk (n_.parts ++ [s])))) <;> simp [spec_l4Copy]
theorem aP_els {k : Nat} (n_ : Name) (s : Str) (h1 : ∀ a ∈ n_.parts, GoT.ok k a) (h2 : GoT.ok k s) : ∀ a ∈ (spec_AppendPart n_ s).1.parts, GoT.ok k a := by
  unfold spec_AppendPart
  intro a ha
  cases hv : (!(spec_ValidName (Name.mk (n_.parts ++ [s]))))
  · rw [hv] at ha
    rcases List.mem_append.1 (show a ∈ n_.parts ++ [s] from ha) with ha | ha
    · exact h1 a ha
    · obtain rfl := List.mem_singleton.1 ha
      exact h2
  · rw [hv] at ha
    exact h1 a (show a ∈ n_.parts by simpa [spec_l4Copy] using ha)
def spec_l4Name_L1 (c_b : (List UInt8)) (i : Int) (n_ : List Str) (u999_i : Int) (u999_h : Int) : Int × (List Str) × Int × Int :=
  if i > 0 then
    match spec_l1Str c_b u999_i u999_h ([(⟨#[97]⟩ : Str), (⟨#[98]⟩ : Str), (⟨#[110, 101, 119, 115]⟩ : Str), (⟨#[120, 45, 49]⟩ : Str), (⟨#[49]⟩ : Str), (⟨#[107, 101, 121]⟩ : Str)]) with
      | (u4, u5, u6) =>
        spec_l4Name_L1 c_b (i - 1) (((spec_AppendPart (Name.mk n_) u4).1.parts) : List Str) u5 u6
  else
    (i, ((n_) : List Str), u999_i, u999_h)
termination_by i.toNat
decreasing_by all_goals (simp_wf; omega)
def spec_l4Name (c_b : (List UInt8)) (c_i : Int) (c_h : Int) : Name × Int × Int :=
  match spec_l1Below c_b c_i c_h 4 with
    | (u1, u2, u3) =>
      match spec_l4Name_L1 c_b u1 (([] : List Str) : List Str) u2 u3 with
        | (i, n_, u999_i, u999_h) =>
          ((Name.mk n_), u999_i, u999_h)
theorem l4NameL (b : List UInt8) : ∀ (m : Nat) (i : Int) (n_ : List Str) (a h : Int), i.toNat = m → n_.length + m ≤ 3 → (spec_l4Name_L1 b i n_ a h).2.1.length ≤ 3
  | 0, i, n_, a, h, hm, hl => by
    rw [spec_l4Name_L1, if_neg (by omega)]
    exact hl
  | m + 1, i, n_, a, h, hm, hl => by
    rw [spec_l4Name_L1, if_pos (by omega)]
    rcases spec_l1Str b a h ([(⟨#[97]⟩ : Str), (⟨#[98]⟩ : Str), (⟨#[110, 101, 119, 115]⟩ : Str), (⟨#[120, 45, 49]⟩ : Str), (⟨#[49]⟩ : Str), (⟨#[107, 101, 121]⟩ : Str)]) with ⟨x, j, k⟩
    dsimp only
    have := aP_len (Name.mk n_) x
    dsimp only at this
    exact l4NameL b m _ _ _ _ (by omega) (by omega)
theorem l4Name_len (b : List UInt8) (i h : Int) : (spec_l4Name b i h).1.parts.length ≤ 3 := by
  unfold spec_l4Name
  have h1 := l1Below_rng b i h 4
  rcases e : spec_l1Below b i h 4 with ⟨x, j, k⟩
  rw [e] at h1
  dsimp only at h1 ⊢
  exact l4NameL b _ x [] j k rfl (by simp; omega)
def spec_l4Any_L1 (c_b : (List UInt8)) (n_ : List Str) (u999_i : Int) (u999_h : Int) : (List Str) × Int × Int :=
  if (((n_).length : Nat) : Int) < 5 + ((spec_l1Below c_b u999_i u999_h 3).1) then
    spec_l4Any_L1 c_b (((n_ ++ [(⟨#[109]⟩ : Str)])) : List Str) ((spec_l1Below c_b u999_i u999_h 3).2.1) ((spec_l1Below c_b u999_i u999_h 3).2.2)
  else
    (((n_) : List Str), ((spec_l1Below c_b u999_i u999_h 3).2.1), ((spec_l1Below c_b u999_i u999_h 3).2.2))
termination_by 7 - n_.length
decreasing_by all_goals (have z_ := l1Below_rng c_b u999_i u999_h 3; (try simp_wf); (try simp only [List.length_append, List.length_cons, List.length_nil]); omega)
def spec_l4Any (c_b : (List UInt8)) (c_i : Int) (c_h : Int) : Name × Int × Int :=
  match spec_l4Name c_b c_i c_h with
    | (u1, u2, u3) =>
      match spec_l1Below c_b u2 u3 8 with
        | (u4, u5, u6) =>
          bif (u4 == 0) then
            match spec_l1Str c_b u5 u6 ([(⟨#[]⟩ : Str), (⟨#[65]⟩ : Str), (⟨#[116, 111, 111, 108, 111, 110, 103, 120, 120]⟩ : Str), (⟨#[97, 47, 98]⟩ : Str), (⟨#[32]⟩ : Str), (⟨#[101, 105, 103, 104, 116, 56, 56, 56]⟩ : Str)]) with
              | (u7, u8, u9) =>
                ((Name.mk (u1.parts ++ [u7])), u8, u9)
          else
            bif (u4 == 1) then
              match spec_l4Any_L1 c_b (u1.parts : List Str) u5 u6 with
                | (n_, u999_i, u999_h) =>
                  ((Name.mk n_), u999_i, u999_h)
            else
              (u1, u5, u6)
theorem l4AnyL (b : List UInt8) : ∀ (m : Nat) (n_ : List Str) (a h : Int), 7 - n_.length = m → n_.length ≤ 7 → (spec_l4Any_L1 b n_ a h).1.length ≤ 7
  | m, n_, a, h, hm, hl => by
    rw [spec_l4Any_L1]
    have h1 := l1Below_rng b a h 3
    split
    · exact l4AnyL b (m - 1) _ _ _ (by simp; omega) (by simp; omega)
    · exact hl
termination_by m => m
decreasing_by omega
theorem l4Any_len (b : List UInt8) (i h : Int) : (spec_l4Any b i h).1.parts.length ≤ 7 := by
  unfold spec_l4Any
  have h1 := l4Name_len b i h
  rcases e : spec_l4Name b i h with ⟨x, j, k⟩
  rw [e] at h1
  dsimp only at h1 ⊢
  rcases spec_l1Below b j k 8 with ⟨x2, j2, k2⟩
  dsimp only
  cases (x2 == 0)
  · simp only [cond_false]
    cases (x2 == 1)
    · simp only [cond_false]; omega
    · simp only [cond_true]
      exact l4AnyL b _ x.parts j2 k2 rfl (by omega)
  · simp only [cond_true, List.length_append, List.length_cons, List.length_nil]
    omega
def spec_l1Bent (c_b : (List UInt8)) (c_i : Int) (c_h : Int) (b : (List UInt8)) : (List UInt8) × Int × Int :=
  match spec_l1Below c_b c_i c_h 6 with
    | (u1, u2, u3) =>
      bif (u1 == 0) then
        bif decide ((((b).length : Nat) : Int) > 0) then
          match spec_l1Below c_b u2 u3 (((b).length : Nat) : Int) with
            | (u4, u5, u6) =>
              match spec_l1Below c_b u5 u6 256 with
                | (u7, u8, u9) =>
                  match (b)[(u4).toNat]? with
                    | none => default
                    | some e1 =>
                      ((b.set ((u4).toNat) (toU8 u7)), u8, u9)
        else
          (b, u2, u3)
      else
        bif (u1 == 1) then
          match spec_l1Below c_b u2 u3 ((((b).length : Nat) : Int) + 1) with
            | (u10, u11, u12) =>
              ((List.take (Int.toNat u10) b), u11, u12)
        else
          bif (u1 == 2) then
            match spec_l1Int c_b u2 u3 ([0, 1, 128, 255]) with
              | (u13, u14, u15) =>
                ((b ++ [(toU8 u13)]), u14, u15)
          else
            (b, u2, u3)
end Go.Stp

