/-
  What the proof of one law needs: rules of the program logic, functions as Lean functions, contracts. No condition but what each says. Written by a program (pack.py) out of my own texts.
-/
import Derived.Laws.IdiomStrings
import Derived.Test.YtolepebgdfdciaaGreatKFnLogs2
namespace Go.Stp
set_option linter.unusedVariables false
set_option linter.unusedSimpArgs false
def laws_big (code : (List UInt8)) : Bool :=
  (decide ((((code).length : Nat) : Int) > 1048576))
theorem bitAnd255 (x : Int) : 0 ≤ bitO .and x 255 ∧ bitO .and x 255 ≤ 255 := by
  have h : (BitVec.ofInt 64 x).toNat &&& 255 ≤ 255 := Nat.and_le_right
  have h2 : (BitVec.ofInt 64 (255 : Int)).toNat = 255 := by decide
  simp only [bitO, BitVec.toNat_and, h2]
  rw [wrap_i64 (by unfold I64; omega)]
  omega
theorem tmod_below {x n : Int} (h : 0 ≤ x) (hn : 0 < n) : 0 ≤ Int.tmod x n ∧ (Int.tmod x n < n ∨ (Int.tmod x n = 0 ∧ n ≤ 0)) :=
  ⟨Int.tmod_nonneg n h, .inl (Int.tmod_lt_of_pos x hn)⟩
set_option maxRecDepth 100000 in
def spec_l1New_L1 : List UInt8 → Nat → Int → Int
  | [], i, h_ => h_
  | e1 :: rest_, i, h_ =>
    bif decide (((i : Nat) : Int) < 4000) then
      spec_l1New_L1 rest_ (i + 1) (bitO .and (IntKind.i64.wrap ((IntKind.i64.wrap ((IntKind.i64.wrap (h_ * 137)) + ((e1).toNat : Int))) + 11)) 1073741823)
    else
      h_
set_option maxRecDepth 100000 in
def spec_l1New (code : (List UInt8)) : Int × Int :=
  match spec_l1New_L1 code 0 (IntKind.i64.wrap (192917 + (((code).length : Nat) : Int))) with
    | h_ =>
      (0, h_)
set_option maxRecDepth 100000 in
theorem spec_l1New_L1_eqs : True := by
  have h1 := @spec_l1New_L1.eq_1
  have h2 := @spec_l1New_L1.eq_2
  trivial
def spec_l1Byte (c_b : (List UInt8)) (c_i : Int) (c_h : Int) : Int × Int × Int :=
  bif decide (c_i < (((c_b).length : Nat) : Int)) then
    match (c_b)[(c_i).toNat]? with
      | none => default
      | some e1 =>
        ((bitO .and (IntKind.i64.wrap ((bitO .and (bitO .xor (Int.fdiv (IntKind.i64.wrap ((IntKind.i64.wrap (c_h * 6364136223846793005)) + 1442695040888963407)) (2 ^ (min (Int.toNat (33 : Int)) 64))) (Int.fdiv (IntKind.i64.wrap ((IntKind.i64.wrap (c_h * 6364136223846793005)) + 1442695040888963407)) (2 ^ (min (Int.toNat (47 : Int)) 64)))) 255) + ((e1).toNat : Int))) 255), c_i + 1, IntKind.i64.wrap ((IntKind.i64.wrap (c_h * 6364136223846793005)) + 1442695040888963407))
  else
    ((bitO .and (bitO .xor (Int.fdiv (IntKind.i64.wrap ((IntKind.i64.wrap (c_h * 6364136223846793005)) + 1442695040888963407)) (2 ^ (min (Int.toNat (33 : Int)) 64))) (Int.fdiv (IntKind.i64.wrap ((IntKind.i64.wrap (c_h * 6364136223846793005)) + 1442695040888963407)) (2 ^ (min (Int.toNat (47 : Int)) 64)))) 255), c_i, IntKind.i64.wrap ((IntKind.i64.wrap (c_h * 6364136223846793005)) + 1442695040888963407))
theorem l1Byte_rng (b : List UInt8) (i h : Int) : 0 ≤ (spec_l1Byte b i h).1 ∧ (spec_l1Byte b i h).1 ≤ 255 := by
  unfold spec_l1Byte
  cases decide (i < ((b.length : Nat) : Int))
  · exact bitAnd255 _
  · simp only [cond_true]
    cases b[i.toNat]? with
    | none => exact ⟨Int.le_refl (0 : Int), (by decide : (0 : Int) ≤ 255)⟩
    | some e => exact bitAnd255 _
def spec_l1Below (c_b : (List UInt8)) (c_i : Int) (c_h : Int) (n_ : Int) : Int × Int × Int :=
  bif decide (n_ ≤ 0) then
    (0, c_i, c_h)
  else
    bif decide (n_ ≤ 256) then
      match spec_l1Byte c_b c_i c_h with
        | (u1, u2, u3) =>
          ((Int.tmod u1 n_), u2, u3)
    else
      match spec_l1Byte c_b c_i c_h with
        | (u4, u5, u6) =>
          match spec_l1Byte c_b u5 u6 with
            | (u7, u8, u9) =>
              match spec_l1Byte c_b u8 u9 with
                | (u10, u11, u12) =>
                  ((Int.tmod (((u4 * 65536) + (u7 * 256)) + u10) n_), u11, u12)
theorem l1Below_rng (b : List UInt8) (i h n : Int) : 0 ≤ (spec_l1Below b i h n).1 ∧ ((spec_l1Below b i h n).1 < n ∨ ((spec_l1Below b i h n).1 = 0 ∧ n ≤ 0)) := by
  unfold spec_l1Below
  cases hn : decide (n ≤ 0)
  · have h0 := of_decide_eq_false hn
    simp only [cond_false]
    cases decide (n ≤ 256)
    · simp only [cond_false]
      have q1 := l1Byte_rng b i h
      rcases e1 : spec_l1Byte b i h with ⟨x1, i1, h1⟩
      have q2 := l1Byte_rng b i1 h1
      rcases e2 : spec_l1Byte b i1 h1 with ⟨x2, i2, h2⟩
      have q3 := l1Byte_rng b i2 h2
      rcases e3 : spec_l1Byte b i2 h2 with ⟨x3, i3, h3⟩
      rw [e1] at q1
      rw [e2] at q2
      rw [e3] at q3
      dsimp only at q1 q2 q3 ⊢
      exact tmod_below (by omega) (by omega)
    · exact tmod_below (l1Byte_rng _ _ _).1 (by omega)
  · have h0 := of_decide_eq_true hn
    exact ⟨Int.le_refl _, .inr ⟨rfl, h0⟩⟩
end Go.Stp

namespace Go.Stp
open GoT (X k ok sh fa oa)
theorem RdL.bytes (G : GH) : ∀ (l : List UInt8), RdL G (l.map fun b => Value.int .u8 b.toNat) l
  | [] => rfl
  | _ :: l => ⟨(), _, rfl, All.nil, RdL.bytes G l⟩
theorem toB_run {P : Program} {tt : TT} (ht : TabOk P tt) {S D E : Nat} {ts td te : TI} (hS : look tt S = some ts) (hSd : ts.desc = .string) (hD : look tt D = some td) (hDd : td.desc = .slice E) (hE : look tt E = some te) (hEd : te.desc = .int .u8) (w : World) (s : ByteArray) (hmax : s.size ≤ 9223372036854775807) :
    ∃ c w' h, (convert S D (.string s)).run P w = .ok (.slice (some ⟨w.heap.size, 0, none⟩) s.size c) w' ∧ Kp emp w w' ∧ Le h (hp w') ∧ (∀ x o, h x = some o → w.heap.size ≤ x) ∧ RdSl h (some ⟨w.heap.size, 0, none⟩) c s.data.toList := by
  have hu1 : P.underlying S = some .string := by rw [← hSd]; exact (ht.get hS).1
  have hu2 : P.underlying D = some (.slice E) := by rw [← hDd]; exact (ht.get hD).1
  have hu3 : P.underlying E = some (.int .u8) := by rw [← hEd]; exact (ht.get hE).1
  have hrun := run_bytes_of_string (P := P) w S D E s hu1 hu2 hu3
  generalize hc : grownCap w s.size 0 E = c at hrun
  have hge : s.size ≤ c := hc ▸ grownCap_ge w s.size 0 E
  generalize hob : Obj.cells (bytesRow s c) E ((bytesRow s c).size, (bytesRow s c).size + 1) = ob at hrun
  have hk : Kp emp w (w.drew.alloc ob) := by
    have h1 : Kp emp w w.drew := ⟨rfl, rfl, rfl, Nat.le_refl _, fun _ _ _ => rfl⟩
    exact h1.trans ((Kp.refl emp w.drew).alloc _)
  have hat : hp (w.drew.alloc ob) w.heap.size = some ob := by
    show (w.heap.push ob)[w.heap.size]? = some ob
    simp
  refine ⟨c, w.drew.alloc ob, sgl w.heap.size ob, hrun, hk, sgl_le hat, fun x o hx => ?_, hge, hmax, s.data.toList.map (fun b => Value.int .u8 b.toNat), fun j u hj => ⟨_, rfl, ?_⟩, RdL.bytes _ _⟩
  · by_cases hxx : x = w.heap.size
    · omega
    · rw [sgl_ne _ hxx] at hx; cases hx
  · have hlt : j < s.data.size := by
      have := (List.getElem?_eq_some_iff.1 hj).1
      simpa using this
    subst hob
    rw [Addr.add_lit]
    simp only [gcell, sgl_self, bytesRow]
    rw [List.getElem?_map] at hj
    simp only [Nat.zero_add, Option.isSome_none, Bool.false_eq_true, if_false]
    rw [Array.getElem?_append_left (by simpa using hlt), Array.getElem?_map]
    simpa using hj
theorem WX.toB {C : Cx} {ops : Array Oper} {o : Oper} {r : List Oper} {st : List It} {env : Env} {L : Locs} {R : Rows} {Γ : Facts} {x : Operand} {S D E d : Nat} {ts td te : TI} {s : ByteArray} (n : Nat) (ht : TabOk C.P C.tt) (hg : gd ops env o = some true) (hd : o.dst = some d) (hlt : Nat.blt d C.fn.ntmps = true) (ho : o.op = .convert S D x)
    (hS : look C.tt S = some ts) (hSd : ts.desc = .string) (hD : look C.tt D = some td) (hDd : td.desc = .slice E) (hE : look C.tt E = some te) (hEd : te.desc = .int .u8) (hx : ev env x = some (.v (.string s))) (hmax : s.size ≤ 9223372036854775807)
    (k : ∀ p c, WX C (.ops ops r :: st) ((d, .v (.slice (some p) (s.data.toList).length c)) :: env) L R ((n, MF.rs .stb (some p) c s.data.toList) :: Γ)) : WX C (.ops ops (o :: r) :: st) env L R Γ := by
  rintro a w ⟨G, bs, hA, hI, hΓ⟩
  show wpList C.P ops (cont C st) (o :: r) a w
  unfold wpList
  rw [if_pos (gd_sound hA hg)]
  refine .inl ?_
  unfold Oper.wp
  obtain ⟨c, w', h, hrun, hk, hle, hdom, hrd⟩ := toB_run ht hS hSd hD hDd hE hEd w s hmax
  have hexec : (execOp a.eval o).run C.P w = .ok (.value (.slice (some ⟨w.heap.size, 0, none⟩) s.size c)) w' := by
    unfold execOp
    simp only [ho, ev_conc hA hx, conc_v, Sem.run_bind, Sem.run_pure, Result.andThen_ok, hrun]
  rw [hexec]
  simp only [Oper.upon, hd]
  obtain ⟨hI', hdj⟩ := hI.called (emp_le _) (fun _ _ h => by cases h) hk hle (fun b o hb => .inl (hdom b o hb))
  refine k _ c _ _ ⟨_, bs, hA.put (by simpa [Nat.blt_eq] using hlt) (.v _), hI', ?_⟩
  exact AllK.new (G := cut G emp) hΓ n (MF.rs .stb _ c s.data.toList) (le_join_l _ _) (le_join_r hdj.symm) (fun _ => hdj) (fun hk => by cases hk) hrd
end Go.Stp

namespace Go.Stp
theorem looks_strB {C : Cx} {env : Env} {L : Locs} {R : Rows} {G : GH} {o : Oper} {x y z : Operand} {T : Nat} {ti : TI} {s : Str} {l h : Int} (m m2 : Nat) (ht : TabOk C.P C.tt) (ho : o.op = .slice T x (some y) (some z) none) (hT : look C.tt T = some ti) (hk : ti.desc = .string)
    (hx : ev env x = some (.v (.string s))) (hy : ev env y = some (.v (.int .i64 l))) (hz : ev env z = some (.v (.int .i64 h))) (h0 : l = (m : Int)) (h1 : h = (m2 : Int)) (h2 : m ≤ m2) (h3 : m2 ≤ s.size) : Looks C env L R G o (.v (.string (s.extract m m2))) := by
  intro a w G' bs _ hA hI
  subst h0 h1
  have hu : C.P.underlying T = some .string := by rw [← hk]; exact (ht.get hT).1
  unfold execOp
  simp only [ho, Option.map, ev_conc hA hx, ev_conc hA hy, ev_conc hA hz, conc, Sem.run_bind, run_sliceAt_string w T _ _ _ _ hu]
  simp [Instr.slice, Instr.sliceBounds, run_underlying hu, run_sliceBound, Sem.run_bind, h2, h3]
section
open GoT (k X sh oa)
variable {α : Type} [GoT α]
theorem OwL.take {h : GH} : ∀ {xs : List Value} {l : List α} (i : Nat), OwL h xs l → OwL h (xs.take (i * k α)) (l.take i)
  | xs, [], i, e => by
    have : xs = [] := e
    subst this
    simp only [List.take_nil]; rfl
  | xs, a :: l, 0, _ => by simp only [Nat.zero_mul, List.take_zero]; rfl
  | xs, a :: l, i + 1, ⟨x, ys, h1, h2, e, q1, q2, q3, q4, q5⟩ => by
    refine ⟨x, ys.take (i * k α), h1, h2, ?_, q1, q2, q3, q4, q5.take i⟩
    rw [e, Nat.add_mul, Nat.one_mul, List.take_append, GoT.len, List.take_of_length_le (by rw [GoT.len]; omega), Nat.add_sub_cancel]
theorem OwL.drop {h : GH} : ∀ {xs : List Value} {l : List α} (i : Nat), OwL h xs l → OwL h (xs.drop (i * k α)) (l.drop i)
  | xs, [], i, e => by
    have : xs = [] := e
    subst this
    simp only [List.drop_nil]; rfl
  | xs, a :: l, 0, e => by simpa using e
  | xs, a :: l, i + 1, ⟨x, ys, h1, h2, e, q1, q2, q3, q4, q5⟩ => by
    have := (q5.drop i).mono q2
    rw [e, Nat.add_mul, Nat.one_mul, List.drop_append, GoT.len, List.drop_eq_nil_of_le (by rw [GoT.len]; omega), Nat.add_sub_cancel, List.nil_append]
    simpa using this
theorem os_suf {p : Option Addr} {c : Nat} {l : List α} {h : GH} (m : Nat) (hm : m ≤ l.length) (hs : Sep h [MF.os p c l]) : Sep h [MF.os (offP p c m (k α)) (c - m) (l.drop m)] := by
  refine one_sep (?_ : OwSl h _ _ (l.drop m))
  rcases (sep_one hs : OwSl h p c l) with ⟨h1, h2⟩ | ⟨b, o, T, cur, h', k1, k2, k3, k4, k5, k6, k7, k8⟩
  · exact .inl ⟨by omega, by rw [h2, List.drop_nil]⟩
  · by_cases hc : c = m
    · exact .inl ⟨by omega, List.drop_eq_nil_of_le (by omega)⟩
    · subst k1
      have h0 : m * k α + (c - m) * k α = c * k α := by rw [← Nat.add_mul]; congr 1; omega
      refine .inr ⟨b, o + m * k α, T, cur, h', by unfold offP; rw [if_neg hc]; show some (Addr.add ⟨b, o, none⟩ (m * k α)) = _; rw [Addr.add_lit], k2, k3, k4, by rw [List.length_drop]; omega, by omega, by omega, ?_⟩
      have := k8.drop m
      rw [List.drop_take, List.drop_drop] at this
      rw [List.length_drop, Nat.sub_mul]
      exact this
end
def pickE (env : Env) : List Nat → Option Env
  | [] => some []
  | d :: ds => (match look env d with
    | some x => (match pickE env ds with | some q => some ((d, x) :: q) | none => none)
    | none => none)
theorem pickE_look {env : Env} : ∀ {ds : List Nat} {env' : Env}, pickE env ds = some env' → ∀ d x, look env' d = some x → look env d = some x
  | [], env', h, d, x, hx => by simp [pickE] at h; subst h; simp [look] at hx
  | e :: ds, env', h, d, x, hx => by
    simp only [pickE] at h
    split at h
    · rename_i y hy
      split at h
      · rename_i q hq
        simp only [Option.some.injEq] at h; subst h
        rw [look_cons] at hx
        split at hx
        · rename_i hed; subst hed; rw [← hx]; exact hy
        · exact pickE_look hq d x hx
      · cases h
    · cases h
theorem WX.trim {C : Cx} {s : List It} {env env' : Env} {L : Locs} {R : Rows} {Γ Γ' : Facts} (ds ks : List Nat) (he : pickE env ds = some env') (hk : pickK ks Γ = some Γ') (k : WX C s env' L R Γ') : WX C s env L R Γ := by
  rintro a w ⟨G, bs, hA, hI, hΓ⟩
  exact k a w ⟨G, bs, ⟨hA.size, hA.dfr, fun d x hx => hA.slot d x (pickE_look he d x hx)⟩, hI, hΓ.pick hk⟩
theorem WX.meet {C : Cx} {c : Code} {s : List It} {env : Env} {L : Locs} {R : Rows} {Γ : Facts} {ι : Type} (H : Head ι) (k1 : WX C (.code c :: .iter (H.I C 1) :: s) env L R Γ)
    (k2 : ∀ i, H.pre i → WX C s (H.env i) (H.L i) (H.R i) (H.Γ i)) : WX C (.code c :: s) env L R Γ := by
  intro a w hS
  show c.wp C.P (cont C s) a w
  intro b kk cs
  have hw : c.wp C.P (cont C (.iter (H.I C 1) :: s)) a w := k1 a w hS
  obtain ⟨e, a', w', hq, harr⟩ := hw b kk cs
  refine ⟨e, a', w', ?_, harr⟩
  cases e with
  | normal =>
    obtain ⟨i, hp, _, hs⟩ := (hq : H.I C 1 a' w')
    exact k2 i hp a' w' hs
  | exit id => exact hq
  | goto l => exact hq
  | ret => exact hq
  | panic ch => exact hq
  | outgrown => exact hq
theorem TX.share {C : Cx} {ops : Array Oper} {tl : List Nat} {s : List It} {S : World → Prop} {fuel : Nat} {listed : Array Bool} {env : Env} {L : Locs} {R : Rows} {Γ : Facts} {ι : Type} (H : Head ι) (fuel' : Nat) (listed' : Array Bool)
    (k1 : ∀ i, H.pre i → TX C ops tl s S fuel' listed' (H.env i) (H.L i) (H.R i) (H.Γ i)) (k2 : (∀ i, H.pre i → TX C ops tl s S fuel' listed' (H.env i) (H.L i) (H.R i) (H.Γ i)) → TX C ops tl s S fuel listed env L R Γ) : TX C ops tl s S fuel listed env L R Γ := k2 k1
theorem TX.use {C : Cx} {ops : Array Oper} {tl : List Nat} {s : List It} {S : World → Prop} {fuel : Nat} {listed listed' : Array Bool} {env : Env} {L : Locs} {R : Rows} {Γ : Facts} {ι : Type} {H : Head ι} (hN : ∀ i, H.pre i → TX C ops tl s S fuel listed' (H.env i) (H.L i) (H.R i) (H.Γ i)) (i : ι) (hi : H.pre i) (hl : listed' = listed)
    (he : Sub (H.env i) env) (hL : Sub (H.L i) L) (hR : Sub (H.R i) R) (ks : List Nat) (hΓ : pickK ks Γ = some (H.Γ i)) : TX C ops tl s S fuel listed env L R Γ := by
  subst hl
  exact fun hS a w h => hN i hi hS a w (h.sub he hL hR hΓ)
end Go.Stp

namespace Go.Proofs.YtolepebgdfdciaaGreat
open Go.Stp
set_option linter.unusedVariables false
set_option linter.unusedSimpArgs false
theorem f6 (w : World) (n : Nat) (code : (List UInt8)) (K0 : Option Addr) (M0 : Nat) (N0 : RdSl (hp w) K0 M0 code) (hokcode : GoT.ok n code) :
  Does Tryz.prog 6 #[.slice K0 ((code).length) M0] w emp (fun (rv : Value) (_ : World) => rv = .bool (laws_big code) ∧ True) := by
 refine WX.enter (tt := tt) (Γ := [(0, MF.rs .stb K0 M0 code)]) Tryz.func6 rfl (by kernel_rfl) rfl (allS_cons rfl N0 allS_nil) ?_
 refine R0 ?_
 have hP1 : laws_big code = (decide ((((code).length : Nat) : Int) > 1048576)) := by simp only [laws_big, ct, cf]
 exact R3 hP1
theorem f76 (w : World) (n : Nat) (hn : n + 0 ≤ 9) (code : (List UInt8)) (K0 : Option Addr) (M0 : Nat) (N0 : RdSl (hp w) K0 M0 code) (hokcode : GoT.ok n code) (o0_ : Int) (o1_ : Int) (hres : spec_l1New code = (o0_, o1_)) :
  Does Tryz.prog 76 #[.slice K0 ((code).length) M0] w emp (Post w emp (fun b_ : Nat => .pointer (some ⟨b_, 0, none⟩)) (fun b_ => [MF.bx b_ 182 [.slice K0 ((code).length) M0, .int .i64 (o0_), .int .i64 (o1_)]]) (NN (o0_) ∧ I64 (o1_))) := by
 have hbP := bd_pos n
 have hbB := bd_big (n := n) (by omega)
 refine WX.enter (tt := tt) (Γ := [(0, MF.rs .stb K0 M0 code)]) Tryz.func76 rfl (by kernel_rfl) rfl (allS_cons rfl N0 allS_nil) ?_
 refine R0 ?_
 refine WX.see rfl rfl rfl (fun _ hΓ => looks_wrap rfl rfl rfl rfl) ?_
 refine R0 ?_
 have r1 : (code).length ≤ bd n := (okl hokcode).1
 refine WX.loop (ι := Int × Nat) ⟨fun | (h_, i) => (i ≤ (code).length) ∧ (-9223372036854775808 ≤ h_ ∧ h_ ≤ 9223372036854775807) ∧ (spec_l1New_L1 code 0 (IntKind.i64.wrap (192917 + (((code).length : Nat) : Int))) = spec_l1New_L1 ((code).drop i) i h_), fun | (h_, i) => (code).length - i, fun | (h_, i) => [(3, .v (.int .i64 (h_))), (4, .v (.int .i64 (((i : Nat) : Int)))), (0, .v (.slice K0 ((code).length) M0))], fun | (h_, i) => [], fun | (h_, i) => [], fun | (h_, i) => [(0, MF.rs .stb K0 M0 code)]⟩ (IntKind.i64.wrap (192917 + (((code).length : Nat) : Int)), 0) ⟨(Nat.zero_le _), (i64_wrap _), rfl⟩
  (.cons rfl (.cons rfl (.cons rfl (.nil)))) .nil .nil [0] rfl ?_
 rintro ⟨h_, i⟩ hpre
 have hpre_ : (i ≤ (code).length) ∧ (-9223372036854775808 ≤ h_ ∧ h_ ≤ 9223372036854775807) ∧ (spec_l1New_L1 code 0 (IntKind.i64.wrap (192917 + (((code).length : Nat) : Int))) = spec_l1New_L1 ((code).drop i) i h_) := hpre
 clear hpre
 obtain ⟨v1, v2, v3⟩ := hpre_
 refine R0 ?_
 refine WX.cases 12 rfl (fun h1 => ?_) (fun h1 => ?_)
 ·skip
  have h1d := B.dt h1
  have e1i : i < (code).length := (by omega)
  obtain ⟨e1, e1h⟩ : ∃ e1, (code)[i]? = some e1 := ⟨_, List.getElem?_eq_getElem e1i⟩
  refine R0 ?_
  refine WX.cases 15 rfl (fun h2 => ?_) (fun h2 => ?_)
  ·skip
   have h2d := B.dt h2
   refine R0 ?_
   refine WX.see rfl rfl rfl (fun _ hΓ => looks_wrap rfl rfl rfl rfl) ?_
   refine R0 ?_
   refine WX.idx 0 i ttOk rfl rfl rfl rfl rfl rfl rfl rfl rfl rfl e1i ?_
   rintro ad1 rfl
   refine WX.ldE 0 1 e1 ttOk rfl rfl rfl rfl rfl rfl rfl rfl e1h (fun _ => rfl) (fun _ => rfl) ?_
   rintro ⟨⟩
   refine WX.see rfl rfl rfl (fun _ hΓ => looks_ofU8 ttOk rfl rfl rfl rfl rfl rfl) ?_
   refine WX.see rfl rfl rfl (fun _ hΓ => looks_wrap rfl rfl rfl rfl) ?_
   refine WX.see rfl rfl rfl (fun _ hΓ => looks_wrap rfl rfl rfl rfl) ?_
   refine WX.see rfl rfl rfl (fun _ hΓ => looks_bits rfl rfl rfl rfl) ?_
   refine R0 ?_
   refine WX.see rfl rfl rfl (fun _ hΓ => looks_arith rfl rfl rfl rfl (by unfold I64; first | omega | (simp only [List.length_take] at *; omega))) ?_
   refine R0 ?_
   exact WX.iter (bitO .and (IntKind.i64.wrap ((IntKind.i64.wrap ((IntKind.i64.wrap (h_ * 137)) + ((e1).toNat : Int))) + 11)) 1073741823, i + 1) ⟨(by omega), (bitO_I64 .and (IntKind.i64.wrap ((IntKind.i64.wrap ((IntKind.i64.wrap (h_ * 137)) + ((e1).toNat : Int))) + 11)) 1073741823), (by rw [v3, drop_get e1h]; simp only [spec_l1New_L1, h2, ct, cf])⟩ (by first | (dsimp only; omega) | omega) (.cons rfl (.cons rfl (.cons rfl (.nil)))) .nil .nil [0] rfl
  ·skip
   have h2d := B.df h2
   refine R0 ?_
   have hX1 : spec_l1New_L1 code 0 (IntKind.i64.wrap (192917 + (((code).length : Nat) : Int))) = h_ := by rw [v3, drop_get e1h]; simp only [spec_l1New_L1, h2, ct, cf]
   have hP1 : spec_l1New code = (0, h_) := by simp only [spec_l1New, hX1, ct, cf]
   have hz1 := hP1.symm.trans hres
   obtain ⟨hz1, hz2⟩ := Prod.mk.inj hz1
   subst hz1
   subst hz2
   refine WX.retQ rfl ?_
   intro w1 G bs hI hΓ
   exact Post.ofL 31 [] (bs 31) hI hΓ rfl rfl rfl rfl (⟨(show NN 0 from by unfold NN; omega), v2⟩)
 ·skip
  have h1d := B.df h1
  refine R0 ?_
  have hX2 : spec_l1New_L1 code 0 (IntKind.i64.wrap (192917 + (((code).length : Nat) : Int))) = h_ := by rw [v3, List.drop_eq_nil_of_le (show (code).length ≤ i by omega)]; simp only [spec_l1New_L1, ct, cf]
  have hP2 : spec_l1New code = (0, h_) := by simp only [spec_l1New, hX2, ct, cf]
  have hz1 := hP2.symm.trans hres
  obtain ⟨hz1, hz2⟩ := Prod.mk.inj hz1
  subst hz1
  subst hz2
  refine WX.retQ rfl ?_
  intro w1 G bs hI hΓ
  exact Post.ofL 31 [] (bs 31) hI hΓ rfl rfl rfl rfl (⟨(show NN 0 from by unfold NN; omega), v2⟩)
theorem f172 (w : World) (n : Nat) (hn : n + 0 ≤ 9) (H : GH) (hH : Le H (hp w)) (bc_ : Nat) (c_b : (List UInt8)) (K0 : Option Addr) (M0 : Nat) (N0 : RdSl (cut (hp w) H) K0 M0 c_b) (c_i : Int) (c_h : Int) (hown : Sep H [MF.bx bc_ 182 [.slice K0 ((c_b).length) M0, .int .i64 (c_i), .int .i64 (c_h)]]) (hokc_b : GoT.ok n c_b) (hokc_i : NN c_i) (hokc_h : GoT.ok n c_h) (o0_ : Int) (o1_ : Int) (o2_ : Int) (hres : spec_l1Byte c_b c_i c_h = (o0_, o1_, o2_)) :
  Does Tryz.prog 172 #[.pointer (some ⟨bc_, 0, none⟩)] w H (Post w H (fun _ : Unit => .int .i64 (o0_)) (fun _ => [MF.bx bc_ 182 [.slice K0 ((c_b).length) M0, .int .i64 (o1_), .int .i64 (o2_)]]) (GoT.ok n (o0_ : Int) ∧ NN (o1_) ∧ I64 (o2_))) := by
 have hbP := bd_pos n
 have hbB := bd_big (n := n) (by omega)
 have hc_bz : (c_b).length ≤ bd n := (okl hokc_b).1
 refine WX.enterP (tt := tt) (Γ := [(0, MF.rs .stb K0 M0 c_b)]) 1 Tryz.func172 rfl (by kernel_rfl) rfl (allS_cons rfl N0 allS_nil) hH hown (fun f hf => by cases hf) rfl ?_
 refine R0 ?_
 refine WX.see rfl rfl rfl (fun _ hΓ => looks_wrap rfl rfl rfl rfl) ?_
 refine WX.see rfl rfl rfl (fun _ hΓ => looks_wrap rfl rfl rfl rfl) ?_
 refine R0 ?_
 refine WX.draw [] mixed ?_
 intro bs G0 hΓ0
 refine DX.takes (fuel := 9) ttOk [(0, true), (1, true), (2, true), (3, false)] (by kernel_rfl) rfl ?_
 refine DX.see 4 (by kernel_rfl) rfl rfl rfl rfl (looks_shr rfl rfl rfl (by decide)) ?_
 refine DX.takes (fuel := 4) ttOk [(5, true), (6, true), (7, true), (8, false)] (by kernel_rfl) rfl ?_
 refine DX.see 9 (by kernel_rfl) rfl rfl rfl rfl (looks_shr rfl rfl rfl (by decide)) ?_
 refine DX.see 10 (by kernel_rfl) rfl rfl rfl rfl (looks_bits rfl rfl rfl rfl) ?_
 refine DX.see 11 (by kernel_rfl) rfl rfl rfl rfl (looks_bits rfl rfl rfl rfl) ?_
 refine DX.takes (fuel := 0) ttOk [(12, true)] (by kernel_rfl) rfl ?_
 refine DX.tail2 [] rfl rfl (by kernel_rfl) ?_
 refine R0 ?_
 refine WX.draw [] mixed ?_
 intro bs G0 hΓ0
 refine DX.takes (fuel := 0) ttOk [(0, true), (1, true), (2, true), (3, false), (4, true), (5, true), (6, true), (7, false), (8, true), (9, true)] (by kernel_rfl) rfl ?_
 refine DX.tail2 [] rfl rfl (by kernel_rfl) ?_
 refine R0 ?_
 refine WX.cases 34 rfl (fun h1 => ?_) (fun h1 => ?_)
 ·skip
  have h1d := B.dt h1
  refine R0 ?_
  refine WX.draw [] mixed ?_
  intro bs G0 hΓ0
  refine DX.takes (fuel := 6) ttOk [(0, true), (1, true), (2, true), (3, true), (4, false), (5, true), (6, true), (7, true), (8, false)] (by kernel_rfl) rfl ?_
  have r1 : 0 ≤ c_i ∧ c_i ≤ 9223372036854775807 := hokc_i
  refine DX.slot 43 (y := .v (.int .i64 (((c_i).toNat : Nat) : Int))) rfl (fun _ => congrArg (Value.int .i64) (show c_i = (((c_i).toNat : Nat) : Int) from by omega)) ?_
  have e1i : (c_i).toNat < (c_b).length := (by first | assumption | omega)
  obtain ⟨e1, e1h⟩ : ∃ e1, (c_b)[(c_i).toNat]? = some e1 := ⟨_, List.getElem?_eq_getElem e1i⟩
  refine DX.idx 9 0 ((c_i).toNat) ttOk hΓ0 (by kernel_rfl) rfl rfl rfl rfl rfl rfl rfl rfl rfl rfl rfl e1i ?_
  rintro ad1 rfl
  refine DX.ldE 10 0 2 e1 ttOk hΓ0 (by kernel_rfl) rfl rfl rfl rfl rfl rfl rfl rfl e1h (fun _ => rfl) (fun _ => rfl) ?_
  rintro ⟨⟩
  refine DX.see 11 (by kernel_rfl) rfl rfl rfl rfl (looks_ofU8 ttOk rfl rfl rfl rfl rfl rfl) ?_
  refine DX.seeP 12 (by kernel_rfl) rfl rfl rfl rfl (looksP_wrap rfl rfl rfl rfl) ?_
  refine DX.see 13 (by kernel_rfl) rfl rfl rfl rfl (looks_bits rfl rfl rfl rfl) ?_
  refine DX.takes (fuel := 0) ttOk [(14, true)] (by kernel_rfl) rfl ?_
  refine DX.tail2 [] rfl rfl (by kernel_rfl) ?_
  refine R0 ?_
  refine WX.see rfl rfl rfl (fun _ hΓ => looks_arith rfl rfl rfl rfl (by unfold I64; first | omega | (simp only [List.length_take] at *; omega))) ?_
  refine R0 ?_
  have hP1 : spec_l1Byte c_b c_i c_h = (bitO .and (IntKind.i64.wrap ((bitO .and (bitO .xor (Int.fdiv (IntKind.i64.wrap ((IntKind.i64.wrap (c_h * 6364136223846793005)) + 1442695040888963407)) (2 ^ (min (Int.toNat (33 : Int)) 64))) (Int.fdiv (IntKind.i64.wrap ((IntKind.i64.wrap (c_h * 6364136223846793005)) + 1442695040888963407)) (2 ^ (min (Int.toNat (47 : Int)) 64)))) 255) + ((e1).toNat : Int))) 255, c_i + 1, IntKind.i64.wrap ((IntKind.i64.wrap (c_h * 6364136223846793005)) + 1442695040888963407)) := by simp only [spec_l1Byte, h1, e1h, ct, cf]
  have hz1 := hP1.symm.trans hres
  obtain ⟨hz1, hz2⟩ := Prod.mk.inj hz1
  obtain ⟨hz2, hz3⟩ := Prod.mk.inj hz2
  subst hz1
  subst hz2
  subst hz3
  refine R1 ?_
  intro w1 G bs hI hΓ
  exact Post.ofL 999 [] () hI hΓ rfl rfl rfl (by rw [hI.pin _ rfl]; first | done | rfl) (⟨(show I64 (bitO .and (IntKind.i64.wrap ((bitO .and (bitO .xor (Int.fdiv (IntKind.i64.wrap ((IntKind.i64.wrap (c_h * 6364136223846793005)) + 1442695040888963407)) (2 ^ (min (Int.toNat (33 : Int)) 64))) (Int.fdiv (IntKind.i64.wrap ((IntKind.i64.wrap (c_h * 6364136223846793005)) + 1442695040888963407)) (2 ^ (min (Int.toNat (47 : Int)) 64)))) 255) + ((e1).toNat : Int))) 255) from bitO_I64 _ _ _), ⟨(show NN (c_i + 1) from by unfold NN; omega), (i64_wrap _)⟩⟩)
 ·skip
  have h1d := B.df h1
  refine R0 ?_
  have hP2 : spec_l1Byte c_b c_i c_h = (bitO .and (bitO .xor (Int.fdiv (IntKind.i64.wrap ((IntKind.i64.wrap (c_h * 6364136223846793005)) + 1442695040888963407)) (2 ^ (min (Int.toNat (33 : Int)) 64))) (Int.fdiv (IntKind.i64.wrap ((IntKind.i64.wrap (c_h * 6364136223846793005)) + 1442695040888963407)) (2 ^ (min (Int.toNat (47 : Int)) 64)))) 255, c_i, IntKind.i64.wrap ((IntKind.i64.wrap (c_h * 6364136223846793005)) + 1442695040888963407)) := by simp only [spec_l1Byte, h1, ct, cf]
  have hz1 := hP2.symm.trans hres
  obtain ⟨hz1, hz2⟩ := Prod.mk.inj hz1
  obtain ⟨hz2, hz3⟩ := Prod.mk.inj hz2
  subst hz1
  subst hz2
  subst hz3
  refine R1 ?_
  intro w1 G bs hI hΓ
  exact Post.ofL 999 [] () hI hΓ rfl rfl rfl (by rw [hI.pin _ rfl]; first | done | rfl) (⟨(show I64 (bitO .and (bitO .xor (Int.fdiv (IntKind.i64.wrap ((IntKind.i64.wrap (c_h * 6364136223846793005)) + 1442695040888963407)) (2 ^ (min (Int.toNat (33 : Int)) 64))) (Int.fdiv (IntKind.i64.wrap ((IntKind.i64.wrap (c_h * 6364136223846793005)) + 1442695040888963407)) (2 ^ (min (Int.toNat (47 : Int)) 64)))) 255) from bitO_I64 _ _ _), ⟨hokc_i, (i64_wrap _)⟩⟩)
theorem f84 (w : World) (n : Nat) (hn : n + 0 ≤ 9) (H : GH) (hH : Le H (hp w)) (bc_ : Nat) (c_b : (List UInt8)) (K0 : Option Addr) (M0 : Nat) (N0 : RdSl (cut (hp w) H) K0 M0 c_b) (c_i : Int) (c_h : Int) (n_ : Int) (hown : Sep H [MF.bx bc_ 182 [.slice K0 ((c_b).length) M0, .int .i64 (c_i), .int .i64 (c_h)]]) (hokc_b : GoT.ok n c_b) (hokc_i : NN c_i) (hokc_h : GoT.ok n c_h) (hokn_ : GoT.ok n n_) (o0_ : Int) (o1_ : Int) (o2_ : Int) (hres : spec_l1Below c_b c_i c_h n_ = (o0_, o1_, o2_)) :
  Does Tryz.prog 84 #[.pointer (some ⟨bc_, 0, none⟩), .int .i64 (n_)] w H (Post w H (fun _ : Unit => .int .i64 (o0_)) (fun _ => [MF.bx bc_ 182 [.slice K0 ((c_b).length) M0, .int .i64 (o1_), .int .i64 (o2_)]]) (GoT.ok n (o0_ : Int) ∧ NN (o1_) ∧ I64 (o2_))) := by
 have hbP := bd_pos n
 have hbB := bd_big (n := n) (by omega)
 have hc_bz : (c_b).length ≤ bd n := (okl hokc_b).1
 refine WX.enterP (tt := tt) (Γ := [(0, MF.rs .stb K0 M0 c_b)]) 1 Tryz.func84 rfl (by kernel_rfl) rfl (allS_cons rfl N0 allS_nil) hH hown (fun f hf => by cases hf) rfl ?_
 refine R0 ?_
 refine WX.cases 9 rfl (fun h1 => ?_) (fun h1 => ?_)
 ·skip
  have h1d := B.dt h1
  refine R0 ?_
  have hP1 : spec_l1Below c_b c_i c_h n_ = (0, c_i, c_h) := by simp only [spec_l1Below, h1, ct, cf]
  have hz1 := hP1.symm.trans hres
  obtain ⟨hz1, hz2⟩ := Prod.mk.inj hz1
  obtain ⟨hz2, hz3⟩ := Prod.mk.inj hz2
  subst hz1
  subst hz2
  subst hz3
  refine R1 ?_
  intro w1 G bs hI hΓ
  exact Post.ofL 999 [] () hI hΓ rfl rfl rfl (by rw [hI.pin _ rfl]; first | done | rfl) (⟨(show I64 0 from (by unfold I64; omega)), ⟨hokc_i, hokc_h⟩⟩)
 ·skip
  have h1d := B.df h1
  refine R0 ?_
  refine WX.cases 11 rfl (fun h2 => ?_) (fun h2 => ?_)
  ·skip
   have h2d := B.dt h2
   refine R0 ?_
   obtain ⟨⟨u1, u2, u3⟩, hu1⟩ : ∃ r_, spec_l1Byte c_b c_i c_h = r_ := ⟨_, rfl⟩
   refine WX.callP (ds := fun _ => []) 999 2 rfl (fun _ _ _ => All.nil) (fun _ f hf => by cases hf) rfl rfl rfl rfl rfl (fun _ => rfl) rfl (fun w G bs H hI hH hs hΓ => f172 w n (by omega) H hH (bs 999) c_b K0 M0 (hΓ.get 0 rfl) c_i c_h hs hokc_b hokc_i hokc_h u1 u2 u3 hu1) (fun _ => rfl) (fun _ => rfl) ?_
   rintro ⟨⟩ hq1
   have q1 := l1Byte_rng c_b c_i c_h
   rw [hu1] at q1
   try dsimp only at q1
   refine R0 ?_
   have r1 := tmod_rng u1 (show (0 : Int) < n_ by omega)
   refine WX.see rfl rfl rfl (fun _ hΓ => looks_rem rfl rfl rfl (by omega)) ?_
   refine R0 ?_
   have hP2 : spec_l1Below c_b c_i c_h n_ = (Int.tmod u1 n_, u2, u3) := by simp only [spec_l1Below, h1, h2, hu1, ct, cf]
   have r2 : -9223372036854775808 ≤ n_ ∧ n_ ≤ 9223372036854775807 := hokn_
   have r3 : -9223372036854775808 ≤ u1 ∧ u1 ≤ 9223372036854775807 := hq1.1
   have hz1 := hP2.symm.trans hres
   obtain ⟨hz1, hz2⟩ := Prod.mk.inj hz1
   obtain ⟨hz2, hz3⟩ := Prod.mk.inj hz2
   subst hz1
   subst hz2
   subst hz3
   refine R1 ?_
   intro w1 G bs hI hΓ
   exact Post.ofL 999 [] () hI hΓ rfl rfl rfl (by rw [hI.pin _ rfl]; first | done | rfl) (⟨(show I64 (Int.tmod u1 n_) from (by unfold I64; omega)), ⟨hq1.2.1, hq1.2.2⟩⟩)
  ·skip
   have h2d := B.df h2
   refine R0 ?_
   obtain ⟨⟨u4, u5, u6⟩, hu2⟩ : ∃ r_, spec_l1Byte c_b c_i c_h = r_ := ⟨_, rfl⟩
   refine WX.callP (ds := fun _ => []) 999 3 rfl (fun _ _ _ => All.nil) (fun _ f hf => by cases hf) rfl rfl rfl rfl rfl (fun _ => rfl) rfl (fun w G bs H hI hH hs hΓ => f172 w n (by omega) H hH (bs 999) c_b K0 M0 (hΓ.get 0 rfl) c_i c_h hs hokc_b hokc_i hokc_h u4 u5 u6 hu2) (fun _ => rfl) (fun _ => rfl) ?_
   rintro ⟨⟩ hq2
   have q2 := l1Byte_rng c_b c_i c_h
   rw [hu2] at q2
   try dsimp only at q2
   refine R0 ?_
   obtain ⟨⟨u7, u8, u9⟩, hu3⟩ : ∃ r_, spec_l1Byte c_b u5 u6 = r_ := ⟨_, rfl⟩
   refine WX.callP (ds := fun _ => []) 999 4 rfl (fun _ _ _ => All.nil) (fun _ f hf => by cases hf) rfl rfl rfl rfl rfl (fun _ => rfl) rfl (fun w G bs H hI hH hs hΓ => f172 w n (by omega) H hH (bs 999) c_b K0 M0 (hΓ.get 0 rfl) u5 u6 hs hokc_b hq2.2.1 hq2.2.2 u7 u8 u9 hu3) (fun _ => rfl) (fun _ => rfl) ?_
   rintro ⟨⟩ hq3
   have q3 := l1Byte_rng c_b u5 u6
   rw [hu3] at q3
   try dsimp only at q3
   refine R0 ?_
   obtain ⟨⟨u10, u11, u12⟩, hu4⟩ : ∃ r_, spec_l1Byte c_b u8 u9 = r_ := ⟨_, rfl⟩
   refine WX.callP (ds := fun _ => []) 999 5 rfl (fun _ _ _ => All.nil) (fun _ f hf => by cases hf) rfl rfl rfl rfl rfl (fun _ => rfl) rfl (fun w G bs H hI hH hs hΓ => f172 w n (by omega) H hH (bs 999) c_b K0 M0 (hΓ.get 0 rfl) u8 u9 hs hokc_b hq3.2.1 hq3.2.2 u10 u11 u12 hu4) (fun _ => rfl) (fun _ => rfl) ?_
   rintro ⟨⟩ hq4
   have q4 := l1Byte_rng c_b u8 u9
   rw [hu4] at q4
   try dsimp only at q4
   refine R0 ?_
   have r4 : -9223372036854775808 ≤ u4 ∧ u4 ≤ 9223372036854775807 := hq2.1
   refine WX.see rfl rfl rfl (fun _ hΓ => looks_arith rfl rfl rfl rfl (by unfold I64; first | omega | (simp only [List.length_take] at *; omega))) ?_
   refine R0 ?_
   have r5 : -9223372036854775808 ≤ u7 ∧ u7 ≤ 9223372036854775807 := hq3.1
   refine WX.see rfl rfl rfl (fun _ hΓ => looks_arith rfl rfl rfl rfl (by unfold I64; first | omega | (simp only [List.length_take] at *; omega))) ?_
   refine WX.see rfl rfl rfl (fun _ hΓ => looks_arith rfl rfl rfl rfl (by unfold I64; first | omega | (simp only [List.length_take] at *; omega))) ?_
   refine R0 ?_
   have r6 : -9223372036854775808 ≤ u10 ∧ u10 ≤ 9223372036854775807 := hq4.1
   refine WX.see rfl rfl rfl (fun _ hΓ => looks_arith rfl rfl rfl rfl (by unfold I64; first | omega | (simp only [List.length_take] at *; omega))) ?_
   refine R0 ?_
   have r7 := tmod_rng (((u4 * 65536) + (u7 * 256)) + u10) (show (0 : Int) < n_ by omega)
   refine WX.see rfl rfl rfl (fun _ hΓ => looks_rem rfl rfl rfl (by omega)) ?_
   refine R0 ?_
   have hP3 : spec_l1Below c_b c_i c_h n_ = (Int.tmod (((u4 * 65536) + (u7 * 256)) + u10) n_, u11, u12) := by simp only [spec_l1Below, h1, h2, hu2, hu3, hu4, ct, cf]
   have r8 : -9223372036854775808 ≤ n_ ∧ n_ ≤ 9223372036854775807 := hokn_
   have hz1 := hP3.symm.trans hres
   obtain ⟨hz1, hz2⟩ := Prod.mk.inj hz1
   obtain ⟨hz2, hz3⟩ := Prod.mk.inj hz2
   subst hz1
   subst hz2
   subst hz3
   refine R1 ?_
   intro w1 G bs hI hΓ
   exact Post.ofL 999 [] () hI hΓ rfl rfl rfl (by rw [hI.pin _ rfl]; first | done | rfl) (⟨(show I64 (Int.tmod (((u4 * 65536) + (u7 * 256)) + u10) n_) from (by unfold I64; omega)), ⟨hq4.2.1, hq4.2.2⟩⟩)
end Go.Proofs.YtolepebgdfdciaaGreat

namespace Go.Stp
set_option linter.unusedVariables false
set_option linter.unusedSimpArgs false
def impl_copyName (n_ : Name) : Name :=
  n_
def spec_l4Copy (n_ : Name) : Name :=
  n_
def impl_copyData (x_ : DataP) : DataP :=
  (DataP.mk (impl_copyName x_.name) x_.content (impl_copyName x_.keyName) x_.freshUntil x_.signature)
def spec_l8Copy (x_ : DataP) : DataP :=
  (DataP.mk (spec_l4Copy x_.name) x_.content (spec_l4Copy x_.keyName) x_.freshUntil x_.signature)
def impl_copyRecords_L1 : List Record → (List Record) → (List Record)
  | [], out => ((out) : List Record)
  | e1 :: rest_, out =>
    impl_copyRecords_L1 rest_ (((out ++ [(Record.mk e1.kind (impl_copyData e1.data))])) : List Record)
def impl_copyRecords (l : (List Record)) : (List Record) :=
  match impl_copyRecords_L1 l ([] : List Record) with
    | out =>
      out
def spec_l29Recs_L1 : List Record → (List Record) → (List Record)
  | [], out => ((out) : List Record)
  | e1 :: rest_, out =>
    spec_l29Recs_L1 rest_ (((out ++ [(Record.mk e1.kind (spec_l8Copy e1.data))])) : List Record)
def spec_l29Recs (l : (List Record)) : (List Record) :=
  match spec_l29Recs_L1 l ([] : List Record) with
    | out =>
      out
end Go.Stp

namespace Go.Proofs.YtolepebgdfdciaaGreat
open Go.Stp
set_option linter.unusedVariables false
set_option linter.unusedSimpArgs false
theorem f184 (w : World) (n : Nat) (hn : n + 0 ≤ 9) (s : (List Str)) (ps : Option Addr) (cs : Nat) (N0 : RdSl (hp w) ps cs s) (hoks : GoT.ok n s) :
  Does Tryz.prog 184 #[.slice ps ((s).length) cs] w emp (Post w emp (fun x : GoT.X ((List Str)) => (GoT.sh (s : (List Str)) x).headD undef) (fun x => GoT.oa (s : (List Str)) x) (GoT.ok n (s : (List Str)))) := by
 have hbP := bd_pos n
 have hbB := bd_big (n := n) (by omega)
 refine WX.enter (tt := tt) (Γ := [(0, MF.rs .stb ps cs s)]) Tryz.func184 rfl (by kernel_rfl) rfl (allS_cons rfl N0 allS_nil) ?_
 refine R0 ?_
 refine WX.see rfl rfl rfl (fun _ hΓ => looks_nil ttOk rfl rfl rfl rfl) ?_
 refine WX.cases 4 rfl (fun hp1 => ?_) (fun hp1 => ?_)
 ·skip
  obtain rfl : ps = none := by simpa using hp1
  refine WX.know (fun G hΓ => rdSl_none (hΓ.get 0 rfl)) ?_
  intro ln1
  refine R0 ?_
  subst ln1
  refine WX.free 1 (MF.os none 0 ([] : List Str)) (owSl_nil _ _) ?_
  refine R1 ?_
  intro w1 G bs hI hΓ
  exact Post.of [1] (none, 0) hI hΓ rfl rfl rfl (by assumption)
 ·skip
  refine R0 ?_
  refine WX.bld ttOk rfl rfl rfl rfl rfl rfl rfl ?_
  intro p1
  refine R0 ?_
  refine WX.free 2 (MF.ol [] ([] : List Str)) rfl ?_
  have r1 : (s).length ≤ bd n := (okl hoks).1
  refine WX.appG1 5 0 3 (s : List Str).length ttOk rfl rfl rfl rfl rfl rfl rfl rfl rfl rfl rfl rfl rfl (by first | (simp; done) | (simp; omega)) (by omega) (by omega) (fun _ _ _ => rfl) ?_
  intro ys1 p2 c1
  refine WX.know (fun G hΓ => (hΓ.get 3 rfl : RdL _ _ _).flat) ?_
  intro hf1
  refine WX.turn [2] 4 rfl (fun h hs => ol_flat hs hf1) (gs := [MF.ol ([] ++ ys1) (s : List Str)]) rfl ?_
  refine R0 ?_
  refine WX.seal 5 4 5 rfl rfl rfl rfl rfl ?_
  refine R1 ?_
  intro w1 G bs hI hΓ
  exact Post.of [6] (p2, c1) hI hΓ rfl rfl rfl (by assumption)
theorem f114 (w : World) (n : Nat) (hn : n + 0 ≤ 9) (s : (List UInt8)) (ps : Option Addr) (cs : Nat) (N0 : RdSl (hp w) ps cs s) (hoks : GoT.ok n s) :
  Does Tryz.prog 114 #[.slice ps ((s).length) cs] w emp (Post w emp (fun x : GoT.X ((List UInt8)) => (GoT.sh (s : (List UInt8)) x).headD undef) (fun x => GoT.oa (s : (List UInt8)) x) (GoT.ok n (s : (List UInt8)))) := by
 have hbP := bd_pos n
 have hbB := bd_big (n := n) (by omega)
 refine WX.enter (tt := tt) (Γ := [(0, MF.rs .stb ps cs s)]) Tryz.func114 rfl (by kernel_rfl) rfl (allS_cons rfl N0 allS_nil) ?_
 refine R0 ?_
 refine WX.see rfl rfl rfl (fun _ hΓ => looks_nil ttOk rfl rfl rfl rfl) ?_
 refine WX.cases 4 rfl (fun hp1 => ?_) (fun hp1 => ?_)
 ·skip
  obtain rfl : ps = none := by simpa using hp1
  refine WX.know (fun G hΓ => rdSl_none (hΓ.get 0 rfl)) ?_
  intro ln1
  refine R0 ?_
  subst ln1
  refine WX.free 1 (MF.os none 0 ([] : List UInt8)) (owSl_nil _ _) ?_
  refine R1 ?_
  intro w1 G bs hI hΓ
  exact Post.of [1] (none, 0) hI hΓ rfl rfl rfl (by assumption)
 ·skip
  refine R0 ?_
  refine WX.bld ttOk rfl rfl rfl rfl rfl rfl rfl ?_
  intro p1
  refine R0 ?_
  refine WX.free 2 (MF.ol [] ([] : List UInt8)) rfl ?_
  have r1 : (s).length ≤ bd n := (okl hoks).1
  refine WX.appG1 5 0 3 (s : List UInt8).length ttOk rfl rfl rfl rfl rfl rfl rfl rfl rfl rfl rfl rfl rfl (by first | (simp; done) | (simp; omega)) (by omega) (by omega) (fun _ _ _ => rfl) ?_
  intro ys1 p2 c1
  refine WX.know (fun G hΓ => (hΓ.get 3 rfl : RdL _ _ _).flat) ?_
  intro hf1
  refine WX.turn [2] 4 rfl (fun h hs => ol_flat hs hf1) (gs := [MF.ol ([] ++ ys1) (s : List UInt8)]) rfl ?_
  refine R0 ?_
  refine WX.seal 5 4 5 rfl rfl rfl rfl rfl ?_
  refine R1 ?_
  intro w1 G bs hI hΓ
  exact Post.of [6] (p2, c1) hI hΓ rfl rfl rfl (by assumption)
theorem f113 (w : World) (n : Nat) (hn : n + 0 ≤ 9) (n_ : Name) (K0 : Option Addr) (M0 : Nat) (N0 : RdSl (hp w) K0 M0 n_.parts) (hokn_ : GoT.ok n n_) :
  Does Tryz.prog 113 #[.agg #[.slice K0 ((n_.parts).length) M0]] w emp (Post w emp (fun x : GoT.X (Name) => .agg ⟨GoT.sh ((impl_copyName n_) : Name) x⟩) (fun x => GoT.oa ((impl_copyName n_) : Name) x) (GoT.ok n ((impl_copyName n_) : Name))) := by
 have hbP := bd_pos n
 have hbB := bd_big (n := n) (by omega)
 refine WX.enter (tt := tt) (Γ := [(0, MF.rs .stb K0 M0 n_.parts)]) Tryz.func113 rfl (by kernel_rfl) rfl (allS_cons rfl N0 allS_nil) ?_
 refine R0 ?_
 refine WX.callF 1 (fun _ _ h => GoT.ow_rd h) (fun _ f hf => GoT.fak f hf) rfl rfl rfl rfl rfl (fun _ => rfl) rfl (fun w G bs hI hΓ => f184 w n (by omega) n_.parts K0 M0 (hΓ.get 0 rfl) (ok_Name hokn_)) (fun _ => rfl) (fun _ => rfl) ?_
 rintro ⟨p1, c1⟩ hq1
 refine R0 ?_
 have hP1 : impl_copyName n_ = n_ := by simp only [impl_copyName, ct, cf]
 refine R1 ?_
 intro w1 G bs hI hΓ
 rw [hP1]
 exact Post.of [2] (p1, c1) hI hΓ rfl rfl rfl hq1
theorem f118 (w : World) (n : Nat) (hn : n + 0 ≤ 9) (n_ : Name) (K0 : Option Addr) (M0 : Nat) (N0 : RdSl (hp w) K0 M0 n_.parts) (hokn_ : GoT.ok n n_) :
  Does Tryz.prog 118 #[.agg #[.slice K0 ((n_.parts).length) M0]] w emp (Post w emp (fun x : GoT.X (Name) => .agg ⟨GoT.sh ((spec_l4Copy n_) : Name) x⟩) (fun x => GoT.oa ((spec_l4Copy n_) : Name) x) (GoT.ok n ((spec_l4Copy n_) : Name))) := by
 have hbP := bd_pos n
 have hbB := bd_big (n := n) (by omega)
 refine WX.enter (tt := tt) (Γ := [(0, MF.rs .stb K0 M0 n_.parts)]) Tryz.func118 rfl (by kernel_rfl) rfl (allS_cons rfl N0 allS_nil) ?_
 refine R0 ?_
 refine WX.bld ttOk rfl rfl rfl rfl rfl rfl rfl ?_
 intro p1
 refine R0 ?_
 refine WX.free 1 (MF.ol [] ([] : List Str)) rfl ?_
 have r1 : (n_.parts).length ≤ bd n := (okl (ok_Name hokn_)).1
 refine WX.appG1 3 0 2 (n_.parts : List Str).length ttOk rfl rfl rfl rfl rfl rfl rfl rfl rfl rfl rfl rfl rfl (by first | (simp; done) | (simp; omega)) (by omega) (by omega) (fun _ _ _ => rfl) ?_
 intro ys1 p2 c1
 refine WX.know (fun G hΓ => (hΓ.get 2 rfl : RdL _ _ _).flat) ?_
 intro hf1
 refine WX.turn [1] 3 rfl (fun h hs => ol_flat hs hf1) (gs := [MF.ol ([] ++ ys1) (n_.parts : List Str)]) rfl ?_
 refine R0 ?_
 refine WX.seal 3 3 4 rfl rfl rfl rfl rfl ?_
 have hP1 : spec_l4Copy n_ = n_ := by simp only [spec_l4Copy, ct, cf]
 refine R1 ?_
 intro w1 G bs hI hΓ
 rw [hP1]
 exact Post.of [5] (p2, c1) hI hΓ rfl rfl rfl (okl_mk (by omega) (okl (ok_Name hokn_)).2 : GoT.ok n (n_.parts : List Str))
theorem f81 (w : World) (n : Nat) (hn : n + 0 ≤ 9) (x_ : DataP) (K0 : Option Addr) (M0 : Nat) (N0 : RdSl (hp w) K0 M0 x_.name.parts) (K1 : Option Addr) (M1 : Nat) (N1 : RdSl (hp w) K1 M1 x_.content) (K2 : Option Addr) (M2 : Nat) (N2 : RdSl (hp w) K2 M2 x_.keyName.parts) (hokx_ : GoT.ok n x_) :
  Does Tryz.prog 81 #[.agg #[.slice K0 ((x_.name.parts).length) M0, .slice K1 ((x_.content).length) M1, .slice K2 ((x_.keyName.parts).length) M2, .int .i64 (x_.freshUntil), .int .i64 (x_.signature)]] w emp (Post w emp (fun x : GoT.X (DataP) => .agg ⟨GoT.sh ((impl_copyData x_) : DataP) x⟩) (fun x => GoT.oa ((impl_copyData x_) : DataP) x) (GoT.ok n ((impl_copyData x_) : DataP))) := by
 have hbP := bd_pos n
 have hbB := bd_big (n := n) (by omega)
 refine WX.enter (tt := tt) (Γ := [(0, MF.rs .stb K0 M0 x_.name.parts), (1, MF.rs .stb K1 M1 x_.content), (2, MF.rs .stb K2 M2 x_.keyName.parts)]) Tryz.func81 rfl (by kernel_rfl) rfl (allS_cons rfl N0 (allS_cons rfl N1 (allS_cons rfl N2 allS_nil))) ?_
 refine R0 ?_
 refine WX.callF 3 (fun _ _ h => GoT.ow_rd h) (fun _ f hf => GoT.fak f hf) rfl rfl rfl rfl rfl (fun _ => rfl) rfl (fun w G bs hI hΓ => f113 w n (by omega) x_.name K0 M0 (hΓ.get 0 rfl) ((ok_DataP hokx_).1)) (fun _ => rfl) (fun _ => rfl) ?_
 rintro ⟨p1, c1⟩ hq1
 refine R0 ?_
 refine WX.callF 5 (fun _ _ h => GoT.ow_rd h) (fun _ f hf => GoT.fak f hf) rfl rfl rfl rfl rfl (fun _ => rfl) rfl (fun w G bs hI hΓ => f114 w n (by omega) x_.content K1 M1 (hΓ.get 1 rfl) ((ok_DataP hokx_).2.1)) (fun _ => rfl) (fun _ => rfl) ?_
 rintro ⟨p2, c2⟩ hq2
 refine R0 ?_
 refine WX.callF 7 (fun _ _ h => GoT.ow_rd h) (fun _ f hf => GoT.fak f hf) rfl rfl rfl rfl rfl (fun _ => rfl) rfl (fun w G bs hI hΓ => f113 w n (by omega) x_.keyName K2 M2 (hΓ.get 2 rfl) ((ok_DataP hokx_).2.2.1)) (fun _ => rfl) (fun _ => rfl) ?_
 rintro ⟨p3, c3⟩ hq3
 refine R0 ?_
 have hP1 : impl_copyData x_ = (DataP.mk (impl_copyName x_.name) x_.content (impl_copyName x_.keyName) x_.freshUntil x_.signature) := by simp only [impl_copyData, ct, cf]
 refine R1 ?_
 intro w1 G bs hI hΓ
 rw [hP1]
 exact Post.of [4, 6, 8] ((p1, c1), (p2, c2), (p3, c3), (), ()) hI hΓ rfl rfl rfl (And.intro hq1 (And.intro hq2 (And.intro hq3 (And.intro (ok_DataP hokx_).2.2.2.1 (ok_DataP hokx_).2.2.2.2))))
theorem f83 (w : World) (n : Nat) (hn : n + 0 ≤ 9) (x_ : DataP) (K0 : Option Addr) (M0 : Nat) (N0 : RdSl (hp w) K0 M0 x_.name.parts) (K1 : Option Addr) (M1 : Nat) (N1 : RdSl (hp w) K1 M1 x_.content) (K2 : Option Addr) (M2 : Nat) (N2 : RdSl (hp w) K2 M2 x_.keyName.parts) (hokx_ : GoT.ok n x_) :
  Does Tryz.prog 83 #[.agg #[.slice K0 ((x_.name.parts).length) M0, .slice K1 ((x_.content).length) M1, .slice K2 ((x_.keyName.parts).length) M2, .int .i64 (x_.freshUntil), .int .i64 (x_.signature)]] w emp (Post w emp (fun x : GoT.X (DataP) => .agg ⟨GoT.sh ((spec_l8Copy x_) : DataP) x⟩) (fun x => GoT.oa ((spec_l8Copy x_) : DataP) x) (GoT.ok n ((spec_l8Copy x_) : DataP))) := by
 have hbP := bd_pos n
 have hbB := bd_big (n := n) (by omega)
 refine WX.enter (tt := tt) (Γ := [(0, MF.rs .stb K0 M0 x_.name.parts), (1, MF.rs .stb K1 M1 x_.content), (2, MF.rs .stb K2 M2 x_.keyName.parts)]) Tryz.func83 rfl (by kernel_rfl) rfl (allS_cons rfl N0 (allS_cons rfl N1 (allS_cons rfl N2 allS_nil))) ?_
 refine R0 ?_
 refine WX.callF 3 (fun _ _ h => GoT.ow_rd h) (fun _ f hf => GoT.fak f hf) rfl rfl rfl rfl rfl (fun _ => rfl) rfl (fun w G bs hI hΓ => f118 w n (by omega) x_.name K0 M0 (hΓ.get 0 rfl) ((ok_DataP hokx_).1)) (fun _ => rfl) (fun _ => rfl) ?_
 rintro ⟨p1, c1⟩ hq1
 refine R0 ?_
 refine WX.bld ttOk rfl rfl rfl rfl rfl rfl rfl ?_
 intro p2
 refine R0 ?_
 refine WX.free 5 (MF.ol [] ([] : List UInt8)) rfl ?_
 have r1 : (x_.content).length ≤ bd n := (okl (ok_DataP hokx_).2.1).1
 refine WX.appG1 9 1 6 (x_.content : List UInt8).length ttOk rfl rfl rfl rfl rfl rfl rfl rfl rfl rfl rfl rfl rfl (by first | (simp; done) | (simp; omega)) (by omega) (by omega) (fun _ _ _ => rfl) ?_
 intro ys1 p3 c2
 refine WX.know (fun G hΓ => (hΓ.get 6 rfl : RdL _ _ _).flat) ?_
 intro hf1
 refine WX.turn [5] 7 rfl (fun h hs => ol_flat hs hf1) (gs := [MF.ol ([] ++ ys1) (x_.content : List UInt8)]) rfl ?_
 refine R0 ?_
 refine WX.callF 8 (fun _ _ h => GoT.ow_rd h) (fun _ f hf => GoT.fak f hf) rfl rfl rfl rfl rfl (fun _ => rfl) rfl (fun w G bs hI hΓ => f118 w n (by omega) x_.keyName K2 M2 (hΓ.get 2 rfl) ((ok_DataP hokx_).2.2.1)) (fun _ => rfl) (fun _ => rfl) ?_
 rintro ⟨p4, c3⟩ hq2
 refine R0 ?_
 refine WX.seal 9 7 10 rfl rfl rfl rfl rfl ?_
 have hP1 : spec_l8Copy x_ = (DataP.mk (spec_l4Copy x_.name) x_.content (spec_l4Copy x_.keyName) x_.freshUntil x_.signature) := by simp only [spec_l8Copy, ct, cf]
 refine R1 ?_
 intro w1 G bs hI hΓ
 rw [hP1]
 exact Post.of [4, 11, 9] ((p1, c1), (p3, c2), (p4, c3), (), ()) hI hΓ rfl rfl rfl (And.intro hq1 (And.intro (okl_mk (by omega) (fun _ _ => trivial) : GoT.ok n (x_.content : List UInt8)) (And.intro hq2 (And.intro (ok_DataP hokx_).2.2.2.1 (ok_DataP hokx_).2.2.2.2))))
theorem f86 (w : World) (n : Nat) (hn : n + 0 ≤ 9) (l : (List Record)) (pl : Option Addr) (cl : Nat) (N0 : RdSl (hp w) pl cl l) (hokl : GoT.ok n l) :
  Does Tryz.prog 86 #[.slice pl ((l).length) cl] w emp (Post w emp (fun x : GoT.X ((List Record)) => (GoT.sh ((impl_copyRecords l) : (List Record)) x).headD undef) (fun x => GoT.oa ((impl_copyRecords l) : (List Record)) x) (GoT.ok n ((impl_copyRecords l) : (List Record)))) := by
 have hbP := bd_pos n
 have hbB := bd_big (n := n) (by omega)
 refine WX.enter (tt := tt) (Γ := [(0, MF.rs .stb pl cl l)]) Tryz.func86 rfl (by kernel_rfl) rfl (allS_cons rfl N0 allS_nil) ?_
 refine R0 ?_
 refine WX.bld ttOk rfl rfl rfl rfl rfl rfl rfl ?_
 intro p1
 refine R0 ?_
 refine WX.free 1 (MF.ol [] ([] : List Record)) rfl ?_
 have r1 : (l).length ≤ bd n := (okl hokl).1
 refine WX.loop (ι := (Option Addr) × Nat × (List Value) × (List Record) × Nat) ⟨fun | (pout, cout, xsout, out, i) => (i ≤ (l).length) ∧ (∀ z_ ∈ out, GoT.ok n z_) ∧ (out.length ≤ i) ∧ (impl_copyRecords_L1 l ([] : List Record) = impl_copyRecords_L1 ((l).drop i) out), fun | (pout, cout, xsout, out, i) => (l).length - i, fun | (pout, cout, xsout, out, i) => [(3, .v (.slice pout ((out).length) cout)), (9, .v (.int .i64 (((i : Nat) : Int)))), (8, .v (.int .i64 ((((l).length : Nat) : Int)))), (7, .v (.slice pl ((l).length) cl))], fun | (pout, cout, xsout, out, i) => [], fun | (pout, cout, xsout, out, i) => [(6, ⟨6, pout, (out).length, cout, xsout⟩)], fun | (pout, cout, xsout, out, i) => [(0, MF.rs .stb pl cl l), (1, MF.ol xsout (out : List Record))]⟩ (p1, 0, [], ([] : List Record), 0) ⟨(Nat.zero_le _), (fun a ha => by cases ha), (by simp), rfl⟩
  (.cons rfl (.cons rfl (.cons rfl (.cons rfl (.nil))))) .nil (.cons rfl (.nil)) [0, 1] rfl ?_
 rintro ⟨pout, cout, xsout, out, i⟩ hpre
 have hpre_ : (i ≤ (l).length) ∧ (∀ z_ ∈ out, GoT.ok n z_) ∧ (out.length ≤ i) ∧ (impl_copyRecords_L1 l ([] : List Record) = impl_copyRecords_L1 ((l).drop i) out) := hpre
 clear hpre
 obtain ⟨v1, v2, v3, v4⟩ := hpre_
 refine R0 ?_
 refine WX.cases 10 rfl (fun h1 => ?_) (fun h1 => ?_)
 ·skip
  have h1d := B.dt h1
  have e1i : i < (l).length := (by omega)
  obtain ⟨e1, e1h⟩ : ∃ e1, (l)[i]? = some e1 := ⟨_, List.getElem?_eq_getElem e1i⟩
  have ok1 : GoT.ok n e1 := (okl hokl).2 _ (List.mem_of_getElem? e1h)
  refine R0 ?_
  refine WX.idx 0 i ttOk rfl rfl rfl rfl rfl rfl rfl rfl rfl rfl e1i ?_
  rintro ad1 rfl
  refine WX.ldE 0 2 e1 ttOk rfl rfl rfl rfl rfl rfl rfl rfl e1h (fun _ => rfl) (fun _ => rfl) ?_
  rintro ⟨⟨⟩, ⟨⟨p2, c1⟩, ⟨p3, c2⟩, ⟨p4, c3⟩, ⟨⟩, ⟨⟩⟩⟩
  refine R0 ?_
  refine WX.draw [8, 9] mixed ?_
  intro bs G0 hΓ0
  refine DX.takes (fuel := 5) ttOk [(0, true), (1, true), (2, false), (3, true), (4, false)] (by kernel_rfl) rfl ?_
  refine DX.callF 5 5 (fun _ _ h => GoT.ow_rd h) (fun _ f hf => GoT.fak f hf) rfl (by kernel_rfl) rfl rfl rfl rfl rfl rfl (fun _ => rfl) rfl (fun w G bs hI hΓ => f81 w n (by omega) e1.data p2 c1 (hΓ.get 2 rfl) p3 c2 (hΓ.get 3 rfl) p4 c3 (hΓ.get 4 rfl) ((ok_Record ok1).2)) (fun _ => rfl) (fun _ => rfl) ?_
  rintro ⟨⟨p5, c4⟩, ⟨p6, c5⟩, ⟨p7, c6⟩, ⟨⟩, ⟨⟩⟩ hq1
  refine DX.takes (fuel := 3) ttOk [(6, true)] (by kernel_rfl) rfl ?_
  refine DX.tail2 [7, 8, 9] rfl rfl (by kernel_rfl) ?_
  refine WX.bld ttOk rfl rfl rfl rfl rfl rfl rfl ?_
  intro p8
  refine WX.turn [8, 9, 10] 11 rfl (fun h hs => ol_one (α := Record) (a := (Record.mk e1.kind (impl_copyData e1.data))) (x := ((), ((p5, c4), (p6, c5), (p7, c6), (), ()))) hs) (gs := [MF.ol [.int .i64 (e1.kind), .slice p5 (((impl_copyData e1.data).name.parts).length) c4, .slice p6 (((impl_copyData e1.data).content).length) c5, .slice p7 (((impl_copyData e1.data).keyName.parts).length) c6, .int .i64 ((impl_copyData e1.data).freshUntil), .int .i64 ((impl_copyData e1.data).signature)] ([(Record.mk e1.kind (impl_copyData e1.data))] : List Record)]) rfl ?_
  have r2 : -9223372036854775808 ≤ e1.kind ∧ e1.kind ≤ 9223372036854775807 := (ok_Record ok1).1
  refine WX.know (fun G hΓ => (hΓ.get 11 rfl : OwL _ _ _).rd.one) ?_
  intro ho1
  refine WX.appR1 6 20 ((out ++ [(Record.mk e1.kind (impl_copyData e1.data))]) : List Record).length ttOk rfl rfl rfl rfl rfl rfl rfl rfl rfl rfl rfl rfl rfl ho1 (by simp) (by simp; omega) (by simp; omega) (fun _ _ => rfl) ?_
  intro p9 c7
  refine WX.turn [1, 11] 12 rfl (fun h hs => ol_app hs) (gs := [MF.ol (xsout ++ [.int .i64 (e1.kind), .slice p5 (((impl_copyData e1.data).name.parts).length) c4, .slice p6 (((impl_copyData e1.data).content).length) c5, .slice p7 (((impl_copyData e1.data).keyName.parts).length) c6, .int .i64 ((impl_copyData e1.data).freshUntil), .int .i64 ((impl_copyData e1.data).signature)]) ((out ++ [(Record.mk e1.kind (impl_copyData e1.data))]) : List Record)]) rfl ?_
  refine R0 ?_
  refine WX.see rfl rfl rfl (fun _ hΓ => looks_arith rfl rfl rfl rfl (by unfold I64; first | omega | (simp only [List.length_take] at *; omega))) ?_
  refine R0 ?_
  refine WX.turn [12] 1 rfl (fun _ h => h) rfl ?_
  exact WX.iter (p9, c7, (xsout ++ [.int .i64 (e1.kind), .slice p5 (((impl_copyData e1.data).name.parts).length) c4, .slice p6 (((impl_copyData e1.data).content).length) c5, .slice p7 (((impl_copyData e1.data).keyName.parts).length) c6, .int .i64 ((impl_copyData e1.data).freshUntil), .int .i64 ((impl_copyData e1.data).signature)]), ((out ++ [(Record.mk e1.kind (impl_copyData e1.data))]) : List Record), i + 1) ⟨(by omega), (all_app v2 (all_cons (α := Record) (And.intro (ok_Record ok1).1 hq1) (fun a ha => by cases ha))), (by first | assumption | omega | (simp; omega)), (by rw [v4, drop_get e1h]; simp only [impl_copyRecords_L1, ct, cf])⟩ (by first | (dsimp only; omega) | omega) (.cons rfl (.cons rfl (.cons rfl (.cons rfl (.nil))))) .nil (.cons rfl (.nil)) [0, 1] rfl
 ·skip
  have h1d := B.df h1
  refine R0 ?_
  have hX1 : impl_copyRecords_L1 l ([] : List Record) = ((out) : List Record) := by rw [v4, List.drop_eq_nil_of_le (show (l).length ≤ i by omega)]; simp only [impl_copyRecords_L1, ct, cf]
  refine WX.seal 6 1 13 rfl rfl rfl rfl rfl ?_
  have hP1 : impl_copyRecords l = out := by simp only [impl_copyRecords, hX1, ct, cf]
  refine R1 ?_
  intro w1 G bs hI hΓ
  rw [hP1]
  exact Post.of [14] (pout, cout) hI hΓ rfl rfl rfl (okl_mk (by omega) v2 : GoT.ok n (out : List Record))
theorem f89 (w : World) (n : Nat) (hn : n + 0 ≤ 9) (l : (List Record)) (pl : Option Addr) (cl : Nat) (N0 : RdSl (hp w) pl cl l) (hokl : GoT.ok n l) :
  Does Tryz.prog 89 #[.slice pl ((l).length) cl] w emp (Post w emp (fun x : GoT.X ((List Record)) => (GoT.sh ((spec_l29Recs l) : (List Record)) x).headD undef) (fun x => GoT.oa ((spec_l29Recs l) : (List Record)) x) (GoT.ok n ((spec_l29Recs l) : (List Record)))) := by
 have hbP := bd_pos n
 have hbB := bd_big (n := n) (by omega)
 refine WX.enter (tt := tt) (Γ := [(0, MF.rs .stb pl cl l)]) Tryz.func89 rfl (by kernel_rfl) rfl (allS_cons rfl N0 allS_nil) ?_
 refine R0 ?_
 refine WX.bld ttOk rfl rfl rfl rfl rfl rfl rfl ?_
 intro p1
 refine R0 ?_
 refine WX.free 1 (MF.ol [] ([] : List Record)) rfl ?_
 have r1 : (l).length ≤ bd n := (okl hokl).1
 refine WX.loop (ι := (Option Addr) × Nat × (List Value) × (List Record) × Nat) ⟨fun | (pout, cout, xsout, out, i) => (i ≤ (l).length) ∧ (∀ z_ ∈ out, GoT.ok n z_) ∧ (out.length ≤ i) ∧ (spec_l29Recs_L1 l ([] : List Record) = spec_l29Recs_L1 ((l).drop i) out), fun | (pout, cout, xsout, out, i) => (l).length - i, fun | (pout, cout, xsout, out, i) => [(3, .v (.slice pout ((out).length) cout)), (4, .v (.int .i64 (((i : Nat) : Int)))), (0, .v (.slice pl ((l).length) cl))], fun | (pout, cout, xsout, out, i) => [], fun | (pout, cout, xsout, out, i) => [(6, ⟨6, pout, (out).length, cout, xsout⟩)], fun | (pout, cout, xsout, out, i) => [(0, MF.rs .stb pl cl l), (1, MF.ol xsout (out : List Record))]⟩ (p1, 0, [], ([] : List Record), 0) ⟨(Nat.zero_le _), (fun a ha => by cases ha), (by simp), rfl⟩
  (.cons rfl (.cons rfl (.cons rfl (.nil)))) .nil (.cons rfl (.nil)) [0, 1] rfl ?_
 rintro ⟨pout, cout, xsout, out, i⟩ hpre
 have hpre_ : (i ≤ (l).length) ∧ (∀ z_ ∈ out, GoT.ok n z_) ∧ (out.length ≤ i) ∧ (spec_l29Recs_L1 l ([] : List Record) = spec_l29Recs_L1 ((l).drop i) out) := hpre
 clear hpre
 obtain ⟨v1, v2, v3, v4⟩ := hpre_
 refine R0 ?_
 refine WX.cases 10 rfl (fun h1 => ?_) (fun h1 => ?_)
 ·skip
  have h1d := B.dt h1
  have e1i : i < (l).length := (by omega)
  obtain ⟨e1, e1h⟩ : ∃ e1, (l)[i]? = some e1 := ⟨_, List.getElem?_eq_getElem e1i⟩
  have ok1 : GoT.ok n e1 := (okl hokl).2 _ (List.mem_of_getElem? e1h)
  refine R0 ?_
  refine WX.idx 0 i ttOk rfl rfl rfl rfl rfl rfl rfl rfl rfl rfl e1i ?_
  rintro ad1 rfl
  refine R0 ?_
  refine WX.ldE 0 2 e1 ttOk rfl rfl rfl rfl rfl rfl rfl rfl e1h (fun _ => rfl) (fun _ => rfl) ?_
  rintro ⟨⟨⟩, ⟨⟨p2, c1⟩, ⟨p3, c2⟩, ⟨p4, c3⟩, ⟨⟩, ⟨⟩⟩⟩
  refine WX.callF 5 (fun _ _ h => GoT.ow_rd h) (fun _ f hf => GoT.fak f hf) rfl rfl rfl rfl rfl (fun _ => rfl) rfl (fun w G bs hI hΓ => f83 w n (by omega) e1.data p2 c1 (hΓ.get 2 rfl) p3 c2 (hΓ.get 3 rfl) p4 c3 (hΓ.get 4 rfl) ((ok_Record ok1).2)) (fun _ => rfl) (fun _ => rfl) ?_
  rintro ⟨⟨p5, c4⟩, ⟨p6, c5⟩, ⟨p7, c6⟩, ⟨⟩, ⟨⟩⟩ hq1
  refine R0 ?_
  refine WX.draw [9, 10] mixed ?_
  intro bs G0 hΓ0
  refine DX.takes (fuel := 8) ttOk [(0, true), (1, true), (2, true)] (by kernel_rfl) rfl ?_
  refine DX.idx 3 0 i ttOk hΓ0 (by kernel_rfl) rfl rfl rfl rfl rfl rfl rfl rfl rfl rfl rfl e1i ?_
  rintro ad2 ⟨⟩
  refine DX.takes (fuel := 6) ttOk [(4, true)] (by kernel_rfl) rfl ?_
  refine DX.ldE 5 0 11 e1 ttOk hΓ0 (by kernel_rfl) rfl rfl rfl rfl rfl rfl rfl rfl e1h (fun _ => rfl) (fun _ => rfl) ?_
  rintro ⟨⟨⟩, ⟨⟨p8, c7⟩, ⟨p9, c8⟩, ⟨p10, c9⟩, ⟨⟩, ⟨⟩⟩⟩
  refine DX.takes (fuel := 3) ttOk [(6, false), (7, true)] (by kernel_rfl) rfl ?_
  refine DX.tail2 [8, 9, 10] rfl rfl (by kernel_rfl) ?_
  refine WX.bld ttOk rfl rfl rfl rfl rfl rfl rfl ?_
  intro p11
  refine WX.turn [8, 9, 10] 14 rfl (fun h hs => ol_one (α := Record) (a := (Record.mk e1.kind (spec_l8Copy e1.data))) (x := ((), ((p5, c4), (p6, c5), (p7, c6), (), ()))) hs) (gs := [MF.ol [.int .i64 (e1.kind), .slice p5 (((spec_l8Copy e1.data).name.parts).length) c4, .slice p6 (((spec_l8Copy e1.data).content).length) c5, .slice p7 (((spec_l8Copy e1.data).keyName.parts).length) c6, .int .i64 ((spec_l8Copy e1.data).freshUntil), .int .i64 ((spec_l8Copy e1.data).signature)] ([(Record.mk e1.kind (spec_l8Copy e1.data))] : List Record)]) rfl ?_
  have r2 : -9223372036854775808 ≤ e1.kind ∧ e1.kind ≤ 9223372036854775807 := (ok_Record ok1).1
  refine WX.know (fun G hΓ => (hΓ.get 14 rfl : OwL _ _ _).rd.one) ?_
  intro ho1
  refine WX.appR1 6 27 ((out ++ [(Record.mk e1.kind (spec_l8Copy e1.data))]) : List Record).length ttOk rfl rfl rfl rfl rfl rfl rfl rfl rfl rfl rfl rfl rfl ho1 (by simp) (by simp; omega) (by simp; omega) (fun _ _ => rfl) ?_
  intro p12 c10
  refine WX.turn [1, 14] 15 rfl (fun h hs => ol_app hs) (gs := [MF.ol (xsout ++ [.int .i64 (e1.kind), .slice p5 (((spec_l8Copy e1.data).name.parts).length) c4, .slice p6 (((spec_l8Copy e1.data).content).length) c5, .slice p7 (((spec_l8Copy e1.data).keyName.parts).length) c6, .int .i64 ((spec_l8Copy e1.data).freshUntil), .int .i64 ((spec_l8Copy e1.data).signature)]) ((out ++ [(Record.mk e1.kind (spec_l8Copy e1.data))]) : List Record)]) rfl ?_
  refine R0 ?_
  refine WX.see rfl rfl rfl (fun _ hΓ => looks_arith rfl rfl rfl rfl (by unfold I64; first | omega | (simp only [List.length_take] at *; omega))) ?_
  refine R0 ?_
  refine WX.turn [15] 1 rfl (fun _ h => h) rfl ?_
  exact WX.iter (p12, c10, (xsout ++ [.int .i64 (e1.kind), .slice p5 (((spec_l8Copy e1.data).name.parts).length) c4, .slice p6 (((spec_l8Copy e1.data).content).length) c5, .slice p7 (((spec_l8Copy e1.data).keyName.parts).length) c6, .int .i64 ((spec_l8Copy e1.data).freshUntil), .int .i64 ((spec_l8Copy e1.data).signature)]), ((out ++ [(Record.mk e1.kind (spec_l8Copy e1.data))]) : List Record), i + 1) ⟨(by omega), (all_app v2 (all_cons (α := Record) (And.intro (ok_Record ok1).1 hq1) (fun a ha => by cases ha))), (by first | assumption | omega | (simp; omega)), (by rw [v4, drop_get e1h]; simp only [spec_l29Recs_L1, ct, cf])⟩ (by first | (dsimp only; omega) | omega) (.cons rfl (.cons rfl (.cons rfl (.nil)))) .nil (.cons rfl (.nil)) [0, 1] rfl
 ·skip
  have h1d := B.df h1
  refine R0 ?_
  have hX1 : spec_l29Recs_L1 l ([] : List Record) = ((out) : List Record) := by rw [v4, List.drop_eq_nil_of_le (show (l).length ≤ i by omega)]; simp only [spec_l29Recs_L1, ct, cf]
  refine WX.seal 6 1 16 rfl rfl rfl rfl rfl ?_
  have hP1 : spec_l29Recs l = out := by simp only [spec_l29Recs, hX1, ct, cf]
  refine R1 ?_
  intro w1 G bs hI hΓ
  rw [hP1]
  exact Post.of [17] (pout, cout) hI hΓ rfl rfl rfl (okl_mk (by omega) v2 : GoT.ok n (out : List Record))
end Go.Proofs.YtolepebgdfdciaaGreat

namespace Go.Stp
set_option linter.unusedVariables false
set_option linter.unusedSimpArgs false
def slices_Equal_string_L1 (s2 : (List Str)) : List Str → Nat → Option (Bool)
  | [], i => none
  | e1 :: rest_, i =>
    match (s2)[i]? with
      | none => default
      | some e2 =>
        bif (!((e1).toList == (e2).toList)) then
          (some false)
        else
          slices_Equal_string_L1 s2 rest_ (i + 1)
def slices_Equal_string (s1 : (List Str)) (s2 : (List Str)) : Bool :=
  bif ((((s1).length : Nat) : Int) != (((s2).length : Nat) : Int)) then
    false
  else
    match slices_Equal_string_L1 s2 s1 0 with
      | some r_ => r_
      | none =>
        true
def slices_Equal_byte_L1 (s2 : (List UInt8)) : List UInt8 → Nat → Option (Bool)
  | [], i => none
  | e1 :: rest_, i =>
    match (s2)[i]? with
      | none => default
      | some e2 =>
        bif (((e1).toNat : Int) != ((e2).toNat : Int)) then
          (some false)
        else
          slices_Equal_byte_L1 s2 rest_ (i + 1)
def slices_Equal_byte (s1 : (List UInt8)) (s2 : (List UInt8)) : Bool :=
  bif ((((s1).length : Nat) : Int) != (((s2).length : Nat) : Int)) then
    false
  else
    match slices_Equal_byte_L1 s2 s1 0 with
      | some r_ => r_
      | none =>
        true
def impl_EqualNames (a : Name) (b : Name) : Bool :=
  (slices_Equal_string a.parts b.parts)
def spec_l4Cmp (a : Str) (b : Str) : Int :=
  bif (Op.bytesLess (a).toList (b).toList) then
    (-1)
  else
    bif (!(Op.bytesLess (a).toList (b).toList || (a).toList == (b).toList)) then
      1
    else
      0
def spec_CompareNames_L1 (b : Name) : List Str → Nat → Option (Int)
  | [], i => none
  | e1 :: rest_, i =>
    bif decide (((i : Nat) : Int) < (((b.parts).length : Nat) : Int)) then
      match (b.parts)[i]? with
        | none => default
        | some e2 =>
          bif ((spec_l4Cmp e1 e2) != 0) then
            (some (spec_l4Cmp e1 e2))
          else
            spec_CompareNames_L1 b rest_ (i + 1)
    else
      none
def spec_CompareNames (a : Name) (b : Name) : Int :=
  match spec_CompareNames_L1 b a.parts 0 with
    | some r_ => r_
    | none =>
      bif decide ((((a.parts).length : Nat) : Int) < (((b.parts).length : Nat) : Int)) then
        (-1)
      else
        bif decide ((((a.parts).length : Nat) : Int) > (((b.parts).length : Nat) : Int)) then
          1
        else
          0
def spec_EqualNames (a : Name) (b : Name) : Bool :=
  ((spec_CompareNames a b) == 0)
def spec_EqualBytes (a : (List UInt8)) (b : (List UInt8)) : Bool :=
  (((bstr a)).toList == ((bstr b)).toList)
def impl_EqualData (a : DataP) (b : DataP) : Bool :=
  bif (impl_EqualNames a.name b.name) then
    bif (slices_Equal_byte a.content b.content) then
      bif (impl_EqualNames a.keyName b.keyName) then
        bif (a.freshUntil == b.freshUntil) then
          (a.signature == b.signature)
        else
          false
      else
        false
    else
      false
  else
    false
def spec_EqualData (a : DataP) (b : DataP) : Bool :=
  bif (spec_EqualNames a.name b.name) then
    bif (spec_EqualBytes a.content b.content) then
      bif (spec_EqualNames a.keyName b.keyName) then
        bif (a.freshUntil == b.freshUntil) then
          (a.signature == b.signature)
        else
          false
      else
        false
    else
      false
  else
    false
end Go.Stp

namespace Go.Proofs.YtolepebgdfdciaaGreat
open Go.Stp
set_option linter.unusedVariables false
set_option linter.unusedSimpArgs false
theorem f174 (w : World) (n : Nat) (hn : n + 0 ≤ 9) (s1 : (List Str)) (K0 : Option Addr) (M0 : Nat) (N0 : RdSl (hp w) K0 M0 s1) (s2 : (List Str)) (K1 : Option Addr) (M1 : Nat) (N1 : RdSl (hp w) K1 M1 s2) (hoks1 : GoT.ok n s1) (hoks2 : GoT.ok n s2) :
  Does Tryz.prog 174 #[.slice K0 ((s1).length) M0, .slice K1 ((s2).length) M1] w emp (fun (rv : Value) (_ : World) => rv = .bool (slices_Equal_string s1 s2) ∧ True) := by
 have hbP := bd_pos n
 have hbB := bd_big (n := n) (by omega)
 refine WX.enter (tt := tt) (Γ := [(0, MF.rs .stb K0 M0 s1), (1, MF.rs .stb K1 M1 s2)]) Tryz.func174 rfl (by kernel_rfl) rfl (allS_cons rfl N0 (allS_cons rfl N1 allS_nil)) ?_
 refine R0 ?_
 refine WX.cases 10 rfl (fun h1 => ?_) (fun h1 => ?_)
 ·skip
  have h1d := B.nt' h1
  refine R0 ?_
  have hP1 : slices_Equal_string s1 s2 = false := by simp only [slices_Equal_string, h1, ct, cf]
  exact R3 hP1
 ·skip
  have h1d := B.nf' h1
  refine R0 ?_
  have r1 : (s1).length ≤ bd n := (okl hoks1).1
  refine WX.loop (ι := Nat) ⟨fun i => (i ≤ (s1).length) ∧ (slices_Equal_string_L1 s2 s1 0 = slices_Equal_string_L1 s2 ((s1).drop i) i), fun i => (s1).length - i, fun i => [(13, .v (.int .i64 (((i : Nat) : Int)))), (12, .v (.int .i64 ((((s1).length : Nat) : Int)))), (0, .v (.slice K0 ((s1).length) M0)), (1, .v (.slice K1 ((s2).length) M1))], fun i => [], fun i => [], fun i => [(0, MF.rs .stb K0 M0 s1), (1, MF.rs .stb K1 M1 s2)]⟩ 0 ⟨(Nat.zero_le _), rfl⟩
   (.cons rfl (.cons rfl (.cons rfl (.cons rfl (.nil))))) .nil .nil [0, 1] rfl ?_
  rintro i hpre
  have hpre_ : (i ≤ (s1).length) ∧ (slices_Equal_string_L1 s2 s1 0 = slices_Equal_string_L1 s2 ((s1).drop i) i) := hpre
  clear hpre
  obtain ⟨v1, v2⟩ := hpre_
  refine R0 ?_
  refine WX.cases 14 rfl (fun h2 => ?_) (fun h2 => ?_)
  ·skip
   have h2d := B.dt h2
   have e1i : i < (s1).length := (by omega)
   obtain ⟨e1, e1h⟩ : ∃ e1, (s1)[i]? = some e1 := ⟨_, List.getElem?_eq_getElem e1i⟩
   have ok1 : GoT.ok n e1 := (okl hoks1).2 _ (List.mem_of_getElem? e1h)
   refine R0 ?_
   refine WX.draw [] mixed ?_
   intro bs G0 hΓ0
   refine DX.takes (fuel := 7) ttOk [(0, true), (1, true)] (by kernel_rfl) rfl ?_
   refine DX.idx 2 0 i ttOk hΓ0 (by kernel_rfl) rfl rfl rfl rfl rfl rfl rfl rfl rfl rfl rfl e1i ?_
   rintro ad1 rfl
   refine DX.ldE 3 0 2 e1 ttOk hΓ0 (by kernel_rfl) rfl rfl rfl rfl rfl rfl rfl rfl e1h (fun _ => rfl) (fun _ => rfl) ?_
   rintro ⟨⟩
   refine DX.takes (fuel := 3) ttOk [(4, true), (5, true)] (by kernel_rfl) rfl ?_
   have e2i : i < (s2).length := (by first | assumption | omega)
   obtain ⟨e2, e2h⟩ : ∃ e2, (s2)[i]? = some e2 := ⟨_, List.getElem?_eq_getElem e2i⟩
   have ok2 : GoT.ok n e2 := (okl hoks2).2 _ (List.mem_of_getElem? e2h)
   refine DX.idx 6 1 i ttOk hΓ0 (by kernel_rfl) rfl rfl rfl rfl rfl rfl rfl rfl rfl rfl rfl e2i ?_
   rintro ad2 rfl
   refine DX.ldE 7 1 2 e2 ttOk hΓ0 (by kernel_rfl) rfl rfl rfl rfl rfl rfl rfl rfl e2h (fun _ => rfl) (fun _ => rfl) ?_
   rintro ⟨⟩
   refine DX.takes (fuel := 0) ttOk [(8, true)] (by kernel_rfl) rfl ?_
   refine DX.tail2 [] rfl rfl (by kernel_rfl) ?_
   refine R0 ?_
   refine WX.cases 24 rfl (fun h3 => ?_) (fun h3 => ?_)
   ·skip
    have h3d := B.ef (B.nt h3)
    refine R0 ?_
    have hP2 : slices_Equal_string_L1 s2 s1 0 = (some false) := by rw [v2, drop_get e1h]; simp only [slices_Equal_string_L1, e2h, h3, ct, cf]
    have hP3 : slices_Equal_string s1 s2 = false := by simp only [slices_Equal_string, h1, hP2, ct, cf]
    exact R3 hP3
   ·skip
    have h3d := B.et (B.nf h3)
    refine R0 ?_
    refine WX.see rfl rfl rfl (fun _ hΓ => looks_arith rfl rfl rfl rfl (by unfold I64; first | omega | (simp only [List.length_take] at *; omega))) ?_
    refine R0 ?_
    exact WX.iter (i + 1) ⟨(by omega), (by rw [v2, drop_get e1h]; simp only [slices_Equal_string_L1, e2h, h3, ct, cf])⟩ (by first | (dsimp only; omega) | omega) (.cons rfl (.cons rfl (.cons rfl (.cons rfl (.nil))))) .nil .nil [0, 1] rfl
  ·skip
   have h2d := B.df h2
   refine R0 ?_
   have hX1 : slices_Equal_string_L1 s2 s1 0 = none := by rw [v2, List.drop_eq_nil_of_le (show (s1).length ≤ i by omega)]; simp only [slices_Equal_string_L1, ct, cf]
   have hP4 : slices_Equal_string s1 s2 = true := by simp only [slices_Equal_string, h1, hX1, ct, cf]
   exact R3 hP4
theorem f178 (w : World) (n : Nat) (hn : n + 0 ≤ 9) (s1 : (List UInt8)) (K0 : Option Addr) (M0 : Nat) (N0 : RdSl (hp w) K0 M0 s1) (s2 : (List UInt8)) (K1 : Option Addr) (M1 : Nat) (N1 : RdSl (hp w) K1 M1 s2) (hoks1 : GoT.ok n s1) (hoks2 : GoT.ok n s2) :
  Does Tryz.prog 178 #[.slice K0 ((s1).length) M0, .slice K1 ((s2).length) M1] w emp (fun (rv : Value) (_ : World) => rv = .bool (slices_Equal_byte s1 s2) ∧ True) := by
 have hbP := bd_pos n
 have hbB := bd_big (n := n) (by omega)
 refine WX.enter (tt := tt) (Γ := [(0, MF.rs .stb K0 M0 s1), (1, MF.rs .stb K1 M1 s2)]) Tryz.func178 rfl (by kernel_rfl) rfl (allS_cons rfl N0 (allS_cons rfl N1 allS_nil)) ?_
 refine R0 ?_
 refine WX.cases 10 rfl (fun h1 => ?_) (fun h1 => ?_)
 ·skip
  have h1d := B.nt' h1
  refine R0 ?_
  have hP1 : slices_Equal_byte s1 s2 = false := by simp only [slices_Equal_byte, h1, ct, cf]
  exact R3 hP1
 ·skip
  have h1d := B.nf' h1
  refine R0 ?_
  have r1 : (s1).length ≤ bd n := (okl hoks1).1
  refine WX.loop (ι := Nat) ⟨fun i => (i ≤ (s1).length) ∧ (slices_Equal_byte_L1 s2 s1 0 = slices_Equal_byte_L1 s2 ((s1).drop i) i), fun i => (s1).length - i, fun i => [(13, .v (.int .i64 (((i : Nat) : Int)))), (12, .v (.int .i64 ((((s1).length : Nat) : Int)))), (0, .v (.slice K0 ((s1).length) M0)), (1, .v (.slice K1 ((s2).length) M1))], fun i => [], fun i => [], fun i => [(0, MF.rs .stb K0 M0 s1), (1, MF.rs .stb K1 M1 s2)]⟩ 0 ⟨(Nat.zero_le _), rfl⟩
   (.cons rfl (.cons rfl (.cons rfl (.cons rfl (.nil))))) .nil .nil [0, 1] rfl ?_
  rintro i hpre
  have hpre_ : (i ≤ (s1).length) ∧ (slices_Equal_byte_L1 s2 s1 0 = slices_Equal_byte_L1 s2 ((s1).drop i) i) := hpre
  clear hpre
  obtain ⟨v1, v2⟩ := hpre_
  refine R0 ?_
  refine WX.cases 14 rfl (fun h2 => ?_) (fun h2 => ?_)
  ·skip
   have h2d := B.dt h2
   have e1i : i < (s1).length := (by omega)
   obtain ⟨e1, e1h⟩ : ∃ e1, (s1)[i]? = some e1 := ⟨_, List.getElem?_eq_getElem e1i⟩
   refine R0 ?_
   refine WX.draw [] mixed ?_
   intro bs G0 hΓ0
   refine DX.takes (fuel := 7) ttOk [(0, true), (1, true)] (by kernel_rfl) rfl ?_
   refine DX.idx 2 0 i ttOk hΓ0 (by kernel_rfl) rfl rfl rfl rfl rfl rfl rfl rfl rfl rfl rfl e1i ?_
   rintro ad1 rfl
   refine DX.ldE 3 0 2 e1 ttOk hΓ0 (by kernel_rfl) rfl rfl rfl rfl rfl rfl rfl rfl e1h (fun _ => rfl) (fun _ => rfl) ?_
   rintro ⟨⟩
   refine DX.takes (fuel := 3) ttOk [(4, true), (5, true)] (by kernel_rfl) rfl ?_
   have e2i : i < (s2).length := (by first | assumption | omega)
   obtain ⟨e2, e2h⟩ : ∃ e2, (s2)[i]? = some e2 := ⟨_, List.getElem?_eq_getElem e2i⟩
   refine DX.idx 6 1 i ttOk hΓ0 (by kernel_rfl) rfl rfl rfl rfl rfl rfl rfl rfl rfl rfl rfl e2i ?_
   rintro ad2 rfl
   refine DX.ldE 7 1 2 e2 ttOk hΓ0 (by kernel_rfl) rfl rfl rfl rfl rfl rfl rfl rfl e2h (fun _ => rfl) (fun _ => rfl) ?_
   rintro ⟨⟩
   refine DX.takes (fuel := 0) ttOk [(8, true)] (by kernel_rfl) rfl ?_
   refine DX.tail2 [] rfl rfl (by kernel_rfl) ?_
   refine R0 ?_
   refine WX.cases 24 rfl (fun h3 => ?_) (fun h3 => ?_)
   ·skip
    have h3d := B.nt' h3
    refine R0 ?_
    have hP2 : slices_Equal_byte_L1 s2 s1 0 = (some false) := by rw [v2, drop_get e1h]; simp only [slices_Equal_byte_L1, e2h, h3, ct, cf]
    have hP3 : slices_Equal_byte s1 s2 = false := by simp only [slices_Equal_byte, h1, hP2, ct, cf]
    exact R3 hP3
   ·skip
    have h3d := B.nf' h3
    refine R0 ?_
    refine WX.see rfl rfl rfl (fun _ hΓ => looks_arith rfl rfl rfl rfl (by unfold I64; first | omega | (simp only [List.length_take] at *; omega))) ?_
    refine R0 ?_
    exact WX.iter (i + 1) ⟨(by omega), (by rw [v2, drop_get e1h]; simp only [slices_Equal_byte_L1, e2h, h3, ct, cf])⟩ (by first | (dsimp only; omega) | omega) (.cons rfl (.cons rfl (.cons rfl (.cons rfl (.nil))))) .nil .nil [0, 1] rfl
  ·skip
   have h2d := B.df h2
   refine R0 ?_
   have hX1 : slices_Equal_byte_L1 s2 s1 0 = none := by rw [v2, List.drop_eq_nil_of_le (show (s1).length ≤ i by omega)]; simp only [slices_Equal_byte_L1, ct, cf]
   have hP4 : slices_Equal_byte s1 s2 = true := by simp only [slices_Equal_byte, h1, hX1, ct, cf]
   exact R3 hP4
theorem f94 (w : World) (n : Nat) (hn : n + 0 ≤ 9) (a : Name) (pa : Option Addr) (ca : Nat) (N0 : RdSl (hp w) pa ca a.parts) (b : Name) (pb : Option Addr) (cb : Nat) (N1 : RdSl (hp w) pb cb b.parts) (hoka : GoT.ok n a) (hokb : GoT.ok n b) :
  Does Tryz.prog 94 #[.agg #[.slice pa ((a.parts).length) ca], .agg #[.slice pb ((b.parts).length) cb]] w emp (fun (rv : Value) (_ : World) => rv = .bool (impl_EqualNames a b) ∧ True) := by
 have hbP := bd_pos n
 have hbB := bd_big (n := n) (by omega)
 refine WX.enter (tt := tt) (Γ := [(0, MF.rs .stb pa ca a.parts), (1, MF.rs .stb pb cb b.parts)]) Tryz.func94 rfl (by kernel_rfl) rfl (allS_cons rfl N0 (allS_cons rfl N1 allS_nil)) ?_
 refine R0 ?_
 refine WX.callV rfl rfl rfl rfl rfl (fun _ => rfl) rfl (fun w G bs hI hΓ => f174 w n (by omega) a.parts pa ca (hΓ.get 0 rfl) b.parts pb cb (hΓ.get 1 rfl) (ok_Name hoka) (ok_Name hokb)) ?_
 intro hq1
 refine R0 ?_
 have hP1 : impl_EqualNames a b = (slices_Equal_string a.parts b.parts) := by simp only [impl_EqualNames, ct, cf]
 exact R3 hP1
theorem f230 (w : World) (n : Nat) (hn : n + 0 ≤ 9) (a : Str) (b : Str) (hoka : GoT.ok n a) (hokb : GoT.ok n b) :
  Does Tryz.prog 230 #[.string a, .string b] w emp (fun (rv : Value) (_ : World) => rv = .int .i64 ((spec_l4Cmp a b)) ∧ GoT.ok n ((spec_l4Cmp a b) : Int)) := by
 have hbP := bd_pos n
 have hbB := bd_big (n := n) (by omega)
 refine WX.enter (tt := tt) (Γ := []) Tryz.func230 rfl (by kernel_rfl) rfl allS_nil ?_
 refine R0 ?_
 refine WX.cases 5 rfl (fun h1 => ?_) (fun h1 => ?_)
 ·skip
  refine R0 ?_
  have hP1 : spec_l4Cmp a b = (-1) := by simp only [spec_l4Cmp, h1, ct, cf]
  refine R1 ?_
  intro w1 G bs hI hΓ
  rw [hP1]
  exact ⟨rfl, (show I64 (-1) from (by unfold I64; omega))⟩
 ·skip
  refine R0 ?_
  refine WX.cases 9 rfl (fun h2 => ?_) (fun h2 => ?_)
  ·skip
   refine R0 ?_
   have hP2 : spec_l4Cmp a b = 1 := by first | (simp only [spec_l4Cmp, h1, h2, ct, cf]; done) | (unfold spec_l4Cmp; rw [h2, h1]; simp only [ct, cf])
   refine R1 ?_
   intro w1 G bs hI hΓ
   rw [hP2]
   exact ⟨rfl, (show I64 1 from (by unfold I64; omega))⟩
  ·skip
   refine R0 ?_
   have hP3 : spec_l4Cmp a b = 0 := by first | (simp only [spec_l4Cmp, h1, h2, ct, cf]; done) | (unfold spec_l4Cmp; rw [h2, h1]; simp only [ct, cf])
   refine R1 ?_
   intro w1 G bs hI hΓ
   rw [hP3]
   exact ⟨rfl, (show I64 0 from (by unfold I64; omega))⟩
theorem f193 (w : World) (n : Nat) (hn : n + 0 ≤ 9) (a : Name) (pa : Option Addr) (ca : Nat) (N0 : RdSl (hp w) pa ca a.parts) (b : Name) (pb : Option Addr) (cb : Nat) (N1 : RdSl (hp w) pb cb b.parts) (hoka : GoT.ok n a) (hokb : GoT.ok n b) :
  Does Tryz.prog 193 #[.agg #[.slice pa ((a.parts).length) ca], .agg #[.slice pb ((b.parts).length) cb]] w emp (fun (rv : Value) (_ : World) => rv = .int .i64 ((spec_CompareNames a b)) ∧ GoT.ok n ((spec_CompareNames a b) : Int)) := by
 have hbP := bd_pos n
 have hbB := bd_big (n := n) (by omega)
 refine WX.enter (tt := tt) (Γ := [(0, MF.rs .stb pa ca a.parts), (1, MF.rs .stb pb cb b.parts)]) Tryz.func193 rfl (by kernel_rfl) rfl (allS_cons rfl N0 (allS_cons rfl N1 allS_nil)) ?_
 refine R0 ?_
 have r1 : (a.parts).length ≤ bd n := (okl (ok_Name hoka)).1
 refine WX.loop (ι := Nat) ⟨fun i => (i ≤ (a.parts).length) ∧ (spec_CompareNames_L1 b a.parts 0 = spec_CompareNames_L1 b ((a.parts).drop i) i), fun i => (a.parts).length - i, fun i => [(5, .v (.int .i64 (((i : Nat) : Int)))), (3, .p 3 0), (2, .p 2 0)], fun i => [(3, ⟨30, [.slice pb ((b.parts).length) cb]⟩), (2, ⟨30, [.slice pa ((a.parts).length) ca]⟩)], fun i => [], fun i => [(0, MF.rs .stb pa ca a.parts), (1, MF.rs .stb pb cb b.parts)]⟩ 0 ⟨(Nat.zero_le _), rfl⟩
  (.cons rfl (.cons rfl (.cons rfl (.nil)))) (.cons rfl (.cons rfl (.nil))) .nil [0, 1] rfl ?_
 rintro i hpre
 have hpre_ : (i ≤ (a.parts).length) ∧ (spec_CompareNames_L1 b a.parts 0 = spec_CompareNames_L1 b ((a.parts).drop i) i) := hpre
 clear hpre
 obtain ⟨v1, v2⟩ := hpre_
 refine R0 ?_
 refine WX.cases 12 rfl (fun h1 => ?_) (fun h1 => ?_)
 ·skip
  have h1d := B.dt h1
  have e1i : i < (a.parts).length := (by omega)
  obtain ⟨e1, e1h⟩ : ∃ e1, (a.parts)[i]? = some e1 := ⟨_, List.getElem?_eq_getElem e1i⟩
  have ok1 : GoT.ok n e1 := (okl (ok_Name hoka)).2 _ (List.mem_of_getElem? e1h)
  refine R0 ?_
  refine WX.cases 18 rfl (fun h2 => ?_) (fun h2 => ?_)
  ·skip
   have h2d := B.dt h2
   refine R0 ?_
   refine WX.draw [] mixed ?_
   intro bs G0 hΓ0
   refine DX.takes (fuel := 9) ttOk [(0, true), (1, false), (2, true)] (by kernel_rfl) rfl ?_
   refine DX.idx 3 0 i ttOk hΓ0 (by kernel_rfl) rfl rfl rfl rfl rfl rfl rfl rfl rfl rfl rfl e1i ?_
   rintro ad1 rfl
   refine DX.ldE 4 0 2 e1 ttOk hΓ0 (by kernel_rfl) rfl rfl rfl rfl rfl rfl rfl rfl e1h (fun _ => rfl) (fun _ => rfl) ?_
   rintro ⟨⟩
   refine DX.takes (fuel := 4) ttOk [(5, true), (6, false), (7, true)] (by kernel_rfl) rfl ?_
   have e2i : i < (b.parts).length := (by first | assumption | omega)
   obtain ⟨e2, e2h⟩ : ∃ e2, (b.parts)[i]? = some e2 := ⟨_, List.getElem?_eq_getElem e2i⟩
   have ok2 : GoT.ok n e2 := (okl (ok_Name hokb)).2 _ (List.mem_of_getElem? e2h)
   refine DX.idx 8 1 i ttOk hΓ0 (by kernel_rfl) rfl rfl rfl rfl rfl rfl rfl rfl rfl rfl rfl e2i ?_
   rintro ad2 rfl
   refine DX.ldE 9 1 2 e2 ttOk hΓ0 (by kernel_rfl) rfl rfl rfl rfl rfl rfl rfl rfl e2h (fun _ => rfl) (fun _ => rfl) ?_
   rintro ⟨⟩
   refine DX.callV 10 rfl (by kernel_rfl) rfl rfl rfl rfl rfl rfl (fun _ => rfl) rfl (fun w G bs hI hΓ => f230 w n (by omega) e1 e2 ok1 ok2) ?_
   intro hq1
   refine DX.takes (fuel := 0) ttOk [(11, true)] (by kernel_rfl) rfl ?_
   refine DX.tail2 [] rfl rfl (by kernel_rfl) ?_
   refine R0 ?_
   refine WX.cases 33 rfl (fun h3 => ?_) (fun h3 => ?_)
   ·skip
    have h3d := B.nt' h3
    refine R0 ?_
    have hP1 : spec_CompareNames_L1 b a.parts 0 = (some (spec_l4Cmp e1 e2)) := by rw [v2, drop_get e1h]; simp only [spec_CompareNames_L1, h2, e2h, h3, ct, cf]
    have hP2 : spec_CompareNames a b = (spec_l4Cmp e1 e2) := by simp only [spec_CompareNames, hP1, ct, cf]
    refine R1 ?_
    intro w1 G bs hI hΓ
    rw [hP2]
    exact ⟨rfl, hq1⟩
   ·skip
    have h3d := B.nf' h3
    refine R0 ?_
    refine WX.see rfl rfl rfl (fun _ hΓ => looks_arith rfl rfl rfl rfl (by unfold I64; first | omega | (simp only [List.length_take] at *; omega))) ?_
    refine R0 ?_
    exact WX.iter (i + 1) ⟨(by omega), (by rw [v2, drop_get e1h]; simp only [spec_CompareNames_L1, h2, e2h, h3, ct, cf])⟩ (by first | (dsimp only; omega) | omega) (.cons rfl (.cons rfl (.cons rfl (.nil)))) (.cons rfl (.cons rfl (.nil))) .nil [0, 1] rfl
  ·skip
   have h2d := B.df h2
   refine R0 ?_
   have hX1 : spec_CompareNames_L1 b a.parts 0 = none := by rw [v2, drop_get e1h]; simp only [spec_CompareNames_L1, h2, ct, cf]
   refine WX.cases 35 rfl (fun h4 => ?_) (fun h4 => ?_)
   ·skip
    have h4d := B.dt h4
    refine R0 ?_
    have hP3 : spec_CompareNames a b = (-1) := by simp only [spec_CompareNames, hX1, h4, ct, cf]
    refine R1 ?_
    intro w1 G bs hI hΓ
    rw [hP3]
    exact ⟨rfl, (show I64 (-1) from (by unfold I64; omega))⟩
   ·skip
    have h4d := B.df h4
    refine R0 ?_
    refine WX.cases 43 rfl (fun h5 => ?_) (fun h5 => ?_)
    ·skip
     have h5d := B.dt h5
     refine R0 ?_
     have hP4 : spec_CompareNames a b = 1 := by simp only [spec_CompareNames, hX1, h4, h5, ct, cf]
     refine R1 ?_
     intro w1 G bs hI hΓ
     rw [hP4]
     exact ⟨rfl, (show I64 1 from (by unfold I64; omega))⟩
    ·skip
     have h5d := B.df h5
     refine R0 ?_
     have hP5 : spec_CompareNames a b = 0 := by simp only [spec_CompareNames, hX1, h4, h5, ct, cf]
     refine R1 ?_
     intro w1 G bs hI hΓ
     rw [hP5]
     exact ⟨rfl, (show I64 0 from (by unfold I64; omega))⟩
 ·skip
  have h1d := B.df h1
  refine R0 ?_
  have hX2 : spec_CompareNames_L1 b a.parts 0 = none := by rw [v2, List.drop_eq_nil_of_le (show (a.parts).length ≤ i by omega)]; simp only [spec_CompareNames_L1, ct, cf]
  refine WX.cases 35 rfl (fun h6 => ?_) (fun h6 => ?_)
  ·skip
   have h6d := B.dt h6
   refine R0 ?_
   have hP6 : spec_CompareNames a b = (-1) := by simp only [spec_CompareNames, hX2, h6, ct, cf]
   refine R1 ?_
   intro w1 G bs hI hΓ
   rw [hP6]
   exact ⟨rfl, (show I64 (-1) from (by unfold I64; omega))⟩
  ·skip
   have h6d := B.df h6
   refine R0 ?_
   refine WX.cases 43 rfl (fun h7 => ?_) (fun h7 => ?_)
   ·skip
    have h7d := B.dt h7
    refine R0 ?_
    have hP7 : spec_CompareNames a b = 1 := by simp only [spec_CompareNames, hX2, h6, h7, ct, cf]
    refine R1 ?_
    intro w1 G bs hI hΓ
    rw [hP7]
    exact ⟨rfl, (show I64 1 from (by unfold I64; omega))⟩
   ·skip
    have h7d := B.df h7
    refine R0 ?_
    have hP8 : spec_CompareNames a b = 0 := by simp only [spec_CompareNames, hX2, h6, h7, ct, cf]
    refine R1 ?_
    intro w1 G bs hI hΓ
    rw [hP8]
    exact ⟨rfl, (show I64 0 from (by unfold I64; omega))⟩
theorem f146 (w : World) (n : Nat) (hn : n + 0 ≤ 9) (a : Name) (pa : Option Addr) (ca : Nat) (N0 : RdSl (hp w) pa ca a.parts) (b : Name) (pb : Option Addr) (cb : Nat) (N1 : RdSl (hp w) pb cb b.parts) (hoka : GoT.ok n a) (hokb : GoT.ok n b) :
  Does Tryz.prog 146 #[.agg #[.slice pa ((a.parts).length) ca], .agg #[.slice pb ((b.parts).length) cb]] w emp (fun (rv : Value) (_ : World) => rv = .bool (spec_EqualNames a b) ∧ True) := by
 have hbP := bd_pos n
 have hbB := bd_big (n := n) (by omega)
 refine WX.enter (tt := tt) (Γ := [(0, MF.rs .stb pa ca a.parts), (1, MF.rs .stb pb cb b.parts)]) Tryz.func146 rfl (by kernel_rfl) rfl (allS_cons rfl N0 (allS_cons rfl N1 allS_nil)) ?_
 refine R0 ?_
 refine WX.callV rfl rfl rfl rfl rfl (fun _ => rfl) rfl (fun w G bs hI hΓ => f193 w n (by omega) a pa ca (hΓ.get 0 rfl) b pb cb (hΓ.get 1 rfl) hoka hokb) ?_
 intro hq1
 refine R0 ?_
 have hP1 : spec_EqualNames a b = ((spec_CompareNames a b) == 0) := by simp only [spec_EqualNames, ct, cf]
 exact R3 hP1
theorem f180 (w : World) (n : Nat) (hn : n + 0 ≤ 9) (a : (List UInt8)) (pa : Option Addr) (ca : Nat) (N0 : RdSl (hp w) pa ca a) (b : (List UInt8)) (pb : Option Addr) (cb : Nat) (N1 : RdSl (hp w) pb cb b) (hoka : GoT.ok n a) (hokb : GoT.ok n b) :
  Does Tryz.prog 180 #[.slice pa ((a).length) ca, .slice pb ((b).length) cb] w emp (fun (rv : Value) (_ : World) => rv = .bool (spec_EqualBytes a b) ∧ True) := by
 refine WX.enter (tt := tt) (Γ := [(0, MF.rs .stb pa ca a), (1, MF.rs .stb pb cb b)]) Tryz.func180 rfl (by kernel_rfl) rfl (allS_cons rfl N0 (allS_cons rfl N1 allS_nil)) ?_
 refine R0 ?_
 refine WX.see rfl rfl rfl (fun _ hΓ => looks_toStr ttOk (hΓ.get 0 rfl) rfl rfl rfl rfl rfl rfl rfl rfl rfl) ?_
 refine R0 ?_
 refine WX.see rfl rfl rfl (fun _ hΓ => looks_toStr ttOk (hΓ.get 1 rfl) rfl rfl rfl rfl rfl rfl rfl rfl rfl) ?_
 refine R0 ?_
 have hP1 : spec_EqualBytes a b = (((bstr a)).toList == ((bstr b)).toList) := by simp only [spec_EqualBytes, ct, cf]
 exact R3 hP1
theorem f98 (w : World) (n : Nat) (hn : n + 0 ≤ 9) (a : DataP) (K0 : Option Addr) (M0 : Nat) (N0 : RdSl (hp w) K0 M0 a.name.parts) (K1 : Option Addr) (M1 : Nat) (N1 : RdSl (hp w) K1 M1 a.content) (K2 : Option Addr) (M2 : Nat) (N2 : RdSl (hp w) K2 M2 a.keyName.parts) (b : DataP) (K3 : Option Addr) (M3 : Nat) (N3 : RdSl (hp w) K3 M3 b.name.parts) (K4 : Option Addr) (M4 : Nat) (N4 : RdSl (hp w) K4 M4 b.content) (K5 : Option Addr) (M5 : Nat) (N5 : RdSl (hp w) K5 M5 b.keyName.parts) (hoka : GoT.ok n a) (hokb : GoT.ok n b) :
  Does Tryz.prog 98 #[.agg #[.slice K0 ((a.name.parts).length) M0, .slice K1 ((a.content).length) M1, .slice K2 ((a.keyName.parts).length) M2, .int .i64 (a.freshUntil), .int .i64 (a.signature)], .agg #[.slice K3 ((b.name.parts).length) M3, .slice K4 ((b.content).length) M4, .slice K5 ((b.keyName.parts).length) M5, .int .i64 (b.freshUntil), .int .i64 (b.signature)]] w emp (fun (rv : Value) (_ : World) => rv = .bool (impl_EqualData a b) ∧ True) := by
 have hbP := bd_pos n
 have hbB := bd_big (n := n) (by omega)
 refine WX.enter (tt := tt) (Γ := [(0, MF.rs .stb K0 M0 a.name.parts), (1, MF.rs .stb K1 M1 a.content), (2, MF.rs .stb K2 M2 a.keyName.parts), (3, MF.rs .stb K3 M3 b.name.parts), (4, MF.rs .stb K4 M4 b.content), (5, MF.rs .stb K5 M5 b.keyName.parts)]) Tryz.func98 rfl (by kernel_rfl) rfl (allS_cons rfl N0 (allS_cons rfl N1 (allS_cons rfl N2 (allS_cons rfl N3 (allS_cons rfl N4 (allS_cons rfl N5 allS_nil)))))) ?_
 refine R0 ?_
 refine WX.callV rfl rfl rfl rfl rfl (fun _ => rfl) rfl (fun w G bs hI hΓ => f94 w n (by omega) a.name K0 M0 (hΓ.get 0 rfl) b.name K3 M3 (hΓ.get 3 rfl) ((ok_DataP hoka).1) ((ok_DataP hokb).1)) ?_
 intro hq1
 refine R0 ?_
 refine WX.cases 10 rfl (fun h1 => ?_) (fun h1 => ?_)
 ·skip
  refine R0 ?_
  refine WX.callV rfl rfl rfl rfl rfl (fun _ => rfl) rfl (fun w G bs hI hΓ => f178 w n (by omega) a.content K1 M1 (hΓ.get 1 rfl) b.content K4 M4 (hΓ.get 4 rfl) ((ok_DataP hoka).2.1) ((ok_DataP hokb).2.1)) ?_
  intro hq2
  refine R0 ?_
  refine WX.cases 17 rfl (fun h2 => ?_) (fun h2 => ?_)
  ·skip
   refine R0 ?_
   refine WX.callV rfl rfl rfl rfl rfl (fun _ => rfl) rfl (fun w G bs hI hΓ => f94 w n (by omega) a.keyName K2 M2 (hΓ.get 2 rfl) b.keyName K5 M5 (hΓ.get 5 rfl) ((ok_DataP hoka).2.2.1) ((ok_DataP hokb).2.2.1)) ?_
   intro hq3
   refine R0 ?_
   refine WX.cases 24 rfl (fun h3 => ?_) (fun h3 => ?_)
   ·skip
    refine R0 ?_
    refine WX.cases 31 rfl (fun h4 => ?_) (fun h4 => ?_)
    ·skip
     have h4d := B.et h4
     refine R0 ?_
     have hP1 : impl_EqualData a b = (a.signature == b.signature) := by simp only [impl_EqualData, h1, h2, h3, h4, ct, cf]
     exact R3 hP1
    ·skip
     have h4d := B.ef h4
     refine R0 ?_
     have hP2 : impl_EqualData a b = false := by simp only [impl_EqualData, h1, h2, h3, h4, ct, cf]
     exact R3 hP2
   ·skip
    refine R0 ?_
    have hP3 : impl_EqualData a b = false := by simp only [impl_EqualData, h1, h2, h3, ct, cf]
    exact R3 hP3
  ·skip
   refine R0 ?_
   have hP4 : impl_EqualData a b = false := by simp only [impl_EqualData, h1, h2, ct, cf]
   exact R3 hP4
 ·skip
  refine R0 ?_
  have hP5 : impl_EqualData a b = false := by simp only [impl_EqualData, h1, ct, cf]
  exact R3 hP5
theorem f101 (w : World) (n : Nat) (hn : n + 0 ≤ 9) (a : DataP) (K0 : Option Addr) (M0 : Nat) (N0 : RdSl (hp w) K0 M0 a.name.parts) (K1 : Option Addr) (M1 : Nat) (N1 : RdSl (hp w) K1 M1 a.content) (K2 : Option Addr) (M2 : Nat) (N2 : RdSl (hp w) K2 M2 a.keyName.parts) (b : DataP) (K3 : Option Addr) (M3 : Nat) (N3 : RdSl (hp w) K3 M3 b.name.parts) (K4 : Option Addr) (M4 : Nat) (N4 : RdSl (hp w) K4 M4 b.content) (K5 : Option Addr) (M5 : Nat) (N5 : RdSl (hp w) K5 M5 b.keyName.parts) (hoka : GoT.ok n a) (hokb : GoT.ok n b) :
  Does Tryz.prog 101 #[.agg #[.slice K0 ((a.name.parts).length) M0, .slice K1 ((a.content).length) M1, .slice K2 ((a.keyName.parts).length) M2, .int .i64 (a.freshUntil), .int .i64 (a.signature)], .agg #[.slice K3 ((b.name.parts).length) M3, .slice K4 ((b.content).length) M4, .slice K5 ((b.keyName.parts).length) M5, .int .i64 (b.freshUntil), .int .i64 (b.signature)]] w emp (fun (rv : Value) (_ : World) => rv = .bool (spec_EqualData a b) ∧ True) := by
 have hbP := bd_pos n
 have hbB := bd_big (n := n) (by omega)
 refine WX.enter (tt := tt) (Γ := [(0, MF.rs .stb K0 M0 a.name.parts), (1, MF.rs .stb K1 M1 a.content), (2, MF.rs .stb K2 M2 a.keyName.parts), (3, MF.rs .stb K3 M3 b.name.parts), (4, MF.rs .stb K4 M4 b.content), (5, MF.rs .stb K5 M5 b.keyName.parts)]) Tryz.func101 rfl (by kernel_rfl) rfl (allS_cons rfl N0 (allS_cons rfl N1 (allS_cons rfl N2 (allS_cons rfl N3 (allS_cons rfl N4 (allS_cons rfl N5 allS_nil)))))) ?_
 refine R0 ?_
 refine WX.callV rfl rfl rfl rfl rfl (fun _ => rfl) rfl (fun w G bs hI hΓ => f146 w n (by omega) a.name K0 M0 (hΓ.get 0 rfl) b.name K3 M3 (hΓ.get 3 rfl) ((ok_DataP hoka).1) ((ok_DataP hokb).1)) ?_
 intro hq1
 refine R0 ?_
 refine WX.cases 10 rfl (fun h1 => ?_) (fun h1 => ?_)
 ·skip
  refine R0 ?_
  refine WX.callV rfl rfl rfl rfl rfl (fun _ => rfl) rfl (fun w G bs hI hΓ => f180 w n (by omega) a.content K1 M1 (hΓ.get 1 rfl) b.content K4 M4 (hΓ.get 4 rfl) ((ok_DataP hoka).2.1) ((ok_DataP hokb).2.1)) ?_
  intro hq2
  refine R0 ?_
  refine WX.cases 17 rfl (fun h2 => ?_) (fun h2 => ?_)
  ·skip
   refine R0 ?_
   refine WX.callV rfl rfl rfl rfl rfl (fun _ => rfl) rfl (fun w G bs hI hΓ => f146 w n (by omega) a.keyName K2 M2 (hΓ.get 2 rfl) b.keyName K5 M5 (hΓ.get 5 rfl) ((ok_DataP hoka).2.2.1) ((ok_DataP hokb).2.2.1)) ?_
   intro hq3
   refine R0 ?_
   refine WX.cases 24 rfl (fun h3 => ?_) (fun h3 => ?_)
   ·skip
    refine R0 ?_
    refine WX.cases 31 rfl (fun h4 => ?_) (fun h4 => ?_)
    ·skip
     have h4d := B.et h4
     refine R0 ?_
     have hP1 : spec_EqualData a b = (a.signature == b.signature) := by simp only [spec_EqualData, h1, h2, h3, h4, ct, cf]
     exact R3 hP1
    ·skip
     have h4d := B.ef h4
     refine R0 ?_
     have hP2 : spec_EqualData a b = false := by simp only [spec_EqualData, h1, h2, h3, h4, ct, cf]
     exact R3 hP2
   ·skip
    refine R0 ?_
    have hP3 : spec_EqualData a b = false := by simp only [spec_EqualData, h1, h2, h3, ct, cf]
    exact R3 hP3
  ·skip
   refine R0 ?_
   have hP4 : spec_EqualData a b = false := by simp only [spec_EqualData, h1, h2, ct, cf]
   exact R3 hP4
 ·skip
  refine R0 ?_
  have hP5 : spec_EqualData a b = false := by simp only [spec_EqualData, h1, ct, cf]
  exact R3 hP5
end Go.Proofs.YtolepebgdfdciaaGreat

namespace Go.Stp
set_option linter.unusedVariables false
set_option linter.unusedSimpArgs false
def impl_ValidPart_L1 : List UInt8 → Option (Bool)
  | [] => none
  | e1 :: rest_ =>
    bif decide (((e1).toNat : Int) ≥ 97) then
      bif decide (((e1).toNat : Int) ≤ 122) then
        impl_ValidPart_L1 rest_
      else
        bif decide (((e1).toNat : Int) ≥ 48) then
          bif decide (((e1).toNat : Int) ≤ 57) then
            impl_ValidPart_L1 rest_
          else
            bif (!(((e1).toNat : Int) == 45)) then
              (some false)
            else
              impl_ValidPart_L1 rest_
        else
          bif (!(((e1).toNat : Int) == 45)) then
            (some false)
          else
            impl_ValidPart_L1 rest_
    else
      bif decide (((e1).toNat : Int) ≥ 48) then
        bif decide (((e1).toNat : Int) ≤ 57) then
          impl_ValidPart_L1 rest_
        else
          bif (!(((e1).toNat : Int) == 45)) then
            (some false)
          else
            impl_ValidPart_L1 rest_
      else
        bif (!(((e1).toNat : Int) == 45)) then
          (some false)
        else
          impl_ValidPart_L1 rest_
def impl_ValidPart (s : Str) : Bool :=
  match impl_ValidPart_L1 ((s).data.toList) with
    | some r_ => r_
    | none =>
      (impl_InRange (((s).size : Nat) : Int) 1 8)
def spec_ValidPart_L1 : List UInt8 → Option (Bool)
  | [] => none
  | e1 :: rest_ =>
    bif (!(spec_l1In ((e1).toNat : Int) 97 122)) then
      bif (!(spec_l1In ((e1).toNat : Int) 48 57)) then
        bif (((e1).toNat : Int) != 45) then
          (some false)
        else
          spec_ValidPart_L1 rest_
      else
        spec_ValidPart_L1 rest_
    else
      spec_ValidPart_L1 rest_
def spec_ValidPart (s : Str) : Bool :=
  bif (!(spec_l1In (((s).size : Nat) : Int) 1 8)) then
    false
  else
    match spec_ValidPart_L1 ((s).data.toList) with
      | some r_ => r_
      | none =>
        true
def slices_IndexFunc_string_L1 (fq : Str → Bool) : List Str → Nat → Option (Int)
  | [], i => none
  | e1 :: rest_, i =>
    bif fq e1 then
      (some ((i : Nat) : Int))
    else
      slices_IndexFunc_string_L1 fq rest_ (i + 1)
def slices_IndexFunc_string (s : (List Str)) (fq : Str → Bool) : Int :=
  match slices_IndexFunc_string_L1 fq s 0 with
    | some r_ => r_
    | none =>
      (-1)
def slices_ContainsFunc_string (s : (List Str)) (fq : Str → Bool) : Bool :=
  (decide ((slices_IndexFunc_string s fq) ≥ 0))
def impl_ValidName_c1 (p_ : Str) : Bool :=
  (!(impl_ValidPart p_))
def impl_ValidName (n_ : Name) : Bool :=
  bif decide ((((n_.parts).length : Nat) : Int) ≤ 6) then
    (!(slices_ContainsFunc_string n_.parts (fun e0_ => (impl_ValidName_c1 e0_))))
  else
    false
def spec_ValidName_L1 : List Str → Option (Bool)
  | [] => none
  | e1 :: rest_ =>
    bif (!(spec_ValidPart e1)) then
      (some false)
    else
      spec_ValidName_L1 rest_
def spec_ValidName (n_ : Name) : Bool :=
  match spec_ValidName_L1 n_.parts with
    | some r_ => r_
    | none =>
      (decide ((((n_.parts).length : Nat) : Int) ≤ 6))
def impl_ValidData (x_ : DataP) : Bool :=
  bif (impl_ValidName x_.name) then
    bif decide ((((x_.name.parts).length : Nat) : Int) > 0) then
      bif decide ((((x_.content).length : Nat) : Int) ≤ 60) then
        bif (impl_ValidName x_.keyName) then
          bif (impl_InRange x_.freshUntil 0 100000) then
            (impl_InRange x_.signature 0 2147483646)
          else
            false
        else
          false
      else
        false
    else
      false
  else
    false
def spec_ValidData (x_ : DataP) : Bool :=
  bif (spec_ValidName x_.name) then
    bif decide ((((x_.name.parts).length : Nat) : Int) > 0) then
      bif decide ((((x_.content).length : Nat) : Int) ≤ 60) then
        bif (spec_ValidName x_.keyName) then
          bif (spec_l1In x_.freshUntil 0 100000) then
            (spec_l1In x_.signature 0 2147483646)
          else
            false
        else
          false
      else
        false
    else
      false
  else
    false
def impl_ValidRecord (r : Record) : Bool :=
  bif (r.kind == 1) then
    (impl_ValidData r.data)
  else
    bif (r.kind == 2) then
      bif (impl_ValidName r.data.name) then
        bif decide ((((r.data.name.parts).length : Nat) : Int) > 0) then
          (impl_EqualData r.data (DataP.mk r.data.name ([]) (Name.mk ([])) 0 0))
        else
          false
      else
        false
    else
      false
def spec_ValidRecord (r : Record) : Bool :=
  bif (r.kind == 1) then
    (spec_ValidData r.data)
  else
    bif (r.kind == 2) then
      bif (spec_ValidName r.data.name) then
        bif decide ((((r.data.name.parts).length : Nat) : Int) > 0) then
          (spec_EqualData r.data (DataP.mk r.data.name ([]) (Name.mk ([])) 0 0))
        else
          false
      else
        false
    else
      false
def slices_IndexFunc_Record_L1 (fq : Record → Bool) : List Record → Nat → Option (Int)
  | [], i => none
  | e1 :: rest_, i =>
    bif fq e1 then
      (some ((i : Nat) : Int))
    else
      slices_IndexFunc_Record_L1 fq rest_ (i + 1)
def slices_IndexFunc_Record (s : (List Record)) (fq : Record → Bool) : Int :=
  match slices_IndexFunc_Record_L1 fq s 0 with
    | some r_ => r_
    | none =>
      (-1)
def slices_ContainsFunc_Record (s : (List Record)) (fq : Record → Bool) : Bool :=
  (decide ((slices_IndexFunc_Record s fq) ≥ 0))
def impl_ValidLog_c1 (r : Record) : Bool :=
  (!(impl_ValidRecord r))
def impl_ValidLog (l : Log) : Bool :=
  bif decide ((((l.durable).length : Nat) : Int) + (((l.volatile).length : Nat) : Int) ≤ 40) then
    bif (!(slices_ContainsFunc_Record l.durable (fun e0_ => (impl_ValidLog_c1 e0_)))) then
      (!(slices_ContainsFunc_Record l.volatile (fun e0_ => (impl_ValidLog_c1 e0_))))
    else
      false
  else
    false
def spec_ValidLog_L2 : List Record → Option (Bool)
  | [] => none
  | e2 :: rest_ =>
    bif (!(spec_ValidRecord e2)) then
      (some false)
    else
      spec_ValidLog_L2 rest_
def spec_ValidLog_L1 : List Record → Option (Bool)
  | [] => none
  | e1 :: rest_ =>
    bif (!(spec_ValidRecord e1)) then
      (some false)
    else
      spec_ValidLog_L1 rest_
def spec_ValidLog (l : Log) : Bool :=
  match spec_ValidLog_L1 l.durable with
    | some r_ => r_
    | none =>
      match spec_ValidLog_L2 l.volatile with
        | some r_ => r_
        | none =>
          (decide ((((l.durable).length : Nat) : Int) + (((l.volatile).length : Nat) : Int) ≤ 40))
end Go.Stp

namespace Go.Proofs.YtolepebgdfdciaaGreat
open Go.Stp
set_option linter.unusedVariables false
set_option linter.unusedSimpArgs false
theorem f177 (w : World) (n : Nat) (hn : n + 0 ≤ 9) (s : Str) (hoks : GoT.ok n s) :
  Does Tryz.prog 177 #[.string s] w emp (fun (rv : Value) (_ : World) => rv = .bool (impl_ValidPart s) ∧ True) := by
 have hbP := bd_pos n
 have hbB := bd_big (n := n) (by omega)
 refine WX.enter (tt := tt) (Γ := []) Tryz.func177 rfl (by kernel_rfl) rfl allS_nil ?_
 refine R0 ?_
 have r1 : (s).size ≤ bd n := hoks
 refine WX.loop (ι := Nat) ⟨fun i => (i ≤ ((s).data.toList).length) ∧ (impl_ValidPart_L1 ((s).data.toList) = impl_ValidPart_L1 (((s).data.toList).drop i)), fun i => ((s).data.toList).length - i, fun i => [(7, .v (.int .i64 (((i : Nat) : Int)))), (6, .v (.int .i64 ((((s).size : Nat) : Int)))), (0, .v (.string s))], fun i => [], fun i => [], fun i => []⟩ 0 ⟨(Nat.zero_le _), rfl⟩
  (.cons rfl (.cons rfl (.cons rfl (.nil)))) .nil .nil [] rfl ?_
 rintro i hpre
 have hpre_ : (i ≤ ((s).data.toList).length) ∧ (impl_ValidPart_L1 ((s).data.toList) = impl_ValidPart_L1 (((s).data.toList).drop i)) := hpre
 clear hpre
 obtain ⟨v1, v2⟩ := hpre_
 refine R0 ?_
 refine WX.cases 8 rfl (fun h1 => ?_) (fun h1 => ?_)
 ·skip
  have h1d := B.dt h1
  have e1i : i < ((s).data.toList).length := (by (have hz_ : ((s).data.toList).length = (s).size := by simp); omega)
  obtain ⟨e1, e1h⟩ : ∃ e1, ((s).data.toList)[i]? = some e1 := ⟨_, List.getElem?_eq_getElem e1i⟩
  refine R0 ?_
  refine WX.see rfl rfl rfl (fun _ hΓ => looks_strIdx ttOk rfl rfl rfl rfl rfl e1h) ?_
  refine R0 ?_
  refine WX.cases 15 rfl (fun h2 => ?_) (fun h2 => ?_)
  ·skip
   have h2d := B.dt h2
   refine R0 ?_
   refine WX.cases 19 rfl (fun h3 => ?_) (fun h3 => ?_)
   ·skip
    have h3d := B.dt h3
    refine R0 ?_
    refine WX.see rfl rfl rfl (fun _ hΓ => looks_arith rfl rfl rfl rfl (by unfold I64; first | omega | (simp only [List.length_take] at *; omega))) ?_
    refine R0 ?_
    exact WX.iter (i + 1) ⟨(by omega), (by rw [v2, drop_get e1h]; simp only [impl_ValidPart_L1, h2, h3, ct, cf])⟩ (by first | (dsimp only; omega) | omega) (.cons rfl (.cons rfl (.cons rfl (.nil)))) .nil .nil [] rfl
   ·skip
    have h3d := B.df h3
    refine R0 ?_
    refine WX.cases 22 rfl (fun h4 => ?_) (fun h4 => ?_)
    ·skip
     have h4d := B.dt h4
     refine R0 ?_
     refine WX.cases 27 rfl (fun h5 => ?_) (fun h5 => ?_)
     ·skip
      have h5d := B.dt h5
      refine R0 ?_
      refine WX.see rfl rfl rfl (fun _ hΓ => looks_arith rfl rfl rfl rfl (by unfold I64; first | omega | (simp only [List.length_take] at *; omega))) ?_
      refine R0 ?_
      exact WX.iter (i + 1) ⟨(by omega), (by rw [v2, drop_get e1h]; simp only [impl_ValidPart_L1, h2, h3, h4, h5, ct, cf])⟩ (by first | (dsimp only; omega) | omega) (.cons rfl (.cons rfl (.cons rfl (.nil)))) .nil .nil [] rfl
     ·skip
      have h5d := B.df h5
      refine R0 ?_
      refine WX.cases 31 rfl (fun h6 => ?_) (fun h6 => ?_)
      ·skip
       have h6d := B.ef (B.nt h6)
       refine R0 ?_
       have hP1 : impl_ValidPart_L1 ((s).data.toList) = (some false) := by rw [v2, drop_get e1h]; simp only [impl_ValidPart_L1, h2, h3, h4, h5, h6, ct, cf]
       have hP2 : impl_ValidPart s = false := by simp only [impl_ValidPart, hP1, ct, cf]
       exact R3 hP2
      ·skip
       have h6d := B.et (B.nf h6)
       refine R0 ?_
       refine WX.see rfl rfl rfl (fun _ hΓ => looks_arith rfl rfl rfl rfl (by unfold I64; first | omega | (simp only [List.length_take] at *; omega))) ?_
       refine R0 ?_
       exact WX.iter (i + 1) ⟨(by omega), (by rw [v2, drop_get e1h]; simp only [impl_ValidPart_L1, h2, h3, h4, h5, h6, ct, cf])⟩ (by first | (dsimp only; omega) | omega) (.cons rfl (.cons rfl (.cons rfl (.nil)))) .nil .nil [] rfl
    ·skip
     have h4d := B.df h4
     refine R0 ?_
     refine WX.cases 31 rfl (fun h7 => ?_) (fun h7 => ?_)
     ·skip
      have h7d := B.ef (B.nt h7)
      refine R0 ?_
      have hP3 : impl_ValidPart_L1 ((s).data.toList) = (some false) := by rw [v2, drop_get e1h]; simp only [impl_ValidPart_L1, h2, h3, h4, h7, ct, cf]
      have hP4 : impl_ValidPart s = false := by simp only [impl_ValidPart, hP3, ct, cf]
      exact R3 hP4
     ·skip
      have h7d := B.et (B.nf h7)
      refine R0 ?_
      refine WX.see rfl rfl rfl (fun _ hΓ => looks_arith rfl rfl rfl rfl (by unfold I64; first | omega | (simp only [List.length_take] at *; omega))) ?_
      refine R0 ?_
      exact WX.iter (i + 1) ⟨(by omega), (by rw [v2, drop_get e1h]; simp only [impl_ValidPart_L1, h2, h3, h4, h7, ct, cf])⟩ (by first | (dsimp only; omega) | omega) (.cons rfl (.cons rfl (.cons rfl (.nil)))) .nil .nil [] rfl
  ·skip
   have h2d := B.df h2
   refine R0 ?_
   refine WX.cases 22 rfl (fun h8 => ?_) (fun h8 => ?_)
   ·skip
    have h8d := B.dt h8
    refine R0 ?_
    refine WX.cases 27 rfl (fun h9 => ?_) (fun h9 => ?_)
    ·skip
     have h9d := B.dt h9
     refine R0 ?_
     refine WX.see rfl rfl rfl (fun _ hΓ => looks_arith rfl rfl rfl rfl (by unfold I64; first | omega | (simp only [List.length_take] at *; omega))) ?_
     refine R0 ?_
     exact WX.iter (i + 1) ⟨(by omega), (by rw [v2, drop_get e1h]; simp only [impl_ValidPart_L1, h2, h8, h9, ct, cf])⟩ (by first | (dsimp only; omega) | omega) (.cons rfl (.cons rfl (.cons rfl (.nil)))) .nil .nil [] rfl
    ·skip
     have h9d := B.df h9
     refine R0 ?_
     refine WX.cases 31 rfl (fun h10 => ?_) (fun h10 => ?_)
     ·skip
      have h10d := B.ef (B.nt h10)
      refine R0 ?_
      have hP5 : impl_ValidPart_L1 ((s).data.toList) = (some false) := by rw [v2, drop_get e1h]; simp only [impl_ValidPart_L1, h2, h8, h9, h10, ct, cf]
      have hP6 : impl_ValidPart s = false := by simp only [impl_ValidPart, hP5, ct, cf]
      exact R3 hP6
     ·skip
      have h10d := B.et (B.nf h10)
      refine R0 ?_
      refine WX.see rfl rfl rfl (fun _ hΓ => looks_arith rfl rfl rfl rfl (by unfold I64; first | omega | (simp only [List.length_take] at *; omega))) ?_
      refine R0 ?_
      exact WX.iter (i + 1) ⟨(by omega), (by rw [v2, drop_get e1h]; simp only [impl_ValidPart_L1, h2, h8, h9, h10, ct, cf])⟩ (by first | (dsimp only; omega) | omega) (.cons rfl (.cons rfl (.cons rfl (.nil)))) .nil .nil [] rfl
   ·skip
    have h8d := B.df h8
    refine R0 ?_
    refine WX.cases 31 rfl (fun h11 => ?_) (fun h11 => ?_)
    ·skip
     have h11d := B.ef (B.nt h11)
     refine R0 ?_
     have hP7 : impl_ValidPart_L1 ((s).data.toList) = (some false) := by rw [v2, drop_get e1h]; simp only [impl_ValidPart_L1, h2, h8, h11, ct, cf]
     have hP8 : impl_ValidPart s = false := by simp only [impl_ValidPart, hP7, ct, cf]
     exact R3 hP8
    ·skip
     have h11d := B.et (B.nf h11)
     refine R0 ?_
     refine WX.see rfl rfl rfl (fun _ hΓ => looks_arith rfl rfl rfl rfl (by unfold I64; first | omega | (simp only [List.length_take] at *; omega))) ?_
     refine R0 ?_
     exact WX.iter (i + 1) ⟨(by omega), (by rw [v2, drop_get e1h]; simp only [impl_ValidPart_L1, h2, h8, h11, ct, cf])⟩ (by first | (dsimp only; omega) | omega) (.cons rfl (.cons rfl (.cons rfl (.nil)))) .nil .nil [] rfl
 ·skip
  have h1d := B.df h1
  refine R0 ?_
  have hX1 : impl_ValidPart_L1 ((s).data.toList) = none := by rw [v2, List.drop_eq_nil_of_le (show ((s).data.toList).length ≤ i by (have hz_ : ((s).data.toList).length = (s).size := by simp); omega)]; simp only [impl_ValidPart_L1, ct, cf]
  refine WX.callV rfl rfl rfl rfl rfl (fun _ => rfl) rfl (fun w G bs hI hΓ => f132 w n (by omega) (((s).size : Nat) : Int) 1 8 (show I64 (((s).size : Nat) : Int) from (by unfold I64; omega)) (show I64 1 from (by unfold I64; omega)) (show I64 8 from (by unfold I64; omega))) ?_
  intro hq1
  refine R0 ?_
  have hP9 : impl_ValidPart s = (impl_InRange (((s).size : Nat) : Int) 1 8) := by simp only [impl_ValidPart, hX1, ct, cf]
  exact R3 hP9
theorem f179 (w : World) (n : Nat) (hn : n + 0 ≤ 9) (s : Str) (hoks : GoT.ok n s) :
  Does Tryz.prog 179 #[.string s] w emp (fun (rv : Value) (_ : World) => rv = .bool (spec_ValidPart s) ∧ True) := by
 have hbP := bd_pos n
 have hbB := bd_big (n := n) (by omega)
 refine WX.enter (tt := tt) (Γ := []) Tryz.func179 rfl (by kernel_rfl) rfl allS_nil ?_
 refine R0 ?_
 have r1 : (s).size ≤ bd n := hoks
 refine WX.callV rfl rfl rfl rfl rfl (fun _ => rfl) rfl (fun w G bs hI hΓ => f136 w n (by omega) (((s).size : Nat) : Int) 1 8 (show I64 (((s).size : Nat) : Int) from (by unfold I64; omega)) (show I64 1 from (by unfold I64; omega)) (show I64 8 from (by unfold I64; omega))) ?_
 intro hq1
 refine R0 ?_
 refine WX.cases 8 rfl (fun h1 => ?_) (fun h1 => ?_)
 ·skip
  have h1d := (B.nt h1)
  refine R0 ?_
  have hP1 : spec_ValidPart s = false := by simp only [spec_ValidPart, h1, ct, cf]
  exact R3 hP1
 ·skip
  have h1d := (B.nf h1)
  have h1r := inR_spec (B.nf h1)
  refine R0 ?_
  refine WX.loop (ι := Nat) ⟨fun i => (i ≤ ((s).data.toList).length) ∧ (spec_ValidPart_L1 ((s).data.toList) = spec_ValidPart_L1 (((s).data.toList).drop i)), fun i => ((s).data.toList).length - i, fun i => [(3, .v (.int .i64 (((i : Nat) : Int)))), (0, .v (.string s))], fun i => [], fun i => [], fun i => []⟩ 0 ⟨(Nat.zero_le _), rfl⟩
   (.cons rfl (.cons rfl (.nil))) .nil .nil [] rfl ?_
  rintro i hpre
  have hpre_ : (i ≤ ((s).data.toList).length) ∧ (spec_ValidPart_L1 ((s).data.toList) = spec_ValidPart_L1 (((s).data.toList).drop i)) := hpre
  clear hpre
  obtain ⟨v1, v2⟩ := hpre_
  refine R0 ?_
  refine WX.cases 12 rfl (fun h2 => ?_) (fun h2 => ?_)
  ·skip
   have h2d := B.dt h2
   have e1i : i < ((s).data.toList).length := (by (have hz_ : ((s).data.toList).length = (s).size := by simp); omega)
   obtain ⟨e1, e1h⟩ : ∃ e1, ((s).data.toList)[i]? = some e1 := ⟨_, List.getElem?_eq_getElem e1i⟩
   refine R0 ?_
   refine WX.see rfl rfl rfl (fun _ hΓ => looks_strIdx ttOk rfl rfl rfl rfl rfl e1h) ?_
   refine WX.see rfl rfl rfl (fun _ hΓ => looks_ofU8 ttOk rfl rfl rfl rfl rfl rfl) ?_
   refine R0 ?_
   have r2 : (e1).toNat < 256 := UInt8.toNat_lt _
   refine WX.callV rfl rfl rfl rfl rfl (fun _ => rfl) rfl (fun w G bs hI hΓ => f136 w n (by omega) ((e1).toNat : Int) 97 122 (show I64 ((e1).toNat : Int) from (by unfold I64; omega)) (show I64 97 from (by unfold I64; omega)) (show I64 122 from (by unfold I64; omega))) ?_
   intro hq2
   refine R0 ?_
   refine WX.cases 22 rfl (fun h3 => ?_) (fun h3 => ?_)
   ·skip
    have h3d := (B.nt h3)
    refine R0 ?_
    refine WX.callV rfl rfl rfl rfl rfl (fun _ => rfl) rfl (fun w G bs hI hΓ => f136 w n (by omega) ((e1).toNat : Int) 48 57 (show I64 ((e1).toNat : Int) from (by unfold I64; omega)) (show I64 48 from (by unfold I64; omega)) (show I64 57 from (by unfold I64; omega))) ?_
    intro hq3
    refine R0 ?_
    refine WX.cases 27 rfl (fun h4 => ?_) (fun h4 => ?_)
    ·skip
     have h4d := (B.nt h4)
     refine R0 ?_
     refine WX.cases 30 rfl (fun h5 => ?_) (fun h5 => ?_)
     ·skip
      have h5d := B.nt' h5
      refine R0 ?_
      have hP2 : spec_ValidPart_L1 ((s).data.toList) = (some false) := by rw [v2, drop_get e1h]; simp only [spec_ValidPart_L1, h3, h4, h5, ct, cf]
      have hP3 : spec_ValidPart s = false := by simp only [spec_ValidPart, h1, hP2, ct, cf]
      exact R3 hP3
     ·skip
      have h5d := B.nf' h5
      refine R0 ?_
      refine WX.see rfl rfl rfl (fun _ hΓ => looks_arith rfl rfl rfl rfl (by unfold I64; first | omega | (simp only [List.length_take] at *; omega))) ?_
      refine R0 ?_
      exact WX.iter (i + 1) ⟨(by omega), (by rw [v2, drop_get e1h]; simp only [spec_ValidPart_L1, h3, h4, h5, ct, cf])⟩ (by first | (dsimp only; omega) | omega) (.cons rfl (.cons rfl (.nil))) .nil .nil [] rfl
    ·skip
     have h4d := (B.nf h4)
     have h4r := inR_spec (B.nf h4)
     refine R0 ?_
     refine WX.see rfl rfl rfl (fun _ hΓ => looks_arith rfl rfl rfl rfl (by unfold I64; first | omega | (simp only [List.length_take] at *; omega))) ?_
     refine R0 ?_
     exact WX.iter (i + 1) ⟨(by omega), (by rw [v2, drop_get e1h]; simp only [spec_ValidPart_L1, h3, h4, ct, cf])⟩ (by first | (dsimp only; omega) | omega) (.cons rfl (.cons rfl (.nil))) .nil .nil [] rfl
   ·skip
    have h3d := (B.nf h3)
    have h3r := inR_spec (B.nf h3)
    refine R0 ?_
    refine WX.see rfl rfl rfl (fun _ hΓ => looks_arith rfl rfl rfl rfl (by unfold I64; first | omega | (simp only [List.length_take] at *; omega))) ?_
    refine R0 ?_
    exact WX.iter (i + 1) ⟨(by omega), (by rw [v2, drop_get e1h]; simp only [spec_ValidPart_L1, h3, ct, cf])⟩ (by first | (dsimp only; omega) | omega) (.cons rfl (.cons rfl (.nil))) .nil .nil [] rfl
  ·skip
   have h2d := B.df h2
   refine R0 ?_
   have hX1 : spec_ValidPart_L1 ((s).data.toList) = none := by rw [v2, List.drop_eq_nil_of_le (show ((s).data.toList).length ≤ i by (have hz_ : ((s).data.toList).length = (s).size := by simp); omega)]; simp only [spec_ValidPart_L1, ct, cf]
   have hP4 : spec_ValidPart s = true := by simp only [spec_ValidPart, h1, hX1, ct, cf]
   exact R3 hP4
theorem f224 (w : World) (n : Nat) (hn : n + 0 ≤ 9) (s : (List Str)) (ps : Option Addr) (cs : Nat) (N0 : RdSl (hp w) ps cs s) (fg : FuncId) (fc : List Value) (fq : Str → Bool) (ff : ∀ w1, Kp emp w w1 → ∀ (e0 : Str) (x0 : GoT.X Str), GoT.ok n e0 → All (hp w1) (GoT.fa .der e0 x0) → Does Tryz.prog fg ([(GoT.sh e0 x0).headD undef] ++ fc).toArray w1 emp (fun rv _ => rv = .bool (fq e0) ∧ True)) (hoks : GoT.ok n s) :
  Does Tryz.prog 224 #[.slice ps ((s).length) cs, .func (.func fg) #[] fc.toArray] w emp (fun (rv : Value) (_ : World) => rv = .int .i64 ((slices_IndexFunc_string s fq)) ∧ GoT.ok n ((slices_IndexFunc_string s fq) : Int)) := by
 have hbP := bd_pos n
 have hbB := bd_big (n := n) (by omega)
 refine WX.enter (tt := tt) (Γ := [(0, MF.rs .stb ps cs s)]) Tryz.func224 rfl (by kernel_rfl) rfl (allS_cons rfl N0 allS_nil) ?_
 refine R0 ?_
 have r1 : (s).length ≤ bd n := (okl hoks).1
 refine WX.loop (ι := Nat) ⟨fun i => (i ≤ (s).length) ∧ (slices_IndexFunc_string_L1 fq s 0 = slices_IndexFunc_string_L1 fq ((s).drop i) i), fun i => (s).length - i, fun i => [(8, .v (.int .i64 (((i : Nat) : Int)))), (7, .v (.int .i64 ((((s).length : Nat) : Int)))), (0, .v (.slice ps ((s).length) cs)), (1, .v (.func (.func fg) #[] fc.toArray))], fun i => [], fun i => [], fun i => [(0, MF.rs .stb ps cs s)]⟩ 0 ⟨(Nat.zero_le _), rfl⟩
  (.cons rfl (.cons rfl (.cons rfl (.cons rfl (.nil))))) .nil .nil [0] rfl ?_
 rintro i hpre
 have hpre_ : (i ≤ (s).length) ∧ (slices_IndexFunc_string_L1 fq s 0 = slices_IndexFunc_string_L1 fq ((s).drop i) i) := hpre
 clear hpre
 obtain ⟨v1, v2⟩ := hpre_
 refine R0 ?_
 refine WX.cases 9 rfl (fun h1 => ?_) (fun h1 => ?_)
 ·skip
  have h1d := B.dt h1
  have e1i : i < (s).length := (by omega)
  obtain ⟨e1, e1h⟩ : ∃ e1, (s)[i]? = some e1 := ⟨_, List.getElem?_eq_getElem e1i⟩
  have ok1 : GoT.ok n e1 := (okl hoks).2 _ (List.mem_of_getElem? e1h)
  refine R0 ?_
  refine WX.idx 0 i ttOk rfl rfl rfl rfl rfl rfl rfl rfl rfl rfl e1i ?_
  rintro ad1 rfl
  refine WX.ldE 0 1 e1 ttOk rfl rfl rfl rfl rfl rfl rfl rfl e1h (fun _ => rfl) (fun _ => rfl) ?_
  rintro ⟨⟩
  refine WX.callV rfl rfl rfl rfl rfl (fun _ => rfl) rfl (fun w G bs hI hΓ => ff w hI.keep e1 () ok1 All.nil) ?_
  intro hq1
  refine R0 ?_
  refine WX.cases 16 rfl (fun h2 => ?_) (fun h2 => ?_)
  ·skip
   refine R0 ?_
   have hP1 : slices_IndexFunc_string_L1 fq s 0 = (some ((i : Nat) : Int)) := by rw [v2, drop_get e1h]; simp only [slices_IndexFunc_string_L1, h2, ct, cf]
   have hP2 : slices_IndexFunc_string s fq = ((i : Nat) : Int) := by simp only [slices_IndexFunc_string, hP1, ct, cf]
   refine R1 ?_
   intro w1 G bs hI hΓ
   rw [hP2]
   exact ⟨rfl, (show I64 ((i : Nat) : Int) from (by unfold I64; omega))⟩
  ·skip
   refine R0 ?_
   refine WX.see rfl rfl rfl (fun _ hΓ => looks_arith rfl rfl rfl rfl (by unfold I64; first | omega | (simp only [List.length_take] at *; omega))) ?_
   refine R0 ?_
   exact WX.iter (i + 1) ⟨(by omega), (by rw [v2, drop_get e1h]; simp only [slices_IndexFunc_string_L1, h2, ct, cf])⟩ (by first | (dsimp only; omega) | omega) (.cons rfl (.cons rfl (.cons rfl (.cons rfl (.nil))))) .nil .nil [0] rfl
 ·skip
  have h1d := B.df h1
  refine R0 ?_
  have hX1 : slices_IndexFunc_string_L1 fq s 0 = none := by rw [v2, List.drop_eq_nil_of_le (show (s).length ≤ i by omega)]; simp only [slices_IndexFunc_string_L1, ct, cf]
  have hP3 : slices_IndexFunc_string s fq = (-1) := by simp only [slices_IndexFunc_string, hX1, ct, cf]
  refine R1 ?_
  intro w1 G bs hI hΓ
  rw [hP3]
  exact ⟨rfl, (show I64 (-1) from (by unfold I64; omega))⟩
theorem ltL_slices_IndexFunc_string : ∀ (f : Str → Bool) (l : List Str) (i : Nat) (j : Int), slices_IndexFunc_string_L1 f l i = some j → j < ((i + l.length : Nat) : Int)
  | f, [], i, j, h => by cases h
  | f, x :: l, i, j, h => by
    simp only [slices_IndexFunc_string_L1] at h
    cases hx : f x
    · rw [hx, cond_false] at h
      have := ltL_slices_IndexFunc_string f l (i + 1) j h
      simp only [List.length_cons]; omega
    · rw [hx, cond_true] at h
      cases h
      simp only [List.length_cons]; omega
theorem ltI_slices_IndexFunc_string (l : List Str) (f : Str → Bool) : slices_IndexFunc_string l f < ((l.length : Nat) : Int) := by
  unfold slices_IndexFunc_string
  cases h : slices_IndexFunc_string_L1 f l 0 with
  | none => show (-1 : Int) < _; omega
  | some j => have := ltL_slices_IndexFunc_string f l 0 j h; show j < _; omega
theorem f175 (w : World) (n : Nat) (hn : n + 0 ≤ 9) (s : (List Str)) (ps : Option Addr) (cs : Nat) (N0 : RdSl (hp w) ps cs s) (fg : FuncId) (fc : List Value) (fq : Str → Bool) (ff : ∀ w1, Kp emp w w1 → ∀ (e0 : Str) (x0 : GoT.X Str), GoT.ok n e0 → All (hp w1) (GoT.fa .der e0 x0) → Does Tryz.prog fg ([(GoT.sh e0 x0).headD undef] ++ fc).toArray w1 emp (fun rv _ => rv = .bool (fq e0) ∧ True)) (hoks : GoT.ok n s) :
  Does Tryz.prog 175 #[.slice ps ((s).length) cs, .func (.func fg) #[] fc.toArray] w emp (fun (rv : Value) (_ : World) => rv = .bool (slices_ContainsFunc_string s fq) ∧ True) := by
 have hbP := bd_pos n
 have hbB := bd_big (n := n) (by omega)
 refine WX.enter (tt := tt) (Γ := [(0, MF.rs .stb ps cs s)]) Tryz.func175 rfl (by kernel_rfl) rfl (allS_cons rfl N0 allS_nil) ?_
 refine R0 ?_
 refine WX.callV rfl rfl rfl rfl rfl (fun _ => rfl) rfl (fun w G bs hI hΓ => f224 w n (by omega) s ps cs (hΓ.get 0 rfl) fg fc fq (fun w1_ hb_ => ff w1_ (hI.keep.trans hb_)) hoks) ?_
 intro hq1
 have q1 := ltI_slices_IndexFunc_string s fq
 refine R0 ?_
 have hP1 : slices_ContainsFunc_string s fq = (decide ((slices_IndexFunc_string s fq) ≥ 0)) := by simp only [slices_ContainsFunc_string, ct, cf]
 exact R3 hP1
theorem f176 (w : World) (n : Nat) (hn : n + 0 ≤ 9) (p_ : Str) (hokp_ : GoT.ok n p_) :
  Does Tryz.prog 176 #[.string p_] w emp (fun (rv : Value) (_ : World) => rv = .bool (impl_ValidName_c1 p_) ∧ True) := by
 have hbP := bd_pos n
 have hbB := bd_big (n := n) (by omega)
 refine WX.enter (tt := tt) (Γ := []) Tryz.func176 rfl (by kernel_rfl) rfl allS_nil ?_
 refine R0 ?_
 refine WX.callV rfl rfl rfl rfl rfl (fun _ => rfl) rfl (fun w G bs hI hΓ => f177 w n (by omega) p_ hokp_) ?_
 intro hq1
 refine R0 ?_
 have hP1 : impl_ValidName_c1 p_ = (!(impl_ValidPart p_)) := by simp only [impl_ValidName_c1, ct, cf]
 exact R3 hP1
theorem f97 (w : World) (n : Nat) (hn : n + 0 ≤ 9) (n_ : Name) (K0 : Option Addr) (M0 : Nat) (N0 : RdSl (hp w) K0 M0 n_.parts) (hokn_ : GoT.ok n n_) :
  Does Tryz.prog 97 #[.agg #[.slice K0 ((n_.parts).length) M0]] w emp (fun (rv : Value) (_ : World) => rv = .bool (impl_ValidName n_) ∧ True) := by
 have hbP := bd_pos n
 have hbB := bd_big (n := n) (by omega)
 refine WX.enter (tt := tt) (Γ := [(0, MF.rs .stb K0 M0 n_.parts)]) Tryz.func97 rfl (by kernel_rfl) rfl (allS_cons rfl N0 allS_nil) ?_
 refine R0 ?_
 refine WX.cases 7 rfl (fun h1 => ?_) (fun h1 => ?_)
 ·skip
  have h1d := B.dt h1
  refine R0 ?_
  refine WX.callV rfl rfl rfl rfl rfl (fun _ => rfl) rfl (fun w G bs hI hΓ => f175 w n (by omega) n_.parts K0 M0 (hΓ.get 0 rfl) 176 [] (fun e0_ => (impl_ValidName_c1 e0_)) (fun w1_ hb_ e0_ x0_ hk0_ hx0_ => f176 w1_ n (by omega) e0_ hk0_) (ok_Name hokn_)) ?_
  intro hq1
  refine R0 ?_
  have hP1 : impl_ValidName n_ = (!(slices_ContainsFunc_string n_.parts (fun e0_ => (impl_ValidName_c1 e0_)))) := by simp only [impl_ValidName, h1, ct, cf]
  exact R3 hP1
 ·skip
  have h1d := B.df h1
  refine R0 ?_
  have hP2 : impl_ValidName n_ = false := by simp only [impl_ValidName, h1, ct, cf]
  exact R3 hP2
theorem f100 (w : World) (n : Nat) (hn : n + 0 ≤ 9) (n_ : Name) (K0 : Option Addr) (M0 : Nat) (N0 : RdSl (hp w) K0 M0 n_.parts) (hokn_ : GoT.ok n n_) :
  Does Tryz.prog 100 #[.agg #[.slice K0 ((n_.parts).length) M0]] w emp (fun (rv : Value) (_ : World) => rv = .bool (spec_ValidName n_) ∧ True) := by
 have hbP := bd_pos n
 have hbB := bd_big (n := n) (by omega)
 refine WX.enter (tt := tt) (Γ := [(0, MF.rs .stb K0 M0 n_.parts)]) Tryz.func100 rfl (by kernel_rfl) rfl (allS_cons rfl N0 allS_nil) ?_
 refine R0 ?_
 have r1 : (n_.parts).length ≤ bd n := (okl (ok_Name hokn_)).1
 refine WX.loop (ι := Nat) ⟨fun i => (i ≤ (n_.parts).length) ∧ (spec_ValidName_L1 n_.parts = spec_ValidName_L1 ((n_.parts).drop i)), fun i => (n_.parts).length - i, fun i => [(3, .v (.int .i64 (((i : Nat) : Int)))), (1, .p 1 0)], fun i => [(1, ⟨30, [.slice K0 ((n_.parts).length) M0]⟩)], fun i => [], fun i => [(0, MF.rs .stb K0 M0 n_.parts)]⟩ 0 ⟨(Nat.zero_le _), rfl⟩
  (.cons rfl (.cons rfl (.nil))) (.cons rfl (.nil)) .nil [0] rfl ?_
 rintro i hpre
 have hpre_ : (i ≤ (n_.parts).length) ∧ (spec_ValidName_L1 n_.parts = spec_ValidName_L1 ((n_.parts).drop i)) := hpre
 clear hpre
 obtain ⟨v1, v2⟩ := hpre_
 refine R0 ?_
 refine WX.cases 8 rfl (fun h1 => ?_) (fun h1 => ?_)
 ·skip
  have h1d := B.dt h1
  have e1i : i < (n_.parts).length := (by omega)
  obtain ⟨e1, e1h⟩ : ∃ e1, (n_.parts)[i]? = some e1 := ⟨_, List.getElem?_eq_getElem e1i⟩
  have ok1 : GoT.ok n e1 := (okl (ok_Name hokn_)).2 _ (List.mem_of_getElem? e1h)
  refine R0 ?_
  refine WX.idx 0 i ttOk rfl rfl rfl rfl rfl rfl rfl rfl rfl rfl e1i ?_
  rintro ad1 rfl
  refine WX.ldE 0 1 e1 ttOk rfl rfl rfl rfl rfl rfl rfl rfl e1h (fun _ => rfl) (fun _ => rfl) ?_
  rintro ⟨⟩
  refine WX.callV rfl rfl rfl rfl rfl (fun _ => rfl) rfl (fun w G bs hI hΓ => f179 w n (by omega) e1 ok1) ?_
  intro hq1
  refine R0 ?_
  refine WX.cases 17 rfl (fun h2 => ?_) (fun h2 => ?_)
  ·skip
   have h2d := (B.nt h2)
   refine R0 ?_
   have hP1 : spec_ValidName_L1 n_.parts = (some false) := by rw [v2, drop_get e1h]; simp only [spec_ValidName_L1, h2, ct, cf]
   have hP2 : spec_ValidName n_ = false := by simp only [spec_ValidName, hP1, ct, cf]
   exact R3 hP2
  ·skip
   have h2d := (B.nf h2)
   refine R0 ?_
   refine WX.see rfl rfl rfl (fun _ hΓ => looks_arith rfl rfl rfl rfl (by unfold I64; first | omega | (simp only [List.length_take] at *; omega))) ?_
   refine R0 ?_
   exact WX.iter (i + 1) ⟨(by omega), (by rw [v2, drop_get e1h]; simp only [spec_ValidName_L1, h2, ct, cf])⟩ (by first | (dsimp only; omega) | omega) (.cons rfl (.cons rfl (.nil))) (.cons rfl (.nil)) .nil [0] rfl
 ·skip
  have h1d := B.df h1
  refine R0 ?_
  have hX1 : spec_ValidName_L1 n_.parts = none := by rw [v2, List.drop_eq_nil_of_le (show (n_.parts).length ≤ i by omega)]; simp only [spec_ValidName_L1, ct, cf]
  have hP3 : spec_ValidName n_ = (decide ((((n_.parts).length : Nat) : Int) ≤ 6)) := by simp only [spec_ValidName, hX1, ct, cf]
  exact R3 hP3
theorem f96 (w : World) (n : Nat) (hn : n + 0 ≤ 9) (x_ : DataP) (K0 : Option Addr) (M0 : Nat) (N0 : RdSl (hp w) K0 M0 x_.name.parts) (K1 : Option Addr) (M1 : Nat) (N1 : RdSl (hp w) K1 M1 x_.content) (K2 : Option Addr) (M2 : Nat) (N2 : RdSl (hp w) K2 M2 x_.keyName.parts) (hokx_ : GoT.ok n x_) :
  Does Tryz.prog 96 #[.agg #[.slice K0 ((x_.name.parts).length) M0, .slice K1 ((x_.content).length) M1, .slice K2 ((x_.keyName.parts).length) M2, .int .i64 (x_.freshUntil), .int .i64 (x_.signature)]] w emp (fun (rv : Value) (_ : World) => rv = .bool (impl_ValidData x_) ∧ True) := by
 have hbP := bd_pos n
 have hbB := bd_big (n := n) (by omega)
 refine WX.enter (tt := tt) (Γ := [(0, MF.rs .stb K0 M0 x_.name.parts), (1, MF.rs .stb K1 M1 x_.content), (2, MF.rs .stb K2 M2 x_.keyName.parts)]) Tryz.func96 rfl (by kernel_rfl) rfl (allS_cons rfl N0 (allS_cons rfl N1 (allS_cons rfl N2 allS_nil))) ?_
 refine R0 ?_
 refine WX.callV rfl rfl rfl rfl rfl (fun _ => rfl) rfl (fun w G bs hI hΓ => f97 w n (by omega) x_.name K0 M0 (hΓ.get 0 rfl) ((ok_DataP hokx_).1)) ?_
 intro hq1
 refine R0 ?_
 refine WX.cases 6 rfl (fun h1 => ?_) (fun h1 => ?_)
 ·skip
  refine R0 ?_
  refine WX.cases 13 rfl (fun h2 => ?_) (fun h2 => ?_)
  ·skip
   have h2d := B.dt h2
   refine R0 ?_
   refine WX.cases 19 rfl (fun h3 => ?_) (fun h3 => ?_)
   ·skip
    have h3d := B.dt h3
    refine R0 ?_
    refine WX.callV rfl rfl rfl rfl rfl (fun _ => rfl) rfl (fun w G bs hI hΓ => f97 w n (by omega) x_.keyName K2 M2 (hΓ.get 2 rfl) ((ok_DataP hokx_).2.2.1)) ?_
    intro hq2
    refine R0 ?_
    refine WX.cases 24 rfl (fun h4 => ?_) (fun h4 => ?_)
    ·skip
     refine R0 ?_
     refine WX.callV rfl rfl rfl rfl rfl (fun _ => rfl) rfl (fun w G bs hI hΓ => f132 w n (by omega) x_.freshUntil 0 100000 ((ok_DataP hokx_).2.2.2.1) (show I64 0 from (by unfold I64; omega)) (show I64 100000 from (by unfold I64; omega))) ?_
     intro hq3
     refine R0 ?_
     refine WX.cases 29 rfl (fun h5 => ?_) (fun h5 => ?_)
     ·skip
      have h5r := inR_impl h5
      refine R0 ?_
      refine WX.callV rfl rfl rfl rfl rfl (fun _ => rfl) rfl (fun w G bs hI hΓ => f132 w n (by omega) x_.signature 0 2147483646 ((ok_DataP hokx_).2.2.2.2) (show I64 0 from (by unfold I64; omega)) (show I64 2147483646 from (by unfold I64; omega))) ?_
      intro hq4
      refine R0 ?_
      have hP1 : impl_ValidData x_ = (impl_InRange x_.signature 0 2147483646) := by simp only [impl_ValidData, h1, h2, h3, h4, h5, ct, cf]
      exact R3 hP1
     ·skip
      refine R0 ?_
      have hP2 : impl_ValidData x_ = false := by simp only [impl_ValidData, h1, h2, h3, h4, h5, ct, cf]
      exact R3 hP2
    ·skip
     refine R0 ?_
     have hP3 : impl_ValidData x_ = false := by simp only [impl_ValidData, h1, h2, h3, h4, ct, cf]
     exact R3 hP3
   ·skip
    have h3d := B.df h3
    refine R0 ?_
    have hP4 : impl_ValidData x_ = false := by simp only [impl_ValidData, h1, h2, h3, ct, cf]
    exact R3 hP4
  ·skip
   have h2d := B.df h2
   refine R0 ?_
   have hP5 : impl_ValidData x_ = false := by simp only [impl_ValidData, h1, h2, ct, cf]
   exact R3 hP5
 ·skip
  refine R0 ?_
  have hP6 : impl_ValidData x_ = false := by simp only [impl_ValidData, h1, ct, cf]
  exact R3 hP6
theorem f99 (w : World) (n : Nat) (hn : n + 0 ≤ 9) (x_ : DataP) (K0 : Option Addr) (M0 : Nat) (N0 : RdSl (hp w) K0 M0 x_.name.parts) (K1 : Option Addr) (M1 : Nat) (N1 : RdSl (hp w) K1 M1 x_.content) (K2 : Option Addr) (M2 : Nat) (N2 : RdSl (hp w) K2 M2 x_.keyName.parts) (hokx_ : GoT.ok n x_) :
  Does Tryz.prog 99 #[.agg #[.slice K0 ((x_.name.parts).length) M0, .slice K1 ((x_.content).length) M1, .slice K2 ((x_.keyName.parts).length) M2, .int .i64 (x_.freshUntil), .int .i64 (x_.signature)]] w emp (fun (rv : Value) (_ : World) => rv = .bool (spec_ValidData x_) ∧ True) := by
 have hbP := bd_pos n
 have hbB := bd_big (n := n) (by omega)
 refine WX.enter (tt := tt) (Γ := [(0, MF.rs .stb K0 M0 x_.name.parts), (1, MF.rs .stb K1 M1 x_.content), (2, MF.rs .stb K2 M2 x_.keyName.parts)]) Tryz.func99 rfl (by kernel_rfl) rfl (allS_cons rfl N0 (allS_cons rfl N1 (allS_cons rfl N2 allS_nil))) ?_
 refine R0 ?_
 refine WX.callV rfl rfl rfl rfl rfl (fun _ => rfl) rfl (fun w G bs hI hΓ => f100 w n (by omega) x_.name K0 M0 (hΓ.get 0 rfl) ((ok_DataP hokx_).1)) ?_
 intro hq1
 refine R0 ?_
 refine WX.cases 6 rfl (fun h1 => ?_) (fun h1 => ?_)
 ·skip
  refine R0 ?_
  refine WX.cases 13 rfl (fun h2 => ?_) (fun h2 => ?_)
  ·skip
   have h2d := B.dt h2
   refine R0 ?_
   refine WX.cases 19 rfl (fun h3 => ?_) (fun h3 => ?_)
   ·skip
    have h3d := B.dt h3
    refine R0 ?_
    refine WX.callV rfl rfl rfl rfl rfl (fun _ => rfl) rfl (fun w G bs hI hΓ => f100 w n (by omega) x_.keyName K2 M2 (hΓ.get 2 rfl) ((ok_DataP hokx_).2.2.1)) ?_
    intro hq2
    refine R0 ?_
    refine WX.cases 24 rfl (fun h4 => ?_) (fun h4 => ?_)
    ·skip
     refine R0 ?_
     refine WX.callV rfl rfl rfl rfl rfl (fun _ => rfl) rfl (fun w G bs hI hΓ => f136 w n (by omega) x_.freshUntil 0 100000 ((ok_DataP hokx_).2.2.2.1) (show I64 0 from (by unfold I64; omega)) (show I64 100000 from (by unfold I64; omega))) ?_
     intro hq3
     refine R0 ?_
     refine WX.cases 29 rfl (fun h5 => ?_) (fun h5 => ?_)
     ·skip
      have h5r := inR_spec h5
      refine R0 ?_
      refine WX.callV rfl rfl rfl rfl rfl (fun _ => rfl) rfl (fun w G bs hI hΓ => f136 w n (by omega) x_.signature 0 2147483646 ((ok_DataP hokx_).2.2.2.2) (show I64 0 from (by unfold I64; omega)) (show I64 2147483646 from (by unfold I64; omega))) ?_
      intro hq4
      refine R0 ?_
      have hP1 : spec_ValidData x_ = (spec_l1In x_.signature 0 2147483646) := by simp only [spec_ValidData, h1, h2, h3, h4, h5, ct, cf]
      exact R3 hP1
     ·skip
      refine R0 ?_
      have hP2 : spec_ValidData x_ = false := by simp only [spec_ValidData, h1, h2, h3, h4, h5, ct, cf]
      exact R3 hP2
    ·skip
     refine R0 ?_
     have hP3 : spec_ValidData x_ = false := by simp only [spec_ValidData, h1, h2, h3, h4, ct, cf]
     exact R3 hP3
   ·skip
    have h3d := B.df h3
    refine R0 ?_
    have hP4 : spec_ValidData x_ = false := by simp only [spec_ValidData, h1, h2, h3, ct, cf]
    exact R3 hP4
  ·skip
   have h2d := B.df h2
   refine R0 ?_
   have hP5 : spec_ValidData x_ = false := by simp only [spec_ValidData, h1, h2, ct, cf]
   exact R3 hP5
 ·skip
  refine R0 ?_
  have hP6 : spec_ValidData x_ = false := by simp only [spec_ValidData, h1, ct, cf]
  exact R3 hP6
theorem f27 (w : World) (n : Nat) (hn : n + 0 ≤ 9) (r : Record) (K0 : Option Addr) (M0 : Nat) (N0 : RdSl (hp w) K0 M0 r.data.name.parts) (K1 : Option Addr) (M1 : Nat) (N1 : RdSl (hp w) K1 M1 r.data.content) (K2 : Option Addr) (M2 : Nat) (N2 : RdSl (hp w) K2 M2 r.data.keyName.parts) (hokr : GoT.ok n r) :
  Does Tryz.prog 27 #[.agg #[.int .i64 (r.kind), .slice K0 ((r.data.name.parts).length) M0, .slice K1 ((r.data.content).length) M1, .slice K2 ((r.data.keyName.parts).length) M2, .int .i64 (r.data.freshUntil), .int .i64 (r.data.signature)]] w emp (fun (rv : Value) (_ : World) => rv = .bool (impl_ValidRecord r) ∧ True) := by
 have hbP := bd_pos n
 have hbB := bd_big (n := n) (by omega)
 refine WX.enter (tt := tt) (Γ := [(0, MF.rs .stb K0 M0 r.data.name.parts), (1, MF.rs .stb K1 M1 r.data.content), (2, MF.rs .stb K2 M2 r.data.keyName.parts)]) Tryz.func27 rfl (by kernel_rfl) rfl (allS_cons rfl N0 (allS_cons rfl N1 (allS_cons rfl N2 allS_nil))) ?_
 refine R0 ?_
 refine WX.cases 5 rfl (fun h1 => ?_) (fun h1 => ?_)
 ·skip
  have h1d := B.et h1
  refine R0 ?_
  refine WX.callV rfl rfl rfl rfl rfl (fun _ => rfl) rfl (fun w G bs hI hΓ => f96 w n (by omega) r.data K0 M0 (hΓ.get 0 rfl) K1 M1 (hΓ.get 1 rfl) K2 M2 (hΓ.get 2 rfl) ((ok_Record hokr).2)) ?_
  intro hq1
  refine R0 ?_
  have hP1 : impl_ValidRecord r = (impl_ValidData r.data) := by simp only [impl_ValidRecord, h1, ct, cf]
  exact R3 hP1
 ·skip
  have h1d := B.ef h1
  refine R0 ?_
  refine WX.cases 10 rfl (fun h2 => ?_) (fun h2 => ?_)
  ·skip
   have h2d := B.et h2
   refine R0 ?_
   refine WX.callV rfl rfl rfl rfl rfl (fun _ => rfl) rfl (fun w G bs hI hΓ => f97 w n (by omega) r.data.name K0 M0 (hΓ.get 0 rfl) ((ok_DataP (ok_Record hokr).2).1)) ?_
   intro hq2
   refine R0 ?_
   refine WX.cases 16 rfl (fun h3 => ?_) (fun h3 => ?_)
   ·skip
    refine R0 ?_
    refine WX.cases 24 rfl (fun h4 => ?_) (fun h4 => ?_)
    ·skip
     have h4d := B.dt h4
     refine R0 ?_
     refine WX.callV rfl rfl rfl rfl rfl (fun _ => rfl) rfl (fun w G bs hI hΓ => f98 w n (by omega) r.data K0 M0 (hΓ.get 0 rfl) K1 M1 (hΓ.get 1 rfl) K2 M2 (hΓ.get 2 rfl) (DataP.mk r.data.name ([]) (Name.mk ([])) 0 0) K0 M0 (hΓ.get 0 rfl) none 0 (rdSl_nil _ _ _) none 0 (rdSl_nil _ _ _) ((ok_Record hokr).2) (And.intro (ok_DataP (ok_Record hokr).2).1 (And.intro (ok_nil (α := UInt8)) (And.intro (ok_nil (α := Str)) (And.intro (show I64 0 from (by unfold I64; omega)) (show I64 0 from (by unfold I64; omega))))))) ?_
     intro hq3
     refine R0 ?_
     have hP2 : impl_ValidRecord r = (impl_EqualData r.data (DataP.mk r.data.name ([]) (Name.mk ([])) 0 0)) := by simp only [impl_ValidRecord, h1, h2, h3, h4, ct, cf]
     exact R3 hP2
    ·skip
     have h4d := B.df h4
     refine R0 ?_
     have hP3 : impl_ValidRecord r = false := by simp only [impl_ValidRecord, h1, h2, h3, h4, ct, cf]
     exact R3 hP3
   ·skip
    refine R0 ?_
    have hP4 : impl_ValidRecord r = false := by simp only [impl_ValidRecord, h1, h2, h3, ct, cf]
    exact R3 hP4
  ·skip
   have h2d := B.ef h2
   refine R0 ?_
   have hP5 : impl_ValidRecord r = false := by simp only [impl_ValidRecord, h1, h2, ct, cf]
   exact R3 hP5
theorem f28 (w : World) (n : Nat) (hn : n + 0 ≤ 9) (r : Record) (K0 : Option Addr) (M0 : Nat) (N0 : RdSl (hp w) K0 M0 r.data.name.parts) (K1 : Option Addr) (M1 : Nat) (N1 : RdSl (hp w) K1 M1 r.data.content) (K2 : Option Addr) (M2 : Nat) (N2 : RdSl (hp w) K2 M2 r.data.keyName.parts) (hokr : GoT.ok n r) :
  Does Tryz.prog 28 #[.agg #[.int .i64 (r.kind), .slice K0 ((r.data.name.parts).length) M0, .slice K1 ((r.data.content).length) M1, .slice K2 ((r.data.keyName.parts).length) M2, .int .i64 (r.data.freshUntil), .int .i64 (r.data.signature)]] w emp (fun (rv : Value) (_ : World) => rv = .bool (spec_ValidRecord r) ∧ True) := by
 have hbP := bd_pos n
 have hbB := bd_big (n := n) (by omega)
 refine WX.enter (tt := tt) (Γ := [(0, MF.rs .stb K0 M0 r.data.name.parts), (1, MF.rs .stb K1 M1 r.data.content), (2, MF.rs .stb K2 M2 r.data.keyName.parts)]) Tryz.func28 rfl (by kernel_rfl) rfl (allS_cons rfl N0 (allS_cons rfl N1 (allS_cons rfl N2 allS_nil))) ?_
 refine R0 ?_
 refine WX.cases 5 rfl (fun h1 => ?_) (fun h1 => ?_)
 ·skip
  have h1d := B.et h1
  refine R0 ?_
  refine WX.callV rfl rfl rfl rfl rfl (fun _ => rfl) rfl (fun w G bs hI hΓ => f99 w n (by omega) r.data K0 M0 (hΓ.get 0 rfl) K1 M1 (hΓ.get 1 rfl) K2 M2 (hΓ.get 2 rfl) ((ok_Record hokr).2)) ?_
  intro hq1
  refine R0 ?_
  have hP1 : spec_ValidRecord r = (spec_ValidData r.data) := by simp only [spec_ValidRecord, h1, ct, cf]
  exact R3 hP1
 ·skip
  have h1d := B.ef h1
  refine R0 ?_
  refine WX.cases 12 rfl (fun h2 => ?_) (fun h2 => ?_)
  ·skip
   have h2d := B.et h2
   refine R0 ?_
   refine WX.callV rfl rfl rfl rfl rfl (fun _ => rfl) rfl (fun w G bs hI hΓ => f100 w n (by omega) r.data.name K0 M0 (hΓ.get 0 rfl) ((ok_DataP (ok_Record hokr).2).1)) ?_
   intro hq2
   refine R0 ?_
   refine WX.cases 18 rfl (fun h3 => ?_) (fun h3 => ?_)
   ·skip
    refine R0 ?_
    refine WX.cases 26 rfl (fun h4 => ?_) (fun h4 => ?_)
    ·skip
     have h4d := B.dt h4
     refine R0 ?_
     refine WX.callV rfl rfl rfl rfl rfl (fun _ => rfl) rfl (fun w G bs hI hΓ => f101 w n (by omega) r.data K0 M0 (hΓ.get 0 rfl) K1 M1 (hΓ.get 1 rfl) K2 M2 (hΓ.get 2 rfl) (DataP.mk r.data.name ([]) (Name.mk ([])) 0 0) K0 M0 (hΓ.get 0 rfl) none 0 (rdSl_nil _ _ _) none 0 (rdSl_nil _ _ _) ((ok_Record hokr).2) (And.intro (ok_DataP (ok_Record hokr).2).1 (And.intro (ok_nil (α := UInt8)) (And.intro (ok_nil (α := Str)) (And.intro (show I64 0 from (by unfold I64; omega)) (show I64 0 from (by unfold I64; omega))))))) ?_
     intro hq3
     refine R0 ?_
     have hP2 : spec_ValidRecord r = (spec_EqualData r.data (DataP.mk r.data.name ([]) (Name.mk ([])) 0 0)) := by simp only [spec_ValidRecord, h1, h2, h3, h4, ct, cf]
     exact R3 hP2
    ·skip
     have h4d := B.df h4
     refine R0 ?_
     have hP3 : spec_ValidRecord r = false := by simp only [spec_ValidRecord, h1, h2, h3, h4, ct, cf]
     exact R3 hP3
   ·skip
    refine R0 ?_
    have hP4 : spec_ValidRecord r = false := by simp only [spec_ValidRecord, h1, h2, h3, ct, cf]
    exact R3 hP4
  ·skip
   have h2d := B.ef h2
   refine R0 ?_
   have hP5 : spec_ValidRecord r = false := by simp only [spec_ValidRecord, h1, h2, ct, cf]
   exact R3 hP5
theorem f181 (w : World) (n : Nat) (hn : n + 0 ≤ 9) (s : (List Record)) (ps : Option Addr) (cs : Nat) (N0 : RdSl (hp w) ps cs s) (fg : FuncId) (fc : List Value) (fq : Record → Bool) (ff : ∀ w1, Kp emp w w1 → ∀ (e0 : Record) (x0 : GoT.X Record), GoT.ok n e0 → All (hp w1) (GoT.fa .der e0 x0) → Does Tryz.prog fg ([Value.agg ⟨GoT.sh e0 x0⟩] ++ fc).toArray w1 emp (fun rv _ => rv = .bool (fq e0) ∧ True)) (hoks : GoT.ok n s) :
  Does Tryz.prog 181 #[.slice ps ((s).length) cs, .func (.func fg) #[] fc.toArray] w emp (fun (rv : Value) (_ : World) => rv = .int .i64 ((slices_IndexFunc_Record s fq)) ∧ GoT.ok n ((slices_IndexFunc_Record s fq) : Int)) := by
 have hbP := bd_pos n
 have hbB := bd_big (n := n) (by omega)
 refine WX.enter (tt := tt) (Γ := [(0, MF.rs .stb ps cs s)]) Tryz.func181 rfl (by kernel_rfl) rfl (allS_cons rfl N0 allS_nil) ?_
 refine R0 ?_
 have r1 : (s).length ≤ bd n := (okl hoks).1
 refine WX.loop (ι := Nat) ⟨fun i => (i ≤ (s).length) ∧ (slices_IndexFunc_Record_L1 fq s 0 = slices_IndexFunc_Record_L1 fq ((s).drop i) i), fun i => (s).length - i, fun i => [(8, .v (.int .i64 (((i : Nat) : Int)))), (7, .v (.int .i64 ((((s).length : Nat) : Int)))), (0, .v (.slice ps ((s).length) cs)), (1, .v (.func (.func fg) #[] fc.toArray))], fun i => [], fun i => [], fun i => [(0, MF.rs .stb ps cs s)]⟩ 0 ⟨(Nat.zero_le _), rfl⟩
  (.cons rfl (.cons rfl (.cons rfl (.cons rfl (.nil))))) .nil .nil [0] rfl ?_
 rintro i hpre
 have hpre_ : (i ≤ (s).length) ∧ (slices_IndexFunc_Record_L1 fq s 0 = slices_IndexFunc_Record_L1 fq ((s).drop i) i) := hpre
 clear hpre
 obtain ⟨v1, v2⟩ := hpre_
 refine R0 ?_
 refine WX.cases 9 rfl (fun h1 => ?_) (fun h1 => ?_)
 ·skip
  have h1d := B.dt h1
  have e1i : i < (s).length := (by omega)
  obtain ⟨e1, e1h⟩ : ∃ e1, (s)[i]? = some e1 := ⟨_, List.getElem?_eq_getElem e1i⟩
  have ok1 : GoT.ok n e1 := (okl hoks).2 _ (List.mem_of_getElem? e1h)
  refine R0 ?_
  refine WX.idx 0 i ttOk rfl rfl rfl rfl rfl rfl rfl rfl rfl rfl e1i ?_
  rintro ad1 rfl
  refine WX.ldE 0 1 e1 ttOk rfl rfl rfl rfl rfl rfl rfl rfl e1h (fun _ => rfl) (fun _ => rfl) ?_
  rintro ⟨⟨⟩, ⟨⟨p1, c1⟩, ⟨p2, c2⟩, ⟨p3, c3⟩, ⟨⟩, ⟨⟩⟩⟩
  refine WX.callV rfl rfl rfl rfl rfl (fun _ => rfl) rfl (fun w G bs hI hΓ => ff w hI.keep e1 ((), ((p1, c1), (p2, c2), (p3, c3), (), ())) ok1 (All.cons (hΓ.get 1 rfl : RdSl _ _ _ _) (All.cons (hΓ.get 2 rfl : RdSl _ _ _ _) (All.cons (hΓ.get 3 rfl : RdSl _ _ _ _) All.nil)))) ?_
  intro hq1
  refine R0 ?_
  refine WX.cases 16 rfl (fun h2 => ?_) (fun h2 => ?_)
  ·skip
   refine R0 ?_
   have hP1 : slices_IndexFunc_Record_L1 fq s 0 = (some ((i : Nat) : Int)) := by rw [v2, drop_get e1h]; simp only [slices_IndexFunc_Record_L1, h2, ct, cf]
   have hP2 : slices_IndexFunc_Record s fq = ((i : Nat) : Int) := by simp only [slices_IndexFunc_Record, hP1, ct, cf]
   refine R1 ?_
   intro w1 G bs hI hΓ
   rw [hP2]
   exact ⟨rfl, (show I64 ((i : Nat) : Int) from (by unfold I64; omega))⟩
  ·skip
   refine R0 ?_
   refine WX.see rfl rfl rfl (fun _ hΓ => looks_arith rfl rfl rfl rfl (by unfold I64; first | omega | (simp only [List.length_take] at *; omega))) ?_
   refine R0 ?_
   exact WX.iter (i + 1) ⟨(by omega), (by rw [v2, drop_get e1h]; simp only [slices_IndexFunc_Record_L1, h2, ct, cf])⟩ (by first | (dsimp only; omega) | omega) (.cons rfl (.cons rfl (.cons rfl (.cons rfl (.nil))))) .nil .nil [0] rfl
 ·skip
  have h1d := B.df h1
  refine R0 ?_
  have hX1 : slices_IndexFunc_Record_L1 fq s 0 = none := by rw [v2, List.drop_eq_nil_of_le (show (s).length ≤ i by omega)]; simp only [slices_IndexFunc_Record_L1, ct, cf]
  have hP3 : slices_IndexFunc_Record s fq = (-1) := by simp only [slices_IndexFunc_Record, hX1, ct, cf]
  refine R1 ?_
  intro w1 G bs hI hΓ
  rw [hP3]
  exact ⟨rfl, (show I64 (-1) from (by unfold I64; omega))⟩
theorem ltL_slices_IndexFunc_Record : ∀ (f : Record → Bool) (l : List Record) (i : Nat) (j : Int), slices_IndexFunc_Record_L1 f l i = some j → j < ((i + l.length : Nat) : Int)
  | f, [], i, j, h => by cases h
  | f, x :: l, i, j, h => by
    simp only [slices_IndexFunc_Record_L1] at h
    cases hx : f x
    · rw [hx, cond_false] at h
      have := ltL_slices_IndexFunc_Record f l (i + 1) j h
      simp only [List.length_cons]; omega
    · rw [hx, cond_true] at h
      cases h
      simp only [List.length_cons]; omega
theorem ltI_slices_IndexFunc_Record (l : List Record) (f : Record → Bool) : slices_IndexFunc_Record l f < ((l.length : Nat) : Int) := by
  unfold slices_IndexFunc_Record
  cases h : slices_IndexFunc_Record_L1 f l 0 with
  | none => show (-1 : Int) < _; omega
  | some j => have := ltL_slices_IndexFunc_Record f l 0 j h; show j < _; omega
theorem f103 (w : World) (n : Nat) (hn : n + 0 ≤ 9) (s : (List Record)) (ps : Option Addr) (cs : Nat) (N0 : RdSl (hp w) ps cs s) (fg : FuncId) (fc : List Value) (fq : Record → Bool) (ff : ∀ w1, Kp emp w w1 → ∀ (e0 : Record) (x0 : GoT.X Record), GoT.ok n e0 → All (hp w1) (GoT.fa .der e0 x0) → Does Tryz.prog fg ([Value.agg ⟨GoT.sh e0 x0⟩] ++ fc).toArray w1 emp (fun rv _ => rv = .bool (fq e0) ∧ True)) (hoks : GoT.ok n s) :
  Does Tryz.prog 103 #[.slice ps ((s).length) cs, .func (.func fg) #[] fc.toArray] w emp (fun (rv : Value) (_ : World) => rv = .bool (slices_ContainsFunc_Record s fq) ∧ True) := by
 have hbP := bd_pos n
 have hbB := bd_big (n := n) (by omega)
 refine WX.enter (tt := tt) (Γ := [(0, MF.rs .stb ps cs s)]) Tryz.func103 rfl (by kernel_rfl) rfl (allS_cons rfl N0 allS_nil) ?_
 refine R0 ?_
 refine WX.callV rfl rfl rfl rfl rfl (fun _ => rfl) rfl (fun w G bs hI hΓ => f181 w n (by omega) s ps cs (hΓ.get 0 rfl) fg fc fq (fun w1_ hb_ => ff w1_ (hI.keep.trans hb_)) hoks) ?_
 intro hq1
 have q1 := ltI_slices_IndexFunc_Record s fq
 refine R0 ?_
 have hP1 : slices_ContainsFunc_Record s fq = (decide ((slices_IndexFunc_Record s fq) ≥ 0)) := by simp only [slices_ContainsFunc_Record, ct, cf]
 exact R3 hP1
theorem f102 (w : World) (n : Nat) (hn : n + 0 ≤ 9) (r : Record) (K0 : Option Addr) (M0 : Nat) (N0 : RdSl (hp w) K0 M0 r.data.name.parts) (K1 : Option Addr) (M1 : Nat) (N1 : RdSl (hp w) K1 M1 r.data.content) (K2 : Option Addr) (M2 : Nat) (N2 : RdSl (hp w) K2 M2 r.data.keyName.parts) (hokr : GoT.ok n r) :
  Does Tryz.prog 102 #[.agg #[.int .i64 (r.kind), .slice K0 ((r.data.name.parts).length) M0, .slice K1 ((r.data.content).length) M1, .slice K2 ((r.data.keyName.parts).length) M2, .int .i64 (r.data.freshUntil), .int .i64 (r.data.signature)]] w emp (fun (rv : Value) (_ : World) => rv = .bool (impl_ValidLog_c1 r) ∧ True) := by
 have hbP := bd_pos n
 have hbB := bd_big (n := n) (by omega)
 refine WX.enter (tt := tt) (Γ := [(0, MF.rs .stb K0 M0 r.data.name.parts), (1, MF.rs .stb K1 M1 r.data.content), (2, MF.rs .stb K2 M2 r.data.keyName.parts)]) Tryz.func102 rfl (by kernel_rfl) rfl (allS_cons rfl N0 (allS_cons rfl N1 (allS_cons rfl N2 allS_nil))) ?_
 refine R0 ?_
 refine WX.callV rfl rfl rfl rfl rfl (fun _ => rfl) rfl (fun w G bs hI hΓ => f27 w n (by omega) r K0 M0 (hΓ.get 0 rfl) K1 M1 (hΓ.get 1 rfl) K2 M2 (hΓ.get 2 rfl) hokr) ?_
 intro hq1
 refine R0 ?_
 have hP1 : impl_ValidLog_c1 r = (!(impl_ValidRecord r)) := by simp only [impl_ValidLog_c1, ct, cf]
 exact R3 hP1
theorem f29 (w : World) (n : Nat) (hn : n + 0 ≤ 9) (l : Log) (K0 : Option Addr) (M0 : Nat) (N0 : RdSl (hp w) K0 M0 l.durable) (K1 : Option Addr) (M1 : Nat) (N1 : RdSl (hp w) K1 M1 l.volatile) (hokl : GoT.ok n l) :
  Does Tryz.prog 29 #[.agg #[.slice K0 ((l.durable).length) M0, .slice K1 ((l.volatile).length) M1]] w emp (fun (rv : Value) (_ : World) => rv = .bool (impl_ValidLog l) ∧ True) := by
 have hbP := bd_pos n
 have hbB := bd_big (n := n) (by omega)
 refine WX.enter (tt := tt) (Γ := [(0, MF.rs .stb K0 M0 l.durable), (1, MF.rs .stb K1 M1 l.volatile)]) Tryz.func29 rfl (by kernel_rfl) rfl (allS_cons rfl N0 (allS_cons rfl N1 allS_nil)) ?_
 refine R0 ?_
 have r1 : (l.durable).length ≤ bd n := (okl (ok_Log hokl).1).1
 have r2 : (l.volatile).length ≤ bd n := (okl (ok_Log hokl).2).1
 refine WX.see rfl rfl rfl (fun _ hΓ => looks_arith rfl rfl rfl rfl (by unfold I64; first | omega | (simp only [List.length_take] at *; omega))) ?_
 refine R0 ?_
 refine WX.cases 12 rfl (fun h1 => ?_) (fun h1 => ?_)
 ·skip
  have h1d := B.dt h1
  refine R0 ?_
  refine WX.callV rfl rfl rfl rfl rfl (fun _ => rfl) rfl (fun w G bs hI hΓ => f103 w n (by omega) l.durable K0 M0 (hΓ.get 0 rfl) 102 [] (fun e0_ => (impl_ValidLog_c1 e0_)) (fun w1_ hb_ e0_ x0_ hk0_ hx0_ => f102 w1_ n (by omega) e0_ x0_.2.1.1 x0_.2.1.2 (hx0_ _ List.mem_cons_self) x0_.2.2.1.1 x0_.2.2.1.2 (hx0_ (MF.rs .der x0_.2.2.1.1 x0_.2.2.1.2 e0_.data.content) (by simp [GoT.fa])) x0_.2.2.2.1.1 x0_.2.2.2.1.2 (hx0_ (MF.rs .der x0_.2.2.2.1.1 x0_.2.2.2.1.2 e0_.data.keyName.parts) (by simp [GoT.fa])) hk0_) ((ok_Log hokl).1)) ?_
  intro hq1
  refine R0 ?_
  refine WX.cases 19 rfl (fun h2 => ?_) (fun h2 => ?_)
  ·skip
   have h2d := (B.nt h2)
   refine R0 ?_
   refine WX.callV rfl rfl rfl rfl rfl (fun _ => rfl) rfl (fun w G bs hI hΓ => f103 w n (by omega) l.volatile K1 M1 (hΓ.get 1 rfl) 102 [] (fun e0_ => (impl_ValidLog_c1 e0_)) (fun w1_ hb_ e0_ x0_ hk0_ hx0_ => f102 w1_ n (by omega) e0_ x0_.2.1.1 x0_.2.1.2 (hx0_ _ List.mem_cons_self) x0_.2.2.1.1 x0_.2.2.1.2 (hx0_ (MF.rs .der x0_.2.2.1.1 x0_.2.2.1.2 e0_.data.content) (by simp [GoT.fa])) x0_.2.2.2.1.1 x0_.2.2.2.1.2 (hx0_ (MF.rs .der x0_.2.2.2.1.1 x0_.2.2.2.1.2 e0_.data.keyName.parts) (by simp [GoT.fa])) hk0_) ((ok_Log hokl).2)) ?_
   intro hq2
   refine R0 ?_
   have hP1 : impl_ValidLog l = (!(slices_ContainsFunc_Record l.volatile (fun e0_ => (impl_ValidLog_c1 e0_)))) := by simp only [impl_ValidLog, h1, h2, ct, cf]
   exact R3 hP1
  ·skip
   have h2d := (B.nf h2)
   refine R0 ?_
   have hP2 : impl_ValidLog l = false := by simp only [impl_ValidLog, h1, h2, ct, cf]
   exact R3 hP2
 ·skip
  have h1d := B.df h1
  refine R0 ?_
  have hP3 : impl_ValidLog l = false := by simp only [impl_ValidLog, h1, ct, cf]
  exact R3 hP3
theorem f30 (w : World) (n : Nat) (hn : n + 0 ≤ 9) (l : Log) (K0 : Option Addr) (M0 : Nat) (N0 : RdSl (hp w) K0 M0 l.durable) (K1 : Option Addr) (M1 : Nat) (N1 : RdSl (hp w) K1 M1 l.volatile) (hokl : GoT.ok n l) :
  Does Tryz.prog 30 #[.agg #[.slice K0 ((l.durable).length) M0, .slice K1 ((l.volatile).length) M1]] w emp (fun (rv : Value) (_ : World) => rv = .bool (spec_ValidLog l) ∧ True) := by
 have hbP := bd_pos n
 have hbB := bd_big (n := n) (by omega)
 refine WX.enter (tt := tt) (Γ := [(0, MF.rs .stb K0 M0 l.durable), (1, MF.rs .stb K1 M1 l.volatile)]) Tryz.func30 rfl (by kernel_rfl) rfl (allS_cons rfl N0 (allS_cons rfl N1 allS_nil)) ?_
 refine R0 ?_
 have r1 : (l.durable).length ≤ bd n := (okl (ok_Log hokl).1).1
 refine WX.loop (ι := Nat) ⟨fun i => (i ≤ (l.durable).length) ∧ (spec_ValidLog_L1 l.durable = spec_ValidLog_L1 ((l.durable).drop i)), fun i => (l.durable).length - i, fun i => [(3, .v (.int .i64 (((i : Nat) : Int)))), (1, .p 1 0)], fun i => [(1, ⟨26, [.slice K0 ((l.durable).length) M0, .slice K1 ((l.volatile).length) M1]⟩)], fun i => [], fun i => [(0, MF.rs .stb K0 M0 l.durable), (1, MF.rs .stb K1 M1 l.volatile)]⟩ 0 ⟨(Nat.zero_le _), rfl⟩
  (.cons rfl (.cons rfl (.nil))) (.cons rfl (.nil)) .nil [0, 1] rfl ?_
 rintro i hpre
 have hpre_ : (i ≤ (l.durable).length) ∧ (spec_ValidLog_L1 l.durable = spec_ValidLog_L1 ((l.durable).drop i)) := hpre
 clear hpre
 obtain ⟨v1, v2⟩ := hpre_
 refine R0 ?_
 refine WX.cases 9 rfl (fun h1 => ?_) (fun h1 => ?_)
 ·skip
  have h1d := B.dt h1
  have e1i : i < (l.durable).length := (by omega)
  obtain ⟨e1, e1h⟩ : ∃ e1, (l.durable)[i]? = some e1 := ⟨_, List.getElem?_eq_getElem e1i⟩
  have ok1 : GoT.ok n e1 := (okl (ok_Log hokl).1).2 _ (List.mem_of_getElem? e1h)
  refine R0 ?_
  refine WX.idx 0 i ttOk rfl rfl rfl rfl rfl rfl rfl rfl rfl rfl e1i ?_
  rintro ad1 rfl
  refine WX.ldE 0 2 e1 ttOk rfl rfl rfl rfl rfl rfl rfl rfl e1h (fun _ => rfl) (fun _ => rfl) ?_
  rintro ⟨⟨⟩, ⟨⟨p1, c1⟩, ⟨p2, c2⟩, ⟨p3, c3⟩, ⟨⟩, ⟨⟩⟩⟩
  refine WX.callV rfl rfl rfl rfl rfl (fun _ => rfl) rfl (fun w G bs hI hΓ => f28 w n (by omega) e1 p1 c1 (hΓ.get 2 rfl) p2 c2 (hΓ.get 3 rfl) p3 c3 (hΓ.get 4 rfl) ok1) ?_
  intro hq1
  refine R0 ?_
  refine WX.cases 18 rfl (fun h2 => ?_) (fun h2 => ?_)
  ·skip
   have h2d := (B.nt h2)
   refine R0 ?_
   have hP1 : spec_ValidLog_L1 l.durable = (some false) := by rw [v2, drop_get e1h]; simp only [spec_ValidLog_L1, h2, ct, cf]
   have hP2 : spec_ValidLog l = false := by simp only [spec_ValidLog, hP1, ct, cf]
   exact R3 hP2
  ·skip
   have h2d := (B.nf h2)
   refine R0 ?_
   refine WX.see rfl rfl rfl (fun _ hΓ => looks_arith rfl rfl rfl rfl (by unfold I64; first | omega | (simp only [List.length_take] at *; omega))) ?_
   refine R0 ?_
   exact WX.iter (i + 1) ⟨(by omega), (by rw [v2, drop_get e1h]; simp only [spec_ValidLog_L1, h2, ct, cf])⟩ (by first | (dsimp only; omega) | omega) (.cons rfl (.cons rfl (.nil))) (.cons rfl (.nil)) .nil [0, 1] rfl
 ·skip
  have h1d := B.df h1
  refine R0 ?_
  have hX1 : spec_ValidLog_L1 l.durable = none := by rw [v2, List.drop_eq_nil_of_le (show (l.durable).length ≤ i by omega)]; simp only [spec_ValidLog_L1, ct, cf]
  have r2 : (l.volatile).length ≤ bd n := (okl (ok_Log hokl).2).1
  refine WX.loop (ι := Nat) ⟨fun i => (i ≤ (l.volatile).length) ∧ (spec_ValidLog_L2 l.volatile = spec_ValidLog_L2 ((l.volatile).drop i)), fun i => (l.volatile).length - i, fun i => [(4, .v (.int .i64 (((i : Nat) : Int)))), (1, .p 1 0)], fun i => [(1, ⟨26, [.slice K0 ((l.durable).length) M0, .slice K1 ((l.volatile).length) M1]⟩)], fun i => [], fun i => [(0, MF.rs .stb K0 M0 l.durable), (1, MF.rs .stb K1 M1 l.volatile)]⟩ 0 ⟨(Nat.zero_le _), rfl⟩
   (.cons rfl (.cons rfl (.nil))) (.cons rfl (.nil)) .nil [0, 1] rfl ?_
  rintro i hpre
  have hpre_ : (i ≤ (l.volatile).length) ∧ (spec_ValidLog_L2 l.volatile = spec_ValidLog_L2 ((l.volatile).drop i)) := hpre
  clear hpre
  obtain ⟨v3, v4⟩ := hpre_
  refine R0 ?_
  refine WX.cases 23 rfl (fun h3 => ?_) (fun h3 => ?_)
  ·skip
   have h3d := B.dt h3
   have e2i : i < (l.volatile).length := (by omega)
   obtain ⟨e2, e2h⟩ : ∃ e2, (l.volatile)[i]? = some e2 := ⟨_, List.getElem?_eq_getElem e2i⟩
   have ok2 : GoT.ok n e2 := (okl (ok_Log hokl).2).2 _ (List.mem_of_getElem? e2h)
   refine R0 ?_
   refine WX.idx 1 i ttOk rfl rfl rfl rfl rfl rfl rfl rfl rfl rfl e2i ?_
   rintro ad2 rfl
   refine WX.ldE 1 5 e2 ttOk rfl rfl rfl rfl rfl rfl rfl rfl e2h (fun _ => rfl) (fun _ => rfl) ?_
   rintro ⟨⟨⟩, ⟨⟨p4, c4⟩, ⟨p5, c5⟩, ⟨p6, c6⟩, ⟨⟩, ⟨⟩⟩⟩
   refine WX.callV rfl rfl rfl rfl rfl (fun _ => rfl) rfl (fun w G bs hI hΓ => f28 w n (by omega) e2 p4 c4 (hΓ.get 5 rfl) p5 c5 (hΓ.get 6 rfl) p6 c6 (hΓ.get 7 rfl) ok2) ?_
   intro hq2
   refine R0 ?_
   refine WX.cases 32 rfl (fun h4 => ?_) (fun h4 => ?_)
   ·skip
    have h4d := (B.nt h4)
    refine R0 ?_
    have hP3 : spec_ValidLog_L2 l.volatile = (some false) := by rw [v4, drop_get e2h]; simp only [spec_ValidLog_L2, h4, ct, cf]
    have hP4 : spec_ValidLog l = false := by simp only [spec_ValidLog, hX1, hP3, ct, cf]
    exact R3 hP4
   ·skip
    have h4d := (B.nf h4)
    refine R0 ?_
    refine WX.see rfl rfl rfl (fun _ hΓ => looks_arith rfl rfl rfl rfl (by unfold I64; first | omega | (simp only [List.length_take] at *; omega))) ?_
    refine R0 ?_
    exact WX.iter (i + 1) ⟨(by omega), (by rw [v4, drop_get e2h]; simp only [spec_ValidLog_L2, h4, ct, cf])⟩ (by first | (dsimp only; omega) | omega) (.cons rfl (.cons rfl (.nil))) (.cons rfl (.nil)) .nil [0, 1] rfl
  ·skip
   have h3d := B.df h3
   refine R0 ?_
   have hX2 : spec_ValidLog_L2 l.volatile = none := by rw [v4, List.drop_eq_nil_of_le (show (l.volatile).length ≤ i by omega)]; simp only [spec_ValidLog_L2, ct, cf]
   refine WX.see rfl rfl rfl (fun _ hΓ => looks_arith rfl rfl rfl rfl (by unfold I64; first | omega | (simp only [List.length_take] at *; omega))) ?_
   refine R0 ?_
   have hP5 : spec_ValidLog l = (decide ((((l.durable).length : Nat) : Int) + (((l.volatile).length : Nat) : Int) ≤ 40)) := by simp only [spec_ValidLog, hX1, hX2, ct, cf]
   exact R3 hP5
end Go.Proofs.YtolepebgdfdciaaGreat

namespace Go.Stp
set_option linter.unusedVariables false
set_option linter.unusedSimpArgs false
def impl_allRecords (l : Log) : (List Record) :=
  ((impl_copyRecords l.durable) ++ (impl_copyRecords l.volatile))
def impl_FlushLog (l : Log) : Log :=
  (Log.mk (impl_allRecords l) ([]))
def spec_FlushLog (l : Log) : Log :=
  (Log.mk ((spec_l29Recs l.durable) ++ (spec_l29Recs l.volatile)) ([]))
def impl_CrashLog (l : Log) (n_ : Int) : Log :=
  (Log.mk ((impl_copyRecords l.durable) ++ (impl_copyRecords (List.take (Int.toNat (max 0 (min n_ (((l.volatile).length : Nat) : Int)))) l.volatile))) ([]))
def spec_CrashLog (l : Log) (n_ : Int) : Log :=
  (Log.mk ((spec_l29Recs l.durable) ++ (spec_l29Recs (List.take (Int.toNat (spec_Max 0 (spec_Min n_ (((l.volatile).length : Nat) : Int)))) l.volatile))) ([]))
def impl_copyLog (l : Log) : Log :=
  (Log.mk (impl_copyRecords l.durable) (impl_copyRecords l.volatile))
def spec_l29Copy (l : Log) : Log :=
  (Log.mk (spec_l29Recs l.durable) (spec_l29Recs l.volatile))
end Go.Stp

namespace Go.Proofs.YtolepebgdfdciaaGreat
open Go.Stp
set_option linter.unusedVariables false
set_option linter.unusedSimpArgs false
theorem mxmn (a b : Int) : spec_Max 0 (spec_Min a b) = max 0 (min a b) := by
  unfold spec_Max spec_Min
  cases hc : decide (b < a)
  · have h := of_decide_eq_false hc
    show (bif decide (a > 0) then a else 0) = _
    cases hd : decide (a > 0)
    · have k := of_decide_eq_false hd
      show (0 : Int) = _
      omega
    · have k := of_decide_eq_true hd
      show a = _
      omega
  · have h := of_decide_eq_true hc
    show (bif decide (b > 0) then b else 0) = _
    cases hd : decide (b > 0)
    · have k := of_decide_eq_false hd
      show (0 : Int) = _
      omega
    · have k := of_decide_eq_true hd
      show b = _
      omega
theorem f90 (w : World) (n : Nat) (hn : n + 1 ≤ 9) (l : Log) (K0 : Option Addr) (M0 : Nat) (N0 : RdSl (hp w) K0 M0 l.durable) (K1 : Option Addr) (M1 : Nat) (N1 : RdSl (hp w) K1 M1 l.volatile) (hokl : GoT.ok n l) :
  Does Tryz.prog 90 #[.agg #[.slice K0 ((l.durable).length) M0, .slice K1 ((l.volatile).length) M1]] w emp (Post w emp (fun x : GoT.X ((List Record)) => (GoT.sh ((impl_allRecords l) : (List Record)) x).headD undef) (fun x => GoT.oa ((impl_allRecords l) : (List Record)) x) (GoT.ok (n + 1) ((impl_allRecords l) : (List Record)))) := by
 have hbP := bd_pos n
 have hbS0 : bd (n + 1) = 4 * bd (n) := bd_succ (n := n) (by omega)
 have hbB := bd_big (n := (n + 1)) (by omega)
 have hbM := bd_mono (show n ≤ n + 1 by omega)
 refine WX.enter (tt := tt) (Γ := [(0, MF.rs .stb K0 M0 l.durable), (1, MF.rs .stb K1 M1 l.volatile)]) Tryz.func90 rfl (by kernel_rfl) rfl (allS_cons rfl N0 (allS_cons rfl N1 allS_nil)) ?_
 refine R0 ?_
 refine WX.draw [6, 7] mixed ?_
 intro bs G0 hΓ0
 refine DX.takes (fuel := 4) ttOk [(0, true), (1, false), (3, true), (4, false)] (by kernel_rfl) rfl ?_
 refine DX.callF 2 2 (fun _ _ h => GoT.ow_rd h) (fun _ f hf => GoT.fak f hf) rfl (by kernel_rfl) rfl rfl rfl rfl rfl rfl (fun _ => rfl) rfl (fun w G bs hI hΓ => f86 w n (by omega) l.durable K0 M0 (hΓ.get 0 rfl) ((ok_Log hokl).1)) (fun _ => rfl) (fun _ => rfl) ?_
 rintro ⟨p1, c1⟩ hq1
 refine DX.callF 5 4 (fun _ _ h => GoT.ow_rd h) (fun _ f hf => GoT.fak f hf) rfl (by kernel_rfl) rfl rfl rfl rfl rfl rfl (fun _ => rfl) rfl (fun w G bs hI hΓ => f86 w n (by omega) l.volatile K1 M1 (hΓ.get 1 rfl) ((ok_Log hokl).2)) (fun _ => rfl) (fun _ => rfl) ?_
 rintro ⟨p2, c2⟩ hq2
 refine DX.tail2 [6, 7] rfl rfl (by kernel_rfl) ?_
 refine WX.opn (kk := 6) 501 3 6 rfl rfl rfl ?_
 intro xs1 hx1
 refine WX.opn (kk := 6) 502 5 7 rfl rfl rfl ?_
 intro xs2 hx2
 have r1 : (l.durable).length ≤ bd n := (okl (ok_Log hokl).1).1
 have r2 : (l.volatile).length ≤ bd n := (okl (ok_Log hokl).2).1
 have r3 : (impl_copyRecords l.durable).length ≤ bd n := (okl hq1).1
 have r4 : (impl_copyRecords l.volatile).length ≤ bd n := (okl hq2).1
 refine WX.know (fun G hΓ => (hΓ.get 7 rfl : OwL _ _ _).rd.one) ?_
 intro ho1
 refine WX.appR1 501 502 (((impl_copyRecords l.durable) ++ (impl_copyRecords l.volatile)) : List Record).length ttOk rfl rfl rfl rfl rfl rfl rfl rfl rfl rfl rfl rfl rfl ho1 (by simp) (by simp; omega) (by simp; omega) (fun _ _ => rfl) ?_
 intro p3 c3
 refine WX.turn [6, 7] 8 rfl (fun h hs => ol_app hs) (gs := [MF.ol (xs1 ++ xs2) (((impl_copyRecords l.durable) ++ (impl_copyRecords l.volatile)) : List Record)]) rfl ?_
 refine R0 ?_
 refine WX.seal 501 8 9 rfl rfl rfl rfl rfl ?_
 have hP1 : impl_allRecords l = ((impl_copyRecords l.durable) ++ (impl_copyRecords l.volatile)) := by simp only [impl_allRecords, ct, cf]
 refine R1 ?_
 intro w1 G bs hI hΓ
 rw [hP1]
 exact Post.of [10] (p3, c3) hI hΓ rfl rfl rfl (okl_mk (by simp; omega) (fun a ha => GoT.okm (by omega) ((all_app (okl hq1).2 (okl hq2).2) a ha)) : GoT.ok (n + 1) (((impl_copyRecords l.durable) ++ (impl_copyRecords l.volatile)) : List Record))
theorem f18 (w : World) (n : Nat) (hn : n + 1 ≤ 9) (l : Log) (K0 : Option Addr) (M0 : Nat) (N0 : RdSl (hp w) K0 M0 l.durable) (K1 : Option Addr) (M1 : Nat) (N1 : RdSl (hp w) K1 M1 l.volatile) (hokl : GoT.ok n l) :
  Does Tryz.prog 18 #[.agg #[.slice K0 ((l.durable).length) M0, .slice K1 ((l.volatile).length) M1]] w emp (Post w emp (fun x : GoT.X (Log) => .agg ⟨GoT.sh ((impl_FlushLog l) : Log) x⟩) (fun x => GoT.oa ((impl_FlushLog l) : Log) x) (GoT.ok (n + 1) ((impl_FlushLog l) : Log))) := by
 have hbP := bd_pos n
 have hbS0 : bd (n + 1) = 4 * bd (n) := bd_succ (n := n) (by omega)
 have hbB := bd_big (n := (n + 1)) (by omega)
 have hbM := bd_mono (show n ≤ n + 1 by omega)
 refine WX.enter (tt := tt) (Γ := [(0, MF.rs .stb K0 M0 l.durable), (1, MF.rs .stb K1 M1 l.volatile)]) Tryz.func18 rfl (by kernel_rfl) rfl (allS_cons rfl N0 (allS_cons rfl N1 allS_nil)) ?_
 refine R0 ?_
 refine WX.callF 2 (fun _ _ h => GoT.ow_rd h) (fun _ f hf => GoT.fak f hf) rfl rfl rfl rfl rfl (fun _ => rfl) rfl (fun w G bs hI hΓ => f90 w n (by omega) l K0 M0 (hΓ.get 0 rfl) K1 M1 (hΓ.get 1 rfl) hokl) (fun _ => rfl) (fun _ => rfl) ?_
 rintro ⟨p1, c1⟩ hq1
 refine R0 ?_
 refine WX.free 4 (MF.os none 0 ([] : List Record)) (owSl_nil _ _) ?_
 have hP1 : impl_FlushLog l = (Log.mk (impl_allRecords l) ([])) := by simp only [impl_FlushLog, ct, cf]
 refine R1 ?_
 intro w1 G bs hI hΓ
 rw [hP1]
 exact Post.of [3, 4] ((p1, c1), (none, 0)) hI hΓ rfl rfl rfl (And.intro hq1 (ok_nil (α := Record)))
theorem f19 (w : World) (n : Nat) (hn : n + 1 ≤ 9) (l : Log) (K0 : Option Addr) (M0 : Nat) (N0 : RdSl (hp w) K0 M0 l.durable) (K1 : Option Addr) (M1 : Nat) (N1 : RdSl (hp w) K1 M1 l.volatile) (hokl : GoT.ok n l) :
  Does Tryz.prog 19 #[.agg #[.slice K0 ((l.durable).length) M0, .slice K1 ((l.volatile).length) M1]] w emp (Post w emp (fun x : GoT.X (Log) => .agg ⟨GoT.sh ((spec_FlushLog l) : Log) x⟩) (fun x => GoT.oa ((spec_FlushLog l) : Log) x) (GoT.ok (n + 1) ((spec_FlushLog l) : Log))) := by
 have hbP := bd_pos n
 have hbS0 : bd (n + 1) = 4 * bd (n) := bd_succ (n := n) (by omega)
 have hbB := bd_big (n := (n + 1)) (by omega)
 have hbM := bd_mono (show n ≤ n + 1 by omega)
 refine WX.enter (tt := tt) (Γ := [(0, MF.rs .stb K0 M0 l.durable), (1, MF.rs .stb K1 M1 l.volatile)]) Tryz.func19 rfl (by kernel_rfl) rfl (allS_cons rfl N0 (allS_cons rfl N1 allS_nil)) ?_
 refine R0 ?_
 refine WX.draw [6, 7, 8] mixed ?_
 intro bs G0 hΓ0
 refine DX.takes (fuel := 5) ttOk [(0, true), (1, false), (3, true), (4, false)] (by kernel_rfl) rfl ?_
 refine DX.callF 2 2 (fun _ _ h => GoT.ow_rd h) (fun _ f hf => GoT.fak f hf) rfl (by kernel_rfl) rfl rfl rfl rfl rfl rfl (fun _ => rfl) rfl (fun w G bs hI hΓ => f89 w n (by omega) l.durable K0 M0 (hΓ.get 0 rfl) ((ok_Log hokl).1)) (fun _ => rfl) (fun _ => rfl) ?_
 rintro ⟨p1, c1⟩ hq1
 refine DX.callF 5 4 (fun _ _ h => GoT.ow_rd h) (fun _ f hf => GoT.fak f hf) rfl (by kernel_rfl) rfl rfl rfl rfl rfl rfl (fun _ => rfl) rfl (fun w G bs hI hΓ => f89 w n (by omega) l.volatile K1 M1 (hΓ.get 1 rfl) ((ok_Log hokl).2)) (fun _ => rfl) (fun _ => rfl) ?_
 rintro ⟨p2, c2⟩ hq2
 refine DX.tail2 [6, 7, 8] rfl rfl (by kernel_rfl) ?_
 refine WX.opn (kk := 6) 501 3 6 rfl rfl rfl ?_
 intro xs1 hx1
 refine WX.opn (kk := 6) 502 5 7 rfl rfl rfl ?_
 intro xs2 hx2
 have r1 : (l.durable).length ≤ bd n := (okl (ok_Log hokl).1).1
 have r2 : (l.volatile).length ≤ bd n := (okl (ok_Log hokl).2).1
 have r3 : (spec_l29Recs l.durable).length ≤ bd n := (okl hq1).1
 have r4 : (spec_l29Recs l.volatile).length ≤ bd n := (okl hq2).1
 refine WX.know (fun G hΓ => (hΓ.get 7 rfl : OwL _ _ _).rd.one) ?_
 intro ho1
 refine WX.appR1 501 502 (((spec_l29Recs l.durable) ++ (spec_l29Recs l.volatile)) : List Record).length ttOk rfl rfl rfl rfl rfl rfl rfl rfl rfl rfl rfl rfl rfl ho1 (by simp) (by simp; omega) (by simp; omega) (fun _ _ => rfl) ?_
 intro p3 c3
 refine WX.turn [6, 7] 8 rfl (fun h hs => ol_app hs) (gs := [MF.ol (xs1 ++ xs2) (((spec_l29Recs l.durable) ++ (spec_l29Recs l.volatile)) : List Record)]) rfl ?_
 refine R0 ?_
 refine WX.seal 501 8 9 rfl rfl rfl rfl rfl ?_
 refine WX.free 11 (MF.os none 0 ([] : List Record)) (owSl_nil _ _) ?_
 have hP1 : spec_FlushLog l = (Log.mk ((spec_l29Recs l.durable) ++ (spec_l29Recs l.volatile)) ([])) := by simp only [spec_FlushLog, ct, cf]
 refine R1 ?_
 intro w1 G bs hI hΓ
 rw [hP1]
 exact Post.of [10, 11] ((p3, c3), (none, 0)) hI hΓ rfl rfl rfl (And.intro (okl_mk (by simp; omega) (fun a ha => GoT.okm (by omega) ((all_app (okl hq1).2 (okl hq2).2) a ha)) : GoT.ok (n + 1) (((spec_l29Recs l.durable) ++ (spec_l29Recs l.volatile)) : List Record)) (ok_nil (α := Record)))
theorem f16 (w : World) (n : Nat) (hn : n + 1 ≤ 9) (l : Log) (K0 : Option Addr) (M0 : Nat) (N0 : RdSl (hp w) K0 M0 l.durable) (K1 : Option Addr) (M1 : Nat) (N1 : RdSl (hp w) K1 M1 l.volatile) (n_ : Int) (hokl : GoT.ok n l) (hokn_ : GoT.ok n n_) :
  Does Tryz.prog 16 #[.agg #[.slice K0 ((l.durable).length) M0, .slice K1 ((l.volatile).length) M1], .int .i64 (n_)] w emp (Post w emp (fun x : GoT.X (Log) => .agg ⟨GoT.sh ((impl_CrashLog l n_) : Log) x⟩) (fun x => GoT.oa ((impl_CrashLog l n_) : Log) x) (GoT.ok (n + 1) ((impl_CrashLog l n_) : Log))) := by
 have hbP := bd_pos n
 have hbS0 : bd (n + 1) = 4 * bd (n) := bd_succ (n := n) (by omega)
 have hbB := bd_big (n := (n + 1)) (by omega)
 have hbM := bd_mono (show n ≤ n + 1 by omega)
 refine WX.enter (tt := tt) (Γ := [(0, MF.rs .stb K0 M0 l.durable), (1, MF.rs .stb K1 M1 l.volatile)]) Tryz.func16 rfl (by kernel_rfl) rfl (allS_cons rfl N0 (allS_cons rfl N1 allS_nil)) ?_
 refine R0 ?_
 refine WX.draw [13, 14, 15] mixed ?_
 intro bs G0 hΓ0
 refine DX.takes (fuel := 8) ttOk [(0, true), (1, false), (3, true), (4, false), (5, true), (6, true), (7, false), (8, true)] (by kernel_rfl) rfl ?_
 refine DX.see 9 (by kernel_rfl) rfl rfl rfl rfl (looks_min rfl rfl rfl) ?_
 refine DX.see 10 (by kernel_rfl) rfl rfl rfl rfl (looks_max rfl rfl rfl) ?_
 have r1 : (l.volatile).length ≤ bd n := (okl (ok_Log hokl).2).1
 have r2 : -9223372036854775808 ≤ n_ ∧ n_ ≤ 9223372036854775807 := hokn_
 refine DX.seeP 11 (by kernel_rfl) rfl rfl rfl rfl (looksP_slH (Int.toNat (max 0 (min n_ (((l.volatile).length : Nat) : Int)))) ttOk rfl rfl rfl rfl (show max 0 (min n_ (((l.volatile).length : Nat) : Int)) = (((Int.toNat (max 0 (min n_ (((l.volatile).length : Nat) : Int)))) : Nat) : Int) from (by omega)) (Nat.le_trans (show (Int.toNat (max 0 (min n_ (((l.volatile).length : Nat) : Int)))) ≤ (l.volatile).length from (by omega)) (hΓ0.get 1 rfl : RdSl _ _ _ _).1)) ?_
 refine DX.slot 16 (y := .v (.slice K1 (((List.take (Int.toNat (max 0 (min n_ (((l.volatile).length : Nat) : Int)))) l.volatile)).length) M1)) rfl (fun _ => by rw [show ((List.take (Int.toNat (max 0 (min n_ (((l.volatile).length : Nat) : Int)))) l.volatile)).length = (Int.toNat (max 0 (min n_ (((l.volatile).length : Nat) : Int)))) from (by simp only [List.length_take]; have z_ := (show (Int.toNat (max 0 (min n_ (((l.volatile).length : Nat) : Int)))) ≤ (l.volatile).length from (by omega)); omega)]) ?_
 refine DX.der 2 (MF.rs .der K1 M1 (List.take (Int.toNat (max 0 (min n_ (((l.volatile).length : Nat) : Int)))) l.volatile)) rfl (fun _ hΓ => RdSl.pre (hΓ.get 1 rfl : RdSl _ _ _ _) (Int.toNat (max 0 (min n_ (((l.volatile).length : Nat) : Int))))) ?_
 refine DX.callF 2 3 (fun _ _ h => GoT.ow_rd h) (fun _ f hf => GoT.fak f hf) rfl (by kernel_rfl) rfl rfl rfl rfl rfl rfl (fun _ => rfl) rfl (fun w G bs hI hΓ => f86 w n (by omega) l.durable K0 M0 (hΓ.get 0 rfl) ((ok_Log hokl).1)) (fun _ => rfl) (fun _ => rfl) ?_
 rintro ⟨p1, c1⟩ hq1
 refine DX.callF 12 5 (fun _ _ h => GoT.ow_rd h) (fun _ f hf => GoT.fak f hf) rfl (by kernel_rfl) rfl rfl rfl rfl rfl rfl (fun _ => rfl) rfl (fun w G bs hI hΓ => f86 w n (by omega) (List.take (Int.toNat (max 0 (min n_ (((l.volatile).length : Nat) : Int)))) l.volatile) K1 M1 (hΓ.get 2 rfl) (okl_mk (by first | assumption | omega | (simp; omega)) (fun a ha => (okl (ok_Log hokl).2).2 a (List.mem_of_mem_take ha)) : GoT.ok n ((List.take (Int.toNat (max 0 (min n_ (((l.volatile).length : Nat) : Int)))) l.volatile) : List Record))) (fun _ => rfl) (fun _ => rfl) ?_
 rintro ⟨p2, c2⟩ hq2
 refine DX.tail2 [13, 14, 15] rfl rfl (by kernel_rfl) ?_
 refine WX.opn (kk := 6) 501 4 7 rfl rfl rfl ?_
 intro xs1 hx1
 refine WX.opn (kk := 6) 502 6 8 rfl rfl rfl ?_
 intro xs2 hx2
 have r3 : (l.durable).length ≤ bd n := (okl (ok_Log hokl).1).1
 have r4 : (impl_copyRecords l.durable).length ≤ bd n := (okl hq1).1
 have r5 : (impl_copyRecords (List.take (Int.toNat (max 0 (min n_ (((l.volatile).length : Nat) : Int)))) l.volatile)).length ≤ bd n := (okl hq2).1
 refine WX.know (fun G hΓ => (hΓ.get 8 rfl : OwL _ _ _).rd.one) ?_
 intro ho1
 refine WX.appR1 501 502 (((impl_copyRecords l.durable) ++ (impl_copyRecords (List.take (Int.toNat (max 0 (min n_ (((l.volatile).length : Nat) : Int)))) l.volatile))) : List Record).length ttOk rfl rfl rfl rfl rfl rfl rfl rfl rfl rfl rfl rfl rfl ho1 (by first | (simp; done) | omega | (simp only [List.length_append, List.length_cons, List.length_nil, List.length_take, List.length_drop, List.length_set]; omega) | (simp; omega)) (by first | assumption | omega | (simp; omega)) (by first | assumption | omega | (simp; omega)) (fun _ _ => rfl) ?_
 intro p3 c3
 refine WX.turn [7, 8] 9 rfl (fun h hs => ol_app hs) (gs := [MF.ol (xs1 ++ xs2) (((impl_copyRecords l.durable) ++ (impl_copyRecords (List.take (Int.toNat (max 0 (min n_ (((l.volatile).length : Nat) : Int)))) l.volatile))) : List Record)]) rfl ?_
 refine R0 ?_
 refine WX.seal 501 9 10 rfl rfl rfl rfl rfl ?_
 refine WX.free 12 (MF.os none 0 ([] : List Record)) (owSl_nil _ _) ?_
 have hP1 : impl_CrashLog l n_ = (Log.mk ((impl_copyRecords l.durable) ++ (impl_copyRecords (List.take (Int.toNat (max 0 (min n_ (((l.volatile).length : Nat) : Int)))) l.volatile))) ([])) := by simp only [impl_CrashLog, ct, cf]
 refine R1 ?_
 intro w1 G bs hI hΓ
 rw [hP1]
 exact Post.of [11, 12] ((p3, c3), (none, 0)) hI hΓ rfl rfl rfl (And.intro (okl_mk (by first | assumption | omega | (simp; omega)) (fun a ha => GoT.okm (by omega) ((all_app (okl hq1).2 (okl hq2).2) a ha)) : GoT.ok (n + 1) (((impl_copyRecords l.durable) ++ (impl_copyRecords (List.take (Int.toNat (max 0 (min n_ (((l.volatile).length : Nat) : Int)))) l.volatile))) : List Record)) (ok_nil (α := Record)))
theorem f17 (w : World) (n : Nat) (hn : n + 1 ≤ 9) (l : Log) (K0 : Option Addr) (M0 : Nat) (N0 : RdSl (hp w) K0 M0 l.durable) (K1 : Option Addr) (M1 : Nat) (N1 : RdSl (hp w) K1 M1 l.volatile) (n_ : Int) (hokl : GoT.ok n l) (hokn_ : GoT.ok n n_) :
  Does Tryz.prog 17 #[.agg #[.slice K0 ((l.durable).length) M0, .slice K1 ((l.volatile).length) M1], .int .i64 (n_)] w emp (Post w emp (fun x : GoT.X (Log) => .agg ⟨GoT.sh ((spec_CrashLog l n_) : Log) x⟩) (fun x => GoT.oa ((spec_CrashLog l n_) : Log) x) (GoT.ok (n + 1) ((spec_CrashLog l n_) : Log))) := by
 have hbP := bd_pos n
 have hbS0 : bd (n + 1) = 4 * bd (n) := bd_succ (n := n) (by omega)
 have hbB := bd_big (n := (n + 1)) (by omega)
 have hbM := bd_mono (show n ≤ n + 1 by omega)
 refine WX.enter (tt := tt) (Γ := [(0, MF.rs .stb K0 M0 l.durable), (1, MF.rs .stb K1 M1 l.volatile)]) Tryz.func17 rfl (by kernel_rfl) rfl (allS_cons rfl N0 (allS_cons rfl N1 allS_nil)) ?_
 refine R0 ?_
 have r1 : (l.volatile).length ≤ bd n := (okl (ok_Log hokl).2).1
 refine WX.callV rfl rfl rfl rfl rfl (fun _ => rfl) rfl (fun w G bs hI hΓ => f88 w n (by omega) n_ (((l.volatile).length : Nat) : Int) hokn_ (show I64 (((l.volatile).length : Nat) : Int) from (by unfold I64; omega))) ?_
 intro hq1
 refine WX.callV rfl rfl rfl rfl rfl (fun _ => rfl) rfl (fun w G bs hI hΓ => f87 w n (by omega) 0 (spec_Min n_ (((l.volatile).length : Nat) : Int)) (show I64 0 from (by unfold I64; omega)) hq1) ?_
 intro hq2
 refine R0 ?_
 refine WX.draw [8, 9, 10] mixed ?_
 intro bs G0 hΓ0
 refine DX.takes (fuel := 6) ttOk [(0, true), (1, false), (3, true), (4, false), (5, true)] (by kernel_rfl) rfl ?_
 have r2 : -9223372036854775808 ≤ n_ ∧ n_ ≤ 9223372036854775807 := hokn_
 have r3 : -9223372036854775808 ≤ (spec_Min n_ (((l.volatile).length : Nat) : Int)) ∧ (spec_Min n_ (((l.volatile).length : Nat) : Int)) ≤ 9223372036854775807 := hq1
 have r4 : -9223372036854775808 ≤ (spec_Max 0 (spec_Min n_ (((l.volatile).length : Nat) : Int))) ∧ (spec_Max 0 (spec_Min n_ (((l.volatile).length : Nat) : Int))) ≤ 9223372036854775807 := hq2
 refine DX.seeP 6 (by kernel_rfl) rfl rfl rfl rfl (looksP_slH (Int.toNat (spec_Max 0 (spec_Min n_ (((l.volatile).length : Nat) : Int)))) ttOk rfl rfl rfl rfl (show (spec_Max 0 (spec_Min n_ (((l.volatile).length : Nat) : Int))) = (((Int.toNat (spec_Max 0 (spec_Min n_ (((l.volatile).length : Nat) : Int)))) : Nat) : Int) from (by rw [mxmn]; omega)) (Nat.le_trans (show (Int.toNat (spec_Max 0 (spec_Min n_ (((l.volatile).length : Nat) : Int)))) ≤ (l.volatile).length from (by rw [mxmn]; omega)) (hΓ0.get 1 rfl : RdSl _ _ _ _).1)) ?_
 refine DX.slot 17 (y := .v (.slice K1 (((List.take (Int.toNat (spec_Max 0 (spec_Min n_ (((l.volatile).length : Nat) : Int)))) l.volatile)).length) M1)) rfl (fun _ => by rw [show ((List.take (Int.toNat (spec_Max 0 (spec_Min n_ (((l.volatile).length : Nat) : Int)))) l.volatile)).length = (Int.toNat (spec_Max 0 (spec_Min n_ (((l.volatile).length : Nat) : Int)))) from (by simp only [List.length_take]; have z_ := (show (Int.toNat (spec_Max 0 (spec_Min n_ (((l.volatile).length : Nat) : Int)))) ≤ (l.volatile).length from (by rw [mxmn]; omega)); omega)]) ?_
 refine DX.der 2 (MF.rs .der K1 M1 (List.take (Int.toNat (spec_Max 0 (spec_Min n_ (((l.volatile).length : Nat) : Int)))) l.volatile)) rfl (fun _ hΓ => RdSl.pre (hΓ.get 1 rfl : RdSl _ _ _ _) (Int.toNat (spec_Max 0 (spec_Min n_ (((l.volatile).length : Nat) : Int))))) ?_
 refine DX.callF 2 3 (fun _ _ h => GoT.ow_rd h) (fun _ f hf => GoT.fak f hf) rfl (by kernel_rfl) rfl rfl rfl rfl rfl rfl (fun _ => rfl) rfl (fun w G bs hI hΓ => f89 w n (by omega) l.durable K0 M0 (hΓ.get 0 rfl) ((ok_Log hokl).1)) (fun _ => rfl) (fun _ => rfl) ?_
 rintro ⟨p1, c1⟩ hq3
 refine DX.callF 7 5 (fun _ _ h => GoT.ow_rd h) (fun _ f hf => GoT.fak f hf) rfl (by kernel_rfl) rfl rfl rfl rfl rfl rfl (fun _ => rfl) rfl (fun w G bs hI hΓ => f89 w n (by omega) (List.take (Int.toNat (spec_Max 0 (spec_Min n_ (((l.volatile).length : Nat) : Int)))) l.volatile) K1 M1 (hΓ.get 2 rfl) (okl_mk (by first | assumption | omega | (simp; omega)) (fun a ha => (okl (ok_Log hokl).2).2 a (List.mem_of_mem_take ha)) : GoT.ok n ((List.take (Int.toNat (spec_Max 0 (spec_Min n_ (((l.volatile).length : Nat) : Int)))) l.volatile) : List Record))) (fun _ => rfl) (fun _ => rfl) ?_
 rintro ⟨p2, c2⟩ hq4
 refine DX.tail2 [8, 9, 10] rfl rfl (by kernel_rfl) ?_
 refine WX.opn (kk := 6) 501 4 7 rfl rfl rfl ?_
 intro xs1 hx1
 refine WX.opn (kk := 6) 502 6 8 rfl rfl rfl ?_
 intro xs2 hx2
 have r5 : (l.durable).length ≤ bd n := (okl (ok_Log hokl).1).1
 have r6 : (spec_l29Recs l.durable).length ≤ bd n := (okl hq3).1
 have r7 : (spec_l29Recs (List.take (Int.toNat (spec_Max 0 (spec_Min n_ (((l.volatile).length : Nat) : Int)))) l.volatile)).length ≤ bd n := (okl hq4).1
 refine WX.know (fun G hΓ => (hΓ.get 8 rfl : OwL _ _ _).rd.one) ?_
 intro ho1
 refine WX.appR1 501 502 (((spec_l29Recs l.durable) ++ (spec_l29Recs (List.take (Int.toNat (spec_Max 0 (spec_Min n_ (((l.volatile).length : Nat) : Int)))) l.volatile))) : List Record).length ttOk rfl rfl rfl rfl rfl rfl rfl rfl rfl rfl rfl rfl rfl ho1 (by first | (simp; done) | omega | (simp only [List.length_append, List.length_cons, List.length_nil, List.length_take, List.length_drop, List.length_set]; omega) | (simp; omega)) (by first | assumption | omega | (simp; omega)) (by first | assumption | omega | (simp; omega)) (fun _ _ => rfl) ?_
 intro p3 c3
 refine WX.turn [7, 8] 9 rfl (fun h hs => ol_app hs) (gs := [MF.ol (xs1 ++ xs2) (((spec_l29Recs l.durable) ++ (spec_l29Recs (List.take (Int.toNat (spec_Max 0 (spec_Min n_ (((l.volatile).length : Nat) : Int)))) l.volatile))) : List Record)]) rfl ?_
 refine R0 ?_
 refine WX.seal 501 9 10 rfl rfl rfl rfl rfl ?_
 refine WX.free 12 (MF.os none 0 ([] : List Record)) (owSl_nil _ _) ?_
 have hP1 : spec_CrashLog l n_ = (Log.mk ((spec_l29Recs l.durable) ++ (spec_l29Recs (List.take (Int.toNat (spec_Max 0 (spec_Min n_ (((l.volatile).length : Nat) : Int)))) l.volatile))) ([])) := by simp only [spec_CrashLog, ct, cf]
 refine R1 ?_
 intro w1 G bs hI hΓ
 rw [hP1]
 exact Post.of [11, 12] ((p3, c3), (none, 0)) hI hΓ rfl rfl rfl (And.intro (okl_mk (by first | assumption | omega | (simp; omega)) (fun a ha => GoT.okm (by omega) ((all_app (okl hq3).2 (okl hq4).2) a ha)) : GoT.ok (n + 1) (((spec_l29Recs l.durable) ++ (spec_l29Recs (List.take (Int.toNat (spec_Max 0 (spec_Min n_ (((l.volatile).length : Nat) : Int)))) l.volatile))) : List Record)) (ok_nil (α := Record)))
theorem f80 (w : World) (n : Nat) (hn : n + 0 ≤ 9) (l : Log) (K0 : Option Addr) (M0 : Nat) (N0 : RdSl (hp w) K0 M0 l.durable) (K1 : Option Addr) (M1 : Nat) (N1 : RdSl (hp w) K1 M1 l.volatile) (hokl : GoT.ok n l) :
  Does Tryz.prog 80 #[.agg #[.slice K0 ((l.durable).length) M0, .slice K1 ((l.volatile).length) M1]] w emp (Post w emp (fun x : GoT.X (Log) => .agg ⟨GoT.sh ((impl_copyLog l) : Log) x⟩) (fun x => GoT.oa ((impl_copyLog l) : Log) x) (GoT.ok n ((impl_copyLog l) : Log))) := by
 have hbP := bd_pos n
 have hbB := bd_big (n := n) (by omega)
 refine WX.enter (tt := tt) (Γ := [(0, MF.rs .stb K0 M0 l.durable), (1, MF.rs .stb K1 M1 l.volatile)]) Tryz.func80 rfl (by kernel_rfl) rfl (allS_cons rfl N0 (allS_cons rfl N1 allS_nil)) ?_
 refine R0 ?_
 refine WX.draw [7] mixed ?_
 intro bs G0 hΓ0
 refine DX.takes (fuel := 4) ttOk [(0, true), (1, false), (3, true), (4, false)] (by kernel_rfl) rfl ?_
 refine DX.callF 2 2 (fun _ _ h => GoT.ow_rd h) (fun _ f hf => GoT.fak f hf) rfl (by kernel_rfl) rfl rfl rfl rfl rfl rfl (fun _ => rfl) rfl (fun w G bs hI hΓ => f86 w n (by omega) l.durable K0 M0 (hΓ.get 0 rfl) ((ok_Log hokl).1)) (fun _ => rfl) (fun _ => rfl) ?_
 rintro ⟨p1, c1⟩ hq1
 refine DX.callF 5 4 (fun _ _ h => GoT.ow_rd h) (fun _ f hf => GoT.fak f hf) rfl (by kernel_rfl) rfl rfl rfl rfl rfl rfl (fun _ => rfl) rfl (fun w G bs hI hΓ => f86 w n (by omega) l.volatile K1 M1 (hΓ.get 1 rfl) ((ok_Log hokl).2)) (fun _ => rfl) (fun _ => rfl) ?_
 rintro ⟨p2, c2⟩ hq2
 refine DX.takes (fuel := 1) ttOk [(6, true)] (by kernel_rfl) rfl ?_
 refine DX.tail2 [7] rfl rfl (by kernel_rfl) ?_
 refine R0 ?_
 have hP1 : impl_copyLog l = (Log.mk (impl_copyRecords l.durable) (impl_copyRecords l.volatile)) := by simp only [impl_copyLog, ct, cf]
 refine R1 ?_
 intro w1 G bs hI hΓ
 rw [hP1]
 exact Post.of [3, 5] ((p1, c1), (p2, c2)) hI hΓ rfl rfl rfl (And.intro hq1 hq2)
theorem f82 (w : World) (n : Nat) (hn : n + 0 ≤ 9) (l : Log) (K0 : Option Addr) (M0 : Nat) (N0 : RdSl (hp w) K0 M0 l.durable) (K1 : Option Addr) (M1 : Nat) (N1 : RdSl (hp w) K1 M1 l.volatile) (hokl : GoT.ok n l) :
  Does Tryz.prog 82 #[.agg #[.slice K0 ((l.durable).length) M0, .slice K1 ((l.volatile).length) M1]] w emp (Post w emp (fun x : GoT.X (Log) => .agg ⟨GoT.sh ((spec_l29Copy l) : Log) x⟩) (fun x => GoT.oa ((spec_l29Copy l) : Log) x) (GoT.ok n ((spec_l29Copy l) : Log))) := by
 have hbP := bd_pos n
 have hbB := bd_big (n := n) (by omega)
 refine WX.enter (tt := tt) (Γ := [(0, MF.rs .stb K0 M0 l.durable), (1, MF.rs .stb K1 M1 l.volatile)]) Tryz.func82 rfl (by kernel_rfl) rfl (allS_cons rfl N0 (allS_cons rfl N1 allS_nil)) ?_
 refine R0 ?_
 refine WX.draw [7] mixed ?_
 intro bs G0 hΓ0
 refine DX.takes (fuel := 4) ttOk [(0, true), (1, false), (3, true), (4, false)] (by kernel_rfl) rfl ?_
 refine DX.callF 2 2 (fun _ _ h => GoT.ow_rd h) (fun _ f hf => GoT.fak f hf) rfl (by kernel_rfl) rfl rfl rfl rfl rfl rfl (fun _ => rfl) rfl (fun w G bs hI hΓ => f89 w n (by omega) l.durable K0 M0 (hΓ.get 0 rfl) ((ok_Log hokl).1)) (fun _ => rfl) (fun _ => rfl) ?_
 rintro ⟨p1, c1⟩ hq1
 refine DX.callF 5 4 (fun _ _ h => GoT.ow_rd h) (fun _ f hf => GoT.fak f hf) rfl (by kernel_rfl) rfl rfl rfl rfl rfl rfl (fun _ => rfl) rfl (fun w G bs hI hΓ => f89 w n (by omega) l.volatile K1 M1 (hΓ.get 1 rfl) ((ok_Log hokl).2)) (fun _ => rfl) (fun _ => rfl) ?_
 rintro ⟨p2, c2⟩ hq2
 refine DX.takes (fuel := 1) ttOk [(6, true)] (by kernel_rfl) rfl ?_
 refine DX.tail2 [7] rfl rfl (by kernel_rfl) ?_
 refine R0 ?_
 have hP1 : spec_l29Copy l = (Log.mk (spec_l29Recs l.durable) (spec_l29Recs l.volatile)) := by simp only [spec_l29Copy, ct, cf]
 refine R1 ?_
 intro w1 G bs hI hΓ
 rw [hP1]
 exact Post.of [3, 5] ((p1, c1), (p2, c2)) hI hΓ rfl rfl rfl (And.intro hq1 hq2)
end Go.Proofs.YtolepebgdfdciaaGreat

namespace Go.Stp
set_option linter.unusedVariables false
set_option linter.unusedSimpArgs false
def spec_l1Once (c_b : (List UInt8)) (c_i : Int) (c_h : Int) (n_ : Int) : Bool × Int × Int :=
  match spec_l1Below c_b c_i c_h n_ with
    | (u1, u2, u3) =>
      ((u1 == 0), u2, u3)
def spec_l1Int (c_b : (List UInt8)) (c_i : Int) (c_h : Int) (list : (List Int)) : Int × Int × Int :=
  match spec_l1Below c_b c_i c_h (((list).length : Nat) : Int) with
    | (u1, u2, u3) =>
      match (list)[(u1).toNat]? with
        | none => default
        | some e1 =>
          (e1, u2, u3)
def spec_l1Str (c_b : (List UInt8)) (c_i : Int) (c_h : Int) (list : (List Str)) : Str × Int × Int :=
  match spec_l1Below c_b c_i c_h (((list).length : Nat) : Int) with
    | (u1, u2, u3) =>
      match (list)[(u1).toNat]? with
        | none => default
        | some e1 =>
          (e1, u2, u3)
def spec_l1Bytes_L1 (c_b : (List UInt8)) : Nat → (List UInt8) → Int → Int → (List UInt8) × Int × Int
  | 0, out, u999_i, u999_h => (((out) : List UInt8), u999_i, u999_h)
  | m_ + 1, out, u999_i, u999_h =>
    match spec_l1Byte c_b u999_i u999_h with
      | (u1, u2, u3) =>
        spec_l1Bytes_L1 c_b m_ (((out ++ [(toU8 u1)])) : List UInt8) u2 u3
def spec_l1Bytes (c_b : (List UInt8)) (c_i : Int) (c_h : Int) (n_ : Int) : (List UInt8) × Int × Int :=
  match spec_l1Bytes_L1 c_b ((n_).toNat) ([] : List UInt8) c_i c_h with
    | (out, u999_i, u999_h) =>
      (out, u999_i, u999_h)
theorem len_l1BytesL (b : List UInt8) : ∀ (m : Nat) (out : List UInt8) (i h : Int), (spec_l1Bytes_L1 b m out i h).1.length = out.length + m
  | 0, out, i, h => rfl
  | m + 1, out, i, h => by
    simp only [spec_l1Bytes_L1]
    rcases spec_l1Byte b i h with ⟨x, j, k⟩
    dsimp only
    rw [len_l1BytesL b m]
    simp only [List.length_append, List.length_cons, List.length_nil]; omega
theorem len_l1Bytes (b : List UInt8) (i h n : Int) : (spec_l1Bytes b i h n).1.length = n.toNat := by
  unfold spec_l1Bytes
  have := len_l1BytesL b n.toNat [] i h
  rcases e : spec_l1Bytes_L1 b n.toNat [] i h with ⟨x, j, k⟩
  rw [e] at this
  dsimp only at this ⊢
  simpa using this
def spec_l4Split_L1 (s : Str) (by_ : UInt8) (i : Nat) (out : List Str) (from_ : Int) : Nat × (List Str) × Int :=
  if ((i : Nat) : Int) ≤ (((s).size : Nat) : Int) then
    if (((i : Nat) : Int) == (((s).size : Nat) : Int)) = true then
      spec_l4Split_L1 s by_ (i + 1) (((out ++ [((s).extract (Int.toNat from_) i)])) : List Str) (((i : Nat) : Int) + 1)
    else
      match ((s).data.toList)[i]? with
        | none => default
        | some e1 =>
          if (((e1).toNat : Int) == ((by_).toNat : Int)) = true then
            spec_l4Split_L1 s by_ (i + 1) (((out ++ [((s).extract (Int.toNat from_) i)])) : List Str) (((i : Nat) : Int) + 1)
          else
            spec_l4Split_L1 s by_ (i + 1) ((out) : List Str) from_
  else
    (i, ((out) : List Str), from_)
termination_by (s).size + 1 - i
decreasing_by all_goals (simp_wf; omega)
def spec_l4Split (s : Str) (by_ : UInt8) : (List Str) :=
  match spec_l4Split_L1 s by_ 0 ([] : List Str) 0 with
    | (i, out, from_) =>
      out
theorem l4some {s : Str} {i : Nat} (h : i < s.size) : ∃ e, (s.data.toList)[i]? = some e := ⟨_, List.getElem?_eq_getElem (show i < s.data.toList.length from by rw [Array.length_toList]; exact h)⟩
theorem l4mono (s : Str) (b : UInt8) : ∀ (m i : Nat) (out : List Str) (f : Int), s.size + 1 - i = m → out.length ≤ (spec_l4Split_L1 s b i out f).2.1.length
  | 0, i, out, f, h => by rw [spec_l4Split_L1, if_neg (by omega)]; exact Nat.le_refl _
  | m + 1, i, out, f, h => by
    rw [spec_l4Split_L1, if_pos (by omega)]
    by_cases h2 : i = s.size
    · rw [if_pos (by simp [h2])]
      have := l4mono s b m (i + 1) (out ++ [s.extract (Int.toNat f) i]) (((i : Nat) : Int) + 1) (by omega)
      rw [List.length_append] at this
      omega
    · obtain ⟨e, he⟩ := l4some (s := s) (i := i) (by omega)
      rw [if_neg (by simp; omega), he]
      dsimp only
      have h3 := l4mono s b m (i + 1) (out ++ [s.extract (Int.toNat f) i]) (((i : Nat) : Int) + 1) (by omega)
      have h4 := l4mono s b m (i + 1) out f (by omega)
      rw [List.length_append] at h3
      split
      · omega
      · exact h4
theorem l4one (s : Str) (b : UInt8) : ∀ (m i : Nat) (out : List Str) (f : Int), s.size - i = m → i ≤ s.size → 1 ≤ (spec_l4Split_L1 s b i out f).2.1.length
  | m, i, out, f, h, hi => by
    rw [spec_l4Split_L1, if_pos (by omega)]
    have h3 := l4mono s b _ (i + 1) (out ++ [s.extract (Int.toNat f) i]) (((i : Nat) : Int) + 1) rfl
    rw [List.length_append, List.length_cons] at h3
    by_cases h2 : i = s.size
    · rw [if_pos (by simp [h2])]
      omega
    · obtain ⟨e, he⟩ := l4some (s := s) (i := i) (by omega)
      rw [if_neg (by simp; omega), he]
      dsimp only
      split
      · omega
      · exact l4one s b (m - 1) (i + 1) out f (by omega) (by omega)
termination_by m => m
decreasing_by omega
theorem len_l4Split (s : Str) (b : UInt8) : 1 ≤ (spec_l4Split s b).length := l4one s b _ 0 [] 0 rfl (Nat.zero_le _)
def spec_ParseName (s : Str) : Name × Bool :=
  bif ((s).toList == ((⟨#[47]⟩ : Str)).toList) then
    ((Name.mk ([])), true)
  else
    bif decide (((((spec_l4Split s (47 : UInt8))).length : Nat) : Int) < 2) then
      ((Name.mk ([])), false)
    else
      match ((spec_l4Split s (47 : UInt8)))[0]? with
        | none => default
        | some e1 =>
          bif (!((e1).toList == ((⟨#[]⟩ : Str)).toList)) then
            ((Name.mk ([])), false)
          else
            bif (!(spec_ValidName (Name.mk (List.drop 1 (spec_l4Split s (47 : UInt8)))))) then
              ((Name.mk ([])), false)
            else
              ((Name.mk (List.drop 1 (spec_l4Split s (47 : UInt8)))), true)
def spec_l4Of (s : Str) : Name :=
  ((spec_ParseName s).1)
def spec_AppendPart (n_ : Name) (s : Str) : Name × Bool :=
  bif (!(spec_ValidName (Name.mk (n_.parts ++ [s])))) then
    ((spec_l4Copy n_), false)
  else
    ((Name.mk (n_.parts ++ [s])), true)
theorem aP_len (n_ : Name) (s : Str) : (spec_AppendPart n_ s).1.parts.length ≤ n_.parts.length + 1 := by
  unfold spec_AppendPart
  cases (!(spec_ValidName (Name.mk (n_.parts ++ [s])))) <;> simp [spec_l4Copy]
theorem aP_els {k : Nat} (n_ : Name) (s : Str) (h1 : ∀ a ∈ n_.parts, GoT.ok k a) (h2 : GoT.ok k s) : ∀ a ∈ (spec_AppendPart n_ s).1.parts, GoT.ok k a := by
  unfold spec_AppendPart
  intro a ha
  cases hv : (!(spec_ValidName (Name.mk (n_.parts ++ [s]))))
  · rw [hv] at ha
    rcases List.mem_append.1 (show a ∈ n_.parts ++ [s] from ha) with ha | ha
    · exact h1 a ha
    · obtain rfl := List.mem_singleton.1 ha
      exact h2
  · rw [hv] at ha
    exact h1 a (show a ∈ n_.parts by simpa [spec_l4Copy] using ha)
def spec_l4Name_L1 (c_b : (List UInt8)) (i : Int) (n_ : List Str) (u999_i : Int) (u999_h : Int) : Int × (List Str) × Int × Int :=
  if i > 0 then
    match spec_l1Str c_b u999_i u999_h ([(⟨#[97]⟩ : Str), (⟨#[98]⟩ : Str), (⟨#[110, 101, 119, 115]⟩ : Str), (⟨#[120, 45, 49]⟩ : Str), (⟨#[49]⟩ : Str), (⟨#[107, 101, 121]⟩ : Str)]) with
      | (u4, u5, u6) =>
        spec_l4Name_L1 c_b (i - 1) (((spec_AppendPart (Name.mk n_) u4).1.parts) : List Str) u5 u6
  else
    (i, ((n_) : List Str), u999_i, u999_h)
termination_by i.toNat
decreasing_by all_goals (simp_wf; omega)
def spec_l4Name (c_b : (List UInt8)) (c_i : Int) (c_h : Int) : Name × Int × Int :=
  match spec_l1Below c_b c_i c_h 4 with
    | (u1, u2, u3) =>
      match spec_l4Name_L1 c_b u1 (([] : List Str) : List Str) u2 u3 with
        | (i, n_, u999_i, u999_h) =>
          ((Name.mk n_), u999_i, u999_h)
theorem l4NameL (b : List UInt8) : ∀ (m : Nat) (i : Int) (n_ : List Str) (a h : Int), i.toNat = m → n_.length + m ≤ 3 → (spec_l4Name_L1 b i n_ a h).2.1.length ≤ 3
  | 0, i, n_, a, h, hm, hl => by
    rw [spec_l4Name_L1, if_neg (by omega)]
    exact hl
  | m + 1, i, n_, a, h, hm, hl => by
    rw [spec_l4Name_L1, if_pos (by omega)]
    rcases spec_l1Str b a h ([(⟨#[97]⟩ : Str), (⟨#[98]⟩ : Str), (⟨#[110, 101, 119, 115]⟩ : Str), (⟨#[120, 45, 49]⟩ : Str), (⟨#[49]⟩ : Str), (⟨#[107, 101, 121]⟩ : Str)]) with ⟨x, j, k⟩
    dsimp only
    have := aP_len (Name.mk n_) x
    dsimp only at this
    exact l4NameL b m _ _ _ _ (by omega) (by omega)
theorem l4Name_len (b : List UInt8) (i h : Int) : (spec_l4Name b i h).1.parts.length ≤ 3 := by
  unfold spec_l4Name
  have h1 := l1Below_rng b i h 4
  rcases e : spec_l1Below b i h 4 with ⟨x, j, k⟩
  rw [e] at h1
  dsimp only at h1 ⊢
  exact l4NameL b _ x [] j k rfl (by simp; omega)
def spec_l4Any_L1 (c_b : (List UInt8)) (n_ : List Str) (u999_i : Int) (u999_h : Int) : (List Str) × Int × Int :=
  if (((n_).length : Nat) : Int) < 5 + ((spec_l1Below c_b u999_i u999_h 3).1) then
    spec_l4Any_L1 c_b (((n_ ++ [(⟨#[109]⟩ : Str)])) : List Str) ((spec_l1Below c_b u999_i u999_h 3).2.1) ((spec_l1Below c_b u999_i u999_h 3).2.2)
  else
    (((n_) : List Str), ((spec_l1Below c_b u999_i u999_h 3).2.1), ((spec_l1Below c_b u999_i u999_h 3).2.2))
termination_by 7 - n_.length
decreasing_by all_goals (have z_ := l1Below_rng c_b u999_i u999_h 3; (try simp_wf); (try simp only [List.length_append, List.length_cons, List.length_nil]); omega)
def spec_l4Any (c_b : (List UInt8)) (c_i : Int) (c_h : Int) : Name × Int × Int :=
  match spec_l4Name c_b c_i c_h with
    | (u1, u2, u3) =>
      match spec_l1Below c_b u2 u3 8 with
        | (u4, u5, u6) =>
          bif (u4 == 0) then
            match spec_l1Str c_b u5 u6 ([(⟨#[]⟩ : Str), (⟨#[65]⟩ : Str), (⟨#[116, 111, 111, 108, 111, 110, 103, 120, 120]⟩ : Str), (⟨#[97, 47, 98]⟩ : Str), (⟨#[32]⟩ : Str), (⟨#[101, 105, 103, 104, 116, 56, 56, 56]⟩ : Str)]) with
              | (u7, u8, u9) =>
                ((Name.mk (u1.parts ++ [u7])), u8, u9)
          else
            bif (u4 == 1) then
              match spec_l4Any_L1 c_b (u1.parts : List Str) u5 u6 with
                | (n_, u999_i, u999_h) =>
                  ((Name.mk n_), u999_i, u999_h)
            else
              (u1, u5, u6)
theorem l4AnyL (b : List UInt8) : ∀ (m : Nat) (n_ : List Str) (a h : Int), 7 - n_.length = m → n_.length ≤ 7 → (spec_l4Any_L1 b n_ a h).1.length ≤ 7
  | m, n_, a, h, hm, hl => by
    rw [spec_l4Any_L1]
    have h1 := l1Below_rng b a h 3
    split
    · exact l4AnyL b (m - 1) _ _ _ (by simp; omega) (by simp; omega)
    · exact hl
termination_by m => m
decreasing_by omega
theorem l4Any_len (b : List UInt8) (i h : Int) : (spec_l4Any b i h).1.parts.length ≤ 7 := by
  unfold spec_l4Any
  have h1 := l4Name_len b i h
  rcases e : spec_l4Name b i h with ⟨x, j, k⟩
  rw [e] at h1
  dsimp only at h1 ⊢
  rcases spec_l1Below b j k 8 with ⟨x2, j2, k2⟩
  dsimp only
  cases (x2 == 0)
  · simp only [cond_false]
    cases (x2 == 1)
    · simp only [cond_false]; omega
    · simp only [cond_true]
      exact l4AnyL b _ x.parts j2 k2 rfl (by omega)
  · simp only [cond_true, List.length_append, List.length_cons, List.length_nil]
    omega
end Go.Stp

