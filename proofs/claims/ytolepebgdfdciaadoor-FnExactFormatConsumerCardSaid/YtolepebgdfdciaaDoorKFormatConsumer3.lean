/-
  FormatConsumer: the law returns true at all arguments; conditions: those of the statement, no others. Written by a program (pack.py, mklaw2.py).
-/
import Derived.Test.YtolepebgdfdciaaDoorTie
import Derived.Test.YtolepebgdfdciaaDoorCards
import Derived.SevenTiedAt
import Derived.Deep.DeepHandedRow
import Derived.Lib.LaidTab
import Derived.Test.YtolepebgdfdciaaDoorKFormatConsumer2
namespace Go.Stp
set_option linter.unusedVariables false
set_option linter.unusedSimpArgs false
theorem sl_ext {x y : Str} (h : x.data.toList = y.data.toList) : x = y := by
 cases x with
 | mk a =>
  cases y with
  | mk b => exact congrArg ByteArray.mk (Array.toList_inj.1 h)
theorem sl_app (x y : Str) : (x ++ y).data.toList = x.data.toList ++ y.data.toList := by
 rw [ByteArray.data_append, Array.toList_append]
theorem sl_mk (l : List UInt8) : (⟨l.toArray⟩ : Str).data.toList = l := rfl
theorem dig_eq {d : Int} {k : Nat} (h : d = (k : Int)) (hk : k < 10) : toU8 (IntKind.i64.wrap (48 + d)) = UInt8.ofNat (48 + k) := by
 subst h
 rw [wrap_i64 (by unfold I64; omega)]
 unfold toU8
 congr 1
 omega
theorem fiL : ∀ (m : Nat) (x : Int) (s : Str), x.natAbs = m → I64 x → x ≠ 0 → (a06 s x).1.data.toList = Lib.decDigits x.natAbs ++ s.data.toList
 | m, x, s, hm, hx, h0 => by
  have hw : IntKind.i64.wrap (x.tdiv 10) = x.tdiv 10 := wrap_i64 (by
   have := Int.natAbs_tdiv x 10
   have h2 : (x.tdiv 10).natAbs = x.natAbs / 10 := this
   unfold I64 at hx ⊢
   omega)
  have hd : (x.tdiv 10).natAbs = x.natAbs / 10 := Int.natAbs_tdiv x 10
  have hr : (x.tmod 10).natAbs = x.natAbs % 10 := Int.natAbs_tmod x 10
  have key (d : Int) (hdd : d = ((x.natAbs % 10 : Nat) : Int)) : (a06 (bstr [toU8 (IntKind.i64.wrap (48 + d))] ++ s) (IntKind.i64.wrap (x.tdiv 10))).1.data.toList = Lib.decDigits x.natAbs ++ s.data.toList := by
   rw [dig_eq hdd (by omega), hw]
   by_cases hz : x.tdiv 10 = 0
   ·rw [hz, a06, if_neg (by decide), Lib.decDigits]
    have hlt : x.natAbs < 10 := by rw [hz] at hd; simp at hd; omega
    rw [dif_pos hlt, sl_app, Nat.mod_eq_of_lt hlt]
    rfl
   ·rw [fiL (x.natAbs / 10) (x.tdiv 10) _ hd (by unfold I64 at hx ⊢; omega) hz, hd, sl_app]
    have hge : ¬ x.natAbs < 10 := fun hlt => hz (by
     have : x.natAbs / 10 = 0 := Nat.div_eq_of_lt hlt
     rw [this] at hd
     exact Int.natAbs_eq_zero.1 hd)
    conv => rhs; rw [Lib.decDigits, dif_neg hge]
    rw [List.append_assoc]
    rfl
  rw [a06, if_pos (by simpa using h0)]
  split
  ·exact key _ (by omega)
  ·exact key _ (by omega)
termination_by m => m
decreasing_by
 have h1 : x.natAbs ≠ 0 := fun e => h0 (Int.natAbs_eq_zero.1 e)
 omega
theorem same_FormatInt {n : Int} (h : I64 n) : itoaS n = a01 n := by
 refine sl_ext ?_
 unfold a01
 by_cases h0 : n = 0
 ·subst h0
  show Lib.itoa 0 = [48]
  unfold Lib.itoa
  rw [if_neg (by decide), Lib.decDigits, dif_pos (by decide)]
  rfl
 ·have hb : (n == 0) = false := by simpa using h0
  have h1 := fiL _ n (⟨#[]⟩ : Str) rfl h h0
  rcases e : a06 (⟨#[]⟩ : Str) n with ⟨s, x⟩
  rw [e] at h1
  simp only [hb, cond_false]
  have h2 : s.data.toList = Lib.decDigits n.natAbs := by rw [h1]; exact List.append_nil _
  show Lib.itoa n = _
  unfold Lib.itoa
  by_cases hn : n < 0
  ·rw [if_pos hn, decide_eq_true hn, cond_true, sl_app, h2]
   rfl
  ·rw [if_neg hn, decide_eq_false hn, cond_false, h2, show n.toNat = n.natAbs by omega]
theorem fnL : ∀ (l : List Str) (s : Str), (a0h l s).data.toList = s.data.toList ++ Lib.joinTail [47] (l.map (fun z : Str => z.data.toList))
 | [], s => (List.append_nil _).symm
 | x :: l, s => by
  rw [a0h, fnL l, sl_app, sl_app]
  simp only [Lib.joinTail, List.map_cons, List.flatten_cons, List.append_assoc]
theorem same_FormatName (m : Name) : a07 m = a04 m := by
 refine sl_ext ?_
 unfold a07 a0o a04
 have h1 := fnL m.parts (⟨#[]⟩ : Str)
 cases hp : m.parts with
 | nil => rfl
 | cons x r =>
  have hb : ((((x :: r).length : Nat) : Int) == 0) = false := by simp; omega
  rw [hp] at h1
  simp only [hb, cond_false]
  rw [h1, sl_app]
  show [47] ++ Lib.join _ [47] = [] ++ _
  rw [List.map_cons, Lib.join_cons]
  simp [Lib.joinTail]
theorem same_FormatConsumer' (a : Consumer) (h : GoT.ok 10 a) : a0p a = a0q a := by
 have h0 := ok_Consumer h
 unfold a0p a0q a03
 rw [same_FormatInt (show I64 a.node from h0.1), same_FormatName]
 cases a.satisfied
 ·simp only [cond_false]
  rw [same_FormatInt (show I64 a.attempts from h0.2.2.2.1)]
 ·simp only [cond_true]
  refine sl_ext ?_
  simp only [sl_app, List.append_assoc]
  rfl

theorem same_FormatConsumer (aA : Consumer) (haA : GoT.ok 10 aA): a0p aA = a0q aA := same_FormatConsumer' aA haA
theorem true_FormatConsumer (aA : Consumer) (haA : GoT.ok 10 aA) : a0k aA = true := by
 unfold a0k
 by_cases s0 : a0d aA 1048576 < 0
 ·simp only [dT s0, cond_true]
 have d0 := dF (show 0 ≤ a0d aA 1048576 by omega)
 obtain ⟨t0, z0⟩ := (sz_Consumer_R aA 1048576 haA (by omega) (by omega)).pos (by omega)
 simp only [d0, cond_false, to_Consumer, same_FormatConsumer aA haA, eq_Consumer, Bool.not_true, bne_self_F, nbeq_self_F, beq_self_eq_true]
end Go.Stp
namespace Go.Proofs.YtolepebgdfdciaaDoor
open Go.Stp
open Go.RowKit (Below)
open Go.ChangeShapes Go.WideShapes Go.ChangeAt
namespace LawFormatConsumer
theorem own : ownKnob Tryd.prog.godebug = none := by kernel_rfl
theorem laid : laidOutB Tryd.prog = true := Facts.laid
set_option maxRecDepth 100000 in
theorem op24 : Opens Tryd.prog 24 Name := opens_struct (fun e : Name => e.parts) (fun b => ⟨b⟩) (fun _ => rfl) Tryd.underlying24 (show Tryd.prog.cellsOf 24 = 1 by kernel_rfl) (opensF_one rfl (opens_slice Tryd.underlying22 (by kernel_rfl) (opens_str Tryd.underlying9 (by kernel_rfl))))
set_option maxRecDepth 100000 in
theorem op27 : Opens Tryd.prog 27 DataP := opens_struct (fun e : DataP => (e.name, e.content, e.keyName, e.freshUntil, e.signature)) (fun b => ⟨b.1, b.2.1, b.2.2.1, b.2.2.2.1, b.2.2.2.2⟩) (fun _ => rfl) Tryd.underlying27 (show Tryd.prog.cellsOf 27 = 5 by kernel_rfl) (opensF_cons rfl op24 (opensF_cons rfl (opens_slice Tryd.underlying25 (by kernel_rfl) (opens_byte Tryd.underlying5 (by kernel_rfl))) (opensF_cons rfl op24 (opensF_cons rfl (opens_int Tryd.underlying3 (by kernel_rfl)) (opensF_one rfl (opens_int Tryd.underlying3 (by kernel_rfl)))))))
set_option maxRecDepth 100000 in
theorem op29 : Opens Tryd.prog 29 Consumer := opens_struct (fun e : Consumer => (e.node, e.index, e.name, e.attempts, e.wait, e.satisfied, e.data)) (fun b => ⟨b.1, b.2.1, b.2.2.1, b.2.2.2.1, b.2.2.2.2.1, b.2.2.2.2.2.1, b.2.2.2.2.2.2⟩) (fun _ => rfl) Tryd.underlying29 (show Tryd.prog.cellsOf 29 = 11 by kernel_rfl) (opensF_cons rfl (opens_int Tryd.underlying3 (by kernel_rfl)) (opensF_cons rfl (opens_int Tryd.underlying3 (by kernel_rfl)) (opensF_cons rfl op24 (opensF_cons rfl (opens_int Tryd.underlying3 (by kernel_rfl)) (opensF_cons rfl (opens_int Tryd.underlying3 (by kernel_rfl)) (opensF_cons rfl (opens_bool Tryd.underlying4 (by kernel_rfl)) (opensF_one rfl op27)))))))
noncomputable def laidWorld (os : Os) : World :=
  { World.holding Tryd.prog os ⟨#[], #[], []⟩ with heap := ((((World.holding Tryd.prog os ⟨#[], #[], []⟩).heap.modify 2 (fun | .cells _ t fr => .cells #[.int .u8 0, .int .u8 1, .int .u8 28, .int .u8 2, .int .u8 29, .int .u8 14, .int .u8 24, .int .u8 3, .int .u8 30, .int .u8 22, .int .u8 20, .int .u8 15, .int .u8 25, .int .u8 17, .int .u8 4, .int .u8 8, .int .u8 31, .int .u8 27, .int .u8 13, .int .u8 23, .int .u8 21, .int .u8 19, .int .u8 16, .int .u8 7, .int .u8 26, .int .u8 12, .int .u8 18, .int .u8 6, .int .u8 11, .int .u8 5, .int .u8 10, .int .u8 9] t fr | o => o)).modify 3 (fun | .cells _ t fr => .cells #[.int .u8 0, .int .u8 1, .int .u8 56, .int .u8 2, .int .u8 57, .int .u8 49, .int .u8 28, .int .u8 3, .int .u8 61, .int .u8 58, .int .u8 42, .int .u8 50, .int .u8 38, .int .u8 29, .int .u8 17, .int .u8 4, .int .u8 62, .int .u8 47, .int .u8 59, .int .u8 36, .int .u8 45, .int .u8 43, .int .u8 51, .int .u8 22, .int .u8 53, .int .u8 39, .int .u8 33, .int .u8 30, .int .u8 24, .int .u8 18, .int .u8 12, .int .u8 5, .int .u8 63, .int .u8 55, .int .u8 48, .int .u8 27, .int .u8 60, .int .u8 41, .int .u8 37, .int .u8 16, .int .u8 46, .int .u8 35, .int .u8 44, .int .u8 21, .int .u8 52, .int .u8 32, .int .u8 23, .int .u8 11, .int .u8 54, .int .u8 26, .int .u8 40, .int .u8 15, .int .u8 34, .int .u8 20, .int .u8 31, .int .u8 10, .int .u8 25, .int .u8 14, .int .u8 19, .int .u8 9, .int .u8 13, .int .u8 8, .int .u8 7, .int .u8 6] t fr | o => o)).modify 0 (fun | .cells _ t fr => .cells #[.int .u64 1, .int .u64 10, .int .u64 100, .int .u64 1000, .int .u64 10000, .int .u64 100000, .int .u64 1000000, .int .u64 10000000, .int .u64 100000000, .int .u64 1000000000, .int .u64 10000000000, .int .u64 100000000000, .int .u64 1000000000000, .int .u64 10000000000000, .int .u64 100000000000000, .int .u64 1000000000000000, .int .u64 10000000000000000, .int .u64 100000000000000000, .int .u64 1000000000000000000, .int .u64 10000000000000000000] t fr | o => o)) }
set_option maxRecDepth 100000 in
theorem laid_met (os : Os) (args : Array Value) : laidMet Tryd.prog Rows.fnExactFormatConsumerRow.laid ((laidWorld os).forCall (fun _ _ => 0) ⟨#[], args, []⟩).memory :=
 laidMet_of_run' 8 (by kernel_rfl) (by kernel_rfl)
set_option maxRecDepth 100000 in
theorem witness_row (os : Os) {H : Type} (enc : TypeId × Value → H) :
  (OpenSpec.ofChange Rows.fnExactFormatConsumerSpec).preRow enc Tryd.prog Tryd.f3 Rows.fnExactFormatConsumerRow.domain false Rows.fnExactFormatConsumerRow.laid ((laidWorld os).forCall (fun _ _ => 0) ⟨#[], #[.agg #[.int .i64 (0), .int .i64 (0), .slice none 0 0, .int .i64 (0), .int .i64 (0), .bool false, .slice none 0 0, .slice none 0 0, .slice none 0 0, .int .i64 (0), .int .i64 (0)]], []⟩).memory #[.agg #[.int .i64 (0), .int .i64 (0), .slice none 0 0, .int .i64 (0), .int .i64 (0), .bool false, .slice none 0 0, .slice none 0 0, .slice none 0 0, .int .i64 (0), .int .i64 (0)]] := by
 have hw : (DataW.whole enc Tryd.prog ((laidWorld os).forCall (fun _ _ => 0) ⟨#[], #[.agg #[.int .i64 (0), .int .i64 (0), .slice none 0 0, .int .i64 (0), .int .i64 (0), .bool false, .slice none 0 0, .slice none 0 0, .slice none 0 0, .int .i64 (0), .int .i64 (0)]], []⟩).memory Tryd.f3.params.toList (OpenSpec.ofChange Rows.fnExactFormatConsumerSpec).vars false (#[.agg #[.int .i64 (0), .int .i64 (0), .slice none 0 0, .int .i64 (0), .int .i64 (0), .bool false, .slice none 0 0, .slice none 0 0, .slice none 0 0, .int .i64 (0), .int .i64 (0)]] : Array Value).toList 8).isSome = true := by kernel_rfl
 obtain ⟨x, hx⟩ := Option.isSome_iff_exists.1 hw
 exact OpenSpec.preRow_of_cond 8 hx rfl (fun k hk => by cases hk) (by kernel_rfl) (laid_met os _)
theorem table {W : World} (h : laidMet Tryd.prog Rows.fnExactFormatConsumerRow.laid W) : Tb W := by
 obtain ⟨ps, h0, _⟩ := h
 obtain ⟨_, _, _, _, _, _, _, _, _, _, h1, _⟩ := h0
 obtain ⟨_, _, _, _, _, _, _, _, _, _, h2, _⟩ := h1
 obtain ⟨g, t, cs, fuel, p, q, hg, ht, hvar, hd, _, _⟩ := h2
 have e1 : Tryd.prog.globalNamed "internal/strconv.uint64pow10" = some 0 := by kernel_rfl
 have e2 : (Tryd.prog.globals[0]?).map (·.type) = some 75 := by kernel_rfl
 obtain rfl := Option.some.inj (e1.symm.trans hg)
 obtain rfl := Option.some.inj (e2.symm.trans ht)
 have hc := Lib.cells_of_tab (k := .u64) (zs := Lib.pow10Tab) Tryd.underlying75 Tryd.underlying67 (show Tryd.prog.cellsOf 67 = 1 by kernel_rfl) (show Tryd.prog.cellsOf 75 = 20 by kernel_rfl) hd
 unfold Tb Lib.TabIs
 rw [hvar, ← hc]
set_option maxRecDepth 100000 in
theorem lifted (os : Os) (started : os.Started) (H : Type) (enc : TypeId × Value → H) :
  ReturnsInHanded {} Tryd.checked os 3 .any ((OpenSpec.ofChange Rows.fnExactFormatConsumerSpec).preRow enc Tryd.prog Tryd.f3 Rows.fnExactFormatConsumerRow.domain false Rows.fnExactFormatConsumerRow.laid) (Rows.fnExactFormatConsumerSpec.post enc Tryd.prog Tryd.f3 false true false false) := by
 refine returnsInHanded_of_row (C := Tryd.checked) (s := OpenSpec.ofChange Rows.fnExactFormatConsumerSpec) (F := fun _ _ _ => 0) own started (by kernel_rfl) Tryd.func3
  (witness_row_at (enc := enc) (C := Tryd.checked) false (laidWorld os) #[.agg #[.int .i64 (0), .int .i64 (0), .slice none 0 0, .int .i64 (0), .int .i64 (0), .bool false, .slice none 0 0, .slice none 0 0, .slice none 0 0, .int .i64 (0), .int .i64 (0)]] rfl (by kernel_rfl) (by kernel_rfl) (by kernel_rfl) (witness_row os enc)) ?_
 intro W base args ds gs before hval0 hW _ _ _ hL _ _
 have hval : ∀ (j : Nat) t v, Tryd.f3.params[j]? = some t → args[j]? = some v → Value.okWide Tryd.prog W .any base t v := hval0
 have hW' := hW
 obtain ⟨p, q, hA0, _⟩ := hW
 have hA : DataW.TrodAll enc Tryd.prog W 0 (fun _ => true) true Tryd.f3.params.toList args.toList ds p := hA0
 rw [Tryd.params3] at hA hval
 obtain ⟨v0, vs0, d0, ds0, p0, q0, hargs, rfl, rfl, h0, r0⟩ := ChangeShapes.trodAll_cons hA
 obtain ⟨rfl, rfl, rfl⟩ := trodAll_nil r0
 obtain rfl : args = #[v0] := by cases args; simp_all
 obtain ⟨a0, x0, rfl, k0, g0⟩ := (arg_struct Tryd.underlying29 op29) (hval 0 29 _ rfl rfl) h0
 have ht := true_FormatConsumer a0 k0
 refine (f3 W 0 (by decide) a0 x0.2.2.1.1 x0.2.2.1.2 (g0 (MF.rs .der x0.2.2.1.1 x0.2.2.1.2 a0.name.parts) (List.mem_cons_self)) x0.2.2.2.2.2.2.1.1 x0.2.2.2.2.2.2.1.2 (g0 (MF.rs .der x0.2.2.2.2.2.2.1.1 x0.2.2.2.2.2.2.1.2 a0.data.name.parts) (by simp [GoT.fa])) x0.2.2.2.2.2.2.2.1.1 x0.2.2.2.2.2.2.2.1.2 (g0 (MF.rs .der x0.2.2.2.2.2.2.2.1.1 x0.2.2.2.2.2.2.2.1.2 a0.data.content) (by simp [GoT.fa])) x0.2.2.2.2.2.2.2.2.1.1 x0.2.2.2.2.2.2.2.2.1.2 (g0 (MF.rs .der x0.2.2.2.2.2.2.2.2.1.1 x0.2.2.2.2.2.2.2.2.1.2 a0.data.keyName.parts) (by simp [GoT.fa])) (table hL) k0).2.mono fun e W1 ⟨v, he, hb, hv⟩ => ?_
 rw [ht] at hv
 obtain ⟨rfl, _⟩ := hv
 subst he
 exact ⟨_, rfl, law_post laid (by kernel_rfl) rfl rfl Tryd.underlying4 (fun ds h => by match ds, h with | [_], _ => rfl) hW' hb.below⟩
set_option maxRecDepth 100000 in
theorem c_inPlace : (Rows.fnExactFormatConsumerRow.inPlace == Tryd.prog.inPlace 3) = true := by kernel_rfl
set_option maxRecDepth 100000 in
theorem c_unfollowed : (Rows.fnExactFormatConsumerRow.unfollowed == Tryd.prog.unfollowed 3) = true := by kernel_rfl
set_option maxRecDepth 100000 in
theorem c_recurses : (Rows.fnExactFormatConsumerRow.recurses == Tryd.prog.recurses 3) = true := by kernel_rfl
set_option maxRecDepth 100000 in
theorem c_named : (Rows.fnExactFormatConsumerRow.named == Tryd.prog.varsNamed 3) = true := by kernel_rfl
set_option maxRecDepth 100000 in
theorem c_read : Tryd.f3.params.all (Tryd.pinned.checked.prog.readableRec ·) = true := by kernel_rfl
set_option maxRecDepth 100000 in
theorem c_maps : (Rows.fnExactFormatConsumerRow.maps == (Tryd.f3.params.toList ++ Rows.fnExactFormatConsumerSpec.plain.varTypes Tryd.pinned.checked.prog).any (Tryd.pinned.checked.prog.mapsRec ·)) = true := by kernel_rfl
set_option maxRecDepth 100000 in
theorem c_ifaces : (Rows.fnExactFormatConsumerRow.ifaces == (Tryd.f3.params.toList ++ Rows.fnExactFormatConsumerSpec.plain.varTypes Tryd.pinned.checked.prog).any (Tryd.pinned.checked.prog.ifacesRec ·)) = true := by kernel_rfl
set_option maxRecDepth 100000 in
theorem c_loops : (Rows.fnExactFormatConsumerRow.loops == (Tryd.f3.params.toList ++ Rows.fnExactFormatConsumerSpec.plain.varTypes Tryd.pinned.checked.prog).any (Tryd.pinned.checked.prog.loopsFrom ·)) = true := by kernel_rfl
set_option maxRecDepth 100000 in
theorem c_wide : (Rows.fnExactFormatConsumerRow.wideKeys == (Tryd.f3.params.toList ++ Rows.fnExactFormatConsumerSpec.plain.varTypes Tryd.pinned.checked.prog ++ Tryd.f3.resultTypes.toList).any (Tryd.pinned.checked.prog.wideKeysFrom ·)) = true := by kernel_rfl
set_option maxRecDepth 100000 in
theorem c_rread : Tryd.f3.resultTypes.all (fun t => Tryd.pinned.checked.prog.readableRec t && decide (t < Tryd.pinned.checked.prog.types.size)) = true := by kernel_rfl
set_option maxRecDepth 100000 in
theorem c_veiled : (Rows.fnExactFormatConsumerRow.veiled == (Tryd.f3.params.toList ++ Rows.fnExactFormatConsumerSpec.plain.varTypes Tryd.pinned.checked.prog ++ Tryd.f3.resultTypes.toList).any (Tryd.pinned.checked.prog.veiledRec ·)) = true := by kernel_rfl
set_option maxRecDepth 100000 in
theorem c_vfits : Rows.fnExactFormatConsumerRow.veiledFits Tryd.pinned.checked.prog Tryd.f3.params.toList (Tryd.f3.params.toList ++ Rows.fnExactFormatConsumerSpec.plain.varTypes Tryd.pinned.checked.prog ++ Tryd.f3.resultTypes.toList) = true := by kernel_rfl
set_option maxRecDepth 100000 in
theorem c_enter : Tryd.pinned.checked.prog.mayEnter = true := by kernel_rfl
set_option maxRecDepth 100000 in
theorem c_heard : Tryd.pinned.checked.prog.stopsHeard = true := by kernel_rfl
set_option maxRecDepth 100000 in
theorem c_lifted : (Rows.fnExactFormatConsumerRow.lifted == Tryd.pinned.checked.prog.liftsFinal) = true := by kernel_rfl
set_option maxRecDepth 100000 in
theorem c_plainKeys : (Rows.fnExactFormatConsumerRow.plainKeys == Tryd.pinned.checked.prog.plainKeys) = true := by kernel_rfl
set_option maxRecDepth 100000 in
theorem c_make : (Tryd.pinned.checked.prog.make == some Rows.fnExactFormatConsumerRow.make) = true := by kernel_rfl
set_option maxRecDepth 100000 in
theorem closed : joinedFacts Tryd.pinned.checked.prog 3 Tryd.f3 Rows.fnExactFormatConsumerSpec Rows.fnExactFormatConsumerRow = true := by
 unfold joinedFacts
 rw [show laidOutB Tryd.pinned.checked.prog = true from laid, show mapsRowed Tryd.pinned.checked.prog = true from Facts.rowed, show (Rows.fnExactFormatConsumerRow.inPlace == Tryd.pinned.checked.prog.inPlace 3) = true from c_inPlace, show (Rows.fnExactFormatConsumerRow.unfollowed == Tryd.pinned.checked.prog.unfollowed 3) = true from c_unfollowed, show (Rows.fnExactFormatConsumerRow.recurses == Tryd.pinned.checked.prog.recurses 3) = true from c_recurses, show (Rows.fnExactFormatConsumerRow.named == Tryd.pinned.checked.prog.varsNamed 3) = true from c_named, c_read, c_maps, c_ifaces, c_loops, c_wide, c_rread, c_veiled, c_vfits, c_enter, c_heard, c_lifted, c_plainKeys, c_make]
 kernel_rfl
theorem over : Rows.fnExactFormatConsumerRow.holds Tryd.pinned (OpenSpec.ofChange Rows.fnExactFormatConsumerSpec) :=
 OpenClaim.holds_of_wide 3 Tryd.f3 rfl rfl rfl rfl rfl rfl rfl ⟨rfl, rfl, rfl, rfl, rfl⟩ rfl rfl rfl rfl rfl (by kernel_rfl) Tryd.func3 closed
  (of_decide_eq_true (by kernel_rfl)) (by unfold Func.isWrapper; first | (rw [if_pos (by decide +kernel)]; kernel_rfl) | (rw [if_neg (by decide +kernel)]; exact ⟨rfl, rfl⟩))
  (fun os started H enc _ => by rw [OpenClaim.pre_eq_preRow]; exact lifted os started H enc)
theorem proved : Rows.FnExactFormatConsumerCardSaid :=
 Claim7.holds_tied_plain_at .later [] [.data, .data, .data] true (true, "059e032ad93e7b4a3be1e6b492d41d8b227cb805b90b1bb8d4347d0e13ec0088") false
  over (fun _ h => by cases h) (by kernel_rfl) (fun _ h => by cases h) fnExactFormatConsumer_row_tie rfl ⟨rfl, rfl⟩ (by kernel_rfl) rfl
  (fun f fn hf hfn => by
   obtain rfl : f = 3 := Option.some.inj ((show Tryd.prog.funcNamed "loop.example/g00507/laws.FnExactFormatConsumer" = some 3 by kernel_rfl).symm.trans hf) |>.symm
   obtain rfl : fn = Tryd.f3 := (Option.some.inj (Tryd.func3.symm.trans hfn)).symm
   exact ⟨by kernel_rfl, fun j t ht => by
    rw [Tryd.params3] at ht
    rcases j with _ | j
    ·have h3 : t = 29 := by simpa using ht.symm
     subst h3
     exact (show Tryd.prog.wantsStandIn 29 = false by kernel_rfl)
    ·simp at ht⟩)
  (by kernel_rfl)
#print axioms proved
end LawFormatConsumer
end Go.Proofs.YtolepebgdfdciaaDoor

