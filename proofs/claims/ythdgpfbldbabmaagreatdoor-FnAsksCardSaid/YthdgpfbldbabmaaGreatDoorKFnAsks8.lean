/-
  FnAsks: the law returns true at all arguments; conditions: those of the statement, no others. Written by a program (pack.py, mklaw2.py).
-/
import Derived.Test.YthdgpfbldbabmaaGreatDoorTie
import Derived.Test.YthdgpfbldbabmaaGreatDoorCards
import Derived.SevenTiedAt
import Derived.Deep.DeepHandedRow
import Derived.Lib.LaidTab
import Derived.Test.YthdgpfbldbabmaaGreatDoorKFnAsks7
namespace Go.Proofs.YthdgpfbldbabmaaGreatDoor
open Go.Stp
set_option linter.unusedVariables false
set_option linter.unusedSimpArgs false
theorem f78 (w : World) (n : Nat) (hn : n + 0 ≤ 9) (i : Int) (hq0 : Tb w) (hoki : GoT.ok n i) :
 Does Tryz.prog 78 #[.int .i64 (i)] w emp (fun (rv : Value) (_ : World) => rv = .string (itoaS i) ∧ GoT.ok n ((itoaS i) : Str)) := by
 refine (does_itoa hoki hq0 ⟨_, Tryz.func78, by kernel_rfl, Z⟩).mono fun v w' _ h => ⟨h.1, ?_⟩
 have h2 := h.2
 have h3 := bd_pos n
 show (itoaS i).size ≤ bd n
 omega
theorem f101 (w : World) (n : Nat) (hn : n + 0 ≤ 9) (e : List Str) (pe ce) (N0 : RdSl (hp w) pe ce e) (s : Str) (hq0 : e ≠ []) (hq1 : n ≤ 0) (hq2 : s.size ≤ 1) (hoke : GoT.ok n e) (hoks : GoT.ok n s) :
 Does Tryz.prog 101 #[.slice pe ((e).length) ce, .string (s)] w emp (fun (rv : Value) (_ : World) => rv = .string (joinS e s) ∧ GoT.ok 10 ((joinS e s) : Str)) := by
 obtain rfl : n = 0 := by omega
 refine (does_join N0 hoke hq0 hq2 ⟨_, Tryz.func101, by kernel_rfl, Z⟩).mono fun v w' _ h => ⟨h.1, ?_⟩
 have h2 := h.2
 have h3 : bd 10 = 9223372036854775807 := rfl
 show (joinS e s).size ≤ bd 10
 omega
theorem f48 (w : World) (n : Nat) (hn : n + 0 ≤ 9) (n_ : Int) (hq0 : Tb w) (hokn_ : GoT.ok n n_) :
 Does Tryz.prog 48 #[.int .i64 (n_)] w emp (fun (rv : Value) (_ : World) => rv = .string (a1x n_) ∧ GoT.ok n ((a1x n_) : Str)) := by
 have hb := bS0 hn
 refine EN Tryz.func48 Z allS_nil ?_
 refine R0 ?_
 refine WX.callV Z Z Z Z Z O Z (fun w G bs hI hΓ => f78 w n τ1 n_ (Tb.kp hI hq0) hokn_) ?_
 intro hq1
 refine R0 ?_
 have hP1 : a1x n_ = (itoaS n_) := by simp only [a1x, cT, cF]
 refine R1 ?_
 intro w1 G bs hI hΓ
 rw [hP1]
 exact ⟨Z, hq1⟩
theorem f50 (w : World) (n : Nat) (hn : n + 0 ≤ 9) (n_ : Int) (hokn_ : GoT.ok n n_) :
 Does Tryz.prog 50 #[.int .i64 (n_)] w emp (fun (rv : Value) (_ : World) => rv = .string (a1d n_) ∧ GoT.ok n ((a1d n_) : Str)) := by
 have hb := bS0 hn
 refine EN Tryz.func50 Z allS_nil ?_
 refine R0 ?_
 refine WX.cases 7 Z ?_ ?_ <;> intro h1
 ·skip
  have h1d := B.et h1
  refine R0 ?_
  have hP1 : a1d n_ = (⟨#[48]⟩ : Str) := by simp only [a1d, h1, cT, cF]
  refine R1 ?_
  intro w1 G bs hI hΓ
  rw [hP1]
  exact ⟨Z, (Nat.le_trans τ9 (bd_pos n))⟩
 have h1d := B.ef h1
 refine R0 ?_
 have r1 : (⟨#[]⟩ : Str).size = 0 := rfl
 refine WX.loop (ι := Str × Int) ⟨fun | (s, x_) => (s.size ≤ bd n) ∧ (-9223372036854775808 ≤ x_ ∧ x_ ≤ 9223372036854775807) ∧ (fiInv x_ s.size) ∧ (a2l (⟨#[]⟩ : Str) n_ = a2l s x_), fun | (s, x_) => x_.natAbs, fun | (s, x_) => [(3, .v (.string s)), (4, .v (.int .i64 (x_))), (0, .v (.int .i64 (n_)))], fun | (s, x_) => [], fun | (s, x_) => [], fun | (s, x_) => []⟩ ((⟨#[]⟩ : Str), n_) ⟨τ6, hokn_, (fiInv_0 hokn_), Z⟩
  (.cons Z (.cons Z (.cons Z (.nil)))) .nil .nil [] Z ?_
 rintro ⟨s, x_⟩ ⟨v1, v2, v3, v4⟩
 have hz0 := fiInv_size v3
 refine R0 ?_
 refine WX.cases 10 Z ?_ ?_ <;> intro h2
 ·skip
  have h2d := B.nt' h2
  refine R0 ?_
  have r2 := tmod_rng x_ (show (0 : Int) < 10 by omega)
  refine WX.see Z Z Z (fun _ hΓ => looks_rem Z Z Z τ9) ?_
  refine R0 ?_
  refine WX.cases 16 Z ?_ ?_ <;> intro h3
  ·skip
   have h3d := B.dt h3
   refine R0 ?_
   refine WX.see Z Z Z (fun _ hΓ => looks_neg Z Z (by unfold I64; omega)) ?_
   refine R0 ?_
   refine WX.see Z Z Z (fun _ hΓ => looks_wrap Z Z Z Z) ?_
   refine WX.see Z Z Z (fun _ hΓ => looks_toU8 ttOk Z Z Z Z Z Z) ?_
   refine WX.bld ttOk Z Z Z Z Z Z Z ?_
   intro p1
   refine WX.turn [] 0 Z (fun h hs => ol_one (α := UInt8) (a := (toU8 (IntKind.i64.wrap (48 + (-(Int.tmod x_ 10)))))) (x := ()) hs) (gs := [MF.ol [.int .u8 ((toU8 (IntKind.i64.wrap (48 + (-(Int.tmod x_ 10))))).toNat : Nat)] ([(toU8 (IntKind.i64.wrap (48 + (-(Int.tmod x_ 10)))))] : List UInt8)]) Z ?_
   refine WX.seal 22 0 1 Z Z Z Z Z ?_
   refine WX.see Z Z Z (fun _ hΓ => looks_toStr ttOk (hΓ.get 1 Z) Z Z Z Z Z Z Z Z Z) ?_
   refine R0 ?_
   have r3 : (bstr ([(toU8 (IntKind.i64.wrap (48 + (-(Int.tmod x_ 10)))))])).size = 1 := bstr_size _
   refine WX.see Z Z Z (fun _ hΓ => looks_cat Z Z Z (by have := bd_le (n + 9); simp; omega)) ?_
   refine R0 ?_
   refine WX.see Z Z Z (fun _ hΓ => looks_quo Z Z Z τ9) ?_
   refine R0 ?_
   exact WX.iter (((bstr ([(toU8 (IntKind.i64.wrap (48 + (-(Int.tmod x_ 10)))))])) ++ s), IntKind.i64.wrap (Int.tdiv x_ 10)) ⟨τ5, (i64_wrap _), (fiInv_step (bstr_size _) (by simpa using h2) v3), (by rw [v4]; rw [a2l]; simp only [h2, h3, h3d, cT, cF, ↓reduceIte, Bool.false_eq_true])⟩ (wrap_quoN (by simpa using h2)) (.cons Z (.cons Z (.cons Z (.nil)))) .nil .nil [] Z
  have h3d := B.df h3
  refine R0 ?_
  refine WX.see Z Z Z (fun _ hΓ => looks_wrap Z Z Z Z) ?_
  refine WX.see Z Z Z (fun _ hΓ => looks_toU8 ttOk Z Z Z Z Z Z) ?_
  refine WX.bld ttOk Z Z Z Z Z Z Z ?_
  intro p2
  refine WX.turn [] 3 Z (fun h hs => ol_one (α := UInt8) (a := (toU8 (IntKind.i64.wrap (48 + (Int.tmod x_ 10))))) (x := ()) hs) (gs := [MF.ol [.int .u8 ((toU8 (IntKind.i64.wrap (48 + (Int.tmod x_ 10)))).toNat : Nat)] ([(toU8 (IntKind.i64.wrap (48 + (Int.tmod x_ 10))))] : List UInt8)]) Z ?_
  refine WX.seal 22 3 4 Z Z Z Z Z ?_
  refine WX.see Z Z Z (fun _ hΓ => looks_toStr ttOk (hΓ.get 4 Z) Z Z Z Z Z Z Z Z Z) ?_
  refine R0 ?_
  have r4 : (bstr ([(toU8 (IntKind.i64.wrap (48 + (Int.tmod x_ 10))))])).size = 1 := bstr_size _
  refine WX.see Z Z Z (fun _ hΓ => looks_cat Z Z Z (by have := bd_le (n + 9); simp; omega)) ?_
  refine R0 ?_
  refine WX.see Z Z Z (fun _ hΓ => looks_quo Z Z Z τ9) ?_
  refine R0 ?_
  exact WX.iter (((bstr ([(toU8 (IntKind.i64.wrap (48 + (Int.tmod x_ 10))))])) ++ s), IntKind.i64.wrap (Int.tdiv x_ 10)) ⟨τ5, (i64_wrap _), (fiInv_step (bstr_size _) (by simpa using h2) v3), (by rw [v4]; rw [a2l]; simp only [h2, h3, h3d, cT, cF, ↓reduceIte, Bool.false_eq_true])⟩ (wrap_quoN (by simpa using h2)) (.cons Z (.cons Z (.cons Z (.nil)))) .nil .nil [] Z
 have h2d := B.nf' h2
 refine R0 ?_
 have hX1 : a2l (⟨#[]⟩ : Str) n_ = (s, x_) := by rw [v4]; rw [a2l]; simp only [h2, cT, cF, ↓reduceIte, Bool.false_eq_true]
 refine WX.cases 27 Z ?_ ?_ <;> intro h4
 ·skip
  have h4d := B.dt h4
  refine R0 ?_
  have r5 : (⟨#[45]⟩ : Str).size = 1 := rfl
  refine WX.see Z Z Z (fun _ hΓ => looks_cat Z Z Z (by have := bd_le (n + 9); simp; omega)) ?_
  refine R0 ?_
  have hP2 : a1d n_ = ((⟨#[45]⟩ : Str) ++ s) := by simp only [a1d, h1, hX1, h4, cT, cF]
  refine R1 ?_
  intro w1 G bs hI hΓ
  rw [hP2]
  exact ⟨Z, (show (((⟨#[45]⟩ : Str) ++ s)).size ≤ bd n from τ3)⟩
 have h4d := B.df h4
 refine R0 ?_
 have hP3 : a1d n_ = s := by simp only [a1d, h1, hX1, h4, cT, cF]
 refine R1 ?_
 intro w1 G bs hI hΓ
 rw [hP3]
 exact ⟨Z, v1⟩
theorem f79 (w : World) (n : Nat) (hn : n + 0 ≤ 0) (parts : (List Str)) (K0 M0) (N0 : RdSl (hp w) K0 M0 parts) (hokparts : GoT.ok n parts) :
 Does Tryz.prog 79 #[.slice K0 ((parts).length) M0] w emp (fun (rv : Value) (_ : World) => rv = .string (a3s parts) ∧ GoT.ok 10 ((a3s parts) : Str)) := by
 have hb := bS0 (by omega : n + 0 ≤ 9)
 have hn0 : bd n = 1048576 := by rw [show n = 0 by omega]; rfl
 have hbT : bd 10 = 9223372036854775807 := rfl
 refine EN Tryz.func79 Z (aS1 N0) ?_
 refine R0 ?_
 refine WX.cases 5 Z ?_ ?_ <;> intro h1
 ·skip
  have h1d := B.et h1
  refine R0 ?_
  have hP1 : a3s parts = (⟨#[47]⟩ : Str) := by simp only [a3s, h1, cT, cF]
  refine R1 ?_
  intro w1 G bs hI hΓ
  rw [hP1]
  exact ⟨Z, (Nat.le_trans τ9 (bd_pos 10))⟩
 have h1d := B.ef h1
 refine R0 ?_
 refine CV Z Z Z Z Z O Z (fun w γ => f101 w n τ1 parts K0 M0 (γ.q 0 Z) (⟨#[47]⟩ : Str) (by intro z_; simp_all) τ1 τ9 hokparts (Nat.le_trans τ9 (bd_pos n))) ?_
 intro hq1
 have q1 := joinS_size (s := (⟨#[47]⟩ : Str)) hn0 (show GoT.ok n parts by assumption) τ9
 have r1 : (⟨#[47]⟩ : Str).size = 1 := rfl
 have r2 : (parts).length ≤ bd n := (okl hokparts).1
 have r3 : (joinS parts (⟨#[47]⟩ : Str)).size ≤ bd 10 := hq1
 refine WX.see Z Z Z (fun _ hΓ => looks_cat Z Z Z (by have := bd_le (n + 9); simp; omega)) ?_
 refine R0 ?_
 have hP2 : a3s parts = ((⟨#[47]⟩ : Str) ++ (joinS parts (⟨#[47]⟩ : Str))) := by simp only [a3s, h1, cT, cF]
 refine R1 ?_
 intro w1 G bs hI hΓ
 rw [hP2]
 exact ⟨Z, (show (((⟨#[47]⟩ : Str) ++ (joinS parts (⟨#[47]⟩ : Str)))).size ≤ bd 10 from τ3)⟩
theorem f49 (w : World) (n : Nat) (hn : n + 0 ≤ 0) (n_ : Name) (K0 M0) (N0 : RdSl (hp w) K0 M0 n_.parts) (hokn_ : GoT.ok n n_) :
 Does Tryz.prog 49 #[.agg #[.slice K0 ((n_.parts).length) M0]] w emp (fun (rv : Value) (_ : World) => rv = .string (a27 n_) ∧ GoT.ok 10 ((a27 n_) : Str)) := by
 have hb := bS0 (by omega : n + 0 ≤ 9)
 have hn0 : bd n = 1048576 := by rw [show n = 0 by omega]; rfl
 have hbT : bd 10 = 9223372036854775807 := rfl
 refine EN Tryz.func49 Z (aS1 N0) ?_
 refine R0 ?_
 refine CV Z Z Z Z Z O Z (fun w γ => f79 w n τ1 n_.parts K0 M0 (γ.q 0 Z) (ok_Name hokn_)) ?_
 intro hq1
 refine R0 ?_
 have hP1 : a27 n_ = (a3s n_.parts) := by simp only [a27, cT, cF]
 refine R1 ?_
 intro w1 G bs hI hΓ
 rw [hP1]
 exact ⟨Z, hq1⟩
theorem f51 (w : World) (n : Nat) (hn : n + 0 ≤ 0) (n_ : Name) (K0 M0) (N0 : RdSl (hp w) K0 M0 n_.parts) (hokn_ : GoT.ok n n_) :
 Does Tryz.prog 51 #[.agg #[.slice K0 ((n_.parts).length) M0]] w emp (fun (rv : Value) (_ : World) => rv = .string (a1y n_) ∧ GoT.ok 10 ((a1y n_) : Str)) := by
 have hb := bS0 (by omega : n + 0 ≤ 9)
 have hn0 : bd n = 1048576 := by rw [show n = 0 by omega]; rfl
 have hbT : bd 10 = 9223372036854775807 := rfl
 refine EN Tryz.func51 Z (aS1 N0) ?_
 refine R0 ?_
 have r1 : (⟨#[]⟩ : Str).size = 0 := rfl
 have r2 : (n_.parts).length ≤ bd n := (okl (ok_Name hokn_)).1
 refine WX.loop (ι := Str × Nat) ⟨fun | (s, i) => (i ≤ (n_.parts).length) ∧ (s.size ≤ bd 10) ∧ (s.size ≤ i * 1048577) ∧ (a3i n_.parts (⟨#[]⟩ : Str) = a3i ((n_.parts).drop i) s), fun | (s, i) => (n_.parts).length - i, fun | (s, i) => [(3, .v (.string s)), (4, .v (.int .i64 (((i : Nat) : Int)))), (1, .p 1 0)], fun | (s, i) => [(1, ⟨26, [.slice K0 ((n_.parts).length) M0]⟩)], fun | (s, i) => [], fun | (s, i) => [(0, MF.rs .stb K0 M0 n_.parts)]⟩ ((⟨#[]⟩ : Str), 0) ⟨(Nat.zero_le _), τ6, τ9, Z⟩
  (.cons Z (.cons Z (.cons Z (.nil)))) (.cons Z (.nil)) .nil [0] Z ?_
 rintro ⟨s, i⟩ ⟨v1, v2, v3, v4⟩
 refine R0 ?_
 refine WX.cases 9 Z ?_ ?_ <;> intro h1
 ·skip
  have h1d := B.dt h1
  have e1i : i < (n_.parts).length := τ1
  obtain ⟨e1, e1h⟩ : ∃ e1, (n_.parts)[i]? = some e1 := ⟨_, List.getElem?_eq_getElem e1i⟩
  have ok1 : GoT.ok n e1 := (okl (ok_Name hokn_)).2 _ (List.mem_of_getElem? e1h)
  refine R0 ?_
  have r3 : (⟨#[47]⟩ : Str).size = 1 := rfl
  refine WX.see Z Z Z (fun _ hΓ => looks_cat Z Z Z (by have := bd_le (n + 9); simp; omega)) ?_
  refine R0 ?_
  refine WX.idx 0 i ttOk Z Z Z Z Z Z Z Z Z Z e1i ?_
  rintro ad1 rfl
  refine WX.ldE 0 1 e1 ttOk Z Z Z Z Z Z Z Z e1h O O ?_
  rintro ⟨⟩
  have r4 : (e1).size ≤ bd n := ok1
  refine WX.see Z Z Z (fun _ hΓ => looks_cat Z Z Z (by have := bd_le (n + 9); simp; omega)) ?_
  refine R0 ?_
  refine WX.see Z Z Z (fun _ hΓ => looks_arith Z Z Z Z τ2) ?_
  refine R0 ?_
  exact WX.iter (((s ++ (⟨#[47]⟩ : Str)) ++ e1), i + 1) ⟨τ1, τ5, (by rw [ByteArray.size_append, ByteArray.size_append]; omega), (by rw [v4, drop_get e1h]; simp only [a3i, cT, cF])⟩ τ4 (.cons Z (.cons Z (.cons Z (.nil)))) (.cons Z (.nil)) .nil [0] Z
 have h1d := B.df h1
 refine R0 ?_
 have hX1 : a3i n_.parts (⟨#[]⟩ : Str) = s := by rw [v4, List.drop_eq_nil_of_le (show (n_.parts).length ≤ i by omega)]; simp only [a3i, cT, cF]
 refine WX.cases 23 Z ?_ ?_ <;> intro h2
 ·skip
  have h2d := B.et h2
  refine R0 ?_
  have hP1 : a1y n_ = (⟨#[47]⟩ : Str) := by simp only [a1y, hX1, h2, cT, cF]
  refine R1 ?_
  intro w1 G bs hI hΓ
  rw [hP1]
  exact ⟨Z, (Nat.le_trans τ9 (bd_pos 10))⟩
 have h2d := B.ef h2
 refine R0 ?_
 have hP2 : a1y n_ = s := by simp only [a1y, hX1, h2, cT, cF]
 refine R1 ?_
 intro w1 G bs hI hΓ
 rw [hP2]
 exact ⟨Z, v2⟩
theorem f21 (w : World) (n : Nat) (hn : n + 0 ≤ 0) (a : Consumer) (K0 M0) (N0 : RdSl (hp w) K0 M0 a.name.parts) (K1 M1) (N1 : RdSl (hp w) K1 M1 a.data.name.parts) (K2 M2) (N2 : RdSl (hp w) K2 M2 a.data.content) (K3 M3) (N3 : RdSl (hp w) K3 M3 a.data.keyName.parts) (hq0 : Tb w) (hoka : GoT.ok n a) :
 Does Tryz.prog 21 #[.agg #[.int .i64 (a.node), .int .i64 (a.index), .slice K0 ((a.name.parts).length) M0, .int .i64 (a.attempts), .int .i64 (a.wait), .bool a.satisfied, .slice K1 ((a.data.name.parts).length) M1, .slice K2 ((a.data.content).length) M2, .slice K3 ((a.data.keyName.parts).length) M3, .int .i64 (a.data.freshUntil), .int .i64 (a.data.signature)]] w emp (fun (rv : Value) (_ : World) => rv = .string (a3j a) ∧ GoT.ok 10 ((a3j a) : Str)) := by
 have hb := bS0 (by omega : n + 0 ≤ 9)
 have hn0 : bd n = 1048576 := by rw [show n = 0 by omega]; rfl
 have hbT : bd 10 = 9223372036854775807 := rfl
 refine EN Tryz.func21 Z (aS4 N0 N1 N2 N3) ?_
 refine R0 ?_
 refine WX.callV Z Z Z Z Z O Z (fun w G bs hI hΓ => f48 w n τ1 a.attempts (Tb.kp hI hq0) ((ok_Consumer hoka).2.2.2.1)) ?_
 intro hq1
 refine R0 ?_
 refine WX.cases 8 Z ?_ ?_ <;> intro h1
 ·skip
  replace h1 : a.satisfied = true := h1
  refine R0 ?_
  refine WX.draw [] mixed ?_
  intro bs G0 hΓ0
  refine DX.takes (fuel := 7) ttOk [(0, true), (1, false), (4, true), (5, false), (9, true)] J Z ?_
  refine DX.callV 2 Z J Z Z Z Z Z Z O Z (fun w G bs hI hΓ => f48 w n τ1 a.node (Tb.kp hI hq0) ((ok_Consumer hoka).1)) ?_
  intro hq2
  have r1 : (⟨#[32]⟩ : Str).size = 1 := rfl
  have r2 : -9223372036854775808 ≤ a.node ∧ a.node ≤ 9223372036854775807 := (ok_Consumer hoka).1
  have r3 : (a1x a.node).size ≤ bd n := hq2
  refine DX.see 3 J Z Z Z Z (looks_cat Z Z Z (by have := bd_le (n + 9); simp; omega)) ?_
  refine DXV 6 Z J Z Z Z Z Z Z O Z (fun w γ => f49 w n τ1 a.name K0 M0 (γ.q 0 Z) ((ok_Consumer hoka).2.2.1)) ?_
  intro hq3
  have q1 := fnm_impl hn0 (show GoT.ok n a.name from (ok_Consumer hoka).2.2.1)
  have r4 : (a27 a.name).size ≤ bd 10 := hq3
  refine DX.see 7 J Z Z Z Z (looks_cat Z Z Z (by have := bd_le (n + 9); simp; omega)) ?_
  refine DX.see 8 J Z Z Z Z (looks_cat Z Z Z (by have := bd_le (n + 9); simp; omega)) ?_
  have r5 : (⟨#[111, 107]⟩ : Str).size = 2 := rfl
  refine DX.see 10 J Z Z Z Z (looks_cat Z Z Z (by have := bd_le (n + 9); simp; omega)) ?_
  refine DX.takes (fuel := 0) ttOk [(11, true)] J Z ?_
  refine DX.tail2 [] Z Z J ?_
  refine R0 ?_
  have hP1 : a3j a = (((((a1x a.node) ++ (⟨#[32]⟩ : Str)) ++ (a27 a.name)) ++ (⟨#[32]⟩ : Str)) ++ (⟨#[111, 107]⟩ : Str)) := by simp only [a3j, h1, cT, cF]
  refine R1 ?_
  intro w1 G bs hI hΓ
  rw [hP1]
  exact ⟨Z, (show ((((((a1x a.node) ++ (⟨#[32]⟩ : Str)) ++ (a27 a.name)) ++ (⟨#[32]⟩ : Str)) ++ (⟨#[111, 107]⟩ : Str))).size ≤ bd 10 from τ3)⟩
 replace h1 : a.satisfied = false := h1
 refine R0 ?_
 refine WX.draw [] mixed ?_
 intro bs G0 hΓ0
 refine DX.takes (fuel := 7) ttOk [(0, true), (1, false), (4, true), (5, false), (9, true)] J Z ?_
 refine DX.callV 2 Z J Z Z Z Z Z Z O Z (fun w G bs hI hΓ => f48 w n τ1 a.node (Tb.kp hI hq0) ((ok_Consumer hoka).1)) ?_
 intro hq4
 have r6 : (⟨#[32]⟩ : Str).size = 1 := rfl
 have r7 : -9223372036854775808 ≤ a.node ∧ a.node ≤ 9223372036854775807 := (ok_Consumer hoka).1
 have r8 : (a1x a.node).size ≤ bd n := hq4
 refine DX.see 3 J Z Z Z Z (looks_cat Z Z Z (by have := bd_le (n + 9); simp; omega)) ?_
 refine DXV 6 Z J Z Z Z Z Z Z O Z (fun w γ => f49 w n τ1 a.name K0 M0 (γ.q 0 Z) ((ok_Consumer hoka).2.2.1)) ?_
 intro hq5
 have q2 := fnm_impl hn0 (show GoT.ok n a.name from (ok_Consumer hoka).2.2.1)
 have r9 : (a27 a.name).size ≤ bd 10 := hq5
 refine DX.see 7 J Z Z Z Z (looks_cat Z Z Z (by have := bd_le (n + 9); simp; omega)) ?_
 refine DX.see 8 J Z Z Z Z (looks_cat Z Z Z (by have := bd_le (n + 9); simp; omega)) ?_
 have r10 : -9223372036854775808 ≤ a.attempts ∧ a.attempts ≤ 9223372036854775807 := (ok_Consumer hoka).2.2.2.1
 have r11 : (a1x a.attempts).size ≤ bd n := hq1
 refine DX.see 10 J Z Z Z Z (looks_cat Z Z Z (by have := bd_le (n + 9); simp; omega)) ?_
 refine DX.takes (fuel := 0) ttOk [(11, true)] J Z ?_
 refine DX.tail2 [] Z Z J ?_
 refine R0 ?_
 have hP2 : a3j a = (((((a1x a.node) ++ (⟨#[32]⟩ : Str)) ++ (a27 a.name)) ++ (⟨#[32]⟩ : Str)) ++ (a1x a.attempts)) := by simp only [a3j, h1, cT, cF]
 refine R1 ?_
 intro w1 G bs hI hΓ
 rw [hP2]
 exact ⟨Z, (show ((((((a1x a.node) ++ (⟨#[32]⟩ : Str)) ++ (a27 a.name)) ++ (⟨#[32]⟩ : Str)) ++ (a1x a.attempts))).size ≤ bd 10 from τ3)⟩
theorem f22 (w : World) (n : Nat) (hn : n + 0 ≤ 0) (a : Consumer) (K0 M0) (N0 : RdSl (hp w) K0 M0 a.name.parts) (K1 M1) (N1 : RdSl (hp w) K1 M1 a.data.name.parts) (K2 M2) (N2 : RdSl (hp w) K2 M2 a.data.content) (K3 M3) (N3 : RdSl (hp w) K3 M3 a.data.keyName.parts) (hoka : GoT.ok n a) :
 Does Tryz.prog 22 #[.agg #[.int .i64 (a.node), .int .i64 (a.index), .slice K0 ((a.name.parts).length) M0, .int .i64 (a.attempts), .int .i64 (a.wait), .bool a.satisfied, .slice K1 ((a.data.name.parts).length) M1, .slice K2 ((a.data.content).length) M2, .slice K3 ((a.data.keyName.parts).length) M3, .int .i64 (a.data.freshUntil), .int .i64 (a.data.signature)]] w emp (fun (rv : Value) (_ : World) => rv = .string (a3k a) ∧ GoT.ok 10 ((a3k a) : Str)) := by
 have hb := bS0 (by omega : n + 0 ≤ 9)
 have hn0 : bd n = 1048576 := by rw [show n = 0 by omega]; rfl
 have hbT : bd 10 = 9223372036854775807 := rfl
 refine EN Tryz.func22 Z (aS4 N0 N1 N2 N3) ?_
 refine R0 ?_
 refine WX.draw [] mixed ?_
 intro bs G0 hΓ0
 refine DX.takes (fuel := 5) ttOk [(0, true), (1, false), (4, true), (5, false)] J Z ?_
 refine DXV 2 Z J Z Z Z Z Z Z O Z (fun w γ => f50 w n τ1 a.node ((ok_Consumer hoka).1)) ?_
 intro hq1
 have r1 : (⟨#[32]⟩ : Str).size = 1 := rfl
 have r2 : -9223372036854775808 ≤ a.node ∧ a.node ≤ 9223372036854775807 := (ok_Consumer hoka).1
 have r3 : (a1d a.node).size ≤ bd n := hq1
 refine DX.see 3 J Z Z Z Z (looks_cat Z Z Z (by have := bd_le (n + 9); simp; omega)) ?_
 refine DXV 6 Z J Z Z Z Z Z Z O Z (fun w γ => f51 w n τ1 a.name K0 M0 (γ.q 0 Z) ((ok_Consumer hoka).2.2.1)) ?_
 intro hq2
 have q1 := fnm_spec hn0 (show GoT.ok n a.name from (ok_Consumer hoka).2.2.1)
 have r4 : (a1y a.name).size ≤ bd 10 := hq2
 refine DX.see 7 J Z Z Z Z (looks_cat Z Z Z (by have := bd_le (n + 9); simp; omega)) ?_
 refine DX.takes (fuel := 0) ttOk [(8, true)] J Z ?_
 refine DX.tail2 [] Z Z J ?_
 refine R0 ?_
 refine WX.cases 13 Z ?_ ?_ <;> intro h1
 ·skip
  replace h1 : a.satisfied = true := h1
  refine R0 ?_
  have r5 : (⟨#[32, 111, 107]⟩ : Str).size = 3 := rfl
  refine WX.see Z Z Z (fun _ hΓ => looks_cat Z Z Z (by have := bd_le (n + 9); simp; omega)) ?_
  refine R0 ?_
  have hP1 : a3k a = ((((a1d a.node) ++ (⟨#[32]⟩ : Str)) ++ (a1y a.name)) ++ (⟨#[32, 111, 107]⟩ : Str)) := by simp only [a3k, h1, cT, cF]
  refine R1 ?_
  intro w1 G bs hI hΓ
  rw [hP1]
  exact ⟨Z, (show (((((a1d a.node) ++ (⟨#[32]⟩ : Str)) ++ (a1y a.name)) ++ (⟨#[32, 111, 107]⟩ : Str))).size ≤ bd 10 from τ3)⟩
 replace h1 : a.satisfied = false := h1
 refine R0 ?_
 refine WX.see Z Z Z (fun _ hΓ => looks_cat Z Z Z (by have := bd_le (n + 9); simp; omega)) ?_
 refine R0 ?_
 refine CV Z Z Z Z Z O Z (fun w γ => f50 w n τ1 a.attempts ((ok_Consumer hoka).2.2.2.1)) ?_
 intro hq3
 have r6 : -9223372036854775808 ≤ a.attempts ∧ a.attempts ≤ 9223372036854775807 := (ok_Consumer hoka).2.2.2.1
 have r7 : (a1d a.attempts).size ≤ bd n := hq3
 refine WX.see Z Z Z (fun _ hΓ => looks_cat Z Z Z (by have := bd_le (n + 9); simp; omega)) ?_
 refine R0 ?_
 have hP2 : a3k a = (((((a1d a.node) ++ (⟨#[32]⟩ : Str)) ++ (a1y a.name)) ++ (⟨#[32]⟩ : Str)) ++ (a1d a.attempts)) := by simp only [a3k, h1, cT, cF]
 refine R1 ?_
 intro w1 G bs hI hΓ
 rw [hP2]
 exact ⟨Z, (show ((((((a1d a.node) ++ (⟨#[32]⟩ : Str)) ++ (a1y a.name)) ++ (⟨#[32]⟩ : Str)) ++ (a1d a.attempts))).size ≤ bd 10 from τ3)⟩
end Go.Proofs.YthdgpfbldbabmaaGreatDoor

namespace Go.Stp
set_option linter.unusedVariables false
set_option linter.unusedSimpArgs false
theorem same_In (a b c : Int) : a0r a b c = a0m a b c := rfl
theorem sEqL_string : ∀ (a b p : List Str), a.length = b.length → slices_Equal_string_L1 (p ++ b) a p.length = (if a.map (fun z : Str => z.toList) = b.map (fun z : Str => z.toList) then none else some false)
 | [], [], p, _ => by simp [slices_Equal_string_L1]
 | x :: a, y :: b, p, h => by
  have ih := sEqL_string a b (p ++ [y]) (by simpa using h)
  rw [mid_app, mid_len] at ih
  simp only [slices_Equal_string_L1, mid]
  by_cases hxy : x.toList = y.toList
  ·simp [hxy, ih]
  ·have hb : (x.toList == y.toList) = false := by simpa using hxy
   simp [hb, hxy]
theorem sEq_string (a b : List Str) : slices_Equal_string a b = decide (a.map (fun z : Str => z.toList) = b.map (fun z : Str => z.toList)) := by
 unfold slices_Equal_string
 by_cases hl : a.length = b.length
 ·have h := sEqL_string a b [] hl
  simp only [List.nil_append, List.length_nil] at h
  simp only [hl, bne_self_F, cond_false, h]
  split <;> simp_all
 ·have hne : a.map (fun z : Str => z.toList) ≠ b.map (fun z : Str => z.toList) := fun h => hl (by simpa using congrArg List.length h)
  have hn : ((a.length : Int) != (b.length : Int)) = true := by simp; omega
  simp [hn, hne]
theorem sEqL_byte : ∀ (a b p : List UInt8), a.length = b.length → slices_Equal_byte_L1 (p ++ b) a p.length = (if a = b then none else some false)
 | [], [], p, _ => by simp [slices_Equal_byte_L1]
 | x :: a, y :: b, p, h => by
  have ih := sEqL_byte a b (p ++ [y]) (by simpa using h)
  rw [mid_app, mid_len] at ih
  simp only [slices_Equal_byte_L1, mid]
  by_cases hxy : x = y
  ·simp [hxy, ih]
  ·have hn : ((x.toNat : Int) != (y.toNat : Int)) = true := by
    have : x.toNat ≠ y.toNat := fun h => hxy (UInt8.toNat_inj.mp h)
    simp; omega
   simp [hn, hxy]
theorem sEq_byte (a b : List UInt8) : slices_Equal_byte a b = decide (a = b) := by
 unfold slices_Equal_byte
 by_cases hl : a.length = b.length
 ·have h := sEqL_byte a b [] hl
  simp only [List.nil_append, List.length_nil] at h
  simp only [hl, bne_self_F, cond_false, h]
  split <;> simp_all
 ·have hne : a ≠ b := fun h => hl (by rw [h])
  have hn : ((a.length : Int) != (b.length : Int)) = true := by simp; omega
  simp [hn, hne]
theorem cNL : ∀ (a b p : List Str), match a1o ⟨p ++ b⟩ a p.length with
  | some k => k ≠ 0 ∧ a.map (fun z : Str => z.toList) ≠ b.map (fun z : Str => z.toList)
  | none => a.length = b.length → a.map (fun z : Str => z.toList) = b.map (fun z : Str => z.toList)
 | [], b, p => by
  simp only [a1o]
  intro h
  cases b with
  | nil => rfl
  | cons => simp at h
 | x :: a, [], p => by simp [a1o]
 | x :: a, y :: b, p => by
  have ih := cNL a b (p ++ [y])
  rw [mid_app, mid_len] at ih
  have hlt : decide (((p.length : Nat) : Int) < (((p ++ y :: b).length : Nat) : Int)) = true := by simp; omega
  simp only [a1o, hlt, cond_true, mid]
  by_cases hk : a21 x y = 0
  ·have e : x.toList = y.toList := (l4_zero _ _).1 hk
   rw [hk]
   simp only [bne_self_F, cond_false]
   revert ih
   cases a1o ⟨p ++ y :: b⟩ a (p.length + 1) with
   | none => intro ih h; simp [e, ih (by simpa using h)]
   | some k => intro ih; exact ⟨ih.1, fun h => ih.2 (by simpa [e] using h)⟩
  ·have hn : (a21 x y != 0) = true := by simpa using hk
   simp only [hn, cond_true]
   exact ⟨hk, fun h => hk ((l4_zero _ _).2 (by simp at h; exact h.1))⟩
theorem same_EqualNames (a b : Name) : a2d a b = a22 a b := by
 unfold a2d a22 a1p
 rw [sEq_string]
 have h : match a1o b a.parts 0 with
  | some k => k ≠ 0 ∧ a.parts.map (fun z : Str => z.toList) ≠ b.parts.map (fun z : Str => z.toList)
  | none => a.parts.length = b.parts.length → a.parts.map (fun z : Str => z.toList) = b.parts.map (fun z : Str => z.toList) := cNL a.parts b.parts []
 revert h
 cases a1o b a.parts 0 with
 | some k => intro ⟨h1, h2⟩; simp [h1, h2]
 | none =>
  intro h
  by_cases hl : a.parts.length = b.parts.length
  ·simp [h hl, hl]
  ·have ne : a.parts.map (fun z : Str => z.toList) ≠ b.parts.map (fun z : Str => z.toList) := fun h => hl (by simpa using congrArg List.length h)
   rcases Nat.lt_or_gt_of_ne hl with c | c
   ·simp [ne, c]
   ·have c' : ¬ a.parts.length < b.parts.length := by omega
    simp [ne, c, c']
theorem same_EqualBytes (a b : List UInt8) : slices_Equal_byte a b = a4b a b := by
 rw [sEq_byte]
 unfold a4b bstr
 rw [ByteArray.toList_mk, ByteArray.toList_mk]
 by_cases e : a = b
 ·simp [e]
 ·have hb : (a == b) = false := by simpa using e
  simp [hb, e]
theorem same_EqualData (a b : DataP) : a2w a b = a3u a b := by
 simp only [a2w, a3u, same_EqualNames, same_EqualBytes]
theorem vPL : ∀ l : List UInt8, a0p l = a1u l ∧ (a1u l = none ∨ a1u l = some false)
 | [] => ⟨rfl, .inl rfl⟩
 | c :: l => by
  obtain ⟨h1, h2⟩ := vPL l
  simp only [a0p, a1u, h1, a0m, ge_iff_le]
  cases decide ((97 : Int) ≤ (c.toNat : Int)) <;> cases decide ((c.toNat : Int) ≤ 122) <;> cases decide ((48 : Int) ≤ (c.toNat : Int)) <;> cases decide ((c.toNat : Int) ≤ 57) <;> cases hc : ((c.toNat : Int) == 45) <;> simp [bne, hc, h2]
theorem same_ValidPart (s : Str) : a2x s = a1f s := by
 unfold a2x a1f
 obtain ⟨h1, h2⟩ := vPL s.data.toList
 rw [h1, same_In]
 rcases h2 with h | h <;> rw [h] <;> cases a0m (((s).size : Nat) : Int) 1 8 <;> rfl
theorem iF_string : ∀ (f : Str → Bool) (l : List Str) (i : Nat), (slices_IndexFunc_string_L1 f l i = none ∧ l.any f = false) ∨ ∃ j : Nat, slices_IndexFunc_string_L1 f l i = some (j : Int) ∧ l.any f = true
 | f, [], i => .inl ⟨rfl, rfl⟩
 | f, x :: l, i => by
  simp only [slices_IndexFunc_string_L1, List.any_cons]
  cases hx : f x
  ·simpa using iF_string f l (i + 1)
  ·exact .inr ⟨i, rfl, rfl⟩
theorem cF_string (l : List Str) (f : Str → Bool) : slices_ContainsFunc_string l f = l.any f := by
 unfold slices_ContainsFunc_string slices_IndexFunc_string
 rcases iF_string f l 0 with ⟨h1, h2⟩ | ⟨j, h1, h2⟩ <;> simp [h1, h2]
theorem vNL : ∀ l : List Str, a1j l = bif l.any (fun e => !(a1f e)) then some false else none
 | [] => rfl
 | x :: l => by
  simp only [a1j, List.any_cons]
  cases (!(a1f x)) <;> simp [vNL l]
theorem same_ValidName (a : Name) : a23 a = a13 a := by
 unfold a23 a13 a4c
 rw [cF_string, vNL]
 simp only [same_ValidPart]
 cases a.parts.any (fun e => !(a1f e)) <;> cases decide ((((a.parts).length : Nat) : Int) ≤ 6) <;> rfl
theorem same_ValidData (a : DataP) : a3c a = a24 a := by
 simp only [a3c, a24, same_ValidName, same_In]
theorem same_ValidConsumer' (a : Consumer) : a0h a = a28 a := by
 simp only [a0h, a28, same_ValidData, same_ValidName, same_EqualData, same_EqualNames, same_In]
end Go.Stp

namespace Go.Stp
set_option linter.unusedVariables false
set_option linter.unusedSimpArgs false
theorem same_isVariable (s : Str) : a3p s = a2a s := by
 simp only [a3p, a2a, a0m]
theorem wrap_len1 {n : Nat} (h : n ≤ 9223372036854775807) : IntKind.i64.wrap ((n : Int) - 1) = (n : Int) - 1 := by
 simp [IntKind.wrap, IntKind.bits, IntKind.signed]
 omega
theorem vpL (p_ : Pattern) (hp : p_.parts.length ≤ 9223372036854775807) : ∀ (l : List Str) (i : Nat), i + l.length = p_.parts.length → a1k p_ l i = a12 p_ l i
 | [], i, _ => rfl
 | x :: l, i, h => by
  rw [List.length_cons] at h
  have ih := vpL p_ hp l (i + 1) (by omega)
  have e : (((i : Nat) : Int) != IntKind.i64.wrap (((p_.parts.length : Nat) : Int) - 1)) = decide (((i : Nat) : Int) < IntKind.i64.wrap (((p_.parts.length : Nat) : Int) - 1)) := by
   rw [wrap_len1 hp]
   by_cases hc : ((i : Nat) : Int) < ((p_.parts.length : Nat) : Int) - 1
   ·rw [decide_eq_true hc]; simp only [bne, beq_eq_false_iff_ne.2 (show ((i : Nat) : Int) ≠ ((p_.parts.length : Nat) : Int) - 1 by omega), Bool.not_false]
   ·rw [decide_eq_false hc, show ((i : Nat) : Int) = ((p_.parts.length : Nat) : Int) - 1 by omega, bne_self_eq_false]
  simp only [a1k, a12, same_ValidPart, same_isVariable, ih, e]
theorem same_ValidPattern (p_ : Pattern) (hp : p_.parts.length ≤ 9223372036854775807) : a40 p_ = a2b p_ := by
 simp only [a40, a2b, vpL p_ hp p_.parts 0 (Nat.zero_add _)]
theorem ixsL (v : Str) : ∀ (l : List Str) (i : Nat), (slices_Index_string_L1 v l i = none ∧ a34 v l = none) ∨ (∃ j : Nat, slices_Index_string_L1 v l i = some (j : Int)) ∧ a34 v l = some true
 | [], i => .inl ⟨rfl, rfl⟩
 | x :: l, i => by
  simp only [slices_Index_string_L1, a34]
  have e : (v.toList == x.toList) = (x.toList == v.toList) := BEq.comm
  rw [e]
  cases x.toList == v.toList
  ·exact ixsL v l (i + 1)
  ·exact .inr ⟨⟨i, rfl⟩, rfl⟩
theorem same_l10Has (p_ : Pattern) (v : Str) : slices_Contains_string p_.parts v = a4h p_ v := by
 unfold slices_Contains_string slices_Index_string a4h
 rcases ixsL v p_.parts 0 with ⟨h1, h2⟩ | ⟨⟨j, h1⟩, h2⟩
 ·rw [h1, h2]; rfl
 ·rw [h1, h2]
  exact decide_eq_true (show ((j : Nat) : Int) ≥ 0 by omega)
theorem vrL (r : Rule) : ∀ (l : List Str), a2u r l = a2v r l
 | [] => rfl
 | x :: l => by
  simp only [a2u, a2v, same_isVariable, same_l10Has, vrL r l]
theorem same_ValidRule (r : Rule) (h : GoT.ok 10 r) : a47 r = a35 r := by
 have h1 : r.dataPattern.parts.length ≤ 9223372036854775807 := (okl (ok_Pattern (ok_Rule h).1)).1
 have h2 : r.keyPattern.parts.length ≤ 9223372036854775807 := (okl (ok_Pattern (ok_Rule h).2)).1
 simp only [a47, a35, same_ValidPattern _ h1, same_ValidPattern _ h2, vrL]
end Go.Stp

namespace Go.Stp
set_option linter.unusedVariables false
set_option linter.unusedSimpArgs false
theorem i64w {x : Int} (h : -9223372036854775808 ≤ x ∧ x ≤ 9223372036854775807) : IntKind.i64.wrap x = x := by
 simp [IntKind.wrap, IntKind.bits, IntKind.signed]
 omega
theorem ofI64 {x : Int} (h : 0 ≤ x ∧ x ≤ 9223372036854775807) : (BitVec.ofInt 64 x).toNat = x.toNat := by
 rw [BitVec.toNat_ofInt]
 omega
set_option maxRecDepth 100000 in
theorem m128 : ∀ m : Fin 256, m.val ||| 128 = ((m.val &&& 127) ||| 128) := by decide
theorem byteE {n : Int} (h : 0 ≤ n ∧ n ≤ 1000000000000) : ((toU8 n) ||| (128 : UInt8)) = toU8 (bitO .or (bitO .and n 127) 128) := by
 apply UInt8.toNat_inj.1
 have a1 : bitO .and n 127 = ((n.toNat &&& 127 : Nat) : Int) := by
  have h2 : (BitVec.ofInt 64 (127 : Int)).toNat = 127 := by decide
  have h3 : n.toNat &&& 127 ≤ 127 := Nat.and_le_right
  simp only [bitO, BitVec.toNat_and, ofI64 (x := n) (by omega), h2]
  exact i64w (by omega)
 have h3 : n.toNat &&& 127 ≤ 127 := Nat.and_le_right
 have h4 : (n.toNat &&& 127) ||| 128 < 2 ^ 8 := Nat.or_lt_two_pow (by omega) (by decide)
 have a2 : bitO .or (bitO .and n 127) 128 = ((((n.toNat &&& 127) ||| 128 : Nat)) : Int) := by
  have h2 : (BitVec.ofInt 64 (128 : Int)).toNat = 128 := by decide
  rw [a1]
  simp only [bitO, BitVec.toNat_or, ofI64 (x := ((n.toNat &&& 127 : Nat) : Int)) (by omega), h2, Int.toNat_natCast]
  exact i64w (by omega)
 rw [a2, UInt8.toNat_or]
 have b1 : (toU8 n).toNat = n.toNat % 256 := by
  unfold toU8
  rw [UInt8.toNat_ofNat']
  omega
 have b2 : (toU8 ((((n.toNat &&& 127) ||| 128 : Nat)) : Int)).toNat = (n.toNat &&& 127) ||| 128 := by
  unfold toU8
  rw [UInt8.toNat_ofNat']
  omega
 have b3 : ((128 : UInt8)).toNat = 128 := rfl
 rw [b1, b2, b3]
 have h5 := m128 ⟨n.toNat % 256, Nat.mod_lt _ (by decide)⟩
 dsimp only at h5
 rw [h5]
 have h6 : n.toNat % 256 &&& 127 = n.toNat &&& 127 := by
  rw [show (127 : Nat) = 2 ^ 7 - 1 from rfl, Nat.and_two_pow_sub_one_eq_mod, Nat.and_two_pow_sub_one_eq_mod]
  omega
 rw [h6]
theorem avE : ∀ (m : Nat) (n : Int) (out : List UInt8) (k : Nat), avI n k → 5 - k = m → a2n n out = a2o n out
 | 0, n, out, k, h, hm => by
  have h1 := avI_len h
  have h2 : n < 128 := by unfold avI at h; omega
  rw [a2n, a2o, if_neg (by omega), if_neg (by omega)]
 | m + 1, n, out, k, h, hm => by
  rw [a2n, a2o]
  by_cases hn : n ≥ 128
  ·rw [if_pos hn, if_pos (by omega), sh7, byteE (avI_rng h)]
   exact avE m (n / 128) _ (k + 1) (avI_step h hn) (by omega)
  ·rw [if_neg hn, if_neg (by omega)]
theorem same_AppendVarint (b : List UInt8) (n_ : Int) : a10 b n_ = a11 b n_ := by
 unfold a10 a11
 rw [same_In]
 cases hr : a0m n_ 0 1000000000000
 ·rfl
 ·rw [avE 5 n_ b 0 (avI_0 (inR_specP hr)) rfl]
theorem same_AppendBytes (b s : List UInt8) : a2e b s = a2f b s := by
 simp only [a2e, a2f, same_AppendVarint]
theorem anE : ∀ (l : List Str) (o : List UInt8), a2p l o = a2q l o
 | [], o => rfl
 | x :: l, o => by simp only [a2p, a2q, same_AppendBytes, anE l]
theorem same_AppendName (b : List UInt8) (n_ : Name) : a07 b n_ = a01 b n_ := by
 simp only [a07, a01, same_ValidName, same_AppendVarint, anE]
theorem biT : ∀ (b : List UInt8) (l : List Int), a32 b l = a2y b l
 | [], _ => rfl
 | x :: b, l => by simp only [a32, a2y]; exact biT b _
theorem same_BytesToInts (b : List UInt8) : a05 b = a00 b := by simp only [a05, a00, biT]
theorem same_Mod (a b : Int) : a2s a b = a2r a b := by simp only [a2s, a2r, same_In]
theorem dgT : ∀ (l : List Int) (d : Int), a3y l d = a3w l d
 | [], _ => rfl
 | x :: l, d => by simp only [a3y, a3w, same_Mod]; exact dgT l _
theorem same_Digest (l : List Int) : a33 l = a30 l := by simp only [a33, a30, dgT]
theorem same_ComputeMAC (s : Int) (l : List Int) : a4d s l = a3x s l := by
 simp only [a4d, a3x, same_Digest, slices_Concat_int, slices_Grow_int, concL]
 simp
theorem same_SignedPortion (x : DataP) : a29 x = a2z x := by
 simp only [a29, a2z, slices_Concat_int, slices_Grow_int, concL, same_BytesToInts, same_AppendName]
 simp
theorem soT (n_ : Name) : ∀ (l : List Key) (i : Nat), (a36 n_ l = none ∧ a2c n_ l i = none) ∨ ∃ (j : Nat) (e : Key), a2c n_ l i = some ((i + j : Nat) : Int) ∧ l[j]? = some e ∧ a36 n_ l = some e.secret
 | [], _ => .inl ⟨rfl, rfl⟩
 | x :: l, i => by
  simp only [a36, a2c, same_EqualNames]
  cases h : a22 x.name n_
  ·simp only [cond_false]
   rcases soT n_ l (i + 1) with ⟨h1, h2⟩ | ⟨j, e, h1, h2, h3⟩
   ·exact .inl ⟨h1, h2⟩
   ·refine .inr ⟨j + 1, e, ?_, by simpa using h2, h3⟩
    rw [h1]
    congr 1
    omega
  ·simp only [cond_true]
   exact .inr ⟨0, x, rfl, rfl, rfl⟩
theorem same_SecretOf (l : List Key) (n_ : Name) : a15 l n_ = a0n l n_ := by
 unfold a15 a0n a1l
 rcases soT n_ l 0 with ⟨h1, h2⟩ | ⟨j, e, h1, h2, h3⟩
 ·rw [h1, h2]; rfl
 ·rw [h1, h3]
  simp only [Nat.zero_add, decide_eq_false (show ¬ ((j : Nat) : Int) < 0 by omega), cond_false, Int.toNat_natCast, h2]
theorem same_VerifySignature (l : List Key) (x : DataP) : a4i l x = a48 l x := by
 simp only [a4i, a48, a4n, a4m, same_SecretOf, same_ComputeMAC, same_SignedPortion, a4u, a4v, same_In]
theorem fbT (k : Str) : ∀ (l : List Binding) (i : Nat), slices_IndexFunc_Binding_L1 (fun e0_ => (a26 k e0_)) l i = a2i k l i
 | [], _ => rfl
 | x :: l, i => by
  have ih := fbT k l (i + 1)
  simp only [slices_IndexFunc_Binding_L1, a2i, ih]
  rfl
theorem same_l5Find (k : Str) (l : List Binding) : slices_IndexFunc_Binding l (fun e0_ => (a26 k e0_)) = a19 l k := by
 simp only [slices_IndexFunc_Binding, a19, fbT]
theorem mtT (n_ : Name) (l : List Binding) : ∀ (r : List Str) (i : Nat) (o : List Binding), a16 n_ l r i o = a0v n_ l r i o
 | [], _, _ => rfl
 | x :: r, i, o => by
  simp only [a16, a0v, same_l5Find, same_isVariable, mtT n_ l r]
  cases h1 : ((x).toList == ((⟨#[42, 42]⟩ : Str)).toList)
  ·simp only [cond_false]
   cases h2 : decide (((i : Nat) : Int) ≥ (((n_.parts).length : Nat) : Int))
   ·simp only [cond_false]
    have h3 : i < n_.parts.length := by have := of_decide_eq_false h2; omega
    obtain ⟨e, he⟩ : ∃ e, n_.parts[i]? = some e := ⟨_, List.getElem?_eq_getElem h3⟩
    simp only [he]
    cases h4 : ((x).toList == ((⟨#[42]⟩ : Str)).toList)
    ·simp only [cond_false]
     cases h5 : a2a x <;> simp only [Bool.not_true, Bool.not_false, cond_true, cond_false]
    ·rfl
   ·rfl
  ·rfl
theorem mtN (n_ : Name) (l : List Binding) : ∀ (r : List Str) (i : Nat) (o q : List Binding), a0v n_ l r i o = .nxt q → i ≤ n_.parts.length → i + r.length ≤ n_.parts.length
 | [], i, o, q, _, hi => by simpa using hi
 | x :: r, i, o, q, h, hi => by
  simp only [a0v] at h
  cases h1 : ((x).toList == ((⟨#[42, 42]⟩ : Str)).toList) <;> simp only [h1, cond_true, cond_false] at h
  ·cases h2 : decide (((i : Nat) : Int) ≥ (((n_.parts).length : Nat) : Int)) <;> simp only [h2, cond_true, cond_false] at h
   ·have h3 : i < n_.parts.length := by have := of_decide_eq_false h2; omega
    have go : ∀ o', a0v n_ l r (i + 1) o' = .nxt q → i + (x :: r).length ≤ n_.parts.length := fun o' h' => by
     have := mtN n_ l r (i + 1) o' q h' (by omega)
     rw [List.length_cons]; omega
    obtain ⟨e, he⟩ : ∃ e, n_.parts[i]? = some e := ⟨_, List.getElem?_eq_getElem h3⟩
    simp only [he] at h
    cases h4 : ((x).toList == ((⟨#[42]⟩ : Str)).toList) <;> simp only [h4, cond_true, cond_false] at h
    ·cases h5 : a2a x <;> simp only [h5, cond_true, cond_false] at h
     ·cases h6 : (!((x).toList == (e).toList)) <;> simp only [h6, cond_true, cond_false] at h
      ·exact go _ h
      ·cases h
     ·cases h6 : decide ((a19 o x) < 0) <;> simp only [h6, cond_true, cond_false] at h
      ·cases h7 : (o)[((a19 o x)).toNat]? with
       | none => simp only [h7] at h; cases h
       | some e3 =>
        simp only [h7] at h
        cases h8 : (!((e3.value).toList == (e).toList)) <;> simp only [h8, cond_true, cond_false] at h
        ·exact go _ h
        ·cases h
      ·exact go _ h
    ·exact go _ h
   ·cases h
  ·cases h
theorem same_Match (p_ : Pattern) (n_ : Name) (l : List Binding) (hp : p_.parts.length ≤ 9223372036854775807) : a0x p_ n_ l = a0w p_ n_ l := by
 unfold a0x a0w
 rw [same_ValidPattern p_ hp, same_ValidName, mtT]
 cases (!(a2b p_)) <;> simp only [cond_true, cond_false]
 cases (!(a13 n_)) <;> simp only [cond_true, cond_false]
 cases h : a0v n_ l p_.parts 0 l with
 | ret r => rfl
 | nxt q =>
  have h1 := mtN n_ l p_.parts 0 l q h (by omega)
  simp only
  by_cases h2 : n_.parts.length = p_.parts.length
  ·rw [decide_eq_false (show ¬ ((((n_.parts).length : Nat) : Int) > (((p_.parts).length : Nat) : Int)) by omega), h2]; simp
  ·rw [decide_eq_true (show ((((n_.parts).length : Nat) : Int) > (((p_.parts).length : Nat) : Int)) by omega)]
   have h3 : ((((n_.parts).length : Nat) : Int) != (((p_.parts).length : Nat) : Int)) = true := by rw [bne_iff_ne]; omega
   rw [h3]
theorem same_RuleAllows (r : Rule) (n_ k : Name) (h : GoT.ok 10 r) : a4f r n_ k = a4e r n_ k := by
 have h1 : r.dataPattern.parts.length ≤ 9223372036854775807 := (okl (ok_Pattern (ok_Rule h).1)).1
 have h2 : r.keyPattern.parts.length ≤ 9223372036854775807 := (okl (ok_Pattern (ok_Rule h).2)).1
 simp only [a4f, a4e, same_ValidRule r h, same_Match _ _ _ h1, same_Match _ _ _ h2]
theorem arT (n_ k : Name) : ∀ (l : List Rule) (i : Nat), (∀ r ∈ l, GoT.ok 10 r) → slices_IndexFunc_Rule_L1 (fun e0_ => (a41 n_ k e0_)) l i = a3f n_ k l i
 | [], _, _ => rfl
 | x :: l, i, h => by
  simp only [slices_IndexFunc_Rule_L1, a3f, a41, same_RuleAllows x _ _ (h x List.mem_cons_self)]
  have := arT n_ k l (i + 1) fun r hr => h r (List.mem_cons_of_mem _ hr)
  simp only [a41] at this
  rw [this]
theorem same_Allowed (l : List Rule) (n_ k : Name) (h : ∀ r ∈ l, GoT.ok 10 r) : a4p l n_ k = a4o l n_ k := by
 simp only [a4p, a4o, a4j, a49, slices_IndexFunc_Rule, arT _ _ l 0 h]
 rfl
theorem anT (n_ : Name) : ∀ (l : List Name) (i : Nat), (slices_IndexFunc_Name_L1 (fun e0_ => (a4a n_ e0_)) l i = none ∧ a38 n_ l = none) ∨ ∃ j : Nat, slices_IndexFunc_Name_L1 (fun e0_ => (a4a n_ e0_)) l i = some ((j : Nat) : Int) ∧ a38 n_ l = some true
 | [], _ => .inl ⟨rfl, rfl⟩
 | x :: l, i => by
  simp only [slices_IndexFunc_Name_L1, a38, a4a, same_EqualNames]
  cases h : a22 x n_
  ·simp only [cond_false]
   have := anT n_ l (i + 1)
   simp only [a4a, same_EqualNames] at this
   exact this
  ·exact .inr ⟨i, rfl, rfl⟩
theorem same_IsAnchor (t : TrustPolicy) (n_ : Name) : a4q t n_ = a4k t n_ := by
 unfold a4q slices_ContainsFunc_Name slices_IndexFunc_Name a4k
 rcases anT n_ t.anchors 0 with ⟨h1, h2⟩ | ⟨j, h1, h2⟩
 ·rw [h1, h2]; rfl
 ·rw [h1, h2]
  exact decide_eq_true (show ((j : Nat) : Int) ≥ 0 by omega)
theorem same_KeyDigest (l : List Key) (n_ : Name) : a3g l n_ = a1v l n_ := by
 simp only [a3g, a1v, same_SecretOf, same_AppendVarint, same_Digest]
theorem fcT (n_ : Name) (now : Int) (t : TrustPolicy) : ∀ (l : List DataP) (i : Nat), slices_IndexFunc_Data_L1 (fun e0_ => (a39 n_ now t e0_)) l i = a1c t n_ now l i
 | [], _ => rfl
 | x :: l, i => by
  have ih := fcT n_ now t l (i + 1)
  simp only [slices_IndexFunc_Data_L1, a1c, ih]
  simp only [a39, same_EqualNames, a4w, a4r, same_VerifySignature, same_EqualBytes, same_KeyDigest]
  cases a22 x.name n_ <;> simp only [cond_true, cond_false]
  cases decide (now ≤ x.freshUntil) <;> simp only [cond_true, cond_false]
  cases a48 t.keys x <;> simp only [cond_true, cond_false]
theorem same_FindCertificate (t : TrustPolicy) (n_ : Name) (now : Int) : a1g t n_ now = a17 t n_ now := by
 simp only [a1g, a17, same_SecretOf, slices_IndexFunc_Data, fcT]
 rfl
def outT {σ : Type} (d : List Name × Bool) : Ctl (List Name × Bool) σ → List Name × Bool
 | .ret r => r
 | .nxt _ => d
theorem tcT (t : TrustPolicy) (now : Int) (h : ∀ r ∈ t.rules, GoT.ok 10 r) : ∀ (m : Nat) (o : List Name) (a : List Str) (b : List UInt8) (c : List Str) (d e : Int), 4 - o.length = m → o.length ≤ 4 →
  outT default (a1n t now o a b c d e) = outT ([], false) (a1m t now o a b c d e)
 | 0, o, a, b, c, d, e, hm, hl => by
  have h4 : o.length = 4 := by omega
  rw [a1n, a1m, if_pos hl, if_neg (show ¬ ((((o).length : Nat) : Int) < 4) by omega)]
  have h5 : ((((o).length : Nat) : Int) == 4) = true := by rw [h4]; rfl
  rw [if_pos h5]
  split
  ·rfl
  ·split <;> rfl
 | m + 1, o, a, b, c, d, e, hm, hl => by
  rw [a1n, a1m, if_pos hl, if_pos (show ((((o).length : Nat) : Int) < 4) by omega)]
  have h5 : ¬ ((((o).length : Nat) : Int) == 4) = true := by rw [beq_iff_eq]; omega
  rw [if_neg h5]
  simp only [same_VerifySignature, same_Allowed _ _ _ h, same_IsAnchor, same_FindCertificate, show ∀ n, a0f n = n from fun _ => rfl, show ∀ n, a0s n = n from fun _ => rfl]
  split
  ·rfl
  ·split
   ·rfl
   ·split
    ·rfl
    ·split
     ·rfl
     ·cases (t.certificates)[((a17 t (Name.mk c) now)).toNat]? with
      | none => rfl
      | some e1 => exact tcT t now h m _ _ _ _ _ _ (by rw [List.length_append, List.length_cons, List.length_nil]; omega) (by rw [List.length_append, List.length_cons, List.length_nil]; omega)
theorem same_TrustChain (t : TrustPolicy) (x : DataP) (now : Int) (h : ∀ r ∈ t.rules, GoT.ok 10 r) : a1w t x now = a1s t x now := by
 have h1 := tcT t now h 4 [] x.name.parts x.content x.keyName.parts x.freshUntil x.signature rfl (by simp)
 unfold a1w a1s
 cases h2 : a1n t now [] x.name.parts x.content x.keyName.parts x.freshUntil x.signature <;> cases h3 : a1m t now [] x.name.parts x.content x.keyName.parts x.freshUntil x.signature <;> rw [h2, h3] at h1 <;> exact h1
theorem same_IsTrusted (t : TrustPolicy) (x : DataP) (now : Int) (h : ∀ r ∈ t.rules, GoT.ok 10 r) : a3q t x now = a4l t x now := by
 simp only [a3q, a4l, same_TrustChain t x now h, same_ValidData]
 cases a24 x <;> cases (a1s t x now).2 <;> rfl
theorem same_AcceptData' (a : Consumer) (t : TrustPolicy) (x : DataP) (now : Int) (h : GoT.ok 10 t) : a0q a t x now = a0j a t x now := by
 have hr : ∀ r ∈ t.rules, GoT.ok 10 r := (okl (ok_TrustPolicy h).2.1).2
 simp only [a0q, a0j, same_EqualNames, same_IsTrusted t x now hr]
 rfl
end Go.Stp

namespace Go.Stp
set_option linter.unusedVariables false
set_option linter.unusedSimpArgs false
theorem g_mid {α : Type} (p : List α) (x : α) (l : List α) : (p ++ x :: l)[p.length]? = some x := by simp
theorem g_app {α : Type} (p : List α) (x : α) (l : List α) : (p ++ [x]) ++ l = p ++ x :: l := by simp
theorem rf_textsL : ∀ (l p : List Str), a2t (p ++ l) l p.length = none
 | [], p => rfl
 | x :: l, p => by
  have ih := rf_textsL l (p ++ [x])
  rw [g_app, List.length_append, List.length_singleton] at ih
  simp only [a2t, g_mid, beq_self_eq_true, Bool.not_true, cond_false, ih]
theorem rf_texts (l : List Str) : a3z l l = true := by
 have := rf_textsL l []
 simp only [List.nil_append, List.length_nil] at this
 simp only [a3z, bne_self_eq_false, cond_false, this]
theorem rf_name (a : Name) : a3e a a = true := rf_texts _
theorem rf_sameL : ∀ (l p : List UInt8), a2g (p ++ l) l p.length = none
 | [], p => rfl
 | x :: l, p => by
  have ih := rf_sameL l (p ++ [x])
  rw [g_app, List.length_append, List.length_singleton] at ih
  simp only [a2g, g_mid, bne_self_eq_false, cond_false, ih]
theorem rf_same (l : List UInt8) : a3o l l = true := by
 have := rf_sameL l []
 simp only [List.nil_append, List.length_nil] at this
 simp only [a3o, bne_self_eq_false, cond_false, this]
theorem rf_thing (a : DataP) : a2h a a = true := by
 simp only [a2h, rf_name, rf_same, beq_self_eq_true, cond_true]
theorem sTL (b : List Str) : ∀ (r : List Str) (i : Nat), a2t b r i = slices_Equal_string_L1 b r i
 | [], i => rfl
 | x :: r, i => by
  simp only [a2t, slices_Equal_string_L1, sTL b r]
  rfl
open Classical in
theorem sBL : ∀ (a b p : List UInt8), a.length = b.length → a2g (p ++ b) a p.length = (if a = b then none else some false)
 | [], [], p, _ => by simp [a2g]
 | x :: a, y :: b, p, h => by
  have ih := sBL a b (p ++ [y]) (by simpa using h)
  rw [mid_app, mid_len] at ih
  simp only [a2g, mid]
  by_cases hxy : x = y
  ·simp [hxy, ih]
  ·have hn : ((x.toNat : Int) != (y.toNat : Int)) = true := by
    have : x.toNat ≠ y.toNat := fun h => hxy (UInt8.toNat_inj.mp h)
    simp; omega
   simp [hn, hxy]
theorem same_eq (a b : List UInt8) : a3o a b = decide (a = b) := by
 unfold a3o
 by_cases hl : a.length = b.length
 ·have h := sBL a b [] hl
  simp only [List.nil_append, List.length_nil] at h
  simp only [hl, bne_self_F, cond_false, h]
  split <;> simp_all
 ·have hne : a ≠ b := fun h => hl (by rw [h])
  have hn : ((a.length : Int) != (b.length : Int)) = true := by simp; omega
  simp [hn, hne]
theorem sl_ext {x y : Str} (h : x.data.toList = y.data.toList) : x = y := by
 cases x with
 | mk a =>
  cases y with
  | mk b => exact congrArg ByteArray.mk (Array.toList_inj.1 h)
theorem sl_app (x y : Str) : (x ++ y).data.toList = x.data.toList ++ y.data.toList := by
 rw [ByteArray.data_append, Array.toList_append]
theorem dig_eq {d : Int} {k : Nat} (h : d = (k : Int)) (hk : k < 10) : toU8 (IntKind.i64.wrap (48 + d)) = UInt8.ofNat (48 + k) := by
 subst h
 rw [wrap_i64 (by unfold I64; omega)]
 unfold toU8
 congr 1
 omega
theorem fiL : ∀ (m : Nat) (x : Int) (s : Str), x.natAbs = m → I64 x → x ≠ 0 → (a2l s x).1.data.toList = Lib.decDigits x.natAbs ++ s.data.toList
 | m, x, s, hm, hx, h0 => by
  have hw : IntKind.i64.wrap (x.tdiv 10) = x.tdiv 10 := wrap_i64 (by
   have := Int.natAbs_tdiv x 10
   have h2 : (x.tdiv 10).natAbs = x.natAbs / 10 := this
   unfold I64 at hx ⊢
   omega)
  have hd : (x.tdiv 10).natAbs = x.natAbs / 10 := Int.natAbs_tdiv x 10
  have hr : (x.tmod 10).natAbs = x.natAbs % 10 := Int.natAbs_tmod x 10
  have key (d : Int) (hdd : d = ((x.natAbs % 10 : Nat) : Int)) : (a2l (bstr [toU8 (IntKind.i64.wrap (48 + d))] ++ s) (IntKind.i64.wrap (x.tdiv 10))).1.data.toList = Lib.decDigits x.natAbs ++ s.data.toList := by
   rw [dig_eq hdd (by omega), hw]
   by_cases hz : x.tdiv 10 = 0
   ·rw [hz, a2l, if_neg (by decide), Lib.decDigits]
    have hlt : x.natAbs < 10 := by rw [hz] at hd; simp at hd; omega
    rw [dif_pos hlt, sl_app, Nat.mod_eq_of_lt hlt]
    rfl
   ·rw [fiL (x.natAbs / 10) (x.tdiv 10) _ hd (by unfold I64 at hx ⊢; omega) hz, hd, sl_app]
    have hge : ¬ x.natAbs < 10 := fun hlt => hz (by
     have : x.natAbs / 10 = 0 := Nat.div_eq_of_lt hlt
     rw [this] at hd
     exact Int.natAbs_eq_zero.1 hd)
    conv => rhs; rw [Lib.decDigits, dif_neg hge]
    rw [List.append_assoc]
    rfl
  rw [a2l, if_pos (by simpa using h0)]
  split
  ·exact key _ (by omega)
  ·exact key _ (by omega)
termination_by m => m
decreasing_by
 have h1 : x.natAbs ≠ 0 := fun e => h0 (Int.natAbs_eq_zero.1 e)
 omega
theorem same_FormatInt {n : Int} (h : I64 n) : itoaS n = a1d n := by
 refine sl_ext ?_
 unfold a1d
 by_cases h0 : n = 0
 ·subst h0
  show Lib.itoa 0 = [48]
  unfold Lib.itoa
  rw [if_neg (by decide), Lib.decDigits, dif_pos (by decide)]
  rfl
 ·have hb : (n == 0) = false := by simpa using h0
  have h1 := fiL _ n (⟨#[]⟩ : Str) rfl h h0
  rcases e : a2l (⟨#[]⟩ : Str) n with ⟨s, x⟩
  rw [e] at h1
  simp only [hb, cond_false]
  have h2 : s.data.toList = Lib.decDigits n.natAbs := by rw [h1]; exact List.append_nil _
  show Lib.itoa n = _
  unfold Lib.itoa
  by_cases hn : n < 0
  ·rw [if_pos hn, decide_eq_true hn, cond_true, sl_app, h2]
   rfl
  ·rw [if_neg hn, decide_eq_false hn, cond_false, h2, show n.toNat = n.natAbs by omega]
theorem fnL : ∀ (l : List Str) (s : Str), (a3i l s).data.toList = s.data.toList ++ Lib.joinTail [47] (l.map (fun z : Str => z.data.toList))
 | [], s => (List.append_nil _).symm
 | x :: l, s => by
  rw [a3i, fnL l, sl_app, sl_app]
  simp only [Lib.joinTail, List.map_cons, List.flatten_cons, List.append_assoc]
theorem same_FormatName (m : Name) : a27 m = a1y m := by
 refine sl_ext ?_
 unfold a27 a3s a1y
 have h1 := fnL m.parts (⟨#[]⟩ : Str)
 cases hp : m.parts with
 | nil => rfl
 | cons x r =>
  have hb : ((((x :: r).length : Nat) : Int) == 0) = false := by simp; omega
  rw [hp] at h1
  simp only [hb, cond_false]
  rw [h1, sl_app]
  show [47] ++ Lib.join _ [47] = [] ++ _
  rw [List.map_cons, Lib.join_cons]
  simp [Lib.joinTail]
theorem same_FormatConsumer' (a : Consumer) (h : GoT.ok 10 a) : a3j a = a3k a := by
 have h0 := ok_Consumer h
 unfold a3j a3k a1x
 rw [same_FormatInt (show I64 a.node from h0.1), same_FormatName]
 cases a.satisfied
 ·simp only [cond_false]
  rw [same_FormatInt (show I64 a.attempts from h0.2.2.2.1)]
 ·simp only [cond_true]
  refine sl_ext ?_
  simp only [sl_app, List.append_assoc]
  rfl
theorem rf_ask (a : Consumer) : a0k a a = true := by
 simp only [a0k, rf_name, rf_thing, beq_self_eq_true, cond_true]
theorem rf_want (a : Interest) : a3r a a = true := by
 simp only [a3r, rf_name, beq_self_eq_true, cond_true]
theorem cpD (x : DataP) : a3l x = x := rfl
theorem cpC (a : Consumer) : a0d a = a := rfl
theorem ka1 (a : Consumer) : a0k ((a06 a).1) ((a09 a).1) = true := rf_ask _
theorem ka2 (a : Consumer) : a3r ((a06 a).2.1) ((a09 a).2.1) = true := rf_want _
theorem ka3 (a : Consumer) : (((a06 a).2.2) == ((a09 a).2.2)) = true := beq_self_eq_true _
theorem ka4 (a : Consumer) (t : TrustPolicy) (x : DataP) (now : Int) (h : GoT.ok 10 t) : a0k (a0q a t x now) (a0j a t x now) = true := by
 rw [same_AcceptData' a t x now h]; exact rf_ask _
theorem ka5 (a b : Int) (n : Name) : a0k (a3t a b n) (a0e a b n) = true := rf_ask _
theorem ka6 (a b c : Int) : ((a1z a b c) != (a44 a b c)) = false := bne_self_eq_false _
theorem eqn_dec (a b : Name) : a2d a b = a3e a b := by
 have h : a3z a.parts b.parts = slices_Equal_string a.parts b.parts := by
  unfold a3z slices_Equal_string
  rw [sTL]
  rfl
 exact h.symm
theorem eqd_dec (a b : DataP) : a2w a b = a2h a b := by
 have h : slices_Equal_byte a.content b.content = a3o a.content b.content := by rw [sEq_byte, same_eq]
 simp only [a2w, a2h, eqn_dec, h]
theorem ka7 (a b : Consumer) : ((a2m a b) == (a0k a b)) = true := by
 have h : a2m a b = a0k a b := by simp only [a2m, a0k, eqn_dec, eqd_dec]
 rw [h]; exact beq_self_eq_true _
theorem ka8 (a : Consumer) (h : GoT.ok 10 a) : (((a3j a)).toList == ((a3k a)).toList) = true := by
 rw [same_FormatConsumer' a h]; exact beq_self_eq_true _
theorem ka9 (a : Consumer) : ((a0h a) == (a28 a)) = true := by
 rw [same_ValidConsumer']; exact beq_self_eq_true _
theorem kb1 {a : Consumer} {t : TrustPolicy} {x : DataP} {now : Int} (h1 : (a0q a t x now).satisfied = true) (h2 : (!(a.satisfied)) = true) :
  a3q t x now = true ∧ a2h ((a0q a t x now).data) x = true ∧ a3e x.name a.name = true := by
 have h2' : a.satisfied = false := by simpa using h2
 unfold a0q at h1 ⊢
 rw [h2] at h1 ⊢
 simp only [cond_true] at h1 ⊢
 cases he : a2d x.name a.name
 ·rw [he] at h1; simp only [cond_false, cpC, h2'] at h1; cases h1
 ·rw [he] at h1
  simp only [cond_true] at h1 ⊢
  cases ht : a3q t x now
  ·rw [ht] at h1; simp only [cond_false, cpC, h2'] at h1; cases h1
  ·refine ⟨rfl, ?_, by rw [← eqn_dec]; exact he⟩
   simp only [cond_true, cpD]
   exact rf_thing x
theorem kb2 {a : Consumer} {t : TrustPolicy} {x : DataP} {now : Int} (h : a.satisfied = true) : a0k (a0q a t x now) a = true := by
 unfold a0q
 rw [h]
 simp only [Bool.not_true, cond_false, cpC]
 exact rf_ask a
theorem kb3 {a : Consumer} {t : TrustPolicy} {x : DataP} {now : Int} (h : (a0q a t x now).satisfied = false) : a.satisfied = false := by
 cases hs : a.satisfied
 ·rfl
 ·unfold a0q at h
  rw [hs] at h
  simp only [Bool.not_true, cond_false, cpC, hs] at h
  cases h
theorem in38 {x a b : Int} (h : a0r x a b = true) : a ≤ x ∧ x ≤ b := by rw [same_In] at h; exact in39 h
theorem in38' {x a b : Int} (h1 : a ≤ x) (h2 : x ≤ b) : a0r x a b = true := by
 simp only [a0r, h1, h2, decide_true, cond_true]
theorem vc_rng {a : Consumer} (h : a0h a = true) : (0 ≤ a.node ∧ a.node ≤ 5) ∧ (0 ≤ a.index ∧ a.index ≤ 7) ∧ a23 a.name = true ∧ ((((a.name.parts).length : Nat) : Int) == 0) = false ∧ (0 ≤ a.attempts ∧ a.attempts ≤ 900) ∧ (0 ≤ a.wait ∧ a.wait ≤ 5) := by
 unfold a0h at h
 cases h1 : a0r a.node 0 5
 ·rw [h1] at h; cases h
 cases h2 : a0r a.index 0 7
 ·rw [h1, h2] at h; cases h
 cases h3 : a23 a.name
 ·rw [h1, h2, h3] at h; cases h
 cases h4 : ((((a.name.parts).length : Nat) : Int) == 0)
 ·cases h5 : a0r a.attempts 0 900
  ·rw [h1, h2, h3, h4, h5] at h; cases h
  cases h6 : a0r a.wait 0 5
  ·rw [h1, h2, h3, h4, h5, h6] at h; cases h
  exact ⟨in38 h1, in38 h2, rfl, rfl, in38 h5, in38 h6⟩
 ·rw [h1, h2, h3, h4] at h; cases h
theorem vc_upd {a : Consumer} {k u : Int} (h : a0h a = true) (hk : 0 ≤ k ∧ k ≤ 900) (hu : 0 ≤ u ∧ u ≤ 5) : a0h (Consumer.mk a.node a.index a.name k u a.satisfied a.data) = true := by
 obtain ⟨h1, h2, h3, h4, h5, h6⟩ := vc_rng h
 unfold a0h at h ⊢
 simp only [in38' h1.1 h1.2, in38' h2.1 h2.2, h3, h4, in38' h5.1 h5.2, in38' h6.1 h6.2, Bool.not_true, cond_false] at h
 simp only [in38' h1.1 h1.2, in38' h2.1 h2.2, h3, h4, in38' hk.1 hk.2, in38' hu.1 hu.2, Bool.not_true, cond_false]
 exact h
theorem tk_cases (a : Consumer) : (a06 a = (a, (Interest.mk (Name.mk ([])) 0 0 0), false)) ∨ (a.satisfied = false ∧ decide (a.wait > 0) = true ∧ a06 a = (Consumer.mk a.node a.index a.name a.attempts (IntKind.i64.wrap (a.wait - 1)) a.satisfied a.data, (Interest.mk (Name.mk ([])) 0 0 0), false)) ∨
  (a.satisfied = false ∧ (a.attempts == 900) = false ∧ a06 a = (Consumer.mk a.node a.index a.name (IntKind.i64.wrap (a.attempts + 1)) 5 a.satisfied a.data, (Interest.mk a.name (a1z a.node a.index (IntKind.i64.wrap (a.attempts + 1))) 16 4), true)) := by
 unfold a06
 simp only [cpC]
 cases h1 : a.satisfied
 ·simp only [cond_false]
  cases h2 : (a.attempts == 900)
  ·simp only [cond_false]
   cases h3 : decide (a.wait > 0)
   ·exact .inr (.inr ⟨by trivial, by trivial, rfl⟩)
   ·exact .inr (.inl ⟨by trivial, by trivial, by simp only [cond_true]⟩)
  ·exact .inl rfl
 ·exact .inl rfl
theorem kc1 {a : Consumer} (h : (a06 a).2.2 = true) : (a06 ((a06 a).1)).2.2 = false := by
 rcases tk_cases a with e | ⟨_, _, e⟩ | ⟨h1, _, e⟩
 ·rw [e] at h; cases h
 ·rw [e] at h; cases h
 ·rw [e]
  rcases tk_cases (Consumer.mk a.node a.index a.name (IntKind.i64.wrap (a.attempts + 1)) 5 a.satisfied a.data) with e2 | ⟨_, _, e2⟩ | ⟨_, _, e2⟩
  ·rw [e2]
  ·rw [e2]
  ·unfold a06
   simp only [cpC, h1]
   cases (IntKind.i64.wrap (a.attempts + 1) == 900) <;> rfl
theorem nonce_wr {a b c : Int} (ha : 0 ≤ a ∧ a ≤ 5) (hb : 0 ≤ b ∧ b ≤ 7) (hc : 0 ≤ c ∧ c ≤ 900) : a1z a b c = 100000 * a + 1000 * b + c := by
 unfold a1z
 rw [wrap_i64 (n := 100000 * a) (by unfold I64; omega), wrap_i64 (n := 1000 * b) (by unfold I64; omega), wrap_i64 (n := 100000 * a + 1000 * b) (by unfold I64; omega), wrap_i64 (by unfold I64; omega)]
theorem kc2 {a : Consumer} (v : a0h a = true) (h : (a06 a).2.2 = true) : a2j ((a06 a).2.1) = true := by
 obtain ⟨h1, h2, h3, h4, h5, h6⟩ := vc_rng v
 rcases tk_cases a with e | ⟨_, _, e⟩ | ⟨_, hn, e⟩
 ·rw [e] at h; cases h
 ·rw [e] at h; cases h
 ·have hne : a.attempts ≠ 900 := by simpa using hn
  have hl : (((a.name.parts).length : Nat) : Int) ≠ 0 := by simpa using h4
  rw [e]
  unfold a2j
  have hw : IntKind.i64.wrap (a.attempts + 1) = a.attempts + 1 := wrap_i64 (by unfold I64; omega)
  have hd : decide ((((a.name.parts).length : Nat) : Int) > 0) = true := decide_eq_true (by omega)
  simp only [h3, hd, cond_true, hw]
  rw [nonce_wr h1 h2 (by omega), in38' (by omega) (by omega), in38' (by decide) (by decide), in38' (by decide) (by decide)]
  rfl
theorem kc3 {a : Consumer} (h : (a06 a).2.2 = true) : ((a06 a).2.1.nonce != (a1z (a.node) (a.index) (IntKind.i64.wrap ((a.attempts) + 1)))) = false := by
 rcases tk_cases a with e | ⟨_, _, e⟩ | ⟨_, hn, e⟩
 ·rw [e] at h; cases h
 ·rw [e] at h; cases h
 ·rw [e]; exact bne_self_eq_false _
theorem kc4 {a : Consumer} (v : a0h a = true) : a0h ((a06 a).1) = true := by
 obtain ⟨h1, h2, h3, h4, h5, h6⟩ := vc_rng v
 rcases tk_cases a with e | ⟨_, hw, e⟩ | ⟨_, hn, e⟩
 ·rw [e]; exact v
 ·rw [e]
  have hw := of_decide_eq_true hw
  exact vc_upd v h5 (by rw [wrap_i64 (by unfold I64; omega)]; omega)
 ·rw [e]
  have hne : a.attempts ≠ 900 := by simpa using hn
  exact vc_upd v (by rw [wrap_i64 (by unfold I64; omega)]; omega) ⟨by decide, by decide⟩
theorem kc6 {a : Consumer} (h : a.satisfied = true) : (a06 a).2.2 = false ∧ a0k ((a06 a).1) a = true := by
 rcases tk_cases a with e | ⟨hs, _, e⟩ | ⟨hs, hn, e⟩
 ·rw [e]; exact ⟨rfl, rf_ask a⟩
 ·rw [h] at hs; cases hs
 ·rw [h] at hs; cases hs
theorem kc8 {a : Consumer} (h : (a06 a).2.2 = true) : a.satisfied = false := by
 cases hs : a.satisfied
 ·rfl
 ·rw [(kc6 hs).1] at h; cases h
theorem kc7 {a : Consumer} (v : a0h a = true) (h : (a06 a).2.2 = false) (k : (a06 ((a06 a).1)).2.2 = true) : ((a06 ((a06 a).1)).2.1.nonce == (a06 a).2.1.nonce) = false := by
 have hz : (a06 a).2.1.nonce = 0 := by
  rcases tk_cases a with e | ⟨hs, _, e⟩ | ⟨hs, hn, e⟩
  ·rw [e]
  ·rw [e]
  ·rw [e] at h; cases h
 obtain ⟨h1, h2, h3, h4, h5, h6⟩ := vc_rng (kc4 v)
 rw [hz]
 generalize (a06 a).1 = b at *
 rcases tk_cases b with e | ⟨hs, _, e⟩ | ⟨hs, hn, e⟩
 ·rw [e] at k; cases k
 ·rw [e] at k; cases k
 ·rw [e]
  have hne : b.attempts ≠ 900 := by simpa using hn
  show (a1z b.node b.index (IntKind.i64.wrap (b.attempts + 1)) == 0) = false
  rw [wrap_i64 (n := b.attempts + 1) (by unfold I64; omega), nonce_wr h1 h2 (by omega)]
  simp; omega
end Go.Stp

namespace Go.Stp
set_option linter.unusedVariables false
set_option linter.unusedSimpArgs false
def a1a (code : (List UInt8)) : Bool :=
 bif (a4x code) then
  true
 else
  bif (a0q ((a03 code).1) ((a03 code).2.1) ((a03 code).2.2.1) ((a03 code).2.2.2)).satisfied then
   bif (!((a03 code).1.satisfied)) then
    bif (!(a0h (a04 code))) then
     true
    else
     bif (a06 (a04 code)).2.2 then
      true
     else
      bif (a06 ((a06 (a04 code)).1)).2.2 then
       bif (!((a04 code).satisfied)) then
        true
       else
        (a0k ((a06 (a04 code)).1) (a04 code))
      else
       bif (!((a04 code).satisfied)) then
        true
       else
        (a0k ((a06 (a04 code)).1) (a04 code))
   else
    bif (!(a0h (a04 code))) then
     true
    else
     bif (a06 (a04 code)).2.2 then
      true
     else
      bif (a06 ((a06 (a04 code)).1)).2.2 then
       bif (!((a04 code).satisfied)) then
        true
       else
        (a0k ((a06 (a04 code)).1) (a04 code))
      else
       bif (!((a04 code).satisfied)) then
        true
       else
        (a0k ((a06 (a04 code)).1) (a04 code))
  else
   bif (!(a0h (a04 code))) then
    true
   else
    bif (a06 (a04 code)).2.2 then
     true
    else
     bif (a06 ((a06 (a04 code)).1)).2.2 then
      bif (!((a04 code).satisfied)) then
       true
      else
       (a0k ((a06 (a04 code)).1) (a04 code))
     else
      bif (!((a04 code).satisfied)) then
       true
      else
       (a0k ((a06 (a04 code)).1) (a04 code))
end Go.Stp

namespace Go.Proofs.YthdgpfbldbabmaaGreatDoor
open Go.Stp
set_option linter.unusedVariables false
set_option linter.unusedSimpArgs false
set_option maxRecDepth 100000 in
set_option maxHeartbeats 0 in
theorem f3 (w : World) (n : Nat) (hn : n + 9 ≤ 9) (code : (List UInt8)) (K0 M0) (N0 : RdSl (hp w) K0 M0 code) (hq0 : Tb w) (hokcode : GoT.ok 10 code) :
 Does Tryz.prog 3 #[.slice K0 ((code).length) M0] w emp (pB (a1a code)) := by
 have hb := bS9 hn
 have hn0 : bd n = 1048576 := by rw [show n = 0 by omega]; rfl
 have hbT : bd 10 = 9223372036854775807 := rfl
 refine EN Tryz.func3 Z (aS1 N0) ?_
 refine R0 ?_
 refine CV Z Z Z Z Z O Z (fun w γ => f4 w 10 code K0 M0 (γ.q 0 Z) hokcode) ?_
 intro hq1
 refine R0 ?_
 refine WX.cases 27 Z ?_ ?_ <;> intro h1
 ·skip
  refine R0 ?_
  exact R4 Z (by simp only [a1a, h1, cT, cF])
 have hk1l : ¬ ((((code).length : Nat) : Int) > 1048576) := of_decide_eq_false (show decide ((((code).length : Nat) : Int) > 1048576) = false from h1)
 have hk1 : GoT.ok n code := okl_mk (show (code).length ≤ bd n by omega) (fun _ _ => trivial)
 refine R0 ?_
 refine CF 1 Z Z Z Z Z O Z (fun w γ => f5 w n τ1 code K0 M0 (γ.q 0 Z) hk1) ?_
 rintro ⟨⟨⟩, ⟨⟩, ⟨p1, c1⟩, ⟨⟩, ⟨⟩, ⟨⟩, ⟨⟨p2, c2⟩, ⟨p3, c3⟩, ⟨p4, c4⟩, ⟨⟩, ⟨⟩⟩⟩ hq2
 refine R0 ?_
 refine CF 9 Z Z Z Z Z O Z (fun w γ => f6 w n τ1 (a04 code) p1 c1 (γ.q 1 Z) p2 c2 (γ.q 2 Z) p3 c3 (γ.q 3 Z) p4 c4 (γ.q 4 Z) hq2) ?_
 rintro ⟨⟨⟨⟩, ⟨⟩, ⟨p5, c5⟩, ⟨⟩, ⟨⟩, ⟨⟩, ⟨⟨p6, c6⟩, ⟨p7, c7⟩, ⟨p8, c8⟩, ⟨⟩, ⟨⟩⟩⟩, ⟨⟨p9, c9⟩, ⟨⟩, ⟨⟩, ⟨⟩⟩⟩ hq3
 dsimp only
 refine R0 ?_
 refine CF 19 Z Z Z Z Z O Z (fun w γ => f7 w n τ1 (a04 code) p1 c1 (γ.q 1 Z) p2 c2 (γ.q 2 Z) p3 c3 (γ.q 3 Z) p4 c4 (γ.q 4 Z) hq2) ?_
 rintro ⟨⟨⟨⟩, ⟨⟩, ⟨p10, c10⟩, ⟨⟩, ⟨⟩, ⟨⟩, ⟨⟨p11, c11⟩, ⟨p12, c12⟩, ⟨p13, c13⟩, ⟨⟩, ⟨⟩⟩⟩, ⟨⟨p14, c14⟩, ⟨⟩, ⟨⟩, ⟨⟩⟩⟩ hq4
 dsimp only
 refine R0 ?_
 refine CF 29 Z Z Z Z Z O Z (fun w γ => f8 w n τ1 code K0 M0 (γ.q 0 Z) hk1) ?_
 rintro ⟨⟨⟨⟩, ⟨⟩, ⟨p15, c15⟩, ⟨⟩, ⟨⟩, ⟨⟩, ⟨⟨p16, c16⟩, ⟨p17, c17⟩, ⟨p18, c18⟩, ⟨⟩, ⟨⟩⟩⟩, ⟨⟨p19, c19⟩, ⟨p20, c20⟩, ⟨p21, c21⟩, ⟨p22, c22⟩⟩, ⟨⟨p23, c23⟩, ⟨p24, c24⟩, ⟨p25, c25⟩, ⟨⟩, ⟨⟩⟩⟩ hq5
 dsimp only
 refine WX.trim [44, 9, 8, 7, 6, 5, 4, 3, 0] [0, 1, 2, 3, 4, 5, 6, 7, 8, 9, 10, 11, 12, 13, 14, 15, 16, 17, 18, 19, 20, 21, 22, 23, 24, 25, 26, 27, 28, 29, 30, 31, 32, 33, 34, 35, 36, 37, 38, 39, 40, 41, 42, 43, 44, 45, 46, 47, 48, 49, 50] Z Z ?_
 refine R0 ?_
 refine CF 51 Z Z Z Z Z O Z (fun w γ => f9 w n τ1 ((a03 code).1) p15 c15 (γ.q 29 Z) p16 c16 (γ.q 30 Z) p17 c17 (γ.q 31 Z) p18 c18 (γ.q 32 Z) ((a03 code).2.1) p19 c19 (γ.q 33 Z) p20 c20 (γ.q 34 Z) p21 c21 (γ.q 35 Z) p22 c22 (γ.q 36 Z) ((a03 code).2.2.1) p23 c23 (γ.q 37 Z) p24 c24 (γ.q 38 Z) p25 c25 (γ.q 39 Z) ((a03 code).2.2.2) hq5.1 hq5.2.1 hq5.2.2.1 hq5.2.2.2) ?_
 rintro ⟨⟨⟩, ⟨⟩, ⟨p26, c26⟩, ⟨⟩, ⟨⟩, ⟨⟩, ⟨⟨p27, c27⟩, ⟨p28, c28⟩, ⟨p29, c29⟩, ⟨⟩, ⟨⟩⟩⟩ hq6
 dsimp only
 refine R0 ?_
 refine CF 59 Z Z Z Z Z O Z (fun w γ => f10 w n τ1 code K0 M0 (γ.q 0 Z) hk1) ?_
 rintro ⟨p30, c30⟩ hq7
 dsimp only
 refine WX.trim [56, 14, 13, 12, 11, 10, 9, 8, 7, 6, 5, 4, 3, 0] [0, 1, 2, 3, 4, 5, 6, 7, 8, 9, 10, 11, 12, 13, 14, 15, 16, 17, 18, 19, 20, 21, 22, 23, 24, 25, 26, 27, 28, 29, 30, 31, 32, 33, 34, 35, 36, 37, 38, 39, 40, 41, 42, 43, 44, 45, 46, 47, 48, 49, 50, 51, 52, 53, 54, 55, 56, 57, 58, 59, 60] Z Z ?_
 refine R0 ?_
 refine CV Z Z Z Z Z O Z (fun w γ => f11 w n τ1 code K0 M0 (γ.q 0 Z) hk1) ?_
 intro hq8
 refine R0 ?_
 refine CF 61 Z Z Z Z Z O Z (fun w γ => f12 w n τ1 code K0 M0 (γ.q 0 Z) hk1) ?_
 rintro ⟨⟨⟨⟩, ⟨⟩, ⟨p31, c31⟩, ⟨⟩, ⟨⟩, ⟨⟩, ⟨⟨p32, c32⟩, ⟨p33, c33⟩, ⟨p34, c34⟩, ⟨⟩, ⟨⟩⟩⟩, ⟨⟨⟩, ⟨⟩, ⟨p35, c35⟩, ⟨⟩, ⟨⟩, ⟨⟩, ⟨⟨p36, c36⟩, ⟨p37, c37⟩, ⟨p38, c38⟩, ⟨⟩, ⟨⟩⟩⟩⟩ hq9
 dsimp only
 refine WX.trim [68, 20, 19, 18, 16, 15, 17, 14, 13, 12, 11, 10, 9, 8, 7, 6, 5, 4, 3] [1, 2, 3, 4, 5, 6, 7, 8, 9, 10, 11, 12, 13, 14, 15, 16, 17, 18, 19, 20, 21, 22, 23, 24, 25, 26, 27, 28, 29, 30, 31, 32, 33, 34, 35, 36, 37, 38, 39, 40, 41, 42, 43, 44, 45, 46, 47, 48, 49, 50, 51, 52, 53, 54, 55, 56, 57, 58, 59, 60, 61, 62, 63, 64, 65, 66, 67, 68, 69, 70, 71, 72, 73, 74, 75, 76] Z Z ?_
 refine R0 ?_
 refine WX.draw [] mixed ?_
 intro bs G0 hΓ0
 refine DX.tab J (fun hT => ?_)
 refine DX.takes (fuel := 69) ttOk [(0, false), (1, false)] (takesB_of hT J) Z ?_
 refine DXV 2 Z J Z Z Z Z Z Z O Z (fun w γ => f13 w n τ1 ((a06 (a04 code)).1) p5 c5 (γ.q 9 Z) p6 c6 (γ.q 10 Z) p7 c7 (γ.q 11 Z) p8 c8 (γ.q 12 Z) ((a09 (a04 code)).1) p10 c10 (γ.q 19 Z) p11 c11 (γ.q 20 Z) p12 c12 (γ.q 21 Z) p13 c13 (γ.q 22 Z) hq3.1 hq4.1) ?_
 intro hq10
 refine DX.takes (fuel := 66) ttOk [(3, true), (4, true)] (takesB_of hT J) Z ?_
 have hK1 : (!(a0k ((a06 (a04 code)).1) ((a09 (a04 code)).1))) = false := (by rw [show (a0k ((a06 (a04 code)).1) ((a09 (a04 code)).1)) = true from ka1 _]; rfl)
 refine DX.cases 75 Z ?_ ?_ <;> intro h2
 ·skip
  have h2d := (B.nt h2)
  exact absurd (hK1.symm.trans h2) Bool.false_ne_true
 have h2d := (B.nf h2)
 refine DX.takes (fuel := 64) ttOk [(5, false), (6, false)] (takesB_of hT J) Z ?_
 refine DXV 7 Z J Z Z Z Z Z Z O Z (fun w γ => f14 w n τ1 ((a06 (a04 code)).2.1) p9 c9 (γ.q 13 Z) ((a09 (a04 code)).2.1) p14 c14 (γ.q 23 Z) hq3.2 hq4.2) ?_
 intro hq11
 refine DX.takes (fuel := 60) ttOk [(8, true), (9, true), (10, true)] (takesB_of hT J) Z ?_
 have hK2 : (!(a3r ((a06 (a04 code)).2.1) ((a09 (a04 code)).2.1))) = false := (by rw [show (a3r ((a06 (a04 code)).2.1) ((a09 (a04 code)).2.1)) = true from ka2 _]; rfl)
 refine DX.cases 81 Z ?_ ?_ <;> intro h3
 ·skip
  have h3d := (B.nt h3)
  exact absurd (hK2.symm.trans h3) Bool.false_ne_true
 have h3d := (B.nf h3)
 refine DX.takes (fuel := 58) ttOk [(11, true), (12, true)] (takesB_of hT J) Z ?_
 refine DX.see 13 (mayB_of hT J) Z Z Z Z (looks_beq ttOk Z Z Z Z Z Z) ?_
 refine DX.takes (fuel := 55) ttOk [(14, true), (15, true)] (takesB_of hT J) Z ?_
 have hK3 : (!(((a06 (a04 code)).2.2) == ((a09 (a04 code)).2.2))) = false := (by rw [show (((a06 (a04 code)).2.2) == ((a09 (a04 code)).2.2)) = true from ka3 _]; rfl)
 refine DX.cases 86 Z ?_ ?_ <;> intro h4
 ·skip
  have h4d := (B.nt h4)
  exact absurd (hK3.symm.trans h4) Bool.false_ne_true
 have h4d := (B.nf h4)
 refine DX.takes (fuel := 50) ttOk [(16, false), (17, false), (18, false), (19, false), (20, true)] (takesB_of hT J) Z ?_
 refine DXF 21 77 Z J Z Z Z Z Z Z O Z (fun w γ => f15 w n τ1 ((a03 code).1) p15 c15 (γ.q 29 Z) p16 c16 (γ.q 30 Z) p17 c17 (γ.q 31 Z) p18 c18 (γ.q 32 Z) ((a03 code).2.1) p19 c19 (γ.q 33 Z) p20 c20 (γ.q 34 Z) p21 c21 (γ.q 35 Z) p22 c22 (γ.q 36 Z) ((a03 code).2.2.1) p23 c23 (γ.q 37 Z) p24 c24 (γ.q 38 Z) p25 c25 (γ.q 39 Z) ((a03 code).2.2.2) hq5.1 hq5.2.1 hq5.2.2.1 hq5.2.2.2) ?_
 rintro ⟨⟨⟩, ⟨⟩, ⟨p39, c39⟩, ⟨⟩, ⟨⟩, ⟨⟩, ⟨⟨p40, c40⟩, ⟨p41, c41⟩, ⟨p42, c42⟩, ⟨⟩, ⟨⟩⟩⟩ hq12
 dsimp only
 refine DXV 22 Z J Z Z Z Z Z Z O Z (fun w γ => f13 w n τ1 (a0q ((a03 code).1) ((a03 code).2.1) ((a03 code).2.2.1) ((a03 code).2.2.2)) p26 c26 (γ.q 51 Z) p27 c27 (γ.q 52 Z) p28 c28 (γ.q 53 Z) p29 c29 (γ.q 54 Z) (a0j ((a03 code).1) ((a03 code).2.1) ((a03 code).2.2.1) ((a03 code).2.2.2)) p39 c39 (γ.q 77 Z) p40 c40 (γ.q 78 Z) p41 c41 (γ.q 79 Z) p42 c42 (γ.q 80 Z) hq6 hq12) ?_
 intro hq13
 refine DX.takes (fuel := 45) ttOk [(23, true), (24, true), (25, true)] (takesB_of hT J) Z ?_
 have hK4 : (!(a0k (a0q ((a03 code).1) ((a03 code).2.1) ((a03 code).2.2.1) ((a03 code).2.2.2)) (a0j ((a03 code).1) ((a03 code).2.1) ((a03 code).2.2.1) ((a03 code).2.2.2)))) = false := (by rw [show (a0k (a0q ((a03 code).1) ((a03 code).2.1) ((a03 code).2.2.1) ((a03 code).2.2.2)) (a0j ((a03 code).1) ((a03 code).2.1) ((a03 code).2.2.1) ((a03 code).2.2.2))) = true from (ka4 _ _ _ _ (GoT.okm τ1 hq5.2.1))]; rfl)
 refine DX.cases 96 Z ?_ ?_ <;> intro h5
 ·as_aux_lemma =>
  have h5d := (B.nt h5)
  exact absurd (hK4.symm.trans h5) Bool.false_ne_true
 ·as_aux_lemma =>
  have h5d := (B.nf h5)
  refine DX.takes (fuel := 39) ttOk [(26, true), (27, true), (28, false), (30, true), (31, true), (32, false)] (takesB_of hT J) Z ?_
  refine DXF 29 85 Z J Z Z Z Z Z Z O Z (fun w γ => f16 w n τ1 ((a0l code).1) ((a0l code).2.1) ((a0l code).2.2) p30 c30 (γ.q 59 Z) hq7.1 hq7.2.1 hq7.2.2) ?_
  rintro ⟨⟨⟩, ⟨⟩, ⟨p43, c43⟩, ⟨⟩, ⟨⟩, ⟨⟩, ⟨⟨p44, c44⟩, ⟨p45, c45⟩, ⟨p46, c46⟩, ⟨⟩, ⟨⟩⟩⟩ hq14
  dsimp only
  refine DXF 33 93 Z J Z Z Z Z Z Z O Z (fun w γ => f17 w n τ1 ((a0l code).1) ((a0l code).2.1) ((a0l code).2.2) p30 c30 (γ.q 59 Z) hq7.1 hq7.2.1 hq7.2.2) ?_
  rintro ⟨⟨⟩, ⟨⟩, ⟨p47, c47⟩, ⟨⟩, ⟨⟩, ⟨⟩, ⟨⟨p48, c48⟩, ⟨p49, c49⟩, ⟨p50, c50⟩, ⟨⟩, ⟨⟩⟩⟩ hq15
  dsimp only
  refine DXV 34 Z J Z Z Z Z Z Z O Z (fun w γ => f13 w n τ1 (a3t ((a0l code).1) ((a0l code).2.1) ((a0l code).2.2)) p43 c43 (γ.q 85 Z) p44 c44 (γ.q 86 Z) p45 c45 (γ.q 87 Z) p46 c46 (γ.q 88 Z) (a0e ((a0l code).1) ((a0l code).2.1) ((a0l code).2.2)) p47 c47 (γ.q 93 Z) p48 c48 (γ.q 94 Z) p49 c49 (γ.q 95 Z) p50 c50 (γ.q 96 Z) hq14 hq15) ?_
  intro hq16
  refine DX.takes (fuel := 33) ttOk [(35, true), (36, true), (37, true)] (takesB_of hT J) Z ?_
  have hK5 : (!(a0k (a3t ((a0l code).1) ((a0l code).2.1) ((a0l code).2.2)) (a0e ((a0l code).1) ((a0l code).2.1) ((a0l code).2.2)))) = false := (by rw [show (a0k (a3t ((a0l code).1) ((a0l code).2.1) ((a0l code).2.2)) (a0e ((a0l code).1) ((a0l code).2.1) ((a0l code).2.2))) = true from ka5 _ _ _]; rfl)
  refine DX.cases 108 Z ?_ ?_ <;> intro h6
  ·skip
   have h6d := (B.nt h6)
   exact absurd (hK5.symm.trans h6) Bool.false_ne_true
  have h6d := (B.nf h6)
  refine DX.takes (fuel := 27) ttOk [(38, true), (39, true), (40, true), (42, true), (43, true), (44, true)] (takesB_of hT J) Z ?_
  refine DXV 41 Z J Z Z Z Z Z Z O Z (fun w γ => f18 w n τ1 ((a1e code).1) ((a1e code).2.1) ((a1e code).2.2) hq8.1 hq8.2.1 hq8.2.2) ?_
  intro hq17
  refine DXV 45 Z J Z Z Z Z Z Z O Z (fun w γ => f19 w n τ1 ((a1e code).1) ((a1e code).2.1) ((a1e code).2.2) hq8.1 hq8.2.1 hq8.2.2) ?_
  intro hq18
  refine DX.takes (fuel := 22) ttOk [(46, true), (47, true), (48, true)] (takesB_of hT J) Z ?_
  have hK6 : ((a1z ((a1e code).1) ((a1e code).2.1) ((a1e code).2.2)) != (a44 ((a1e code).1) ((a1e code).2.1) ((a1e code).2.2))) = false := ka6 _ _ _
  refine DX.cases 119 Z ?_ ?_ <;> intro h7
  ·skip
   have h7d := B.nt' h7
   exact absurd (hK6.symm.trans h7) Bool.false_ne_true
  have h7d := B.nf' h7
  refine DX.takes (fuel := 18) ttOk [(49, false), (50, false), (52, false), (53, false)] (takesB_of hT J) Z ?_
  refine DXV 51 Z J Z Z Z Z Z Z O Z (fun w γ => f20 w n τ1 ((a0y code).1) p31 c31 (γ.q 61 Z) p32 c32 (γ.q 62 Z) p33 c33 (γ.q 63 Z) p34 c34 (γ.q 64 Z) ((a0y code).2) p35 c35 (γ.q 65 Z) p36 c36 (γ.q 66 Z) p37 c37 (γ.q 67 Z) p38 c38 (γ.q 68 Z) hq9.1 hq9.2) ?_
  intro hq19
  refine DXV 54 Z J Z Z Z Z Z Z O Z (fun w γ => f13 w n τ1 ((a0y code).1) p31 c31 (γ.q 61 Z) p32 c32 (γ.q 62 Z) p33 c33 (γ.q 63 Z) p34 c34 (γ.q 64 Z) ((a0y code).2) p35 c35 (γ.q 65 Z) p36 c36 (γ.q 66 Z) p37 c37 (γ.q 67 Z) p38 c38 (γ.q 68 Z) hq9.1 hq9.2) ?_
  intro hq20
  refine DX.see 55 (mayB_of hT J) Z Z Z Z (looks_beq ttOk Z Z Z Z Z Z) ?_
  refine DX.takes (fuel := 13) ttOk [(56, true), (57, true)] (takesB_of hT J) Z ?_
  have hK7 : (!((a2m ((a0y code).1) ((a0y code).2)) == (a0k ((a0y code).1) ((a0y code).2)))) = false := (by rw [show ((a2m ((a0y code).1) ((a0y code).2)) == (a0k ((a0y code).1) ((a0y code).2))) = true from ka7 _ _]; rfl)
  refine DX.cases 128 Z ?_ ?_ <;> intro h8
  ·skip
   have h8d := (B.nt h8)
   exact absurd (hK7.symm.trans h8) Bool.false_ne_true
  have h8d := (B.nf h8)
  refine DX.takes (fuel := 11) ttOk [(58, false), (60, false)] (takesB_of hT J) Z ?_
  refine DX.callV 59 Z J Z Z Z Z Z Z O Z (fun w G bs hI hΓ => f21 w n τ1 (a04 code) p1 c1 (hΓ.get 1 Z) p2 c2 (hΓ.get 2 Z) p3 c3 (hΓ.get 3 Z) p4 c4 (hΓ.get 4 Z) (Tb.kp hI hq0) hq2) ?_
  intro hq21
  refine DXV 61 Z J Z Z Z Z Z Z O Z (fun w γ => f22 w n τ1 (a04 code) p1 c1 (γ.q 1 Z) p2 c2 (γ.q 2 Z) p3 c3 (γ.q 3 Z) p4 c4 (γ.q 4 Z) hq2) ?_
  intro hq22
  refine DX.takes (fuel := 6) ttOk [(62, true), (63, true), (64, true)] (takesB_of hT J) Z ?_
  have hK8 : (!(((a3j (a04 code))).toList == ((a3k (a04 code))).toList)) = false := (by rw [show (((a3j (a04 code))).toList == ((a3k (a04 code))).toList) = true from (ka8 _ (GoT.okm τ1 hq2))]; rfl)
  refine DX.cases 135 Z ?_ ?_ <;> intro h9
  ·skip
   have h9d := B.ef (B.nt h9)
   exact absurd (hK8.symm.trans h9) Bool.false_ne_true
  have h9d := B.et (B.nf h9)
  refine DX.takes (fuel := 4) ttOk [(65, false), (67, false)] (takesB_of hT J) Z ?_
  refine DXV 66 Z J Z Z Z Z Z Z O Z (fun w γ => f23 w n τ1 (a04 code) p1 c1 (γ.q 1 Z) p2 c2 (γ.q 2 Z) p3 c3 (γ.q 3 Z) p4 c4 (γ.q 4 Z) hq2) ?_
  intro hq23
  refine DXV 68 Z J Z Z Z Z Z Z O Z (fun w γ => f24 w n τ1 (a04 code) p1 c1 (γ.q 1 Z) p2 c2 (γ.q 2 Z) p3 c3 (γ.q 3 Z) p4 c4 (γ.q 4 Z) hq2) ?_
  intro hq24
  refine DX.see 69 (mayB_of hT J) Z Z Z Z (looks_beq ttOk Z Z Z Z Z Z) ?_
  refine DX.takes (fuel := 0) ttOk [(70, true)] (takesB_of hT J) Z ?_
  refine DX.tail2 [] Z Z J ?_
  refine R0 ?_
  refine WX.trim [141, 14, 13, 12, 11, 10, 6, 5, 4, 3] [1, 2, 3, 4, 5, 6, 7, 8, 9, 10, 11, 12, 13, 14, 15, 16, 17, 18, 19, 20, 21, 22, 23, 24, 25, 26, 27, 28, 29, 30, 31, 32, 33, 34, 35, 36, 37, 38, 39, 40, 41, 42, 43, 44, 45, 46, 47, 48, 49, 50, 51, 52, 53, 54, 55, 56, 57, 58, 59, 60, 61, 62, 63, 64, 65, 66, 67, 68, 69, 70, 71, 72, 73, 74, 75, 76] Z Z ?_
  have hK9 : (!((a0h (a04 code)) == (a28 (a04 code)))) = false := (by rw [show ((a0h (a04 code)) == (a28 (a04 code))) = true from ka9 _]; rfl)
  refine WX.cases 141 Z ?_ ?_ <;> intro h10
  ·as_aux_lemma =>
   have h10d := (B.nt h10)
   exact absurd (hK9.symm.trans h10) Bool.false_ne_true
  ·as_aux_lemma =>
   have h10d := (B.nf h10)
   refine R0 ?_
   refine WX.cases 144 Z ?_ ?_ <;> intro h11
   ·skip
    refine R0 ?_
    refine WX.cases 149 Z ?_ ?_ <;> intro h12
    ·skip
     have h12d := (B.nt h12)
     refine R0 ?_
     refine CV Z Z Z Z Z O Z (fun w γ => f25 w n τ1 ((a03 code).2.1) p19 c19 (γ.q 33 Z) p20 c20 (γ.q 34 Z) p21 c21 (γ.q 35 Z) p22 c22 (γ.q 36 Z) ((a03 code).2.2.1) p23 c23 (γ.q 37 Z) p24 c24 (γ.q 38 Z) p25 c25 (γ.q 39 Z) ((a03 code).2.2.2) hq5.2.1 hq5.2.2.1 hq5.2.2.2) ?_
     intro hq25
     refine R0 ?_
     refine WX.trim [155, 149, 14, 12, 10, 6, 5, 4, 3] [1, 2, 3, 4, 5, 6, 7, 8, 9, 10, 11, 12, 13, 14, 15, 16, 17, 18, 19, 20, 21, 22, 23, 24, 25, 26, 27, 28, 29, 30, 31, 32, 33, 34, 35, 36, 37, 38, 39, 40, 41, 42, 43, 44, 45, 46, 47, 48, 49, 50, 51, 52, 53, 54, 55, 56, 57, 58, 59, 60, 61, 62, 63, 64, 65, 66, 67, 68, 69, 70, 71, 72, 73, 74, 75, 76] Z Z ?_
     have hK10 : (!(a3q ((a03 code).2.1) ((a03 code).2.2.1) ((a03 code).2.2.2))) = false := (by rw [show (a3q ((a03 code).2.1) ((a03 code).2.2.1) ((a03 code).2.2.2)) = true from (kb1 h11 h12).1]; rfl)
     refine WX.cases 155 Z ?_ ?_ <;> intro h13
     ·skip
      have h13d := (B.nt h13)
      exact absurd (hK10.symm.trans h13) Bool.false_ne_true
     have h13d := (B.nf h13)
     refine R0 ?_
     refine CV Z Z Z Z Z O Z (fun w γ => f26 w n τ1 ((a0q ((a03 code).1) ((a03 code).2.1) ((a03 code).2.2.1) ((a03 code).2.2.2)).data) p27 c27 (γ.q 52 Z) p28 c28 (γ.q 53 Z) p29 c29 (γ.q 54 Z) ((a03 code).2.2.1) p23 c23 (γ.q 37 Z) p24 c24 (γ.q 38 Z) p25 c25 (γ.q 39 Z) ((ok_Consumer hq6).2.2.2.2.2.2) hq5.2.2.1) ?_
     intro hq26
     refine R0 ?_
     have hK11 : (!(a2h ((a0q ((a03 code).1) ((a03 code).2.1) ((a03 code).2.2.1) ((a03 code).2.2.2)).data) ((a03 code).2.2.1))) = false := (by rw [show (a2h ((a0q ((a03 code).1) ((a03 code).2.1) ((a03 code).2.2.1) ((a03 code).2.2.2)).data) ((a03 code).2.2.1)) = true from (kb1 h11 h12).2.1]; rfl)
     refine WX.cases 162 Z ?_ ?_ <;> intro h14
     ·skip
      have h14d := (B.nt h14)
      exact absurd (hK11.symm.trans h14) Bool.false_ne_true
     have h14d := (B.nf h14)
     refine R0 ?_
     refine CV Z Z Z Z Z O Z (fun w γ => f27 w n τ1 ((a03 code).2.2.1.name) p23 c23 (γ.q 37 Z) ((a03 code).1.name) p15 c15 (γ.q 29 Z) ((ok_DataP hq5.2.2.1).1) ((ok_Consumer hq5.1).2.2.1)) ?_
     intro hq27
     refine R0 ?_
     refine WX.trim [171, 14, 10, 6, 5, 4, 3] [1, 2, 3, 4, 5, 6, 7, 8, 9, 10, 11, 12, 13, 14, 15, 16, 17, 18, 19, 20, 21, 22, 23, 24, 25, 26, 27, 28, 29, 30, 31, 32, 33, 34, 35, 36, 37, 38, 39, 40, 41, 42, 43, 44, 45, 46, 47, 48, 49, 50, 51, 52, 53, 54, 55, 56, 57, 58, 59, 60, 61, 62, 63, 64, 65, 66, 67, 68, 69, 70, 71, 72, 73, 74, 75, 76] Z Z ?_
     have hK12 : (!(a3e ((a03 code).2.2.1.name) ((a03 code).1.name))) = false := (by rw [show (a3e ((a03 code).2.2.1.name) ((a03 code).1.name)) = true from (kb1 h11 h12).2.2]; rfl)
     refine WX.cases 171 Z ?_ ?_ <;> intro h15
     ·as_aux_lemma =>
      have h15d := (B.nt h15)
      exact absurd (hK12.symm.trans h15) Bool.false_ne_true
     ·as_aux_lemma =>
      have h15d := (B.nf h15)
      refine R0 ?_
      have hK13 : (a03 code).1.satisfied = false := (by have z_ := h12; simpa using z_)
      refine WX.cases 174 Z ?_ ?_ <;> intro h16
      ·skip
       exact absurd (hK13.symm.trans h16) Bool.false_ne_true
      refine R0 ?_
      refine CV Z Z Z Z Z O Z (fun w γ => f23 w n τ1 (a04 code) p1 c1 (γ.q 1 Z) p2 c2 (γ.q 2 Z) p3 c3 (γ.q 3 Z) p4 c4 (γ.q 4 Z) hq2) ?_
      intro hq28
      refine R0 ?_
      refine WX.cases 183 Z ?_ ?_ <;> intro h17
      ·skip
       have h17d := (B.nt h17)
       refine R0 ?_
       exact R4 Z (by simp only [a1a, h1, h11, h12, h17, cT, cF])
      have h17d := (B.nf h17)
      refine R0 ?_
      refine CF 101 Z Z Z Z Z O Z (fun w γ => f6 w n τ1 ((a06 (a04 code)).1) p5 c5 (γ.q 9 Z) p6 c6 (γ.q 10 Z) p7 c7 (γ.q 11 Z) p8 c8 (γ.q 12 Z) hq3.1) ?_
      rintro ⟨⟨⟨⟩, ⟨⟩, ⟨p51, c51⟩, ⟨⟩, ⟨⟩, ⟨⟩, ⟨⟨p52, c52⟩, ⟨p53, c53⟩, ⟨p54, c54⟩, ⟨⟩, ⟨⟩⟩⟩, ⟨⟨p55, c55⟩, ⟨⟩, ⟨⟩, ⟨⟩⟩⟩ hq29
      dsimp only
      refine R0 ?_
      refine WX.draw [] mixed ?_
      intro bs G0 hΓ0
      refine DX.tab J (fun hT => ?_)
      refine DX.takes (fuel := 33) ttOk [(0, true), (1, true)] (takesB_of hT J) Z ?_
      refine DX.cases 191 Z ?_ ?_ <;> intro h18
      ·skip
       refine DX.takes (fuel := 31) ttOk [(2, true), (3, true)] (takesB_of hT J) Z ?_
       have hK14 : (a06 ((a06 (a04 code)).1)).2.2 = false := (kc1 h18)
       refine DX.cases 193 Z ?_ ?_ <;> intro h19
       ·skip
        exact absurd (hK14.symm.trans h19) Bool.false_ne_true
       refine DX.takes (fuel := 30) ttOk [(4, false)] (takesB_of hT J) Z ?_
       refine DXV 5 Z J Z Z Z Z Z Z O Z (fun w γ => f28 w n τ1 ((a06 (a04 code)).2.1) p9 c9 (γ.q 13 Z) hq3.2) ?_
       intro hq30
       refine DX.takes (fuel := 26) ttOk [(6, true), (7, true), (8, true)] (takesB_of hT J) Z ?_
       have hK15 : (!(a2j ((a06 (a04 code)).2.1))) = false := (by rw [show (a2j ((a06 (a04 code)).2.1)) = true from (kc2 (by have z_ := h17; simpa using z_) h18)]; rfl)
       refine DX.cases 198 Z ?_ ?_ <;> intro h20
       ·as_aux_lemma =>
        have h20d := (B.nt h20)
        exact absurd (hK15.symm.trans h20) Bool.false_ne_true
       ·as_aux_lemma =>
        have h20d := (B.nf h20)
        refine DX.takes (fuel := 18) ttOk [(9, true), (10, false), (11, true), (12, false), (13, true), (14, false), (15, true), (16, false)] (takesB_of hT J) Z ?_
        refine DX.seeP 17 J Z Z Z Z (looksP_wrap Z Z Z Z) ?_
        refine DXV 18 Z J Z Z Z Z Z Z O Z (fun w γ => f18 w n τ1 ((a04 code).node) ((a04 code).index) (IntKind.i64.wrap (((a04 code).attempts) + 1)) ((ok_Consumer hq2).1) ((ok_Consumer hq2).2.1) (i64_wrap _)) ?_
        intro hq31
        refine DX.takes (fuel := 12) ttOk [(19, true), (20, true), (21, true), (22, true)] (takesB_of hT J) Z ?_
        have hK16 : ((a06 (a04 code)).2.1.nonce != (a1z ((a04 code).node) ((a04 code).index) (IntKind.i64.wrap (((a04 code).attempts) + 1)))) = false := (kc3 h18)
        refine DX.cases 212 Z ?_ ?_ <;> intro h21
        ·skip
         have h21d := B.nt' h21
         exact absurd (hK16.symm.trans h21) Bool.false_ne_true
        have h21d := B.nf' h21
        refine DX.takes (fuel := 10) ttOk [(23, true), (24, true)] (takesB_of hT J) Z ?_
        refine DX.cases 214 Z ?_ ?_ <;> intro h22
        ·skip
         exact absurd (hK14.symm.trans h22) Bool.false_ne_true
        refine DX.takes (fuel := 0) ttOk [(25, true), (26, true), (27, true), (28, true), (29, true), (30, true), (31, true), (32, true), (33, true), (34, true)] (takesB_of hT J) Z ?_
        refine DX.tail2 [] Z Z J ?_
        refine R0 ?_
        refine CV Z Z Z Z Z O Z (fun w γ => f23 w n τ1 ((a06 (a04 code)).1) p5 c5 (γ.q 9 Z) p6 c6 (γ.q 10 Z) p7 c7 (γ.q 11 Z) p8 c8 (γ.q 12 Z) hq3.1) ?_
        intro hq32
        refine WX.trim [226, 23, 6, 4, 3] [1, 2, 3, 4, 5, 6, 7, 8, 9, 10, 11, 12, 13, 14, 15, 16, 17, 18, 19, 20, 21, 22, 23, 24, 25, 26, 27, 28, 29, 30, 31, 32, 33, 34, 35, 36, 37, 38, 39, 40, 41, 42, 43, 44, 45, 46, 47, 48, 49, 50, 51, 52, 53, 54, 55, 56, 57, 58, 59, 60, 61, 62, 63, 64, 65, 66, 67, 68, 69, 70, 71, 72, 73, 74, 75, 76, 101, 102, 103, 104, 105, 106, 107, 108, 109, 110] Z Z ?_
        refine R0 ?_
        have hK17 : (a0h ((a06 (a04 code)).1)) = true := (kc4 (by have z_ := h17; simpa using z_))
        refine WX.cases 227 Z ?_ ?_ <;> intro h23
        ·skip
         refine R0 ?_
         refine CV Z Z Z Z Z O Z (fun w γ => f23 w n τ1 ((a06 ((a06 (a04 code)).1)).1) p51 c51 (γ.q 101 Z) p52 c52 (γ.q 102 Z) p53 c53 (γ.q 103 Z) p54 c54 (γ.q 104 Z) hq29.1) ?_
         intro hq33
         refine R0 ?_
         have hK18 : (a0h ((a06 ((a06 (a04 code)).1)).1)) = true := (kc4 (kc4 (by have z_ := h17; simpa using z_)))
         refine WX.cases 231 Z ?_ ?_ <;> intro h24
         ·skip
          refine R0 ?_
          have hK19 : (!((a04 code).satisfied)) = true := (by rw [show ((a04 code).satisfied) = false from (kc8 h18)]; rfl)
          refine WX.cases 235 Z ?_ ?_ <;> intro h25
          ·as_aux_lemma =>
           have h25d := (B.nt h25)
           refine R0 ?_
           exact R4 Z (by simp only [a1a, h1, h11, h12, h17, h18, cT, cF])
          ·as_aux_lemma =>
           have h25d := (B.nf h25)
           exact absurd (h25.symm.trans hK19) Bool.false_ne_true
         exact absurd (h24.symm.trans hK18) Bool.false_ne_true
        exact absurd (h23.symm.trans hK17) Bool.false_ne_true
      refine DX.takes (fuel := 10) ttOk [(2, true), (3, true), (4, true), (5, true), (6, true), (7, true), (8, true), (9, true), (10, true), (11, true), (12, true), (13, true), (14, true), (15, true), (16, true), (17, true), (18, true), (19, true), (20, true), (21, true), (22, true), (23, true), (24, true)] (takesB_of hT J) Z ?_
      refine DX.cases 214 Z ?_ ?_ <;> intro h26
      ·skip
       refine DX.takes (fuel := 3) ttOk [(25, true), (26, false), (27, true), (28, false), (29, true), (30, true), (31, true)] (takesB_of hT J) Z ?_
       have hK20 : ((a06 ((a06 (a04 code)).1)).2.1.nonce == (a06 (a04 code)).2.1.nonce) = false := (kc7 (by have z_ := h17; simpa using z_) h18 h26)
       refine DX.cases 221 Z ?_ ?_ <;> intro h27
       ·as_aux_lemma =>
        have h27d := B.et h27
        exact absurd (hK20.symm.trans h27) Bool.false_ne_true
       ·as_aux_lemma =>
        have h27d := B.ef h27
        refine DX.takes (fuel := 0) ttOk [(32, true), (33, true), (34, true)] (takesB_of hT J) Z ?_
        refine DX.tail2 [] Z Z J ?_
        refine R0 ?_
        refine CV Z Z Z Z Z O Z (fun w γ => f23 w n τ1 ((a06 (a04 code)).1) p5 c5 (γ.q 9 Z) p6 c6 (γ.q 10 Z) p7 c7 (γ.q 11 Z) p8 c8 (γ.q 12 Z) hq3.1) ?_
        intro hq34
        refine WX.trim [226, 23, 6, 4, 3] [1, 2, 3, 4, 5, 6, 7, 8, 9, 10, 11, 12, 13, 14, 15, 16, 17, 18, 19, 20, 21, 22, 23, 24, 25, 26, 27, 28, 29, 30, 31, 32, 33, 34, 35, 36, 37, 38, 39, 40, 41, 42, 43, 44, 45, 46, 47, 48, 49, 50, 51, 52, 53, 54, 55, 56, 57, 58, 59, 60, 61, 62, 63, 64, 65, 66, 67, 68, 69, 70, 71, 72, 73, 74, 75, 76, 101, 102, 103, 104, 105, 106, 107, 108, 109, 110] Z Z ?_
        refine R0 ?_
        have hK21 : (a0h ((a06 (a04 code)).1)) = true := (kc4 (by have z_ := h17; simpa using z_))
        refine WX.cases 227 Z ?_ ?_ <;> intro h28
        ·skip
         refine R0 ?_
         refine CV Z Z Z Z Z O Z (fun w γ => f23 w n τ1 ((a06 ((a06 (a04 code)).1)).1) p51 c51 (γ.q 101 Z) p52 c52 (γ.q 102 Z) p53 c53 (γ.q 103 Z) p54 c54 (γ.q 104 Z) hq29.1) ?_
         intro hq35
         refine R0 ?_
         have hK22 : (a0h ((a06 ((a06 (a04 code)).1)).1)) = true := (kc4 (kc4 (by have z_ := h17; simpa using z_)))
         refine WX.cases 231 Z ?_ ?_ <;> intro h29
         ·skip
          refine R0 ?_
          refine WX.cases 235 Z ?_ ?_ <;> intro h30
          ·skip
           have h30d := (B.nt h30)
           refine R0 ?_
           exact R4 Z (by simp only [a1a, h1, h11, h12, h17, h18, h26, h30, cT, cF])
          have h30d := (B.nf h30)
          refine R0 ?_
          have hK23 : (!((a06 (a04 code)).2.2)) = true := (by rw [show ((a06 (a04 code)).2.2) = false from (kc6 (by have z_ := h30; simpa using z_)).1]; rfl)
          refine WX.cases 238 Z ?_ ?_ <;> intro h31
          ·skip
           have h31d := (B.nt h31)
           refine R0 ?_
           refine CV Z Z Z Z Z O Z (fun w γ => f13 w n τ1 ((a06 (a04 code)).1) p5 c5 (γ.q 9 Z) p6 c6 (γ.q 10 Z) p7 c7 (γ.q 11 Z) p8 c8 (γ.q 12 Z) (a04 code) p1 c1 (γ.q 1 Z) p2 c2 (γ.q 2 Z) p3 c3 (γ.q 3 Z) p4 c4 (γ.q 4 Z) hq3.1 hq2) ?_
           intro hq36
           refine R0 ?_
           exact R4 Z (by simp only [a1a, h1, h11, h12, h17, h18, h26, h30, cT, cF])
          have h31d := (B.nf h31)
          exact absurd (h31.symm.trans hK23) Bool.false_ne_true
         exact absurd (h29.symm.trans hK22) Bool.false_ne_true
        exact absurd (h28.symm.trans hK21) Bool.false_ne_true
      refine DX.takes (fuel := 0) ttOk [(25, true), (26, true), (27, true), (28, true), (29, true), (30, true), (31, true), (32, true), (33, true), (34, true)] (takesB_of hT J) Z ?_
      refine DX.tail2 [] Z Z J ?_
      refine R0 ?_
      refine CV Z Z Z Z Z O Z (fun w γ => f23 w n τ1 ((a06 (a04 code)).1) p5 c5 (γ.q 9 Z) p6 c6 (γ.q 10 Z) p7 c7 (γ.q 11 Z) p8 c8 (γ.q 12 Z) hq3.1) ?_
      intro hq37
      refine WX.trim [226, 23, 6, 4, 3] [1, 2, 3, 4, 5, 6, 7, 8, 9, 10, 11, 12, 13, 14, 15, 16, 17, 18, 19, 20, 21, 22, 23, 24, 25, 26, 27, 28, 29, 30, 31, 32, 33, 34, 35, 36, 37, 38, 39, 40, 41, 42, 43, 44, 45, 46, 47, 48, 49, 50, 51, 52, 53, 54, 55, 56, 57, 58, 59, 60, 61, 62, 63, 64, 65, 66, 67, 68, 69, 70, 71, 72, 73, 74, 75, 76, 101, 102, 103, 104, 105, 106, 107, 108, 109, 110] Z Z ?_
      refine R0 ?_
      have hK24 : (a0h ((a06 (a04 code)).1)) = true := (kc4 (by have z_ := h17; simpa using z_))
      refine WX.cases 227 Z ?_ ?_ <;> intro h32
      ·as_aux_lemma =>
       refine R0 ?_
       refine CV Z Z Z Z Z O Z (fun w γ => f23 w n τ1 ((a06 ((a06 (a04 code)).1)).1) p51 c51 (γ.q 101 Z) p52 c52 (γ.q 102 Z) p53 c53 (γ.q 103 Z) p54 c54 (γ.q 104 Z) hq29.1) ?_
       intro hq38
       refine R0 ?_
       have hK25 : (a0h ((a06 ((a06 (a04 code)).1)).1)) = true := (kc4 (kc4 (by have z_ := h17; simpa using z_)))
       refine WX.cases 231 Z ?_ ?_ <;> intro h33
       ·skip
        refine R0 ?_
        refine WX.cases 235 Z ?_ ?_ <;> intro h34
        ·skip
         have h34d := (B.nt h34)
         refine R0 ?_
         exact R4 Z (by simp only [a1a, h1, h11, h12, h17, h18, h26, h34, cT, cF])
        have h34d := (B.nf h34)
        refine R0 ?_
        have hK26 : (!((a06 (a04 code)).2.2)) = true := (by rw [show ((a06 (a04 code)).2.2) = false from (kc6 (by have z_ := h34; simpa using z_)).1]; rfl)
        refine WX.cases 238 Z ?_ ?_ <;> intro h35
        ·skip
         have h35d := (B.nt h35)
         refine R0 ?_
         refine CV Z Z Z Z Z O Z (fun w γ => f13 w n τ1 ((a06 (a04 code)).1) p5 c5 (γ.q 9 Z) p6 c6 (γ.q 10 Z) p7 c7 (γ.q 11 Z) p8 c8 (γ.q 12 Z) (a04 code) p1 c1 (γ.q 1 Z) p2 c2 (γ.q 2 Z) p3 c3 (γ.q 3 Z) p4 c4 (γ.q 4 Z) hq3.1 hq2) ?_
         intro hq39
         refine R0 ?_
         exact R4 Z (by simp only [a1a, h1, h11, h12, h17, h18, h26, h34, cT, cF])
        have h35d := (B.nf h35)
        exact absurd (h35.symm.trans hK26) Bool.false_ne_true
       exact absurd (h33.symm.trans hK25) Bool.false_ne_true
      ·as_aux_lemma =>
       exact absurd (h32.symm.trans hK24) Bool.false_ne_true
    have h12d := (B.nf h12)
    refine R0 ?_
    refine WX.trim [174, 171, 14, 10, 6, 5, 4, 3] [1, 2, 3, 4, 5, 6, 7, 8, 9, 10, 11, 12, 13, 14, 15, 16, 17, 18, 19, 20, 21, 22, 23, 24, 25, 26, 27, 28, 29, 30, 31, 32, 33, 34, 35, 36, 37, 38, 39, 40, 41, 42, 43, 44, 45, 46, 47, 48, 49, 50, 51, 52, 53, 54, 55, 56, 57, 58, 59, 60, 61, 62, 63, 64, 65, 66, 67, 68, 69, 70, 71, 72, 73, 74, 75, 76] Z Z ?_
    have hK27 : (a03 code).1.satisfied = true := (by have z_ := h12; simpa using z_)
    refine WX.cases 174 Z ?_ ?_ <;> intro h36
    ·skip
     refine R0 ?_
     refine CV Z Z Z Z Z O Z (fun w γ => f13 w n τ1 (a0q ((a03 code).1) ((a03 code).2.1) ((a03 code).2.2.1) ((a03 code).2.2.2)) p26 c26 (γ.q 51 Z) p27 c27 (γ.q 52 Z) p28 c28 (γ.q 53 Z) p29 c29 (γ.q 54 Z) ((a03 code).1) p15 c15 (γ.q 29 Z) p16 c16 (γ.q 30 Z) p17 c17 (γ.q 31 Z) p18 c18 (γ.q 32 Z) hq6 hq5.1) ?_
     intro hq40
     refine R0 ?_
     have hK28 : (!(a0k (a0q ((a03 code).1) ((a03 code).2.1) ((a03 code).2.2.1) ((a03 code).2.2.2)) ((a03 code).1))) = false := (by rw [show (a0k (a0q ((a03 code).1) ((a03 code).2.1) ((a03 code).2.2.1) ((a03 code).2.2.2)) ((a03 code).1)) = true from (kb2 hK27)]; rfl)
     refine WX.cases 180 Z ?_ ?_ <;> intro h37
     ·skip
      have h37d := (B.nt h37)
      exact absurd (hK28.symm.trans h37) Bool.false_ne_true
     have h37d := (B.nf h37)
     refine R0 ?_
     refine CV Z Z Z Z Z O Z (fun w γ => f23 w n τ1 (a04 code) p1 c1 (γ.q 1 Z) p2 c2 (γ.q 2 Z) p3 c3 (γ.q 3 Z) p4 c4 (γ.q 4 Z) hq2) ?_
     intro hq41
     refine R0 ?_
     refine WX.cases 183 Z ?_ ?_ <;> intro h38
     ·as_aux_lemma =>
      have h38d := (B.nt h38)
      refine R0 ?_
      exact R4 Z (by simp only [a1a, h1, h11, h12, h38, cT, cF])
     ·as_aux_lemma =>
      have h38d := (B.nf h38)
      refine R0 ?_
      refine CF 111 Z Z Z Z Z O Z (fun w γ => f6 w n τ1 ((a06 (a04 code)).1) p5 c5 (γ.q 9 Z) p6 c6 (γ.q 10 Z) p7 c7 (γ.q 11 Z) p8 c8 (γ.q 12 Z) hq3.1) ?_
      rintro ⟨⟨⟨⟩, ⟨⟩, ⟨p56, c56⟩, ⟨⟩, ⟨⟩, ⟨⟩, ⟨⟨p57, c57⟩, ⟨p58, c58⟩, ⟨p59, c59⟩, ⟨⟩, ⟨⟩⟩⟩, ⟨⟨p60, c60⟩, ⟨⟩, ⟨⟩, ⟨⟩⟩⟩ hq42
      dsimp only
      refine R0 ?_
      refine WX.draw [] mixed ?_
      intro bs G0 hΓ0
      refine DX.tab J (fun hT => ?_)
      refine DX.takes (fuel := 33) ttOk [(0, true), (1, true)] (takesB_of hT J) Z ?_
      refine DX.cases 191 Z ?_ ?_ <;> intro h39
      ·skip
       refine DX.takes (fuel := 31) ttOk [(2, true), (3, true)] (takesB_of hT J) Z ?_
       have hK29 : (a06 ((a06 (a04 code)).1)).2.2 = false := (kc1 h39)
       refine DX.cases 193 Z ?_ ?_ <;> intro h40
       ·skip
        exact absurd (hK29.symm.trans h40) Bool.false_ne_true
       refine DX.takes (fuel := 30) ttOk [(4, false)] (takesB_of hT J) Z ?_
       refine DXV 5 Z J Z Z Z Z Z Z O Z (fun w γ => f28 w n τ1 ((a06 (a04 code)).2.1) p9 c9 (γ.q 13 Z) hq3.2) ?_
       intro hq43
       refine DX.takes (fuel := 26) ttOk [(6, true), (7, true), (8, true)] (takesB_of hT J) Z ?_
       have hK30 : (!(a2j ((a06 (a04 code)).2.1))) = false := (by rw [show (a2j ((a06 (a04 code)).2.1)) = true from (kc2 (by have z_ := h38; simpa using z_) h39)]; rfl)
       refine DX.cases 198 Z ?_ ?_ <;> intro h41
       ·skip
        have h41d := (B.nt h41)
        exact absurd (hK30.symm.trans h41) Bool.false_ne_true
       have h41d := (B.nf h41)
       refine DX.takes (fuel := 18) ttOk [(9, true), (10, false), (11, true), (12, false), (13, true), (14, false), (15, true), (16, false)] (takesB_of hT J) Z ?_
       refine DX.seeP 17 J Z Z Z Z (looksP_wrap Z Z Z Z) ?_
       refine DXV 18 Z J Z Z Z Z Z Z O Z (fun w γ => f18 w n τ1 ((a04 code).node) ((a04 code).index) (IntKind.i64.wrap (((a04 code).attempts) + 1)) ((ok_Consumer hq2).1) ((ok_Consumer hq2).2.1) (i64_wrap _)) ?_
       intro hq44
       refine DX.takes (fuel := 12) ttOk [(19, true), (20, true), (21, true), (22, true)] (takesB_of hT J) Z ?_
       have hK31 : ((a06 (a04 code)).2.1.nonce != (a1z ((a04 code).node) ((a04 code).index) (IntKind.i64.wrap (((a04 code).attempts) + 1)))) = false := (kc3 h39)
       refine DX.cases 212 Z ?_ ?_ <;> intro h42
       ·skip
        have h42d := B.nt' h42
        exact absurd (hK31.symm.trans h42) Bool.false_ne_true
       have h42d := B.nf' h42
       refine DX.takes (fuel := 10) ttOk [(23, true), (24, true)] (takesB_of hT J) Z ?_
       refine DX.cases 214 Z ?_ ?_ <;> intro h43
       ·as_aux_lemma =>
        exact absurd (hK29.symm.trans h43) Bool.false_ne_true
       ·as_aux_lemma =>
        refine DX.takes (fuel := 0) ttOk [(25, true), (26, true), (27, true), (28, true), (29, true), (30, true), (31, true), (32, true), (33, true), (34, true)] (takesB_of hT J) Z ?_
        refine DX.tail2 [] Z Z J ?_
        refine R0 ?_
        refine CV Z Z Z Z Z O Z (fun w γ => f23 w n τ1 ((a06 (a04 code)).1) p5 c5 (γ.q 9 Z) p6 c6 (γ.q 10 Z) p7 c7 (γ.q 11 Z) p8 c8 (γ.q 12 Z) hq3.1) ?_
        intro hq45
        refine WX.trim [226, 23, 6, 4, 3] [1, 2, 3, 4, 5, 6, 7, 8, 9, 10, 11, 12, 13, 14, 15, 16, 17, 18, 19, 20, 21, 22, 23, 24, 25, 26, 27, 28, 29, 30, 31, 32, 33, 34, 35, 36, 37, 38, 39, 40, 41, 42, 43, 44, 45, 46, 47, 48, 49, 50, 51, 52, 53, 54, 55, 56, 57, 58, 59, 60, 61, 62, 63, 64, 65, 66, 67, 68, 69, 70, 71, 72, 73, 74, 75, 76, 111, 112, 113, 114, 115, 116, 117, 118, 119, 120] Z Z ?_
        refine R0 ?_
        have hK32 : (a0h ((a06 (a04 code)).1)) = true := (kc4 (by have z_ := h38; simpa using z_))
        refine WX.cases 227 Z ?_ ?_ <;> intro h44
        ·skip
         refine R0 ?_
         refine CV Z Z Z Z Z O Z (fun w γ => f23 w n τ1 ((a06 ((a06 (a04 code)).1)).1) p56 c56 (γ.q 111 Z) p57 c57 (γ.q 112 Z) p58 c58 (γ.q 113 Z) p59 c59 (γ.q 114 Z) hq42.1) ?_
         intro hq46
         refine R0 ?_
         have hK33 : (a0h ((a06 ((a06 (a04 code)).1)).1)) = true := (kc4 (kc4 (by have z_ := h38; simpa using z_)))
         refine WX.cases 231 Z ?_ ?_ <;> intro h45
         ·skip
          refine R0 ?_
          have hK34 : (!((a04 code).satisfied)) = true := (by rw [show ((a04 code).satisfied) = false from (kc8 h39)]; rfl)
          refine WX.cases 235 Z ?_ ?_ <;> intro h46
          ·skip
           have h46d := (B.nt h46)
           refine R0 ?_
           exact R4 Z (by simp only [a1a, h1, h11, h12, h38, h39, cT, cF])
          have h46d := (B.nf h46)
          exact absurd (h46.symm.trans hK34) Bool.false_ne_true
         exact absurd (h45.symm.trans hK33) Bool.false_ne_true
        exact absurd (h44.symm.trans hK32) Bool.false_ne_true
      refine DX.takes (fuel := 10) ttOk [(2, true), (3, true), (4, true), (5, true), (6, true), (7, true), (8, true), (9, true), (10, true), (11, true), (12, true), (13, true), (14, true), (15, true), (16, true), (17, true), (18, true), (19, true), (20, true), (21, true), (22, true), (23, true), (24, true)] (takesB_of hT J) Z ?_
      refine DX.cases 214 Z ?_ ?_ <;> intro h47
      ·skip
       refine DX.takes (fuel := 3) ttOk [(25, true), (26, false), (27, true), (28, false), (29, true), (30, true), (31, true)] (takesB_of hT J) Z ?_
       have hK35 : ((a06 ((a06 (a04 code)).1)).2.1.nonce == (a06 (a04 code)).2.1.nonce) = false := (kc7 (by have z_ := h38; simpa using z_) h39 h47)
       refine DX.cases 221 Z ?_ ?_ <;> intro h48
       ·skip
        have h48d := B.et h48
        exact absurd (hK35.symm.trans h48) Bool.false_ne_true
       have h48d := B.ef h48
       refine DX.takes (fuel := 0) ttOk [(32, true), (33, true), (34, true)] (takesB_of hT J) Z ?_
       refine DX.tail2 [] Z Z J ?_
       refine R0 ?_
       refine CV Z Z Z Z Z O Z (fun w γ => f23 w n τ1 ((a06 (a04 code)).1) p5 c5 (γ.q 9 Z) p6 c6 (γ.q 10 Z) p7 c7 (γ.q 11 Z) p8 c8 (γ.q 12 Z) hq3.1) ?_
       intro hq47
       refine WX.trim [226, 23, 6, 4, 3] [1, 2, 3, 4, 5, 6, 7, 8, 9, 10, 11, 12, 13, 14, 15, 16, 17, 18, 19, 20, 21, 22, 23, 24, 25, 26, 27, 28, 29, 30, 31, 32, 33, 34, 35, 36, 37, 38, 39, 40, 41, 42, 43, 44, 45, 46, 47, 48, 49, 50, 51, 52, 53, 54, 55, 56, 57, 58, 59, 60, 61, 62, 63, 64, 65, 66, 67, 68, 69, 70, 71, 72, 73, 74, 75, 76, 111, 112, 113, 114, 115, 116, 117, 118, 119, 120] Z Z ?_
       refine R0 ?_
       have hK36 : (a0h ((a06 (a04 code)).1)) = true := (kc4 (by have z_ := h38; simpa using z_))
       refine WX.cases 227 Z ?_ ?_ <;> intro h49
       ·skip
        refine R0 ?_
        refine CV Z Z Z Z Z O Z (fun w γ => f23 w n τ1 ((a06 ((a06 (a04 code)).1)).1) p56 c56 (γ.q 111 Z) p57 c57 (γ.q 112 Z) p58 c58 (γ.q 113 Z) p59 c59 (γ.q 114 Z) hq42.1) ?_
        intro hq48
        refine R0 ?_
        have hK37 : (a0h ((a06 ((a06 (a04 code)).1)).1)) = true := (kc4 (kc4 (by have z_ := h38; simpa using z_)))
        refine WX.cases 231 Z ?_ ?_ <;> intro h50
        ·as_aux_lemma =>
         refine R0 ?_
         refine WX.cases 235 Z ?_ ?_ <;> intro h51
         ·skip
          have h51d := (B.nt h51)
          refine R0 ?_
          exact R4 Z (by simp only [a1a, h1, h11, h12, h38, h39, h47, h51, cT, cF])
         have h51d := (B.nf h51)
         refine R0 ?_
         have hK38 : (!((a06 (a04 code)).2.2)) = true := (by rw [show ((a06 (a04 code)).2.2) = false from (kc6 (by have z_ := h51; simpa using z_)).1]; rfl)
         refine WX.cases 238 Z ?_ ?_ <;> intro h52
         ·skip
          have h52d := (B.nt h52)
          refine R0 ?_
          refine CV Z Z Z Z Z O Z (fun w γ => f13 w n τ1 ((a06 (a04 code)).1) p5 c5 (γ.q 9 Z) p6 c6 (γ.q 10 Z) p7 c7 (γ.q 11 Z) p8 c8 (γ.q 12 Z) (a04 code) p1 c1 (γ.q 1 Z) p2 c2 (γ.q 2 Z) p3 c3 (γ.q 3 Z) p4 c4 (γ.q 4 Z) hq3.1 hq2) ?_
          intro hq49
          refine R0 ?_
          exact R4 Z (by simp only [a1a, h1, h11, h12, h38, h39, h47, h51, cT, cF])
         have h52d := (B.nf h52)
         exact absurd (h52.symm.trans hK38) Bool.false_ne_true
        ·as_aux_lemma =>
         exact absurd (h50.symm.trans hK37) Bool.false_ne_true
       exact absurd (h49.symm.trans hK36) Bool.false_ne_true
      refine DX.takes (fuel := 0) ttOk [(25, true), (26, true), (27, true), (28, true), (29, true), (30, true), (31, true), (32, true), (33, true), (34, true)] (takesB_of hT J) Z ?_
      refine DX.tail2 [] Z Z J ?_
      refine R0 ?_
      refine CV Z Z Z Z Z O Z (fun w γ => f23 w n τ1 ((a06 (a04 code)).1) p5 c5 (γ.q 9 Z) p6 c6 (γ.q 10 Z) p7 c7 (γ.q 11 Z) p8 c8 (γ.q 12 Z) hq3.1) ?_
      intro hq50
      refine WX.trim [226, 23, 6, 4, 3] [1, 2, 3, 4, 5, 6, 7, 8, 9, 10, 11, 12, 13, 14, 15, 16, 17, 18, 19, 20, 21, 22, 23, 24, 25, 26, 27, 28, 29, 30, 31, 32, 33, 34, 35, 36, 37, 38, 39, 40, 41, 42, 43, 44, 45, 46, 47, 48, 49, 50, 51, 52, 53, 54, 55, 56, 57, 58, 59, 60, 61, 62, 63, 64, 65, 66, 67, 68, 69, 70, 71, 72, 73, 74, 75, 76, 111, 112, 113, 114, 115, 116, 117, 118, 119, 120] Z Z ?_
      refine R0 ?_
      have hK39 : (a0h ((a06 (a04 code)).1)) = true := (kc4 (by have z_ := h38; simpa using z_))
      refine WX.cases 227 Z ?_ ?_ <;> intro h53
      ·skip
       refine R0 ?_
       refine CV Z Z Z Z Z O Z (fun w γ => f23 w n τ1 ((a06 ((a06 (a04 code)).1)).1) p56 c56 (γ.q 111 Z) p57 c57 (γ.q 112 Z) p58 c58 (γ.q 113 Z) p59 c59 (γ.q 114 Z) hq42.1) ?_
       intro hq51
       refine R0 ?_
       have hK40 : (a0h ((a06 ((a06 (a04 code)).1)).1)) = true := (kc4 (kc4 (by have z_ := h38; simpa using z_)))
       refine WX.cases 231 Z ?_ ?_ <;> intro h54
       ·skip
        refine R0 ?_
        refine WX.cases 235 Z ?_ ?_ <;> intro h55
        ·as_aux_lemma =>
         have h55d := (B.nt h55)
         refine R0 ?_
         exact R4 Z (by simp only [a1a, h1, h11, h12, h38, h39, h47, h55, cT, cF])
        ·as_aux_lemma =>
         have h55d := (B.nf h55)
         refine R0 ?_
         have hK41 : (!((a06 (a04 code)).2.2)) = true := (by rw [show ((a06 (a04 code)).2.2) = false from (kc6 (by have z_ := h55; simpa using z_)).1]; rfl)
         refine WX.cases 238 Z ?_ ?_ <;> intro h56
         ·skip
          have h56d := (B.nt h56)
          refine R0 ?_
          refine CV Z Z Z Z Z O Z (fun w γ => f13 w n τ1 ((a06 (a04 code)).1) p5 c5 (γ.q 9 Z) p6 c6 (γ.q 10 Z) p7 c7 (γ.q 11 Z) p8 c8 (γ.q 12 Z) (a04 code) p1 c1 (γ.q 1 Z) p2 c2 (γ.q 2 Z) p3 c3 (γ.q 3 Z) p4 c4 (γ.q 4 Z) hq3.1 hq2) ?_
          intro hq52
          refine R0 ?_
          exact R4 Z (by simp only [a1a, h1, h11, h12, h38, h39, h47, h55, cT, cF])
         have h56d := (B.nf h56)
         exact absurd (h56.symm.trans hK41) Bool.false_ne_true
       exact absurd (h54.symm.trans hK40) Bool.false_ne_true
      exact absurd (h53.symm.trans hK39) Bool.false_ne_true
    exact absurd (h36.symm.trans hK27) Bool.false_ne_true
   refine R0 ?_
   refine WX.trim [174, 171, 14, 10, 6, 5, 4, 3] [1, 2, 3, 4, 5, 6, 7, 8, 9, 10, 11, 12, 13, 14, 15, 16, 17, 18, 19, 20, 21, 22, 23, 24, 25, 26, 27, 28, 29, 30, 31, 32, 33, 34, 35, 36, 37, 38, 39, 40, 41, 42, 43, 44, 45, 46, 47, 48, 49, 50, 51, 52, 53, 54, 55, 56, 57, 58, 59, 60, 61, 62, 63, 64, 65, 66, 67, 68, 69, 70, 71, 72, 73, 74, 75, 76] Z Z ?_
   have hK42 : (a03 code).1.satisfied = false := (kb3 h11)
   refine WX.cases 174 Z ?_ ?_ <;> intro h57
   ·skip
    exact absurd (hK42.symm.trans h57) Bool.false_ne_true
   refine R0 ?_
   refine CV Z Z Z Z Z O Z (fun w γ => f23 w n τ1 (a04 code) p1 c1 (γ.q 1 Z) p2 c2 (γ.q 2 Z) p3 c3 (γ.q 3 Z) p4 c4 (γ.q 4 Z) hq2) ?_
   intro hq53
   refine R0 ?_
   refine WX.cases 183 Z ?_ ?_ <;> intro h58
   ·skip
    have h58d := (B.nt h58)
    refine R0 ?_
    exact R4 Z (by simp only [a1a, h1, h11, h58, cT, cF])
   have h58d := (B.nf h58)
   refine R0 ?_
   refine CF 121 Z Z Z Z Z O Z (fun w γ => f6 w n τ1 ((a06 (a04 code)).1) p5 c5 (γ.q 9 Z) p6 c6 (γ.q 10 Z) p7 c7 (γ.q 11 Z) p8 c8 (γ.q 12 Z) hq3.1) ?_
   rintro ⟨⟨⟨⟩, ⟨⟩, ⟨p61, c61⟩, ⟨⟩, ⟨⟩, ⟨⟩, ⟨⟨p62, c62⟩, ⟨p63, c63⟩, ⟨p64, c64⟩, ⟨⟩, ⟨⟩⟩⟩, ⟨⟨p65, c65⟩, ⟨⟩, ⟨⟩, ⟨⟩⟩⟩ hq54
   dsimp only
   refine R0 ?_
   refine WX.draw [] mixed ?_
   intro bs G0 hΓ0
   refine DX.tab J (fun hT => ?_)
   refine DX.takes (fuel := 33) ttOk [(0, true), (1, true)] (takesB_of hT J) Z ?_
   refine DX.cases 191 Z ?_ ?_ <;> intro h59
   ·skip
    refine DX.takes (fuel := 31) ttOk [(2, true), (3, true)] (takesB_of hT J) Z ?_
    have hK43 : (a06 ((a06 (a04 code)).1)).2.2 = false := (kc1 h59)
    refine DX.cases 193 Z ?_ ?_ <;> intro h60
    ·as_aux_lemma =>
     exact absurd (hK43.symm.trans h60) Bool.false_ne_true
    ·as_aux_lemma =>
     refine DX.takes (fuel := 30) ttOk [(4, false)] (takesB_of hT J) Z ?_
     refine DXV 5 Z J Z Z Z Z Z Z O Z (fun w γ => f28 w n τ1 ((a06 (a04 code)).2.1) p9 c9 (γ.q 13 Z) hq3.2) ?_
     intro hq55
     refine DX.takes (fuel := 26) ttOk [(6, true), (7, true), (8, true)] (takesB_of hT J) Z ?_
     have hK44 : (!(a2j ((a06 (a04 code)).2.1))) = false := (by rw [show (a2j ((a06 (a04 code)).2.1)) = true from (kc2 (by have z_ := h58; simpa using z_) h59)]; rfl)
     refine DX.cases 198 Z ?_ ?_ <;> intro h61
     ·skip
      have h61d := (B.nt h61)
      exact absurd (hK44.symm.trans h61) Bool.false_ne_true
     have h61d := (B.nf h61)
     refine DX.takes (fuel := 18) ttOk [(9, true), (10, false), (11, true), (12, false), (13, true), (14, false), (15, true), (16, false)] (takesB_of hT J) Z ?_
     refine DX.seeP 17 J Z Z Z Z (looksP_wrap Z Z Z Z) ?_
     refine DXV 18 Z J Z Z Z Z Z Z O Z (fun w γ => f18 w n τ1 ((a04 code).node) ((a04 code).index) (IntKind.i64.wrap (((a04 code).attempts) + 1)) ((ok_Consumer hq2).1) ((ok_Consumer hq2).2.1) (i64_wrap _)) ?_
     intro hq56
     refine DX.takes (fuel := 12) ttOk [(19, true), (20, true), (21, true), (22, true)] (takesB_of hT J) Z ?_
     have hK45 : ((a06 (a04 code)).2.1.nonce != (a1z ((a04 code).node) ((a04 code).index) (IntKind.i64.wrap (((a04 code).attempts) + 1)))) = false := (kc3 h59)
     refine DX.cases 212 Z ?_ ?_ <;> intro h62
     ·skip
      have h62d := B.nt' h62
      exact absurd (hK45.symm.trans h62) Bool.false_ne_true
     have h62d := B.nf' h62
     refine DX.takes (fuel := 10) ttOk [(23, true), (24, true)] (takesB_of hT J) Z ?_
     refine DX.cases 214 Z ?_ ?_ <;> intro h63
     ·skip
      exact absurd (hK43.symm.trans h63) Bool.false_ne_true
     refine DX.takes (fuel := 0) ttOk [(25, true), (26, true), (27, true), (28, true), (29, true), (30, true), (31, true), (32, true), (33, true), (34, true)] (takesB_of hT J) Z ?_
     refine DX.tail2 [] Z Z J ?_
     refine R0 ?_
     refine CV Z Z Z Z Z O Z (fun w γ => f23 w n τ1 ((a06 (a04 code)).1) p5 c5 (γ.q 9 Z) p6 c6 (γ.q 10 Z) p7 c7 (γ.q 11 Z) p8 c8 (γ.q 12 Z) hq3.1) ?_
     intro hq57
     refine WX.trim [226, 23, 6, 4, 3] [1, 2, 3, 4, 5, 6, 7, 8, 9, 10, 11, 12, 13, 14, 15, 16, 17, 18, 19, 20, 21, 22, 23, 24, 25, 26, 27, 28, 29, 30, 31, 32, 33, 34, 35, 36, 37, 38, 39, 40, 41, 42, 43, 44, 45, 46, 47, 48, 49, 50, 51, 52, 53, 54, 55, 56, 57, 58, 59, 60, 61, 62, 63, 64, 65, 66, 67, 68, 69, 70, 71, 72, 73, 74, 75, 76, 121, 122, 123, 124, 125, 126, 127, 128, 129, 130] Z Z ?_
     refine R0 ?_
     have hK46 : (a0h ((a06 (a04 code)).1)) = true := (kc4 (by have z_ := h58; simpa using z_))
     refine WX.cases 227 Z ?_ ?_ <;> intro h64
     ·skip
      refine R0 ?_
      refine CV Z Z Z Z Z O Z (fun w γ => f23 w n τ1 ((a06 ((a06 (a04 code)).1)).1) p61 c61 (γ.q 121 Z) p62 c62 (γ.q 122 Z) p63 c63 (γ.q 123 Z) p64 c64 (γ.q 124 Z) hq54.1) ?_
      intro hq58
      refine R0 ?_
      have hK47 : (a0h ((a06 ((a06 (a04 code)).1)).1)) = true := (kc4 (kc4 (by have z_ := h58; simpa using z_)))
      refine WX.cases 231 Z ?_ ?_ <;> intro h65
      ·as_aux_lemma =>
       refine R0 ?_
       have hK48 : (!((a04 code).satisfied)) = true := (by rw [show ((a04 code).satisfied) = false from (kc8 h59)]; rfl)
       refine WX.cases 235 Z ?_ ?_ <;> intro h66
       ·skip
        have h66d := (B.nt h66)
        refine R0 ?_
        exact R4 Z (by simp only [a1a, h1, h11, h58, h59, cT, cF])
       have h66d := (B.nf h66)
       exact absurd (h66.symm.trans hK48) Bool.false_ne_true
      ·as_aux_lemma =>
       exact absurd (h65.symm.trans hK47) Bool.false_ne_true
     exact absurd (h64.symm.trans hK46) Bool.false_ne_true
   refine DX.takes (fuel := 10) ttOk [(2, true), (3, true), (4, true), (5, true), (6, true), (7, true), (8, true), (9, true), (10, true), (11, true), (12, true), (13, true), (14, true), (15, true), (16, true), (17, true), (18, true), (19, true), (20, true), (21, true), (22, true), (23, true), (24, true)] (takesB_of hT J) Z ?_
   refine DX.cases 214 Z ?_ ?_ <;> intro h67
   ·as_aux_lemma =>
    refine DX.takes (fuel := 3) ttOk [(25, true), (26, false), (27, true), (28, false), (29, true), (30, true), (31, true)] (takesB_of hT J) Z ?_
    have hK49 : ((a06 ((a06 (a04 code)).1)).2.1.nonce == (a06 (a04 code)).2.1.nonce) = false := (kc7 (by have z_ := h58; simpa using z_) h59 h67)
    refine DX.cases 221 Z ?_ ?_ <;> intro h68
    ·skip
     have h68d := B.et h68
     exact absurd (hK49.symm.trans h68) Bool.false_ne_true
    have h68d := B.ef h68
    refine DX.takes (fuel := 0) ttOk [(32, true), (33, true), (34, true)] (takesB_of hT J) Z ?_
    refine DX.tail2 [] Z Z J ?_
    refine R0 ?_
    refine CV Z Z Z Z Z O Z (fun w γ => f23 w n τ1 ((a06 (a04 code)).1) p5 c5 (γ.q 9 Z) p6 c6 (γ.q 10 Z) p7 c7 (γ.q 11 Z) p8 c8 (γ.q 12 Z) hq3.1) ?_
    intro hq59
    refine WX.trim [226, 23, 6, 4, 3] [1, 2, 3, 4, 5, 6, 7, 8, 9, 10, 11, 12, 13, 14, 15, 16, 17, 18, 19, 20, 21, 22, 23, 24, 25, 26, 27, 28, 29, 30, 31, 32, 33, 34, 35, 36, 37, 38, 39, 40, 41, 42, 43, 44, 45, 46, 47, 48, 49, 50, 51, 52, 53, 54, 55, 56, 57, 58, 59, 60, 61, 62, 63, 64, 65, 66, 67, 68, 69, 70, 71, 72, 73, 74, 75, 76, 121, 122, 123, 124, 125, 126, 127, 128, 129, 130] Z Z ?_
    refine R0 ?_
    have hK50 : (a0h ((a06 (a04 code)).1)) = true := (kc4 (by have z_ := h58; simpa using z_))
    refine WX.cases 227 Z ?_ ?_ <;> intro h69
    ·skip
     refine R0 ?_
     refine CV Z Z Z Z Z O Z (fun w γ => f23 w n τ1 ((a06 ((a06 (a04 code)).1)).1) p61 c61 (γ.q 121 Z) p62 c62 (γ.q 122 Z) p63 c63 (γ.q 123 Z) p64 c64 (γ.q 124 Z) hq54.1) ?_
     intro hq60
     refine R0 ?_
     have hK51 : (a0h ((a06 ((a06 (a04 code)).1)).1)) = true := (kc4 (kc4 (by have z_ := h58; simpa using z_)))
     refine WX.cases 231 Z ?_ ?_ <;> intro h70
     ·skip
      refine R0 ?_
      refine WX.cases 235 Z ?_ ?_ <;> intro h71
      ·skip
       have h71d := (B.nt h71)
       refine R0 ?_
       exact R4 Z (by simp only [a1a, h1, h11, h58, h59, h67, h71, cT, cF])
      have h71d := (B.nf h71)
      refine R0 ?_
      have hK52 : (!((a06 (a04 code)).2.2)) = true := (by rw [show ((a06 (a04 code)).2.2) = false from (kc6 (by have z_ := h71; simpa using z_)).1]; rfl)
      refine WX.cases 238 Z ?_ ?_ <;> intro h72
      ·as_aux_lemma =>
       have h72d := (B.nt h72)
       refine R0 ?_
       refine CV Z Z Z Z Z O Z (fun w γ => f13 w n τ1 ((a06 (a04 code)).1) p5 c5 (γ.q 9 Z) p6 c6 (γ.q 10 Z) p7 c7 (γ.q 11 Z) p8 c8 (γ.q 12 Z) (a04 code) p1 c1 (γ.q 1 Z) p2 c2 (γ.q 2 Z) p3 c3 (γ.q 3 Z) p4 c4 (γ.q 4 Z) hq3.1 hq2) ?_
       intro hq61
       refine R0 ?_
       exact R4 Z (by simp only [a1a, h1, h11, h58, h59, h67, h71, cT, cF])
      ·as_aux_lemma =>
       have h72d := (B.nf h72)
       exact absurd (h72.symm.trans hK52) Bool.false_ne_true
     exact absurd (h70.symm.trans hK51) Bool.false_ne_true
    exact absurd (h69.symm.trans hK50) Bool.false_ne_true
   ·as_aux_lemma =>
    refine DX.takes (fuel := 0) ttOk [(25, true), (26, true), (27, true), (28, true), (29, true), (30, true), (31, true), (32, true), (33, true), (34, true)] (takesB_of hT J) Z ?_
    refine DX.tail2 [] Z Z J ?_
    refine R0 ?_
    refine CV Z Z Z Z Z O Z (fun w γ => f23 w n τ1 ((a06 (a04 code)).1) p5 c5 (γ.q 9 Z) p6 c6 (γ.q 10 Z) p7 c7 (γ.q 11 Z) p8 c8 (γ.q 12 Z) hq3.1) ?_
    intro hq62
    refine WX.trim [226, 23, 6, 4, 3] [1, 2, 3, 4, 5, 6, 7, 8, 9, 10, 11, 12, 13, 14, 15, 16, 17, 18, 19, 20, 21, 22, 23, 24, 25, 26, 27, 28, 29, 30, 31, 32, 33, 34, 35, 36, 37, 38, 39, 40, 41, 42, 43, 44, 45, 46, 47, 48, 49, 50, 51, 52, 53, 54, 55, 56, 57, 58, 59, 60, 61, 62, 63, 64, 65, 66, 67, 68, 69, 70, 71, 72, 73, 74, 75, 76, 121, 122, 123, 124, 125, 126, 127, 128, 129, 130] Z Z ?_
    refine R0 ?_
    have hK53 : (a0h ((a06 (a04 code)).1)) = true := (kc4 (by have z_ := h58; simpa using z_))
    refine WX.cases 227 Z ?_ ?_ <;> intro h73
    ·skip
     refine R0 ?_
     refine CV Z Z Z Z Z O Z (fun w γ => f23 w n τ1 ((a06 ((a06 (a04 code)).1)).1) p61 c61 (γ.q 121 Z) p62 c62 (γ.q 122 Z) p63 c63 (γ.q 123 Z) p64 c64 (γ.q 124 Z) hq54.1) ?_
     intro hq63
     refine R0 ?_
     have hK54 : (a0h ((a06 ((a06 (a04 code)).1)).1)) = true := (kc4 (kc4 (by have z_ := h58; simpa using z_)))
     refine WX.cases 231 Z ?_ ?_ <;> intro h74
     ·skip
      refine R0 ?_
      refine WX.cases 235 Z ?_ ?_ <;> intro h75
      ·skip
       have h75d := (B.nt h75)
       refine R0 ?_
       exact R4 Z (by simp only [a1a, h1, h11, h58, h59, h67, h75, cT, cF])
      have h75d := (B.nf h75)
      refine R0 ?_
      have hK55 : (!((a06 (a04 code)).2.2)) = true := (by rw [show ((a06 (a04 code)).2.2) = false from (kc6 (by have z_ := h75; simpa using z_)).1]; rfl)
      refine WX.cases 238 Z ?_ ?_ <;> intro h76
      ·skip
       have h76d := (B.nt h76)
       refine R0 ?_
       refine CV Z Z Z Z Z O Z (fun w γ => f13 w n τ1 ((a06 (a04 code)).1) p5 c5 (γ.q 9 Z) p6 c6 (γ.q 10 Z) p7 c7 (γ.q 11 Z) p8 c8 (γ.q 12 Z) (a04 code) p1 c1 (γ.q 1 Z) p2 c2 (γ.q 2 Z) p3 c3 (γ.q 3 Z) p4 c4 (γ.q 4 Z) hq3.1 hq2) ?_
       intro hq64
       refine R0 ?_
       exact R4 Z (by simp only [a1a, h1, h11, h58, h59, h67, h75, cT, cF])
      have h76d := (B.nf h76)
      exact absurd (h76.symm.trans hK55) Bool.false_ne_true
     exact absurd (h74.symm.trans hK54) Bool.false_ne_true
    exact absurd (h73.symm.trans hK53) Bool.false_ne_true
end Go.Proofs.YthdgpfbldbabmaaGreatDoor

namespace Go.Proofs.YthdgpfbldbabmaaGreatDoor.Facts
set_option maxRecDepth 100000
theorem laid : laidOutB Tryz.prog = true := by kernel_rfl
theorem rowed : mapsRowed Tryz.prog = true := by kernel_rfl
end Go.Proofs.YthdgpfbldbabmaaGreatDoor.Facts

namespace Go.Stp
set_option linter.unusedVariables false
set_option linter.unusedSimpArgs false
theorem true_FnAsks (code : List UInt8) (hcode : GoT.ok 10 code) : a1a code = true := by
 unfold a1a
 cases hs : (a04 code).satisfied
 ·simp only [Bool.not_false, cond_true, Bool.cond_self]
 ·have h := kc6 hs
  simp only [h.2, Bool.cond_self]
end Go.Stp
namespace Go.Proofs.YthdgpfbldbabmaaGreatDoor
open Go.Stp
open Go.RowKit (Below)
open Go.ChangeShapes Go.WideShapes Go.ChangeAt
namespace LawFnAsks
theorem own : ownKnob Tryz.prog.godebug = none := by kernel_rfl
theorem laid : laidOutB Tryz.prog = true := Facts.laid
noncomputable def laidWorld (os : Os) : World :=
  { World.holding Tryz.prog os ⟨#[], #[], []⟩ with heap := ((((World.holding Tryz.prog os ⟨#[], #[], []⟩).heap.modify 2 (fun | .cells _ t fr => .cells #[.int .u8 0, .int .u8 1, .int .u8 28, .int .u8 2, .int .u8 29, .int .u8 14, .int .u8 24, .int .u8 3, .int .u8 30, .int .u8 22, .int .u8 20, .int .u8 15, .int .u8 25, .int .u8 17, .int .u8 4, .int .u8 8, .int .u8 31, .int .u8 27, .int .u8 13, .int .u8 23, .int .u8 21, .int .u8 19, .int .u8 16, .int .u8 7, .int .u8 26, .int .u8 12, .int .u8 18, .int .u8 6, .int .u8 11, .int .u8 5, .int .u8 10, .int .u8 9] t fr | o => o)).modify 3 (fun | .cells _ t fr => .cells #[.int .u8 0, .int .u8 1, .int .u8 56, .int .u8 2, .int .u8 57, .int .u8 49, .int .u8 28, .int .u8 3, .int .u8 61, .int .u8 58, .int .u8 42, .int .u8 50, .int .u8 38, .int .u8 29, .int .u8 17, .int .u8 4, .int .u8 62, .int .u8 47, .int .u8 59, .int .u8 36, .int .u8 45, .int .u8 43, .int .u8 51, .int .u8 22, .int .u8 53, .int .u8 39, .int .u8 33, .int .u8 30, .int .u8 24, .int .u8 18, .int .u8 12, .int .u8 5, .int .u8 63, .int .u8 55, .int .u8 48, .int .u8 27, .int .u8 60, .int .u8 41, .int .u8 37, .int .u8 16, .int .u8 46, .int .u8 35, .int .u8 44, .int .u8 21, .int .u8 52, .int .u8 32, .int .u8 23, .int .u8 11, .int .u8 54, .int .u8 26, .int .u8 40, .int .u8 15, .int .u8 34, .int .u8 20, .int .u8 31, .int .u8 10, .int .u8 25, .int .u8 14, .int .u8 19, .int .u8 9, .int .u8 13, .int .u8 8, .int .u8 7, .int .u8 6] t fr | o => o)).modify 0 (fun | .cells _ t fr => .cells #[.int .u64 1, .int .u64 10, .int .u64 100, .int .u64 1000, .int .u64 10000, .int .u64 100000, .int .u64 1000000, .int .u64 10000000, .int .u64 100000000, .int .u64 1000000000, .int .u64 10000000000, .int .u64 100000000000, .int .u64 1000000000000, .int .u64 10000000000000, .int .u64 100000000000000, .int .u64 1000000000000000, .int .u64 10000000000000000, .int .u64 100000000000000000, .int .u64 1000000000000000000, .int .u64 10000000000000000000] t fr | o => o)) }
set_option maxRecDepth 100000 in
theorem laid_met (os : Os) (args : Array Value) : laidMet Tryz.prog Rows.fnAsksRow.laid ((laidWorld os).forCall (fun _ _ => 0) ⟨#[], args, []⟩).memory :=
 laidMet_of_run' 8 (by kernel_rfl) (by kernel_rfl)
set_option maxRecDepth 100000 in
theorem witness_row (os : Os) {H : Type} (enc : TypeId × Value → H) :
  (OpenSpec.ofChange Rows.fnAsksSpec).preRow enc Tryz.prog Tryz.f3 Rows.fnAsksRow.domain false Rows.fnAsksRow.laid ((laidWorld os).forCall (fun _ _ => 0) ⟨#[], #[.slice none 0 0], []⟩).memory #[.slice none 0 0] := by
 have hw : (DataW.whole enc Tryz.prog ((laidWorld os).forCall (fun _ _ => 0) ⟨#[], #[.slice none 0 0], []⟩).memory Tryz.f3.params.toList (OpenSpec.ofChange Rows.fnAsksSpec).vars false (#[.slice none 0 0] : Array Value).toList 8).isSome = true := by kernel_rfl
 obtain ⟨x, hx⟩ := Option.isSome_iff_exists.1 hw
 exact OpenSpec.preRow_of_cond 8 hx rfl (fun k hk => by cases hk) (by kernel_rfl) (laid_met os _)
theorem table {W : World} (h : laidMet Tryz.prog Rows.fnAsksRow.laid W) : Tb W := by
 obtain ⟨ps, h0, _⟩ := h
 obtain ⟨_, _, _, _, _, _, _, _, _, _, h1, _⟩ := h0
 obtain ⟨_, _, _, _, _, _, _, _, _, _, h2, _⟩ := h1
 obtain ⟨g, t, cs, fuel, p, q, hg, ht, hvar, hd, _, _⟩ := h2
 have e1 : Tryz.prog.globalNamed "internal/strconv.uint64pow10" = some 0 := by kernel_rfl
 have e2 : (Tryz.prog.globals[0]?).map (·.type) = some 169 := by kernel_rfl
 obtain rfl := Option.some.inj (e1.symm.trans hg)
 obtain rfl := Option.some.inj (e2.symm.trans ht)
 have hc := Lib.cells_of_tab (k := .u64) (zs := Lib.pow10Tab) Tryz.underlying169 Tryz.underlying155 (show Tryz.prog.cellsOf 155 = 1 by kernel_rfl) (show Tryz.prog.cellsOf 169 = 20 by kernel_rfl) hd
 unfold Tb Lib.TabIs
 rw [hvar, ← hc]
set_option maxRecDepth 100000 in
theorem lifted (os : Os) (started : os.Started) (H : Type) (enc : TypeId × Value → H) :
  ReturnsInHanded {} Tryz.checked os 3 .any ((OpenSpec.ofChange Rows.fnAsksSpec).preRow enc Tryz.prog Tryz.f3 Rows.fnAsksRow.domain false Rows.fnAsksRow.laid) (Rows.fnAsksSpec.post enc Tryz.prog Tryz.f3 false true false false) := by
 refine returnsInHanded_of_row (C := Tryz.checked) (s := OpenSpec.ofChange Rows.fnAsksSpec) (F := fun _ _ _ => 0) own started (by kernel_rfl) Tryz.func3
  (witness_row_at (enc := enc) (C := Tryz.checked) false (laidWorld os) #[.slice none 0 0] rfl (by kernel_rfl) (by kernel_rfl) (by kernel_rfl) (witness_row os enc)) ?_
 intro W base args ds gs before hval0 hW _ _ _ hL _ _
 have hval : ∀ (j : Nat) t v, Tryz.f3.params[j]? = some t → args[j]? = some v → Value.okWide Tryz.prog W .any base t v := hval0
 have hW' := hW
 obtain ⟨p, q, hA0, _⟩ := hW
 have hA : DataW.TrodAll enc Tryz.prog W 0 (fun _ => true) true Tryz.f3.params.toList args.toList ds p := hA0
 rw [Tryz.params3] at hA hval
 obtain ⟨v0, vs0, d0, ds0, p0, q0, hargs, rfl, rfl, h0, r0⟩ := ChangeShapes.trodAll_cons hA
 obtain ⟨rfl, rfl, rfl⟩ := trodAll_nil r0
 obtain rfl : args = #[v0] := by cases args; simp_all
 obtain ⟨a0, x0, rfl, k0, g0⟩ := (arg_slice Tryz.underlying22 (opens_slice Tryz.underlying22 (by kernel_rfl) (opens_byte Tryz.underlying5 (by kernel_rfl)))) (hval 0 22 _ rfl rfl) h0
 have ht := true_FnAsks a0 k0
 refine (f3 W 0 (by decide) a0 x0.1 x0.2 (g0 (MF.rs .der x0.1 x0.2 a0) (List.mem_cons_self)) (table hL) k0).2.mono fun e W1 ⟨v, he, hb, hv⟩ => ?_
 rw [ht] at hv
 obtain ⟨rfl, _⟩ := hv
 subst he
 exact ⟨_, rfl, law_post laid (by kernel_rfl) rfl rfl Tryz.underlying4 (fun ds h => by match ds, h with | [_], _ => rfl) hW' hb.below⟩
set_option maxRecDepth 100000 in
theorem c_inPlace : (Rows.fnAsksRow.inPlace == Tryz.prog.inPlace 3) = true := by kernel_rfl
set_option maxRecDepth 100000 in
theorem c_unfollowed : (Rows.fnAsksRow.unfollowed == Tryz.prog.unfollowed 3) = true := by kernel_rfl
set_option maxRecDepth 100000 in
theorem c_recurses : (Rows.fnAsksRow.recurses == Tryz.prog.recurses 3) = true := by kernel_rfl
set_option maxRecDepth 100000 in
theorem c_named : (Rows.fnAsksRow.named == Tryz.prog.varsNamed 3) = true := by kernel_rfl
set_option maxRecDepth 100000 in
theorem c_read : Tryz.f3.params.all (Tryz.pinned.checked.prog.readableRec ·) = true := by kernel_rfl
set_option maxRecDepth 100000 in
theorem c_maps : (Rows.fnAsksRow.maps == (Tryz.f3.params.toList ++ Rows.fnAsksSpec.plain.varTypes Tryz.pinned.checked.prog).any (Tryz.pinned.checked.prog.mapsRec ·)) = true := by kernel_rfl
set_option maxRecDepth 100000 in
theorem c_ifaces : (Rows.fnAsksRow.ifaces == (Tryz.f3.params.toList ++ Rows.fnAsksSpec.plain.varTypes Tryz.pinned.checked.prog).any (Tryz.pinned.checked.prog.ifacesRec ·)) = true := by kernel_rfl
set_option maxRecDepth 100000 in
theorem c_loops : (Rows.fnAsksRow.loops == (Tryz.f3.params.toList ++ Rows.fnAsksSpec.plain.varTypes Tryz.pinned.checked.prog).any (Tryz.pinned.checked.prog.loopsFrom ·)) = true := by kernel_rfl
set_option maxRecDepth 100000 in
theorem c_wide : (Rows.fnAsksRow.wideKeys == (Tryz.f3.params.toList ++ Rows.fnAsksSpec.plain.varTypes Tryz.pinned.checked.prog ++ Tryz.f3.resultTypes.toList).any (Tryz.pinned.checked.prog.wideKeysFrom ·)) = true := by kernel_rfl
set_option maxRecDepth 100000 in
theorem c_rread : Tryz.f3.resultTypes.all (fun t => Tryz.pinned.checked.prog.readableRec t && decide (t < Tryz.pinned.checked.prog.types.size)) = true := by kernel_rfl
set_option maxRecDepth 100000 in
theorem c_veiled : (Rows.fnAsksRow.veiled == (Tryz.f3.params.toList ++ Rows.fnAsksSpec.plain.varTypes Tryz.pinned.checked.prog ++ Tryz.f3.resultTypes.toList).any (Tryz.pinned.checked.prog.veiledRec ·)) = true := by kernel_rfl
set_option maxRecDepth 100000 in
theorem c_vfits : Rows.fnAsksRow.veiledFits Tryz.pinned.checked.prog Tryz.f3.params.toList (Tryz.f3.params.toList ++ Rows.fnAsksSpec.plain.varTypes Tryz.pinned.checked.prog ++ Tryz.f3.resultTypes.toList) = true := by kernel_rfl
set_option maxRecDepth 100000 in
theorem c_enter : Tryz.pinned.checked.prog.mayEnter = true := by kernel_rfl
set_option maxRecDepth 100000 in
theorem c_heard : Tryz.pinned.checked.prog.stopsHeard = true := by kernel_rfl
set_option maxRecDepth 100000 in
theorem c_lifted : (Rows.fnAsksRow.lifted == Tryz.pinned.checked.prog.liftsFinal) = true := by kernel_rfl
set_option maxRecDepth 100000 in
theorem c_plainKeys : (Rows.fnAsksRow.plainKeys == Tryz.pinned.checked.prog.plainKeys) = true := by kernel_rfl
set_option maxRecDepth 100000 in
theorem c_make : (Tryz.pinned.checked.prog.make == some Rows.fnAsksRow.make) = true := by kernel_rfl
set_option maxRecDepth 100000 in
theorem closed : joinedFacts Tryz.pinned.checked.prog 3 Tryz.f3 Rows.fnAsksSpec Rows.fnAsksRow = true := by
 unfold joinedFacts
 rw [show laidOutB Tryz.pinned.checked.prog = true from laid, show mapsRowed Tryz.pinned.checked.prog = true from Facts.rowed, show (Rows.fnAsksRow.inPlace == Tryz.pinned.checked.prog.inPlace 3) = true from c_inPlace, show (Rows.fnAsksRow.unfollowed == Tryz.pinned.checked.prog.unfollowed 3) = true from c_unfollowed, show (Rows.fnAsksRow.recurses == Tryz.pinned.checked.prog.recurses 3) = true from c_recurses, show (Rows.fnAsksRow.named == Tryz.pinned.checked.prog.varsNamed 3) = true from c_named, c_read, c_maps, c_ifaces, c_loops, c_wide, c_rread, c_veiled, c_vfits, c_enter, c_heard, c_lifted, c_plainKeys, c_make]
 kernel_rfl
theorem over : Rows.fnAsksRow.holds Tryz.pinned (OpenSpec.ofChange Rows.fnAsksSpec) :=
 OpenClaim.holds_of_wide 3 Tryz.f3 rfl rfl rfl rfl rfl rfl rfl ⟨rfl, rfl, rfl, rfl, rfl⟩ rfl rfl rfl rfl rfl (by kernel_rfl) Tryz.func3 closed
  (of_decide_eq_true (by kernel_rfl)) (by unfold Func.isWrapper; first | (rw [if_pos (by decide +kernel)]; kernel_rfl) | (rw [if_neg (by decide +kernel)]; exact ⟨rfl, rfl⟩))
  (fun os started H enc _ => by rw [OpenClaim.pre_eq_preRow]; exact lifted os started H enc)
theorem proved : Rows.FnAsksCardSaid :=
 Claim7.holds_tied_plain_at .later [] [.data, .data, .data] true (true, "a0e83cf5a12bba2d18d9f1ed83d473856cd4194e9773a2a8e63d57a277b22636") false
  over (fun _ h => by cases h) (by kernel_rfl) (fun _ h => by cases h) fnAsks_row_tie rfl ⟨rfl, rfl⟩ (by kernel_rfl) rfl
  (fun f fn hf hfn => by
   obtain rfl : f = 3 := Option.some.inj ((show Tryz.prog.funcNamed "loop.example/g00507/laws.FnAsks" = some 3 by kernel_rfl).symm.trans hf) |>.symm
   obtain rfl : fn = Tryz.f3 := (Option.some.inj (Tryz.func3.symm.trans hfn)).symm
   exact ⟨by kernel_rfl, fun j t ht => by
    rw [Tryz.params3] at ht
    rcases j with _ | j
    ·have h3 : t = 22 := by simpa using ht.symm
     subst h3
     exact (show Tryz.prog.wantsStandIn 22 = false by kernel_rfl)
    ·simp at ht⟩)
  (by kernel_rfl)
#print axioms proved
end LawFnAsks
end Go.Proofs.YthdgpfbldbabmaaGreatDoor

