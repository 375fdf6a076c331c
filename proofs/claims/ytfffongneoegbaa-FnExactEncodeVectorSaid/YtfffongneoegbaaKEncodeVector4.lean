/-
  EncodeVector: the law returns true at all arguments; conditions: those of the statement, no others. Written by a program (pack.py, mklaw2.py).
-/
import Derived.Carry
import Derived.ChangeArms
import Derived.ProofKit
import Derived.OpenShut
import Derived.JoinedCond
import Derived.Test.YtfffongneoegbaaKEncodeVector3
namespace Go.Proofs.Ytfffongneoegbaa
open Go.Stp
set_option linter.unusedVariables false
set_option linter.unusedSimpArgs false
theorem f13 (w : World) (n : Nat) (hn : n + 7 ≤ 9) (v : StateVector) (pv : Option Addr) (cv : Nat) (hpv : RdSl (hp w) pv cv v.entries) (hokv : GoT.ok n v) :
    Does Try.prog 13 #[.agg #[.slice pv ((v.entries).length) cv]] w emp (Post w emp (fun x : GoT.X ((List UInt8)) => (GoT.sh ((impl_EncodeVector v) : (List UInt8)) x).headD undef) (fun x => GoT.oa ((impl_EncodeVector v) : (List UInt8)) x) (GoT.ok (n + 4) ((impl_EncodeVector v) : (List UInt8)))) := by
  have hbP := bd_pos n
  have hbS0 : bd (n + 1) = 4 * bd (n) := bd_succ (n := n) (by omega)
  have hbS1 : bd (n + 2) = 4 * bd (n + 1) := bd_succ (n := n + 1) (by omega)
  have hbS2 : bd (n + 3) = 4 * bd (n + 2) := bd_succ (n := n + 2) (by omega)
  have hbS3 : bd (n + 4) = 4 * bd (n + 3) := bd_succ (n := n + 3) (by omega)
  have hbS4 : bd (n + 5) = 4 * bd (n + 4) := bd_succ (n := n + 4) (by omega)
  have hbS5 : bd (n + 6) = 4 * bd (n + 5) := bd_succ (n := n + 5) (by omega)
  have hbS6 : bd (n + 7) = 4 * bd (n + 6) := bd_succ (n := n + 6) (by omega)
  have hbB := bd_big (n := (n + 7)) (by omega)
  have hbM := bd_mono (show n ≤ n + 7 by omega)
  refine WX.enter (tt := tt) (Γ := [(0, MF.rs .stb pv cv v.entries)]) Try.func13 rfl (by kernel_rfl) rfl (allS_cons rfl hpv allS_nil) ?_
  refine WX.run ttOk rfl ?_
  refine WX.callV rfl rfl rfl rfl rfl (fun _ => rfl) rfl (fun w G bs hI hΓ => f30 w n (by omega) v pv cv (hΓ.get 0 rfl) hokv) ?_
  intro hq1
  refine WX.run ttOk rfl ?_
  refine WX.cases 8 rfl (fun h1 => ?_) (fun h1 => ?_)
  · skip
    have h1d := (B.nt h1)
    refine WX.run ttOk rfl ?_
    refine WX.free 1 (MF.os none 0 ([] : List UInt8)) (owSl_nil _ _) ?_
    have hP1 : impl_EncodeVector v = ([] : List UInt8) := by simp only [impl_EncodeVector, h1, cond_true, cond_false]
    refine WX.ret ttOk rfl ?_
    intro w1 G bs hI hΓ
    rw [hP1]
    exact Post.of [1] (none, 0) hI hΓ rfl rfl rfl (ok_nil (α := UInt8))
  · skip
    have h1d := (B.nf h1)
    refine WX.run ttOk rfl ?_
    have r1 : (v.entries).length ≤ bd n := (okl (ok_StateVector hokv)).1
    refine WX.callF 2 (fun _ _ h => GoT.ow_rd h) (fun _ f hf => GoT.fak f hf) rfl rfl rfl rfl rfl (fun _ => rfl) rfl (fun w G bs hI hΓ => f31 w n (by omega) ([] : List UInt8) none 0 (rdSl_nil _ _ _) (((v.entries).length : Nat) : Int) (ok_nil (α := UInt8)) (show I64 (((v.entries).length : Nat) : Int) from (by unfold I64; omega))) (fun _ => rfl) (fun _ => rfl) ?_
    rintro ⟨p1, c1⟩ hq2
    have q1 := len_implAV ([] : List UInt8) (((v.entries).length : Nat) : Int)
    refine WX.run ttOk rfl ?_
    have hv2 : v.entries.length ≤ bd n := (okl (ok_StateVector hokv)).1
    refine WX.loop (ι := (Option Addr) × Nat × (List UInt8) × Nat) ⟨fun | (pout, cout, out, i) => (i ≤ (v.entries).length) ∧ (out.length ≤ bd (n + 4) ∧ ∀ z_ ∈ out, GoT.ok (n + 4) z_) ∧ (out.length ≤ 6 + 96 * i) ∧ (impl_EncodeVector_L1 v.entries ((impl_AppendVarint ([] : List UInt8) (((v.entries).length : Nat) : Int)) : List UInt8) = impl_EncodeVector_L1 ((v.entries).drop i) out), fun | (pout, cout, out, i) => (v.entries).length - i, fun | (pout, cout, out, i) => [(3, .v (.slice pout ((out).length) cout)), (16, .v (.int .i64 (((i : Nat) : Int)))), (15, .v (.int .i64 ((((v.entries).length : Nat) : Int)))), (14, .v (.slice pv ((v.entries).length) cv))], fun | (pout, cout, out, i) => [], fun | (pout, cout, out, i) => [], fun | (pout, cout, out, i) => [(0, MF.rs .stb pv cv v.entries), (3, MF.os pout cout out)]⟩ (p1, c1, ((impl_AppendVarint ([] : List UInt8) (((v.entries).length : Nat) : Int)) : List UInt8), 0) ⟨(Nat.zero_le _), (GoT.okm (α := List UInt8) (by omega) hq2), (by first | omega | (simp only [List.length_nil] at *; omega)), rfl⟩
      (.cons rfl (.cons rfl (.cons rfl (.cons rfl (.nil))))) .nil .nil [0, 3] rfl ?_
    rintro ⟨pout, cout, out, i⟩ hpre
    have hpre_ : (i ≤ (v.entries).length) ∧ (out.length ≤ bd (n + 4) ∧ ∀ z_ ∈ out, GoT.ok (n + 4) z_) ∧ (out.length ≤ 6 + 96 * i) ∧ (impl_EncodeVector_L1 v.entries ((impl_AppendVarint ([] : List UInt8) (((v.entries).length : Nat) : Int)) : List UInt8) = impl_EncodeVector_L1 ((v.entries).drop i) out) := hpre
    clear hpre
    obtain ⟨v1, v2, v3, v4⟩ := hpre_
    have v2L := v2.1
    refine WX.run ttOk rfl ?_
    refine WX.cases 17 rfl (fun h2 => ?_) (fun h2 => ?_)
    · skip
      have h2d := B.dt h2
      have e1i : i < (v.entries).length := (by omega)
      obtain ⟨e1, e1h⟩ : ∃ e1, (v.entries)[i]? = some e1 := ⟨_, List.getElem?_eq_getElem e1i⟩
      have ok1 : GoT.ok n e1 := (okl (ok_StateVector hokv)).2 _ (List.mem_of_getElem? e1h)
      refine WX.run ttOk rfl ?_
      refine WX.idx 0 i ttOk rfl rfl rfl rfl rfl rfl rfl rfl rfl rfl e1i ?_
      rintro ad1 rfl
      refine WX.ldE 0 4 e1 ttOk rfl rfl rfl rfl rfl rfl rfl rfl e1h (fun _ => rfl) (fun _ => rfl) ?_
      rintro ⟨⟨p2, c2⟩, ⟨⟩⟩
      refine WX.run ttOk rfl ?_
      refine WX.der 5 (MF.rs .der pout cout out) rfl (fun _ hΓ => (hΓ.get 3 rfl : OwSl _ _ _ _).rd) ?_
      refine WX.draw [] mixed ?_
      intro bs G0 hΓ0
      refine DX.takes (fuel := 3) ttOk [(0, true), (1, true), (2, false), (4, true), (5, false)] (by kernel_rfl) rfl ?_
      refine DX.callF 3 6 (fun _ _ h => GoT.ow_rd h) (fun _ f hf => GoT.fak f hf) rfl (by kernel_rfl) rfl rfl rfl rfl rfl rfl (fun _ => rfl) rfl (fun w G bs hI hΓ => f32 w (n + 4) (by omega) out pout cout (hΓ.get 5 rfl) e1.name p2 c2 (hΓ.get 4 rfl) (okl_of v2) (GoT.okm (α := List Str) (by omega) (ok_Name (ok_TableEntry ok1).1))) (fun _ => rfl) (fun _ => rfl) ?_
      rintro ⟨p3, c3⟩ hq3
      have q2 := len_implAN out e1.name
      have r2 : (impl_AppendName out e1.name).length ≤ bd (n + 5) := (okl hq3).1
      refine DX.callF 6 8 (fun _ _ h => GoT.ow_rd h) (fun _ f hf => GoT.fak f hf) rfl (by kernel_rfl) rfl rfl rfl rfl rfl rfl (fun _ => rfl) rfl (fun w G bs hI hΓ => f31 w (n + 4) (by omega) (impl_AppendName out e1.name) p3 c3 (hΓ.get 6 rfl) e1.value (okl_mk (by omega) (fun _ _ => trivial) : GoT.ok (n + 4) ((impl_AppendName out e1.name) : List UInt8)) ((ok_TableEntry ok1).2)) (fun _ => rfl) (fun _ => rfl) ?_
      rintro ⟨p4, c4⟩ hq4
      have q3 := len_implAV (impl_AppendName out e1.name) e1.value
      refine DX.takes (fuel := 0) ttOk [(7, true)] (by kernel_rfl) rfl ?_
      refine DX.tail2 [] rfl rfl (by kernel_rfl) ?_
      refine WX.run ttOk rfl ?_
      refine WX.see rfl rfl rfl (fun _ hΓ => looks_arith rfl rfl rfl rfl (by unfold I64; first | omega | (simp only [List.length_take, List.length_drop] at *; omega) | (dsimp only; omega))) ?_
      refine WX.run ttOk rfl ?_
      refine WX.turn [9] 3 rfl (fun _ h => h) rfl ?_
      have r3 : -9223372036854775808 ≤ e1.value ∧ e1.value ≤ 9223372036854775807 := (ok_TableEntry ok1).2
      have r4 : (impl_AppendVarint (impl_AppendName out e1.name) e1.value).length ≤ bd (n + 5) := (okl hq4).1
      exact WX.iter (p4, c4, (impl_AppendVarint (impl_AppendName out e1.name) e1.value), i + 1) ⟨(by omega), (okl_mk (by omega) (fun _ _ => trivial) : GoT.ok (n + 4) ((impl_AppendVarint (impl_AppendName out e1.name) e1.value) : List UInt8)), (by omega), (by rw [v4, drop_get e1h]; simp only [impl_EncodeVector_L1, cond_true, cond_false])⟩ (by first | (dsimp only; omega) | omega) (.cons rfl (.cons rfl (.cons rfl (.cons rfl (.nil))))) .nil .nil [0, 3] rfl
    · skip
      have h2d := B.df h2
      refine WX.run ttOk rfl ?_
      have hX1 : impl_EncodeVector_L1 v.entries ((impl_AppendVarint ([] : List UInt8) (((v.entries).length : Nat) : Int)) : List UInt8) = ((out) : List UInt8) := by rw [v4, List.drop_eq_nil_of_le (show (v.entries).length ≤ i by omega)]; simp only [impl_EncodeVector_L1, cond_true, cond_false]
      have hP2 : impl_EncodeVector v = out := by simp only [impl_EncodeVector, h1, hX1, cond_true, cond_false]
      refine WX.ret ttOk rfl ?_
      intro w1 G bs hI hΓ
      rw [hP2]
      exact Post.of [3] (pout, cout) hI hΓ rfl rfl rfl (okl_of v2)
theorem f11 (w : World) (n : Nat) (hn : n + 7 ≤ 9) (v : StateVector) (pv : Option Addr) (cv : Nat) (hpv : RdSl (hp w) pv cv v.entries) (hokv : GoT.ok n v) :
    Does Try.prog 11 #[.agg #[.slice pv ((v.entries).length) cv]] w emp (Post w emp (fun x : GoT.X ((List UInt8)) => (GoT.sh ((spec_EncodeVector v) : (List UInt8)) x).headD undef) (fun x => GoT.oa ((spec_EncodeVector v) : (List UInt8)) x) (GoT.ok (n + 4) ((spec_EncodeVector v) : (List UInt8)))) := by
  have hbP := bd_pos n
  have hbS0 : bd (n + 1) = 4 * bd (n) := bd_succ (n := n) (by omega)
  have hbS1 : bd (n + 2) = 4 * bd (n + 1) := bd_succ (n := n + 1) (by omega)
  have hbS2 : bd (n + 3) = 4 * bd (n + 2) := bd_succ (n := n + 2) (by omega)
  have hbS3 : bd (n + 4) = 4 * bd (n + 3) := bd_succ (n := n + 3) (by omega)
  have hbS4 : bd (n + 5) = 4 * bd (n + 4) := bd_succ (n := n + 4) (by omega)
  have hbS5 : bd (n + 6) = 4 * bd (n + 5) := bd_succ (n := n + 5) (by omega)
  have hbS6 : bd (n + 7) = 4 * bd (n + 6) := bd_succ (n := n + 6) (by omega)
  have hbB := bd_big (n := (n + 7)) (by omega)
  have hbM := bd_mono (show n ≤ n + 7 by omega)
  refine WX.enter (tt := tt) (Γ := [(0, MF.rs .stb pv cv v.entries)]) Try.func11 rfl (by kernel_rfl) rfl (allS_cons rfl hpv allS_nil) ?_
  refine WX.run ttOk rfl ?_
  refine WX.callV rfl rfl rfl rfl rfl (fun _ => rfl) rfl (fun w G bs hI hΓ => f26 w n (by omega) v pv cv (hΓ.get 0 rfl) hokv) ?_
  intro hq1
  refine WX.run ttOk rfl ?_
  refine WX.cases 7 rfl (fun h1 => ?_) (fun h1 => ?_)
  · skip
    have h1d := (B.nt h1)
    refine WX.run ttOk rfl ?_
    refine WX.bld ttOk rfl rfl rfl rfl rfl rfl rfl ?_
    intro p1
    refine WX.run ttOk rfl ?_
    refine WX.free 1 (MF.ol [] ([] : List UInt8)) rfl ?_
    refine WX.seal 8 1 2 rfl rfl rfl rfl rfl ?_
    have hP1 : spec_EncodeVector v = ([]) := by simp only [spec_EncodeVector, h1, cond_true, cond_false]
    refine WX.ret ttOk rfl ?_
    intro w1 G bs hI hΓ
    rw [hP1]
    exact Post.of [3] (p1, 0) hI hΓ rfl rfl rfl (okl_mk (Nat.zero_le _) (fun a ha => by cases ha) : GoT.ok (n + 4) ([] : List UInt8))
  · skip
    have h1d := (B.nf h1)
    refine WX.run ttOk rfl ?_
    refine WX.bld ttOk rfl rfl rfl rfl rfl rfl rfl ?_
    intro p2
    refine WX.run ttOk rfl ?_
    refine WX.free 4 (MF.ol [] ([] : List UInt8)) rfl ?_
    refine WX.seal 9 4 5 rfl rfl rfl rfl rfl ?_
    have r1 : (v.entries).length ≤ bd n := (okl (ok_StateVector hokv)).1
    refine WX.callF 7 (fun _ _ h => GoT.ow_rd h) (fun _ f hf => GoT.fak f hf) rfl rfl rfl rfl rfl (fun _ => rfl) rfl (fun w G bs hI hΓ => f27 w n (by omega) ([]) p2 0 (hΓ.get 5 rfl) (((v.entries).length : Nat) : Int) (okl_mk (Nat.zero_le _) (fun a ha => by cases ha) : GoT.ok n ([] : List UInt8)) (show I64 (((v.entries).length : Nat) : Int) from (by unfold I64; omega))) (fun _ => rfl) (fun _ => rfl) ?_
    rintro ⟨p3, c1⟩ hq2
    have q1 := len_specAV ([]) (((v.entries).length : Nat) : Int)
    refine WX.run ttOk rfl ?_
    have hv2 : v.entries.length ≤ bd n := (okl (ok_StateVector hokv)).1
    refine WX.loop (ι := (Option Addr) × Nat × (List UInt8) × Nat) ⟨fun | (pb, cb, b, i) => (i ≤ (v.entries).length) ∧ (b.length ≤ bd (n + 4) ∧ ∀ z_ ∈ b, GoT.ok (n + 4) z_) ∧ (b.length ≤ 6 + 96 * i) ∧ (spec_EncodeVector_L1 v.entries ((spec_AppendVarint ([]) (((v.entries).length : Nat) : Int)) : List UInt8) = spec_EncodeVector_L1 ((v.entries).drop i) b), fun | (pb, cb, b, i) => (v.entries).length - i, fun | (pb, cb, b, i) => [(3, .v (.slice pb ((b).length) cb)), (4, .v (.int .i64 (((i : Nat) : Int)))), (1, .p 1 0)], fun | (pb, cb, b, i) => [(1, ⟨35, [.slice pv ((v.entries).length) cv]⟩)], fun | (pb, cb, b, i) => [], fun | (pb, cb, b, i) => [(0, MF.rs .stb pv cv v.entries), (8, MF.os pb cb b)]⟩ (p3, c1, ((spec_AppendVarint ([]) (((v.entries).length : Nat) : Int)) : List UInt8), 0) ⟨(Nat.zero_le _), (GoT.okm (α := List UInt8) (by omega) hq2), (by first | omega | (simp only [List.length_nil] at *; omega)), rfl⟩
      (.cons rfl (.cons rfl (.cons rfl (.nil)))) (.cons rfl (.nil)) .nil [0, 8] rfl ?_
    rintro ⟨pb, cb, b, i⟩ hpre
    have hpre_ : (i ≤ (v.entries).length) ∧ (b.length ≤ bd (n + 4) ∧ ∀ z_ ∈ b, GoT.ok (n + 4) z_) ∧ (b.length ≤ 6 + 96 * i) ∧ (spec_EncodeVector_L1 v.entries ((spec_AppendVarint ([]) (((v.entries).length : Nat) : Int)) : List UInt8) = spec_EncodeVector_L1 ((v.entries).drop i) b) := hpre
    clear hpre
    obtain ⟨v1, v2, v3, v4⟩ := hpre_
    have v2L := v2.1
    refine WX.run ttOk rfl ?_
    refine WX.cases 18 rfl (fun h2 => ?_) (fun h2 => ?_)
    · skip
      have h2d := B.dt h2
      have e1i : i < (v.entries).length := (by omega)
      obtain ⟨e1, e1h⟩ : ∃ e1, (v.entries)[i]? = some e1 := ⟨_, List.getElem?_eq_getElem e1i⟩
      have ok1 : GoT.ok n e1 := (okl (ok_StateVector hokv)).2 _ (List.mem_of_getElem? e1h)
      refine WX.run ttOk rfl ?_
      refine WX.der 9 (MF.rs .der pb cb b) rfl (fun _ hΓ => (hΓ.get 8 rfl : OwSl _ _ _ _).rd) ?_
      refine WX.draw [] mixed ?_
      intro bs G0 hΓ0
      refine DX.takes (fuel := 12) ttOk [(0, true), (1, true), (2, false), (3, true)] (by kernel_rfl) rfl ?_
      refine DX.idx 4 0 i ttOk hΓ0 (by kernel_rfl) rfl rfl rfl rfl rfl rfl rfl rfl rfl rfl rfl e1i ?_
      rintro ad1 rfl
      refine DX.takes (fuel := 10) ttOk [(5, true)] (by kernel_rfl) rfl ?_
      refine DX.ldE 6 0 10 e1 ttOk hΓ0 (by kernel_rfl) rfl rfl rfl rfl rfl rfl rfl rfl e1h (fun _ => rfl) (fun _ => rfl) ?_
      rintro ⟨⟨p4, c2⟩, ⟨⟩⟩
      refine DX.takes (fuel := 6) ttOk [(8, true), (9, false), (10, true)] (by kernel_rfl) rfl ?_
      refine DX.idx 11 0 i ttOk hΓ0 (by kernel_rfl) rfl rfl rfl rfl rfl rfl rfl rfl rfl rfl rfl e1i ?_
      rintro ad2 ⟨⟩
      refine DX.takes (fuel := 4) ttOk [(12, true)] (by kernel_rfl) rfl ?_
      refine DX.ldE 13 0 11 e1 ttOk hΓ0 (by kernel_rfl) rfl rfl rfl rfl rfl rfl rfl rfl e1h (fun _ => rfl) (fun _ => rfl) ?_
      rintro ⟨⟨p5, c3⟩, ⟨⟩⟩
      refine DX.callF 7 12 (fun _ _ h => GoT.ow_rd h) (fun _ f hf => GoT.fak f hf) rfl (by kernel_rfl) rfl rfl rfl rfl rfl rfl (fun _ => rfl) rfl (fun w G bs hI hΓ => f28 w (n + 4) (by omega) b pb cb (hΓ.get 9 rfl) e1.name p4 c2 (hΓ.get 10 rfl) (okl_of v2) (GoT.okm (α := List Str) (by omega) (ok_Name (ok_TableEntry ok1).1))) (fun _ => rfl) (fun _ => rfl) ?_
      rintro ⟨p6, c4⟩ hq3
      have q2 := len_specAN b e1.name
      have r2 : (spec_AppendName b e1.name).length ≤ bd (n + 5) := (okl hq3).1
      refine DX.callF 14 14 (fun _ _ h => GoT.ow_rd h) (fun _ f hf => GoT.fak f hf) rfl (by kernel_rfl) rfl rfl rfl rfl rfl rfl (fun _ => rfl) rfl (fun w G bs hI hΓ => f27 w (n + 4) (by omega) (spec_AppendName b e1.name) p6 c4 (hΓ.get 12 rfl) e1.value (okl_mk (by omega) (fun _ _ => trivial) : GoT.ok (n + 4) ((spec_AppendName b e1.name) : List UInt8)) ((ok_TableEntry ok1).2)) (fun _ => rfl) (fun _ => rfl) ?_
      rintro ⟨p7, c5⟩ hq4
      have q3 := len_specAV (spec_AppendName b e1.name) e1.value
      refine DX.takes (fuel := 0) ttOk [(15, true)] (by kernel_rfl) rfl ?_
      refine DX.tail2 [] rfl rfl (by kernel_rfl) ?_
      refine WX.run ttOk rfl ?_
      refine WX.see rfl rfl rfl (fun _ hΓ => looks_arith rfl rfl rfl rfl (by unfold I64; first | omega | (simp only [List.length_take, List.length_drop] at *; omega) | (dsimp only; omega))) ?_
      refine WX.run ttOk rfl ?_
      refine WX.turn [15] 8 rfl (fun _ h => h) rfl ?_
      have r3 : -9223372036854775808 ≤ e1.value ∧ e1.value ≤ 9223372036854775807 := (ok_TableEntry ok1).2
      have r4 : (spec_AppendVarint (spec_AppendName b e1.name) e1.value).length ≤ bd (n + 5) := (okl hq4).1
      exact WX.iter (p7, c5, (spec_AppendVarint (spec_AppendName b e1.name) e1.value), i + 1) ⟨(by omega), (okl_mk (by omega) (fun _ _ => trivial) : GoT.ok (n + 4) ((spec_AppendVarint (spec_AppendName b e1.name) e1.value) : List UInt8)), (by omega), (by rw [v4, drop_get e1h]; simp only [spec_EncodeVector_L1, cond_true, cond_false])⟩ (by first | (dsimp only; omega) | omega) (.cons rfl (.cons rfl (.cons rfl (.nil)))) (.cons rfl (.nil)) .nil [0, 8] rfl
    · skip
      have h2d := B.df h2
      refine WX.run ttOk rfl ?_
      have hX1 : spec_EncodeVector_L1 v.entries ((spec_AppendVarint ([]) (((v.entries).length : Nat) : Int)) : List UInt8) = ((b) : List UInt8) := by rw [v4, List.drop_eq_nil_of_le (show (v.entries).length ≤ i by omega)]; simp only [spec_EncodeVector_L1, cond_true, cond_false]
      have hP2 : spec_EncodeVector v = b := by simp only [spec_EncodeVector, h1, hX1, cond_true, cond_false]
      refine WX.ret ttOk rfl ?_
      intro w1 G bs hI hΓ
      rw [hP2]
      exact Post.of [8] (pb, cb) hI hΓ rfl rfl rfl (okl_of v2)
end Go.Proofs.Ytfffongneoegbaa

namespace Go.Stp
theorem mid {α : Type} (p : List α) (e : α) (l : List α) : (p ++ e :: l)[p.length]? = some e := by simp
theorem mid_set {α : Type} (p : List α) (e x : α) (l : List α) : (p ++ e :: l).set p.length x = (p ++ [x]) ++ l := by simp
theorem mid_app {α : Type} (p : List α) (e : α) (l : List α) : (p ++ [e]) ++ l = p ++ e :: l := by simp
theorem mid_len {α : Type} (p : List α) (e : α) : (p ++ [e]).length = p.length + 1 := by simp
def SzR (r left : Int) (s : Nat) : Prop := r = -1 ∨ ((s : Int) ≤ left ∧ r = left - s)
theorem SzR.pos {r left : Int} {s : Nat} (h : SzR r left s) (hr : 0 ≤ r) : (s : Int) ≤ left ∧ r = left - s := by
  rcases h with h | h
  · omega
  · exact h
def SzL (r : Ctl Int Int) (left : Int) (s : Nat) : Prop := r = .ret (-1) ∨ ((s : Int) ≤ left ∧ r = .nxt (left - s))
theorem dF {x : Int} (h : 0 ≤ x) : decide (x < 0) = false := decide_eq_false (by omega)
theorem dT {x : Int} (h : x < 0) : decide (x < 0) = true := decide_eq_true h
theorem wrap_sub {x : Int} {n : Nat} (h0 : 0 ≤ x) (h1 : x ≤ 1048576) (hn : n ≤ 9223372036854775807) : IntKind.i64.wrap (x - (n : Int)) = x - n := wrap_i64 (by unfold I64; omega)
theorem wrap1 {x : Int} (h0 : 0 ≤ x) (h1 : x ≤ 4611686018427387904) : IntKind.i64.wrap (x + 1) = x + 1 := wrap_i64 (by unfold I64; omega)
theorem szL_cons {α : Type} [GoT α] [Sz α] (a : α) (l : List α) : szL (a :: l) = sz a + szL l := by simp [szL]
theorem szL_nil {α : Type} [GoT α] [Sz α] : szL ([] : List α) = 0 := rfl
theorem szL_zero {α : Type} [GoT α] [Sz α] (h : ∀ a : α, sz a = 0) : ∀ l : List α, szL l = 0
  | [] => rfl
  | a :: l => by rw [szL_cons, h a, szL_zero h l]
theorem szL_u8 (l : List UInt8) : szL l = 0 := szL_zero (fun _ => rfl) l
def MkR (k k' : Int) (s : Nat) (held : Int) : Prop := k ≤ k' ∧ k' ≤ k + 16 * (s : Int) ∧ held = k'
theorem bne_self_F {α : Type} [BEq α] [LawfulBEq α] (a : α) : (a != a) = false := by simp
theorem nbeq_self_F {α : Type} [BEq α] [LawfulBEq α] (a : α) : (!(a == a)) = false := by simp
end Go.Stp

namespace Go.Stp
set_option linter.unusedVariables false
set_option linter.unusedSimpArgs false
theorem eqL_StringS : ∀ (l p : (List Str)), laws_eqStringS_L1 (p ++ l) l p.length = none
  | [], _ => rfl
  | e :: l, p => by
    have ih := eqL_StringS l (p ++ [e])
    rw [mid_app, mid_len] at ih
    simp only [laws_eqStringS_L1, mid, bne_self_F, nbeq_self_F, cond_false]
    exact ih
theorem eq_StringS (a : (List Str)) : laws_eqStringS a a = true := by
  have h := eqL_StringS a []
  simp only [List.nil_append, List.length_nil] at h
  simp only [laws_eqStringS, bne_self_F, cond_false, h]
theorem toL_StringS : ∀ (l p z : (List Str)), z.length = l.length → laws_toStringS_L1 l p.length (p ++ z) = p ++ l
  | [], p, [], _ => rfl
  | e :: l, p, y :: z, h => by
    have ih := toL_StringS l (p ++ [e]) z (by simpa using h)
    rw [mid_app p e l, mid_len] at ih
    simp only [laws_toStringS_L1, mid, mid_set]
    exact ih
theorem to_StringS (a : (List Str)) : laws_toStringS a = a := by
  simp only [laws_toStringS]
  exact toL_StringS a [] _ (by simp)
theorem szL_StringS_R : ∀ (l : (List Str)) (left : Int), (∀ a ∈ l, GoT.ok 10 a) → 0 ≤ left → left ≤ 1048576 → SzL (laws_szStringS_L1 l left) left (szL l)
  | [], left, _, h0, _ => .inr ⟨by simp [szL_nil]; omega, by simp [szL_nil, laws_szStringS_L1]⟩
  | e :: l, left, hk, h0, h1 => by
    have he : e.size ≤ 9223372036854775807 := hk e List.mem_cons_self
    rw [szL_cons, sz_str]
    unfold laws_szStringS_L1
    rw [wrap_sub h0 h1 he]
    by_cases hc : left - (e.size : Int) < 0
    · rw [dT hc, cond_true]; exact .inl rfl
    · rw [dF (by omega), cond_false]
      rcases szL_StringS_R l (left - (e.size : Int)) (fun a ha => hk a (List.mem_cons_of_mem _ ha)) (by omega) (by omega) with r | ⟨q, r⟩
      · exact .inl r
      · exact .inr ⟨by omega, by rw [r]; congr 1; omega⟩
theorem sz_StringS_R (a : (List Str)) (left : Int) (h : GoT.ok 10 a) (h0 : 0 ≤ left) (h1 : left ≤ 1048576) : SzR (laws_szStringS a left) left (sz a) := by
  have hl : a.length ≤ 9223372036854775807 := h.1
  rw [sz_list]
  unfold laws_szStringS
  rw [wrap_sub h0 h1 hl]
  by_cases hc : left - (a.length : Int) < 0
  · rw [dT hc, cond_true]; exact .inl rfl
  · rw [dF (by omega), cond_false]
    rcases szL_StringS_R a (left - (a.length : Int)) h.2 (by omega) (by omega) with r | ⟨q, r⟩
    · rw [r]; exact .inl rfl
    · rw [r]; exact .inr ⟨by omega, by show left - (a.length : Int) - (szL a : Int) = _; omega⟩
theorem mkL_StringS : ∀ (l p : (List Str)) (k : Int), 0 ≤ k → k + 16 * ((l.length : Int) + szL l) ≤ 4611686018427387904 → ∃ l' k', laws_markStringS_L1 l.length p.length (p ++ l) k = (p ++ l', k') ∧ k ≤ k' ∧ k' ≤ k + 16 * ((l.length : Int) + szL l) ∧ laws_heldStringS_L1 l' k = .nxt k'
  | [], p, k, _, _ => ⟨[], k, rfl, by omega, by simp [szL_nil], rfl⟩
  | e :: l, p, k, h0, hb => by
    rw [szL_cons, List.length_cons] at hb
    have w1 := wrap1 (x := k) (by omega) (by omega)
    obtain ⟨l', k', r1, r2, r3, r4⟩ := mkL_StringS l (p ++ [(laws_markText k)]) (k + 1) (by omega) (by omega)
    rw [mid_len] at r1
    refine ⟨(laws_markText k) :: l', k', ?_, by omega, by rw [szL_cons, List.length_cons]; omega, ?_⟩
    · simp only [List.length_cons, laws_markStringS_L1, mid, mid_set, w1]
      rw [r1, mid_app]
    · simp only [laws_heldStringS_L1, bne_self_F, nbeq_self_F, cond_false, w1]
      exact r4
theorem mk_StringS (a : (List Str)) (k : Int) (h0 : 0 ≤ k) (hb : k + 16 * (sz a : Int) ≤ 4611686018427387904) : MkR k (laws_markStringS a k).1 (sz a) (laws_heldStringS (laws_markStringS a k).2 k) := by
  rw [sz_list] at hb ⊢
  obtain ⟨l', k', r1, r2, r3, r4⟩ := mkL_StringS a [] k h0 (by omega)
  simp only [List.nil_append, List.length_nil] at r1
  simp only [laws_markStringS, r1, laws_heldStringS, r4]
  exact ⟨r2, by omega, rfl⟩
theorem eq_Name (a : Name) : laws_eqName a a = true := by
  simp only [laws_eqName, bne_self_F, nbeq_self_F, cond_false, Bool.not_true, eq_StringS]
theorem to_Name (a : Name) : laws_toName a = a := by
  simp only [laws_toName, to_StringS]
theorem sz_Name_R (a : Name) (left : Int) (h : GoT.ok 10 a) (h0 : 0 ≤ left) (h1 : left ≤ 1048576) : SzR (laws_szName a left) left (sz a) := by
  rw [sz_Name]
  unfold laws_szName
  rcases sz_StringS_R a.parts left (ok_Name h) (by omega) (by omega) with r0 | ⟨q0, r0⟩
  · rw [r0]; exact .inl rfl
  rw [r0, dF (by omega), cond_false]
  exact .inr ⟨by omega, by omega⟩
theorem eq_TableEntry (a : TableEntry) : laws_eqTableEntry a a = true := by
  simp only [laws_eqTableEntry, bne_self_F, nbeq_self_F, cond_false, Bool.not_true, eq_Name]
theorem to_TableEntry (a : TableEntry) : laws_toTableEntry a = a := by
  simp only [laws_toTableEntry, to_Name]
theorem sz_TableEntry_R (a : TableEntry) (left : Int) (h : GoT.ok 10 a) (h0 : 0 ≤ left) (h1 : left ≤ 1048576) : SzR (laws_szTableEntry a left) left (sz a) := by
  rw [sz_TableEntry]
  unfold laws_szTableEntry
  rcases sz_Name_R a.name left (ok_TableEntry h).1 (by omega) (by omega) with r0 | ⟨q0, r0⟩
  · rw [r0]; exact .inl rfl
  rw [r0, dF (by omega), cond_false]
  exact .inr ⟨by omega, by omega⟩
theorem eqL_TableEntryS : ∀ (l p : (List TableEntry)), laws_eqTableEntryS_L1 (p ++ l) l p.length = none
  | [], _ => rfl
  | e :: l, p => by
    have ih := eqL_TableEntryS l (p ++ [e])
    rw [mid_app, mid_len] at ih
    simp only [laws_eqTableEntryS_L1, mid, eq_TableEntry e, Bool.not_true, cond_false]
    exact ih
theorem eq_TableEntryS (a : (List TableEntry)) : laws_eqTableEntryS a a = true := by
  have h := eqL_TableEntryS a []
  simp only [List.nil_append, List.length_nil] at h
  simp only [laws_eqTableEntryS, bne_self_F, cond_false, h]
theorem toL_TableEntryS : ∀ (l p z : (List TableEntry)), z.length = l.length → laws_toTableEntryS_L1 l p.length (p ++ z) = p ++ l
  | [], p, [], _ => rfl
  | e :: l, p, y :: z, h => by
    have ih := toL_TableEntryS l (p ++ [e]) z (by simpa using h)
    rw [mid_app p e l, mid_len] at ih
    simp only [laws_toTableEntryS_L1, mid, mid_set, to_TableEntry e]
    exact ih
theorem to_TableEntryS (a : (List TableEntry)) : laws_toTableEntryS a = a := by
  simp only [laws_toTableEntryS]
  exact toL_TableEntryS a [] _ (by simp)
theorem szL_TableEntryS_R : ∀ (l : (List TableEntry)) (left : Int), (∀ a ∈ l, GoT.ok 10 a) → 0 ≤ left → left ≤ 1048576 → SzL (laws_szTableEntryS_L1 l left) left (szL l)
  | [], left, _, h0, _ => .inr ⟨by simp [szL_nil]; omega, by simp [szL_nil, laws_szTableEntryS_L1]⟩
  | e :: l, left, hk, h0, h1 => by
    rw [szL_cons]
    unfold laws_szTableEntryS_L1
    rcases sz_TableEntry_R e left (hk e List.mem_cons_self) h0 h1 with r0 | ⟨q0, r0⟩
    · rw [r0]; exact .inl rfl
    · rw [r0, dF (by omega), cond_false]
      rcases szL_TableEntryS_R l (left - (sz e : Int)) (fun a ha => hk a (List.mem_cons_of_mem _ ha)) (by omega) (by omega) with r | ⟨q, r⟩
      · exact .inl r
      · exact .inr ⟨by omega, by rw [r]; congr 1; omega⟩
theorem sz_TableEntryS_R (a : (List TableEntry)) (left : Int) (h : GoT.ok 10 a) (h0 : 0 ≤ left) (h1 : left ≤ 1048576) : SzR (laws_szTableEntryS a left) left (sz a) := by
  have hl : a.length ≤ 9223372036854775807 := h.1
  rw [sz_list]
  unfold laws_szTableEntryS
  rw [wrap_sub h0 h1 hl]
  by_cases hc : left - (a.length : Int) < 0
  · rw [dT hc, cond_true]; exact .inl rfl
  · rw [dF (by omega), cond_false]
    rcases szL_TableEntryS_R a (left - (a.length : Int)) h.2 (by omega) (by omega) with r | ⟨q, r⟩
    · rw [r]; exact .inl rfl
    · rw [r]; exact .inr ⟨by omega, by show left - (a.length : Int) - (szL a : Int) = _; omega⟩
theorem sz_flat_TableEntryS (e : TableEntry) : sz e = sz e.name.parts := by
  simp only [sz_TableEntry, sz_Name, Nat.add_assoc]
theorem mkL_TableEntryS : ∀ (l p : (List TableEntry)) (k : Int), 0 ≤ k → k + 16 * ((l.length : Int) + szL l) ≤ 4611686018427387904 → ∃ l' k', laws_markTableEntryS_L1 l.length p.length (p ++ l) k = (p ++ l', k') ∧ k ≤ k' ∧ k' ≤ k + 16 * ((l.length : Int) + szL l) ∧ laws_heldTableEntryS_L1 l' k = .nxt k'
  | [], p, k, _, _ => ⟨[], k, rfl, by omega, by simp [szL_nil], rfl⟩
  | e :: l, p, k, h0, hb => by
    rw [szL_cons, List.length_cons] at hb
    have hsz := sz_flat_TableEntryS e
    obtain ⟨p1, q1, e1⟩ := mk_StringS e.name.parts (k) (by omega) (by omega)
    have d1 := dF (show 0 ≤ (laws_markStringS e.name.parts (k)).1 by omega)
    have w2 := wrap1 (x := (laws_markStringS e.name.parts (k)).1) (by omega) (by omega)
    obtain ⟨l', k', r1, r2, r3, r4⟩ := mkL_TableEntryS l (p ++ [(TableEntry.mk (Name.mk (laws_markStringS e.name.parts k).2) ((laws_markStringS e.name.parts k).1))]) ((laws_markStringS e.name.parts (k)).1 + 1) (by omega) (by omega)
    rw [mid_len] at r1
    refine ⟨(TableEntry.mk (Name.mk (laws_markStringS e.name.parts k).2) ((laws_markStringS e.name.parts k).1)) :: l', k', ?_, by omega, by rw [szL_cons, List.length_cons]; omega, ?_⟩
    · simp only [List.length_cons, laws_markTableEntryS_L1, mid, mid_set, w2]
      rw [r1, mid_app]
    · simp only [laws_heldTableEntryS_L1, bne_self_F, nbeq_self_F, cond_false, e1, d1, cond_false, w2]
      exact r4
theorem mk_TableEntryS (a : (List TableEntry)) (k : Int) (h0 : 0 ≤ k) (hb : k + 16 * (sz a : Int) ≤ 4611686018427387904) : MkR k (laws_markTableEntryS a k).1 (sz a) (laws_heldTableEntryS (laws_markTableEntryS a k).2 k) := by
  rw [sz_list] at hb ⊢
  obtain ⟨l', k', r1, r2, r3, r4⟩ := mkL_TableEntryS a [] k h0 (by omega)
  simp only [List.nil_append, List.length_nil] at r1
  simp only [laws_markTableEntryS, r1, laws_heldTableEntryS, r4]
  exact ⟨r2, by omega, rfl⟩
theorem eq_StateVector (a : StateVector) : laws_eqStateVector a a = true := by
  simp only [laws_eqStateVector, bne_self_F, nbeq_self_F, cond_false, Bool.not_true, eq_TableEntryS]
theorem to_StateVector (a : StateVector) : laws_toStateVector a = a := by
  simp only [laws_toStateVector, to_TableEntryS]
theorem sz_StateVector_R (a : StateVector) (left : Int) (h : GoT.ok 10 a) (h0 : 0 ≤ left) (h1 : left ≤ 1048576) : SzR (laws_szStateVector a left) left (sz a) := by
  rw [sz_StateVector]
  unfold laws_szStateVector
  rcases sz_TableEntryS_R a.entries left (ok_StateVector h) (by omega) (by omega) with r0 | ⟨q0, r0⟩
  · rw [r0]; exact .inl rfl
  rw [r0, dF (by omega), cond_false]
  exact .inr ⟨by omega, by omega⟩
theorem mk_StateVector (a : StateVector) (k : Int) (h0 : 0 ≤ k) (hb : k + 16 * (sz a : Int) ≤ 4611686018427387904) : MkR k (laws_markStateVector a k).1 (sz a) (laws_heldStateVector (laws_markStateVector a k).2 k) := by
  rw [sz_StateVector] at hb ⊢
  obtain ⟨p0, q0, e0⟩ := mk_TableEntryS a.entries (k) (by omega) (by omega)
  have d0 := dF (show 0 ≤ (laws_markTableEntryS a.entries (k)).1 by omega)
  have f0 : (laws_markStateVector a k).2.entries = (laws_markTableEntryS a.entries (k)).2 := rfl
  refine ⟨show k ≤ (laws_markTableEntryS a.entries (k)).1 by omega, show (laws_markTableEntryS a.entries (k)).1 ≤ _ by omega, ?_⟩
  show _ = (laws_markTableEntryS a.entries (k)).1
  simp only [laws_heldStateVector, f0, e0, d0, cond_false]
theorem eqL_ByteS : ∀ (l p : (List UInt8)), laws_eqByteS_L1 (p ++ l) l p.length = none
  | [], _ => rfl
  | e :: l, p => by
    have ih := eqL_ByteS l (p ++ [e])
    rw [mid_app, mid_len] at ih
    simp only [laws_eqByteS_L1, mid, bne_self_F, nbeq_self_F, cond_false]
    exact ih
theorem eq_ByteS (a : (List UInt8)) : laws_eqByteS a a = true := by
  have h := eqL_ByteS a []
  simp only [List.nil_append, List.length_nil] at h
  simp only [laws_eqByteS, bne_self_F, cond_false, h]
theorem mkL_ByteS : ∀ (l p : (List UInt8)) (k : Int), 0 ≤ k → k + 16 * ((l.length : Int) + szL l) ≤ 4611686018427387904 → ∃ l' k', laws_markByteS_L1 l.length p.length (p ++ l) k = (p ++ l', k') ∧ k ≤ k' ∧ k' ≤ k + 16 * ((l.length : Int) + szL l) ∧ laws_heldByteS_L1 l' k = .nxt k'
  | [], p, k, _, _ => ⟨[], k, rfl, by omega, by simp [szL_nil], rfl⟩
  | e :: l, p, k, h0, hb => by
    rw [szL_cons, List.length_cons] at hb
    have w1 := wrap1 (x := k) (by omega) (by omega)
    obtain ⟨l', k', r1, r2, r3, r4⟩ := mkL_ByteS l (p ++ [(toU8 k)]) (k + 1) (by omega) (by omega)
    rw [mid_len] at r1
    refine ⟨(toU8 k) :: l', k', ?_, by omega, by rw [szL_cons, List.length_cons]; omega, ?_⟩
    · simp only [List.length_cons, laws_markByteS_L1, mid, mid_set, w1]
      rw [r1, mid_app]
    · simp only [laws_heldByteS_L1, bne_self_F, nbeq_self_F, cond_false, w1]
      exact r4
theorem mk_ByteS (a : (List UInt8)) (k : Int) (h0 : 0 ≤ k) (hb : k + 16 * (sz a : Int) ≤ 4611686018427387904) : MkR k (laws_markByteS a k).1 (sz a) (laws_heldByteS (laws_markByteS a k).2 k) := by
  rw [sz_list] at hb ⊢
  obtain ⟨l', k', r1, r2, r3, r4⟩ := mkL_ByteS a [] k h0 (by omega)
  simp only [List.nil_append, List.length_nil] at r1
  simp only [laws_markByteS, r1, laws_heldByteS, r4]
  exact ⟨r2, by omega, rfl⟩
end Go.Stp

namespace Go.Stp
set_option linter.unusedVariables false
set_option linter.unusedSimpArgs false
def laws_FnExactEncodeVector (aV : StateVector) : Bool :=
  bif decide ((laws_szStateVector aV 1048576) < 0) then
    true
  else
    bif (!(laws_eqByteS (impl_EncodeVector (laws_toStateVector aV)) (spec_EncodeVector (laws_toStateVector aV)))) then
      false
    else
      bif (!(laws_eqStateVector (laws_toStateVector aV) (laws_toStateVector aV))) then
        false
      else
        bif decide ((laws_markStateVector (laws_toStateVector aV) 1).1 < 0) then
          false
        else
          bif decide ((laws_heldByteS ((laws_markByteS (impl_EncodeVector (laws_toStateVector aV)) 1).2) 1) < 0) then
            false
          else
            bif ((laws_heldByteS ((laws_markByteS (impl_EncodeVector (laws_toStateVector aV)) 1).2) 1) != (laws_markByteS (impl_EncodeVector (laws_toStateVector aV)) 1).1) then
              false
            else
              true
end Go.Stp

namespace Go.Proofs.Ytfffongneoegbaa
open Go.Stp
set_option linter.unusedVariables false
set_option linter.unusedSimpArgs false
theorem f4 (w : World) (n : Nat) (hn : n + 7 ≤ 9) (aV : StateVector) (paV : Option Addr) (caV : Nat) (hpaV : RdSl (hp w) paV caV aV.entries) (hokaV : GoT.ok 10 aV) :
    Does Try.prog 4 #[.agg #[.slice paV ((aV.entries).length) caV]] w emp (fun (rv : Value) (_ : World) => rv = .bool (laws_FnExactEncodeVector aV) ∧ True) := by
  have hbP := bd_pos n
  have hbS0 : bd (n + 1) = 4 * bd (n) := bd_succ (n := n) (by omega)
  have hbS1 : bd (n + 2) = 4 * bd (n + 1) := bd_succ (n := n + 1) (by omega)
  have hbS2 : bd (n + 3) = 4 * bd (n + 2) := bd_succ (n := n + 2) (by omega)
  have hbS3 : bd (n + 4) = 4 * bd (n + 3) := bd_succ (n := n + 3) (by omega)
  have hbS4 : bd (n + 5) = 4 * bd (n + 4) := bd_succ (n := n + 4) (by omega)
  have hbS5 : bd (n + 6) = 4 * bd (n + 5) := bd_succ (n := n + 5) (by omega)
  have hbS6 : bd (n + 7) = 4 * bd (n + 6) := bd_succ (n := n + 6) (by omega)
  have hbB := bd_big (n := (n + 7)) (by omega)
  have hbM := bd_mono (show n ≤ n + 7 by omega)
  refine WX.enter (tt := tt) (Γ := [(0, MF.rs .stb paV caV aV.entries)]) Try.func4 rfl (by kernel_rfl) rfl (allS_cons rfl hpaV allS_nil) ?_
  refine WX.run ttOk rfl ?_
  refine WX.callV rfl rfl rfl rfl rfl (fun _ => rfl) rfl (fun w G bs hI hΓ => f10 w 10 aV paV caV (hΓ.get 0 rfl) 1048576 hokaV (show I64 1048576 from (by unfold I64; omega))) ?_
  intro hq1
  refine WX.run ttOk rfl ?_
  refine WX.cases 15 rfl (fun h1 => ?_) (fun h1 => ?_)
  · skip
    have h1d := B.dt h1
    refine WX.run ttOk rfl ?_
    have hP1 : laws_FnExactEncodeVector aV = true := by simp only [laws_FnExactEncodeVector, h1, cond_true, cond_false]
    refine WX.ret ttOk rfl ?_
    intro w1 G bs hI hΓ
    rw [hP1]
    exact ⟨rfl, trivial⟩
  · skip
    have h1d := B.df h1
    obtain ⟨hs1, ht1⟩ := (sz_StateVector_R aV 1048576 hokaV (by omega) (by omega)).pos (by omega)
    have hk1 : GoT.ok n aV := GoT.okm (Nat.zero_le n) (Sz.low hokaV (show sz aV ≤ 1048576 by omega))
    refine WX.run ttOk rfl ?_
    refine WX.callF 1 (fun _ _ h => GoT.ow_rd h) (fun _ f hf => GoT.fak f hf) rfl rfl rfl rfl rfl (fun _ => rfl) rfl (fun w G bs hI hΓ => f12 w n (by omega) aV paV caV (hΓ.get 0 rfl) hk1) (fun _ => rfl) (fun _ => rfl) ?_
    rintro ⟨p1, c1⟩ hq2
    refine WX.callF 3 (fun _ _ h => GoT.ow_rd h) (fun _ f hf => GoT.fak f hf) rfl rfl rfl rfl rfl (fun _ => rfl) rfl (fun w G bs hI hΓ => f11 w n (by omega) (laws_toStateVector aV) p1 c1 (hΓ.get 1 rfl) hq2) (fun _ => rfl) (fun _ => rfl) ?_
    rintro ⟨p2, c2⟩ hq3
    refine WX.run ttOk rfl ?_
    refine WX.callF 5 (fun _ _ h => GoT.ow_rd h) (fun _ f hf => GoT.fak f hf) rfl rfl rfl rfl rfl (fun _ => rfl) rfl (fun w G bs hI hΓ => f12 w n (by omega) aV paV caV (hΓ.get 0 rfl) hk1) (fun _ => rfl) (fun _ => rfl) ?_
    rintro ⟨p3, c3⟩ hq4
    refine WX.run ttOk rfl ?_
    refine WX.callF 7 (fun _ _ h => GoT.ow_rd h) (fun _ f hf => GoT.fak f hf) rfl rfl rfl rfl rfl (fun _ => rfl) rfl (fun w G bs hI hΓ => f13 w n (by omega) (laws_toStateVector aV) p3 c3 (hΓ.get 5 rfl) hq4) (fun _ => rfl) (fun _ => rfl) ?_
    rintro ⟨p4, c4⟩ hq5
    refine WX.run ttOk rfl ?_
    refine WX.callV rfl rfl rfl rfl rfl (fun _ => rfl) rfl (fun w G bs hI hΓ => f14 w (n + 4) (by omega) (impl_EncodeVector (laws_toStateVector aV)) p4 c4 (hΓ.get 7 rfl) (spec_EncodeVector (laws_toStateVector aV)) p2 c2 (hΓ.get 3 rfl) hq5 hq3) ?_
    intro hq6
    refine WX.run ttOk rfl ?_
    refine WX.cases 26 rfl (fun h2 => ?_) (fun h2 => ?_)
    · skip
      have h2d := (B.nt h2)
      refine WX.run ttOk rfl ?_
      have hP2 : laws_FnExactEncodeVector aV = false := by simp only [laws_FnExactEncodeVector, h1, h2, cond_true, cond_false]
      refine WX.ret ttOk rfl ?_
      intro w1 G bs hI hΓ
      rw [hP2]
      exact ⟨rfl, trivial⟩
    · skip
      have h2d := (B.nf h2)
      refine WX.run ttOk rfl ?_
      refine WX.draw [] mixed ?_
      intro bs G0 hΓ0
      refine DX.takes (fuel := 3) ttOk [(0, false), (1, false)] (by kernel_rfl) rfl ?_
      refine DX.callF 2 9 (fun _ _ h => GoT.ow_rd h) (fun _ f hf => GoT.fak f hf) rfl (by kernel_rfl) rfl rfl rfl rfl rfl rfl (fun _ => rfl) rfl (fun w G bs hI hΓ => f12 w n (by omega) aV paV caV (hΓ.get 0 rfl) hk1) (fun _ => rfl) (fun _ => rfl) ?_
      rintro ⟨p5, c5⟩ hq7
      refine DX.callV 3 rfl (by kernel_rfl) rfl rfl rfl rfl rfl rfl (fun _ => rfl) rfl (fun w G bs hI hΓ => f15 w n (by omega) (laws_toStateVector aV) p3 c3 (hΓ.get 5 rfl) (laws_toStateVector aV) p5 c5 (hΓ.get 9 rfl) hq4 hq7) ?_
      intro hq8
      refine DX.takes (fuel := 0) ttOk [(4, true)] (by kernel_rfl) rfl ?_
      refine DX.tail2 [] rfl rfl (by kernel_rfl) ?_
      refine WX.run ttOk rfl ?_
      refine WX.cases 31 rfl (fun h3 => ?_) (fun h3 => ?_)
      · skip
        have h3d := (B.nt h3)
        refine WX.run ttOk rfl ?_
        have hP3 : laws_FnExactEncodeVector aV = false := by simp only [laws_FnExactEncodeVector, h1, h2, h3, cond_true, cond_false]
        refine WX.ret ttOk rfl ?_
        intro w1 G bs hI hΓ
        rw [hP3]
        exact ⟨rfl, trivial⟩
      · skip
        have h3d := (B.nf h3)
        refine WX.run ttOk rfl ?_
        refine WX.callM [6] 11 rfl (fun _ _ h => GoT.ow_rd h) (fun _ f hf => GoT.fak f hf) rfl rfl rfl rfl rfl (fun _ => rfl) rfl (fun w G bs H hI hH hs hΓ => f16 w n (by omega) (laws_toStateVector aV) p3 c3 1 H hH hs hq4 (show I64 1 from (by unfold I64; omega))) (fun _ => rfl) (fun _ => rfl) ?_
        rintro ⟨⟩ hq9
        have hl1 : ((laws_markStateVector (laws_toStateVector aV) 1).2.entries).length = ((laws_toStateVector aV).entries).length := hq9.2
        refine WX.run ttOk rfl ?_
        refine WX.cases 37 rfl (fun h4 => ?_) (fun h4 => ?_)
        · skip
          have h4d := B.dt h4
          refine WX.run ttOk rfl ?_
          have hP4 : laws_FnExactEncodeVector aV = false := by simp only [laws_FnExactEncodeVector, h1, h2, h3, h4, cond_true, cond_false]
          refine WX.ret ttOk rfl ?_
          intro w1 G bs hI hΓ
          rw [hP4]
          exact ⟨rfl, trivial⟩
        · skip
          have h4d := B.df h4
          refine WX.run ttOk rfl ?_
          refine WX.der 13 (MF.rs .der p4 c4 (impl_EncodeVector (laws_toStateVector aV))) rfl (fun _ hΓ => (hΓ.get 8 rfl : OwSl _ _ _ _).rd) ?_
          refine WX.der 14 (MF.rs .der p2 c2 (spec_EncodeVector (laws_toStateVector aV))) rfl (fun _ hΓ => (hΓ.get 4 rfl : OwSl _ _ _ _).rd) ?_
          refine WX.callV rfl rfl rfl rfl rfl (fun _ => rfl) rfl (fun w G bs hI hΓ => f14 w (n + 4) (by omega) (impl_EncodeVector (laws_toStateVector aV)) p4 c4 (hΓ.get 13 rfl) (spec_EncodeVector (laws_toStateVector aV)) p2 c2 (hΓ.get 14 rfl) hq5 hq3) ?_
          intro hq10
          refine WX.run ttOk rfl ?_
          refine WX.cases 42 rfl (fun h5 => ?_) (fun h5 => ?_)
          · skip
            have h5d := (B.nt h5)
            exact absurd (h2.symm.trans h5) Bool.false_ne_true
          · skip
            have h5d := (B.nf h5)
            refine WX.run ttOk rfl ?_
            refine WX.callM [8] 15 rfl (fun _ _ h => GoT.ow_rd h) (fun _ f hf => GoT.fak f hf) rfl rfl rfl rfl rfl (fun _ => rfl) rfl (fun w G bs H hI hH hs hΓ => f17 w (n + 4) (by omega) (impl_EncodeVector (laws_toStateVector aV)) p4 c4 1 H hH hs hq5 (show I64 1 from (by unfold I64; omega))) (fun _ => rfl) (fun _ => rfl) ?_
            rintro ⟨⟩ hq11
            have hl2 : ((laws_markByteS (impl_EncodeVector (laws_toStateVector aV)) 1).2).length = ((impl_EncodeVector (laws_toStateVector aV))).length := hq11.2
            refine WX.run ttOk rfl ?_
            refine WX.slot 46 (y := .v (.slice p4 (((laws_markByteS (impl_EncodeVector (laws_toStateVector aV)) 1).2).length) c4)) rfl (fun _ => by show (.slice p4 (((impl_EncodeVector (laws_toStateVector aV))).length) c4 : Value) = .slice p4 (((laws_markByteS (impl_EncodeVector (laws_toStateVector aV)) 1).2).length) c4; simp only [hl2]) ?_
            refine WX.callV rfl rfl rfl rfl rfl (fun _ => rfl) rfl (fun w G bs hI hΓ => f18 w (n + 4) (by omega) ((laws_markByteS (impl_EncodeVector (laws_toStateVector aV)) 1).2) p4 c4 (hΓ.get 15 rfl) 1 hq11.1.2 (show I64 1 from (by unfold I64; omega))) ?_
            intro hq12
            refine WX.run ttOk rfl ?_
            refine WX.cases 50 rfl (fun h6 => ?_) (fun h6 => ?_)
            · skip
              have h6d := B.dt h6
              refine WX.run ttOk rfl ?_
              have hP5 : laws_FnExactEncodeVector aV = false := by simp only [laws_FnExactEncodeVector, h1, h2, h3, h4, h5, h6, cond_true, cond_false]
              refine WX.ret ttOk rfl ?_
              intro w1 G bs hI hΓ
              rw [hP5]
              exact ⟨rfl, trivial⟩
            · skip
              have h6d := B.df h6
              refine WX.run ttOk rfl ?_
              refine WX.cases 53 rfl (fun h7 => ?_) (fun h7 => ?_)
              · skip
                have h7d := B.nt' h7
                refine WX.run ttOk rfl ?_
                have hP6 : laws_FnExactEncodeVector aV = false := by simp only [laws_FnExactEncodeVector, h1, h2, h3, h4, h5, h6, h7, cond_true, cond_false]
                refine WX.ret ttOk rfl ?_
                intro w1 G bs hI hΓ
                rw [hP6]
                exact ⟨rfl, trivial⟩
              · skip
                have h7d := B.nf' h7
                refine WX.run ttOk rfl ?_
                refine WX.callF 17 (fun _ _ h => GoT.ow_rd h) (fun _ f hf => GoT.fak f hf) rfl rfl rfl rfl rfl (fun _ => rfl) rfl (fun w G bs hI hΓ => f12 w n (by omega) aV paV caV (hΓ.get 0 rfl) hk1) (fun _ => rfl) (fun _ => rfl) ?_
                rintro ⟨p6, c6⟩ hq13
                refine WX.callF 19 (fun _ _ h => GoT.ow_rd h) (fun _ f hf => GoT.fak f hf) rfl rfl rfl rfl rfl (fun _ => rfl) rfl (fun w G bs hI hΓ => f13 w n (by omega) (laws_toStateVector aV) p6 c6 (hΓ.get 17 rfl) hq13) (fun _ => rfl) (fun _ => rfl) ?_
                rintro ⟨p7, c7⟩ hq14
                refine WX.run ttOk rfl ?_
                refine WX.der 21 (MF.rs .der p2 c2 (spec_EncodeVector (laws_toStateVector aV))) rfl (fun _ hΓ => (hΓ.get 4 rfl : OwSl _ _ _ _).rd) ?_
                refine WX.callV rfl rfl rfl rfl rfl (fun _ => rfl) rfl (fun w G bs hI hΓ => f14 w (n + 4) (by omega) (impl_EncodeVector (laws_toStateVector aV)) p7 c7 (hΓ.get 19 rfl) (spec_EncodeVector (laws_toStateVector aV)) p2 c2 (hΓ.get 21 rfl) hq14 hq3) ?_
                intro hq15
                refine WX.run ttOk rfl ?_
                refine WX.cases 60 rfl (fun h8 => ?_) (fun h8 => ?_)
                · skip
                  have h8d := (B.nt h8)
                  exact absurd (h2.symm.trans h8) Bool.false_ne_true
                · skip
                  have h8d := (B.nf h8)
                  refine WX.run ttOk rfl ?_
                  refine WX.slot 61 (y := .v (.slice p4 (((laws_markByteS (impl_EncodeVector (laws_toStateVector aV)) 1).2).length) c4)) rfl (fun _ => by show (.slice p4 (((impl_EncodeVector (laws_toStateVector aV))).length) c4 : Value) = .slice p4 (((laws_markByteS (impl_EncodeVector (laws_toStateVector aV)) 1).2).length) c4; simp only [hl2]) ?_
                  refine WX.callV rfl rfl rfl rfl rfl (fun _ => rfl) rfl (fun w G bs hI hΓ => f18 w (n + 4) (by omega) ((laws_markByteS (impl_EncodeVector (laws_toStateVector aV)) 1).2) p4 c4 (hΓ.get 15 rfl) 1 hq11.1.2 (show I64 1 from (by unfold I64; omega))) ?_
                  intro hq16
                  refine WX.run ttOk rfl ?_
                  refine WX.cases 65 rfl (fun h9 => ?_) (fun h9 => ?_)
                  · skip
                    have h9d := B.dt h9
                    exact absurd (h6.symm.trans h9) Bool.false_ne_true
                  · skip
                    have h9d := B.df h9
                    refine WX.run ttOk rfl ?_
                    refine WX.cases 68 rfl (fun h10 => ?_) (fun h10 => ?_)
                    · skip
                      have h10d := B.nt' h10
                      exact absurd (h7.symm.trans h10) Bool.false_ne_true
                    · skip
                      have h10d := B.nf' h10
                      refine WX.run ttOk rfl ?_
                      have hP7 : laws_FnExactEncodeVector aV = true := by simp only [laws_FnExactEncodeVector, h1, h2, h3, h4, h5, h6, h7, h8, h9, h10, cond_true, cond_false]
                      refine WX.ret ttOk rfl ?_
                      intro w1 G bs hI hΓ
                      rw [hP7]
                      exact ⟨rfl, trivial⟩
end Go.Proofs.Ytfffongneoegbaa

namespace Go.Stp
set_option linter.unusedVariables false
set_option linter.unusedSimpArgs false
theorem same_In (a b c : Int) : impl_InRange a b c = spec_l1In a b c := rfl
theorem vPL : ∀ l : List UInt8, impl_ValidPart_L1 l = spec_ValidPart_L1 l ∧ (spec_ValidPart_L1 l = none ∨ spec_ValidPart_L1 l = some false)
  | [] => ⟨rfl, .inl rfl⟩
  | c :: l => by
    obtain ⟨h1, h2⟩ := vPL l
    simp only [impl_ValidPart_L1, spec_ValidPart_L1, h1, spec_l1In, ge_iff_le]
    cases decide ((97 : Int) ≤ (c.toNat : Int)) <;> cases decide ((c.toNat : Int) ≤ 122) <;> cases decide ((48 : Int) ≤ (c.toNat : Int)) <;> cases decide ((c.toNat : Int) ≤ 57) <;> cases hc : ((c.toNat : Int) == 45) <;> simp [bne, hc, h2]
theorem same_ValidPart (s : Str) : impl_ValidPart s = spec_ValidPart s := by
  unfold impl_ValidPart spec_ValidPart
  obtain ⟨h1, h2⟩ := vPL s.data.toList
  rw [h1, same_In]
  rcases h2 with h | h <;> rw [h] <;> cases spec_l1In (((s).size : Nat) : Int) 1 8 <;> rfl
theorem iF_string : ∀ (f : Str → Bool) (l : List Str) (i : Nat), (slices_IndexFunc_string_L1 f l i = none ∧ l.any f = false) ∨ ∃ j : Nat, slices_IndexFunc_string_L1 f l i = some (j : Int) ∧ l.any f = true
  | f, [], i => .inl ⟨rfl, rfl⟩
  | f, x :: l, i => by
    simp only [slices_IndexFunc_string_L1, List.any_cons]
    cases hx : f x
    · simpa using iF_string f l (i + 1)
    · exact .inr ⟨i, rfl, rfl⟩
theorem cF_string (l : List Str) (f : Str → Bool) : slices_ContainsFunc_string l f = l.any f := by
  unfold slices_ContainsFunc_string slices_IndexFunc_string
  rcases iF_string f l 0 with ⟨h1, h2⟩ | ⟨j, h1, h2⟩ <;> simp [h1, h2]
theorem vNL : ∀ l : List Str, spec_ValidName_L1 l = bif l.any (fun e => !(spec_ValidPart e)) then some false else none
  | [] => rfl
  | x :: l => by
    simp only [spec_ValidName_L1, List.any_cons]
    cases (!(spec_ValidPart x)) <;> simp [vNL l]
theorem same_ValidName (a : Name) : impl_ValidName a = spec_ValidName a := by
  unfold impl_ValidName spec_ValidName impl_ValidName_c1
  rw [cF_string, vNL]
  simp only [same_ValidPart]
  cases a.parts.any (fun e => !(spec_ValidPart e)) <;> cases decide ((((a.parts).length : Nat) : Int) ≤ 6) <;> rfl
theorem cmp_l4 (x y : Str) : cmp_Compare_string x y = spec_l4Cmp x y := by
  simp [cmp_Compare_string, cmp_isNaN_string, spec_l4Cmp]
theorem cCL : ∀ (a b p : List Str), (slices_Compare_string_L1 (p ++ b) a p.length = spec_CompareNames_L1 ⟨p ++ b⟩ a p.length ∧ (spec_CompareNames_L1 ⟨p ++ b⟩ a p.length = none → a.length ≤ b.length)) ∨ (slices_Compare_string_L1 (p ++ b) a p.length = some 1 ∧ spec_CompareNames_L1 ⟨p ++ b⟩ a p.length = none ∧ b.length < a.length)
  | [], b, p => .inl ⟨rfl, fun _ => Nat.zero_le _⟩
  | x :: a, [], p => .inr (by simp [slices_Compare_string_L1, spec_CompareNames_L1])
  | x :: a, y :: b, p => by
    have ih := cCL a b (p ++ [y])
    rw [mid_app, mid_len] at ih
    have hlt : decide (((p.length : Nat) : Int) < (((p ++ y :: b).length : Nat) : Int)) = true := by simp; omega
    have hge : decide (((p.length : Nat) : Int) ≥ (((p ++ y :: b).length : Nat) : Int)) = false := by simp; omega
    simp only [spec_CompareNames_L1, slices_Compare_string_L1, hlt, hge, cond_true, cond_false, mid, cmp_l4, List.length_cons]
    cases (spec_l4Cmp x y != 0)
    · simp only [cond_false]
      rcases ih with ⟨h1, h2⟩ | ⟨h1, h2, h3⟩
      · exact .inl ⟨h1, fun h => by have := h2 h; omega⟩
      · exact .inr ⟨h1, h2, by omega⟩
    · exact .inl ⟨rfl, fun h => by cases h⟩
theorem same_CompareNames (a b : Name) : impl_CompareNames a b = spec_CompareNames a b := by
  unfold impl_CompareNames slices_Compare_string spec_CompareNames
  have h : (slices_Compare_string_L1 b.parts a.parts 0 = spec_CompareNames_L1 b a.parts 0 ∧ (spec_CompareNames_L1 b a.parts 0 = none → a.parts.length ≤ b.parts.length)) ∨ (slices_Compare_string_L1 b.parts a.parts 0 = some 1 ∧ spec_CompareNames_L1 b a.parts 0 = none ∧ b.parts.length < a.parts.length) := cCL a.parts b.parts []
  rcases h with ⟨h1, h2⟩ | ⟨h1, h2, h3⟩
  · rw [h1]
    cases hs : spec_CompareNames_L1 b a.parts 0 with
    | some k => rfl
    | none =>
      have := h2 hs
      have c : decide ((((a.parts).length : Nat) : Int) > (((b.parts).length : Nat) : Int)) = false := by simp; omega
      simp only [c, cond_false]
  · rw [h1, h2]
    have c : decide ((((a.parts).length : Nat) : Int) > (((b.parts).length : Nat) : Int)) = true := by simp; omega
    have d : decide ((((a.parts).length : Nat) : Int) < (((b.parts).length : Nat) : Int)) = false := by simp; omega
    simp only [c, d, cond_false, cond_true]
theorem vTL (l : List TableEntry) : ∀ (r : List TableEntry) (i : Nat), impl_ValidTable_L1 l r i = spec_ValidTable_L1 l r i
  | [], _ => rfl
  | x :: r, i => by simp only [impl_ValidTable_L1, spec_ValidTable_L1, same_ValidName, same_CompareNames, vTL l r]
theorem same_ValidTable (l : List TableEntry) : impl_ValidTable l = spec_ValidTable l := by
  unfold impl_ValidTable spec_ValidTable
  rw [vTL]
theorem iF_TableEntry : ∀ (f : TableEntry → Bool) (l : List TableEntry) (i : Nat), (slices_IndexFunc_TableEntry_L1 f l i = none ∧ l.any f = false) ∨ ∃ j : Nat, slices_IndexFunc_TableEntry_L1 f l i = some (j : Int) ∧ l.any f = true
  | f, [], i => .inl ⟨rfl, rfl⟩
  | f, x :: l, i => by
    simp only [slices_IndexFunc_TableEntry_L1, List.any_cons]
    cases hx : f x
    · simpa using iF_TableEntry f l (i + 1)
    · exact .inr ⟨i, rfl, rfl⟩
theorem cF_TableEntry (l : List TableEntry) (f : TableEntry → Bool) : slices_ContainsFunc_TableEntry l f = l.any f := by
  unfold slices_ContainsFunc_TableEntry slices_IndexFunc_TableEntry
  rcases iF_TableEntry f l 0 with ⟨h1, h2⟩ | ⟨j, h1, h2⟩ <;> simp [h1, h2]
theorem vVL : ∀ l : List TableEntry, spec_ValidVector_L1 l = bif l.any (fun e => !(spec_l1In e.value 1 1000)) then some false else none
  | [] => rfl
  | x :: l => by
    simp only [spec_ValidVector_L1, List.any_cons]
    cases (!(spec_l1In x.value 1 1000)) <;> simp [vVL l]
theorem same_ValidVector' (a : StateVector) : impl_ValidVector a = spec_ValidVector a := by
  unfold impl_ValidVector spec_ValidVector impl_ValidVector_c1
  rw [cF_TableEntry, vVL, same_ValidTable]
  simp only [same_In]
  cases a.entries.any (fun e => !(spec_l1In e.value 1 1000)) <;> cases spec_ValidTable a.entries <;> rfl
end Go.Stp

namespace Go.Stp
set_option linter.unusedVariables false
set_option linter.unusedSimpArgs false
set_option maxRecDepth 100000 in
theorem m128 : ∀ m : Fin 256, m.val ||| 128 = ((m.val &&& 127) ||| 128) := by decide
theorem byteE {n : Int} (h : 0 ≤ n ∧ n ≤ 1000000000000) : ((toU8 n) ||| (128 : UInt8)) = toU8 (bitO .or (bitO .and n 127) 128) := by
  apply UInt8.toNat_inj.1
  have a1 : bitO .and n 127 = ((n.toNat &&& 127 : Nat) : Int) := by
    have h2 : (BitVec.ofInt 64 (127 : Int)).toNat = 127 := by decide
    have h3 : n.toNat &&& 127 ≤ 127 := Nat.and_le_right
    simp only [bitO, BitVec.toNat_and, ofI64 (x := n) (by omega), h2]
    exact i64w (by omega)
  have h3 : n.toNat &&& 127 ≤ 127 := Nat.and_le_right
  have h4 : (n.toNat &&& 127) ||| 128 < 2 ^ 8 := Nat.or_lt_two_pow (by omega) (by decide)
  have a2 : bitO .or (bitO .and n 127) 128 = ((((n.toNat &&& 127) ||| 128 : Nat)) : Int) := by
    have h2 : (BitVec.ofInt 64 (128 : Int)).toNat = 128 := by decide
    rw [a1]
    simp only [bitO, BitVec.toNat_or, ofI64 (x := ((n.toNat &&& 127 : Nat) : Int)) (by omega), h2, Int.toNat_natCast]
    exact i64w (by omega)
  rw [a2, UInt8.toNat_or]
  have b1 : (toU8 n).toNat = n.toNat % 256 := by
    unfold toU8
    rw [UInt8.toNat_ofNat']
    omega
  have b2 : (toU8 ((((n.toNat &&& 127) ||| 128 : Nat)) : Int)).toNat = (n.toNat &&& 127) ||| 128 := by
    unfold toU8
    rw [UInt8.toNat_ofNat']
    omega
  have b3 : ((128 : UInt8)).toNat = 128 := rfl
  rw [b1, b2, b3]
  have h5 := m128 ⟨n.toNat % 256, Nat.mod_lt _ (by decide)⟩
  dsimp only at h5
  rw [h5]
  have h6 : n.toNat % 256 &&& 127 = n.toNat &&& 127 := by
    rw [show (127 : Nat) = 2 ^ 7 - 1 from rfl, Nat.and_two_pow_sub_one_eq_mod, Nat.and_two_pow_sub_one_eq_mod]
    omega
  rw [h6]
theorem avE : ∀ (m : Nat) (n : Int) (out : List UInt8) (k : Nat), avI n k → 5 - k = m → impl_AppendVarint_L1 n out = spec_AppendVarint_L1 n out
  | 0, n, out, k, h, hm => by
    have h1 := avI_len h
    have h2 : n < 128 := by unfold avI at h; omega
    rw [impl_AppendVarint_L1, spec_AppendVarint_L1, if_neg (by omega), if_neg (by omega)]
  | m + 1, n, out, k, h, hm => by
    rw [impl_AppendVarint_L1, spec_AppendVarint_L1]
    by_cases hn : n ≥ 128
    · rw [if_pos hn, if_pos (by omega), sh7, byteE (avI_rng h)]
      exact avE m (n / 128) _ (k + 1) (avI_step h hn) (by omega)
    · rw [if_neg hn, if_neg (by omega)]
theorem same_AppendVarint (b : List UInt8) (n_ : Int) : impl_AppendVarint b n_ = spec_AppendVarint b n_ := by
  unfold impl_AppendVarint spec_AppendVarint
  rw [same_In]
  cases hr : spec_l1In n_ 0 1000000000000
  · rfl
  · rw [avE 5 n_ b 0 (avI_0 (inR_specP hr)) rfl]
theorem same_AppendBytes (b s : List UInt8) : impl_AppendBytes b s = spec_AppendBytes b s := by
  simp only [impl_AppendBytes, spec_AppendBytes, same_AppendVarint]
theorem anE : ∀ (l : List Str) (o : List UInt8), impl_AppendName_L1 l o = spec_AppendName_L1 l o
  | [], o => rfl
  | x :: l, o => by simp only [impl_AppendName_L1, spec_AppendName_L1, same_AppendBytes, anE l]
theorem same_AppendName (b : List UInt8) (n_ : Name) : impl_AppendName b n_ = spec_AppendName b n_ := by
  simp only [impl_AppendName, spec_AppendName, same_ValidName, same_AppendVarint, anE]
theorem evE : ∀ (l : List TableEntry) (o : List UInt8), impl_EncodeVector_L1 l o = spec_EncodeVector_L1 l o
  | [], o => rfl
  | x :: l, o => by simp only [impl_EncodeVector_L1, spec_EncodeVector_L1, same_AppendName, same_AppendVarint, evE l]
theorem same_EncodeVector' (v : StateVector) : impl_EncodeVector v = spec_EncodeVector v := by
  simp only [impl_EncodeVector, spec_EncodeVector, same_ValidVector', same_AppendVarint, evE]
theorem evB : ∀ (l : List TableEntry) (o : List UInt8), (spec_EncodeVector_L1 l o).length ≤ o.length + 96 * l.length
  | [], o => by simp [spec_EncodeVector_L1]
  | x :: l, o => by
    have h1 := evB l (spec_AppendVarint (spec_AppendName o x.name) x.value)
    have h2 := len_specAV (spec_AppendName o x.name) x.value
    have h3 := len_specAN o x.name
    rw [List.length_cons]
    simp only [spec_EncodeVector_L1]
    omega
theorem bnd_EncodeVector (v : StateVector) : sz (spec_EncodeVector v) ≤ 6 + 96 * sz v := by
  unfold spec_EncodeVector
  rw [sz_list, szL_u8, sz_StateVector, sz_list]
  have h1 := evB v.entries (spec_AppendVarint [] (((v.entries).length : Nat) : Int))
  have h2 := len_specAV [] (((v.entries).length : Nat) : Int)
  rw [List.length_nil] at h2
  cases spec_ValidVector v
  · simp
  · simp only [Bool.not_true, cond_false]
    omega
end Go.Stp

namespace Go.Stp
open Go.RowKit (Below)
open GoT (X k ok sh fa oa)
def Opens (P : Program) (T : TypeId) (α : Type) [GoT α] : Prop :=
  P.cellsOf T = k α ∧ ∀ {H : Type} {enc : TypeId × Value → H} {w : World} {spare : Nat → Bool} {held : Bool} {fuel : Nat} {cs : List Value} {x : DataW H × List MemPlace}, DataW.trod enc P w 0 spare held fuel T cs = some x →
    ∃ (a : α) (y : X α), cs = sh a y ∧ ok 10 a ∧ All (hp w) (fa .der a y)
theorem opens_int {P : Program} {T : TypeId} (h : P.underlying T = some (.int .i64)) (hc : P.cellsOf T = 1) : Opens P T Int := ⟨hc, fun h' => by
  obtain ⟨n, rfl, _, hw⟩ := DataW.trod_int h h'
  exact ⟨n, (), rfl, by simpa [Lit.wf, IntKind.min, IntKind.max, IntKind.signed, IntKind.bits, ok, I64] using hw, (fun _ h_ => by cases h_)⟩⟩
theorem opens_str {P : Program} {T : TypeId} (h : P.underlying T = some .string) (hc : P.cellsOf T = 1) : Opens P T ByteArray := ⟨hc, fun h' => by
  obtain ⟨n, rfl, _, hw⟩ := DataW.trod_string h h'
  exact ⟨n, (), rfl, (by simp only [maxLen] at hw; omega : n.size ≤ 9223372036854775807), (fun _ h_ => by cases h_)⟩⟩
theorem cells?_each {w : World} {a : Addr} {n : Nat} {cs : List Value} (h : w.cells? 0 a n = some cs) : ∀ j u, cs[j]? = some u → w.cell? (a.add j) = some u := by
  intro j u hj
  obtain ⟨_, h1, h2⟩ := World.cells?_some h
  rw [h2 j (by rw [← h1]; exact (List.getElem?_eq_some_iff.1 hj).1)]; exact hj
theorem opens_slice {P : Program} {T E : TypeId} {α : Type} [GoT α] (h : P.underlying T = some (.slice E)) (hc : P.cellsOf T = 1) (he : Opens P E α) : Opens P T (List α) := ⟨hc, fun {H enc w spare held fuel cs x} h' => by
  rcases DataW.trod_slice h h' with ⟨rfl, _⟩ | ⟨a, len, cap, elems, rest, n, _, rfl, _, _, hl, hm, hlen, hel, _, _⟩
  · exact ⟨[], (none, 0), rfl, ⟨Nat.zero_le _, fun _ h_ => by cases h_⟩, fun f hf => by
      obtain rfl := List.mem_singleton.1 hf
      exact ⟨Nat.zero_le _, Nat.zero_le _, [], fun j u h => by simp at h, rfl⟩⟩
  · have key : ∀ m, m ≤ len → ∃ (l : List α) (xs : List Value), l.length = m ∧ xs.length = m * k α ∧ RdL (hp w) xs l ∧ (∀ b ∈ l, ok 10 b) ∧ CellsAt (hp w) (some a) xs := by
      intro m
      induction m with
      | zero => exact fun _ => ⟨[], [], rfl, by simp, rfl, by simp, fun j u h => by simp at h⟩
      | succ m ih =>
        intro hmle
        obtain ⟨l, xs, h1, h2, h3, h4, h5⟩ := ih (by omega)
        have hm' := hel m (by omega)
        rw [he.1] at hm'
        obtain ⟨y, hy⟩ : ∃ y, elems[m]? = some y := ⟨_, List.getElem?_eq_getElem (by omega)⟩
        rw [hy, Option.bind_eq_some_iff] at hm'
        obtain ⟨cs', hcs, htr⟩ := hm'
        obtain ⟨b, yb, rfl, hok, hfa⟩ := he.2 htr
        refine ⟨l ++ [b], xs ++ sh b yb, by simp [h1], by rw [List.length_append, h2, GoT.len, Nat.add_mul]; omega, h3.snoc hfa, ?_, ?_⟩
        · intro c hc
          rcases List.mem_append.1 hc with hc | hc
          · exact h4 c hc
          · simp at hc; subst hc; exact hok
        · intro j u hj
          refine ⟨a, rfl, ?_⟩
          by_cases hlt : j < xs.length
          · rw [List.getElem?_append_left hlt] at hj
            obtain ⟨a', ha', hg⟩ := h5 j u hj
            simp at ha'; subst ha'; exact hg
          · rw [List.getElem?_append_right (by omega)] at hj
            have := cells?_each hcs _ _ hj
            rw [addr_add_add, h2, show m * k α + (j - m * k α) = j by omega] at this
            exact this
    obtain ⟨l, xs, h1, h2, h3, h4, h5⟩ := key len (Nat.le_refl _)
    have hm' : len ≤ 9223372036854775807 := by simp only [maxLen] at hm; omega
    refine ⟨l, (some a, cap), by simp [sh, h1], ⟨by show l.length ≤ 9223372036854775807; omega, h4⟩, fun f hf => ?_⟩
    obtain rfl := List.mem_singleton.1 hf
    exact ⟨by omega, by omega, xs, h5, h3⟩⟩
def OpensF (P : Program) (fs : List Field) (off : Nat) (β : Type) [GoT β] : Prop :=
  ∀ {H : Type} {enc : TypeId × Value → H} {w : World} {spare : Nat → Bool} {held : Bool} {n : Nat} {cs : List Value},
    (∀ (i : Nat) (f : Field), fs[i]? = some f → ∃ y, DataW.trod enc P w 0 spare held n f.type ((cs.drop f.offset).take (P.cellsOf f.type)) = some y) →
    ∃ (b : β) (y : X β), (cs.drop off).take (k β) = sh b y ∧ ok 10 b ∧ All (hp w) (fa .der b y)
theorem opensF_one {P : Program} {f : Field} {off : Nat} {α : Type} [GoT α] (ho : f.offset = off) (hf : Opens P f.type α) : OpensF P [f] off α := fun {H enc w spare held n cs} h => by
  obtain ⟨y, hy⟩ := h 0 f rfl
  obtain ⟨a, ya, h1, h2, h3⟩ := hf.2 hy
  rw [hf.1, ho] at h1
  exact ⟨a, ya, h1, h2, h3⟩
theorem opensF_cons {P : Program} {f : Field} {fs : List Field} {off : Nat} {α β : Type} [GoT α] [GoT β] (ho : f.offset = off) (hf : Opens P f.type α) (hr : OpensF P fs (off + k α) β) : OpensF P (f :: fs) off (α × β) := fun {H enc w spare held n cs} h => by
  obtain ⟨y, hy⟩ := h 0 f rfl
  obtain ⟨a, ya, h1, h2, h3⟩ := hf.2 hy
  obtain ⟨b, yb, k1, k2, k3⟩ := hr (cs := cs) (fun i g hg => h (i + 1) g (by simpa using hg))
  rw [hf.1, ho] at h1
  refine ⟨(a, b), (ya, yb), ?_, ⟨h2, k2⟩, All.append h3 k3⟩
  show (cs.drop off).take (k α + k β) = sh a ya ++ sh b yb
  rw [← h1, ← k1, List.take_add, List.drop_drop]
theorem opens_struct {P : Program} {T : TypeId} {fs : Array Field} {α β : Type} [GoT β] (e : α → β) (mk : β → α) (hm : ∀ b, e (mk b) = b) (h : P.underlying T = some (.struct fs)) (hc : P.cellsOf T = k β) (hf : OpensF P fs.toList 0 β) :
    @Opens P T α (GoT.via e) := by
  letI : GoT α := GoT.via e
  refine ⟨hc, fun {H enc w spare held fuel cs x} h' => ?_⟩
  obtain ⟨xs, n, _, _, hcl, hxl, hall⟩ := DataW.trod_struct h h'
  obtain ⟨b, y, h1, h2, h3⟩ := hf (cs := cs) (fun i f hi => by
    have hi' : fs[i]? = some f := by simpa using hi
    have := hall i f hi'
    obtain ⟨z, hz⟩ : ∃ z, xs[i]? = some z := ⟨_, List.getElem?_eq_getElem (by rw [hxl]; exact (Array.getElem?_eq_some_iff.1 hi').1)⟩
    exact ⟨z, by rw [this, hz]⟩)
  rw [List.drop_zero, List.take_of_length_le (by rw [hcl, hc]; exact Nat.le_refl _)] at h1
  refine ⟨mk b, y, ?_, ?_, ?_⟩
  · show cs = sh (e (mk b)) y; rw [hm]; exact h1
  · show ok 10 (e (mk b)); rw [hm]; exact h2
  · show All (hp w) (fa .der (e (mk b)) y); rw [hm]; exact h3

def Arg (P : Program) (T : TypeId) (α : Type) [GoT α] (mk : List Value → Value) : Prop :=
  ∀ {H : Type} {enc : TypeId × Value → H} {W : World} {b0 : Nat} {spare : Nat → Bool} {held : Bool} {v : Value} {d : DataW H} {ps : List MemPlace}, Value.okWide P W .any b0 T v → DataW.Trod enc P W 0 spare held T v d ps →
    ∃ (a : α) (y : X α), v = mk (sh a y) ∧ ok 10 a ∧ All (hp W) (fa .der a y)
theorem arg_struct {P : Program} {T : TypeId} {α : Type} [GoT α] {fs : Array Field} (h : P.underlying T = some (.struct fs)) (ho : Opens P T α) : Arg P T α (fun cs => .agg ⟨cs⟩) := by
  intro H enc W b0 spare held v d ps hval ⟨fuel, hf⟩
  simp only [Value.okWide, h] at hval
  obtain ⟨cs, rfl, _⟩ := hval
  obtain ⟨a, y, h1, h2, h3⟩ := ho.2 hf
  refine ⟨a, y, ?_, h2, h3⟩
  have : cs.toList = sh a y := by simpa [Value.cells] using h1
  rw [← this]
theorem trodAll_stays {H : Type} {enc : TypeId × Value → H} {P : Program} (hl : laidOutB P = true) {W W' : World} {sp : Nat → Bool} : ∀ {ts : List TypeId} {vs : List Value} {ds : List (DataW H)} {ps : List MemPlace},
    ts.all (fun t => P.readableRec t && decide (t < P.types.size)) = true → DataW.TrodAll enc P W 0 (fun _ => true) true ts vs ds ps → (∀ p ∈ ps, W.sameAt W' p) → (∀ p ∈ ps, sp p.block = true) → DataW.TrodAll enc P W' 0 sp true ts vs ds ps
  | [], [], [], _, _, h, _, _ => h
  | t :: ts, v :: vs, d :: ds, ps, ha, ⟨p, q, h1, h2, e⟩, hs, hsp => by
    simp only [List.all_cons, Bool.and_eq_true, decide_eq_true_eq] at ha
    subst e
    exact ⟨p, q, WideElems.Trod_stays hl ha.1.1 ha.1.2 h1 (fun x hx => hs x (List.mem_append_left _ hx)) (fun x hx => hsp x (List.mem_append_left _ hx)),
      trodAll_stays hl ha.2 h2 (fun x hx => hs x (List.mem_append_right _ hx)) (fun x hx => hsp x (List.mem_append_right _ hx)), rfl⟩
theorem trodAll_len {H : Type} {enc : TypeId × Value → H} {P : Program} {W : World} {b : Nat} {sp : Nat → Bool} {hd : Bool} : ∀ {ts : List TypeId} {vs : List Value} {ds : List (DataW H)} {ps : List MemPlace}, DataW.TrodAll enc P W b sp hd ts vs ds ps → ds.length = ts.length
  | [], [], [], _, _ => rfl
  | _ :: _, _ :: _, _ :: _, _, ⟨_, _, _, h2, _⟩ => by simp [trodAll_len h2]
theorem law_post {H : Type} {enc : TypeId × Value → H} {P : Program} {f : Func} {s : ChangeSpec} {W W' : World} {args : Array Value} {ds gs : List (DataW H)} {before : List MemPlace} {B : TypeId}
    (hl : laidOutB P = true) (hpar : f.params.toList.all (fun t => P.readableRec t && decide (t < P.types.size)) = true) (hvars : s.vars = []) (hB : f.resultTypes = #[B]) (hu : P.underlying B = some .bool)
    (hfn : ∀ ds : List (DataW H), ds.length = f.params.size → s.fn H ds = { results := [.lit (.bool true)], args := ds })
    (hW : DataW.Whole enc P f.params.toList s.vars false W args.toList ds gs before) (hb : Below W.heap.size W W') : s.post enc P f false true false false W args (.bool true) W' := by
  have hW' := hW
  have hlt : ∀ p ∈ before, p.block < W.heap.size := fun p hp => hW.lt p hp
  obtain ⟨p, q, hA, hV, rfl, hfz, hnd⟩ := hW'
  rw [hvars] at hV
  obtain ⟨rfl, rfl⟩ := ChangeShapes.trodVars_none hV
  have hlen : ds.length = f.params.size := by simpa using trodAll_len hA
  have hdd : s.fn H (ds ++ []) = { results := [.lit (.bool true)], args := ds } := by rw [List.append_nil]; exact hfn ds hlen
  have hres : ∀ (b : Nat) (sp : Nat → Bool) (hd : Bool), DataW.TrodAll enc P W' b sp hd f.resultTypes.toList ((Value.bool true).resultList f.resultTypes.size) (s.fn H (ds ++ [])).results [] := by
    intro b sp hd
    rw [hdd, hB]
    exact trodAll_cons_mk (RowKit.shut_bool hu _) ChangeShapes.trodAll_mk0
  have hargs : ∀ sp : Nat → Bool, (∀ x ∈ p ++ [], sp x.block = true) → DataW.TrodAll enc P W' 0 sp true f.params.toList args.toList (s.fn H (ds ++ [])).args p := by
    intro sp hsp
    rw [hdd]
    exact trodAll_stays hl hpar hA (fun x hx => hb.same (hlt x (by simpa using hx))) (fun x hx => hsp x (by simpa using hx))
  have hvars' : ∀ sp : Nat → Bool, DataW.TrodVars enc P W' sp s.vars (s.fn H (ds ++ [])).vars [] := by
    intro sp; rw [hvars, hdd]; rfl
  have hold : ∀ x ∈ p ++ [], (fun b => decide (b < W.heap.size)) x.block = true := fun x hx => by simpa using hlt x hx
  refine ⟨ds, [], p ++ [], [], p, [], hW, hres _ _ _, hargs _ hold, hvars' _, World.keptBut_mono (fun x hx => ⟨hx, Or.inr (by simpa using hx)⟩) (hb.frame (· ∈ p ++ [])), fun h => (by cases h)⟩
end Go.Stp

namespace Go.Proofs.Ytfffongneoegbaa.Facts
set_option maxRecDepth 100000
theorem laid : laidOutB Try.prog = true := by kernel_rfl
theorem rowed : mapsRowed Try.prog = true := by kernel_rfl
end Go.Proofs.Ytfffongneoegbaa.Facts

namespace Go.Stp
set_option linter.unusedVariables false
set_option linter.unusedSimpArgs false
theorem same_EncodeVector (aV : StateVector) : impl_EncodeVector aV = spec_EncodeVector aV := same_EncodeVector' aV
theorem bound_EncodeVector (aV : StateVector) : sz (spec_EncodeVector aV) ≤ 6 + 96 * sz aV := bnd_EncodeVector aV
theorem true_EncodeVector (aV : StateVector) (haV : GoT.ok 10 aV) : laws_FnExactEncodeVector aV = true := by
  unfold laws_FnExactEncodeVector
  by_cases s0 : laws_szStateVector aV 1048576 < 0
  · simp only [dT s0, cond_true]
  have d0 := dF (show 0 ≤ laws_szStateVector aV 1048576 by omega)
  obtain ⟨t0, z0⟩ := (sz_StateVector_R aV 1048576 haV (by omega) (by omega)).pos (by omega)
  obtain ⟨mp0, mq0, me0⟩ := mk_StateVector aV (1) (by omega) (by omega)
  have dk := dF (show 0 ≤ (laws_markStateVector aV (1)).1 by omega)
  have hb := bound_EncodeVector aV
  have hb0 := hb
  obtain ⟨gp0, gq0, ge0⟩ := mk_ByteS (spec_EncodeVector aV) (1) (by omega) (by omega)
  have dg0 := dF (show 0 ≤ (laws_markByteS (spec_EncodeVector aV) (1)).1 by omega)
  simp only [d0, cond_false, to_StateVector, same_EncodeVector, eq_StateVector, eq_ByteS, dk, ge0, dg0, Bool.not_true, bne_self_F, nbeq_self_F, beq_self_eq_true]
end Go.Stp
namespace Go.Proofs.Ytfffongneoegbaa
open Go.Stp
open Go.RowKit (Below)
open Go.ChangeShapes Go.WideShapes Go.ChangeAt
namespace LawEncodeVector
theorem own : ownKnob Try.prog.godebug = none := by kernel_rfl
theorem laid : laidOutB Try.prog = true := Facts.laid
set_option maxRecDepth 100000 in
theorem op67 : Opens Try.prog 67 Name := opens_struct (fun e : Name => e.parts) (fun b => ⟨b⟩) (fun _ => rfl) Try.underlying67 (show Try.prog.cellsOf 67 = 1 by kernel_rfl) (opensF_one rfl (opens_slice Try.underlying51 (by kernel_rfl) (opens_str Try.underlying9 (by kernel_rfl))))
set_option maxRecDepth 100000 in
theorem op69 : Opens Try.prog 69 TableEntry := opens_struct (fun e : TableEntry => (e.name, e.value)) (fun b => ⟨b.1, b.2⟩) (fun _ => rfl) Try.underlying69 (show Try.prog.cellsOf 69 = 2 by kernel_rfl) (opensF_cons rfl op67 (opensF_one rfl (opens_int Try.underlying3 (by kernel_rfl))))
set_option maxRecDepth 100000 in
theorem op30 : Opens Try.prog 30 StateVector := opens_struct (fun e : StateVector => e.entries) (fun b => ⟨b⟩) (fun _ => rfl) Try.underlying30 (show Try.prog.cellsOf 30 = 1 by kernel_rfl) (opensF_one rfl (opens_slice Try.underlying28 (by kernel_rfl) op69))
set_option maxRecDepth 100000 in
theorem lifted (os : Os) (started : os.Started) (H : Type) (enc : TypeId × Value → H) :
    ReturnsInHanded {} Try.checked os 4 .any (Rows.fnExactEncodeVectorSpec.pre6 enc Try.prog Try.f4 Rows.fnExactEncodeVectorRow.domain false) (Rows.fnExactEncodeVectorSpec.post enc Try.prog Try.f4 false true false false) := by
  refine returnsInHanded_of_change (C := Try.checked) own started (by kernel_rfl) Try.func4
    (ChangeSpec.witness6 (enc := enc) (C := Try.checked) false ⟨#[], #[.agg #[.slice none 0 0]], []⟩ 8 (by kernel_rfl) (by kernel_rfl) (by kernel_rfl) (by kernel_rfl)) ?_
  intro W base args ds gs before hval0 hW _ _
  have hval : ∀ (j : Nat) t v, Try.f4.params[j]? = some t → args[j]? = some v → Value.okWide Try.prog W .any base t v := hval0
  have hW' := hW
  obtain ⟨p, q, hA0, _⟩ := hW
  have hA : DataW.TrodAll enc Try.prog W 0 (fun _ => true) true Try.f4.params.toList args.toList ds p := hA0
  rw [Try.params4] at hA hval
  obtain ⟨v0, vs0, d0, ds0, p0, q0, hargs, rfl, rfl, h0, r0⟩ := ChangeShapes.trodAll_cons hA
  obtain ⟨rfl, rfl, rfl⟩ := trodAll_nil r0
  obtain rfl : args = #[v0] := by cases args; simp_all
  obtain ⟨a0, x0, rfl, k0, g0⟩ := (arg_struct Try.underlying30 op30) (hval 0 30 _ rfl rfl) h0
  have ht := true_EncodeVector a0 k0
  refine (f4 W 0 (by decide) a0 x0.1 x0.2 (g0 (MF.rs .der x0.1 x0.2 a0.entries) (List.mem_cons_self)) k0).2.mono fun e W1 ⟨v, he, hb, hv⟩ => ?_
  rw [ht] at hv
  obtain ⟨rfl, _⟩ := hv
  subst he
  exact ⟨_, rfl, law_post laid (by kernel_rfl) rfl rfl Try.underlying4 (fun ds h => by match ds, h with | [_], _ => rfl) hW' hb.below⟩
set_option maxRecDepth 100000 in
theorem c_inPlace : (Rows.fnExactEncodeVectorRow.inPlace == Try.prog.inPlace 4) = true := by kernel_rfl
set_option maxRecDepth 100000 in
theorem c_unfollowed : (Rows.fnExactEncodeVectorRow.unfollowed == Try.prog.unfollowed 4) = true := by kernel_rfl
set_option maxRecDepth 100000 in
theorem c_recurses : (Rows.fnExactEncodeVectorRow.recurses == Try.prog.recurses 4) = true := by kernel_rfl
set_option maxRecDepth 100000 in
theorem c_named : (Rows.fnExactEncodeVectorRow.named == Try.prog.varsNamed 4) = true := by kernel_rfl
set_option maxRecDepth 100000 in
theorem c_read : Try.f4.params.all (Try.pinned.checked.prog.readableRec ·) = true := by kernel_rfl
set_option maxRecDepth 100000 in
theorem c_maps : (Rows.fnExactEncodeVectorRow.maps == (Try.f4.params.toList ++ Rows.fnExactEncodeVectorSpec.plain.varTypes Try.pinned.checked.prog).any (Try.pinned.checked.prog.mapsRec ·)) = true := by kernel_rfl
set_option maxRecDepth 100000 in
theorem c_ifaces : (Rows.fnExactEncodeVectorRow.ifaces == (Try.f4.params.toList ++ Rows.fnExactEncodeVectorSpec.plain.varTypes Try.pinned.checked.prog).any (Try.pinned.checked.prog.ifacesRec ·)) = true := by kernel_rfl
set_option maxRecDepth 100000 in
theorem c_loops : (Rows.fnExactEncodeVectorRow.loops == (Try.f4.params.toList ++ Rows.fnExactEncodeVectorSpec.plain.varTypes Try.pinned.checked.prog).any (Try.pinned.checked.prog.loopsFrom ·)) = true := by kernel_rfl
set_option maxRecDepth 100000 in
theorem c_wide : (Rows.fnExactEncodeVectorRow.wideKeys == (Try.f4.params.toList ++ Rows.fnExactEncodeVectorSpec.plain.varTypes Try.pinned.checked.prog ++ Try.f4.resultTypes.toList).any (Try.pinned.checked.prog.wideKeysFrom ·)) = true := by kernel_rfl
set_option maxRecDepth 100000 in
theorem c_rread : Try.f4.resultTypes.all (fun t => Try.pinned.checked.prog.readableRec t && decide (t < Try.pinned.checked.prog.types.size)) = true := by kernel_rfl
set_option maxRecDepth 100000 in
theorem c_veiled : (Rows.fnExactEncodeVectorRow.veiled == (Try.f4.params.toList ++ Rows.fnExactEncodeVectorSpec.plain.varTypes Try.pinned.checked.prog ++ Try.f4.resultTypes.toList).any (Try.pinned.checked.prog.veiledRec ·)) = true := by kernel_rfl
set_option maxRecDepth 100000 in
theorem c_vfits : Rows.fnExactEncodeVectorRow.veiledFits Try.pinned.checked.prog Try.f4.params.toList (Try.f4.params.toList ++ Rows.fnExactEncodeVectorSpec.plain.varTypes Try.pinned.checked.prog ++ Try.f4.resultTypes.toList) = true := by kernel_rfl
set_option maxRecDepth 100000 in
theorem c_enter : Try.pinned.checked.prog.mayEnter = true := by kernel_rfl
set_option maxRecDepth 100000 in
theorem c_heard : Try.pinned.checked.prog.stopsHeard = true := by kernel_rfl
set_option maxRecDepth 100000 in
theorem c_lifted : (Rows.fnExactEncodeVectorRow.lifted == Try.pinned.checked.prog.liftsFinal) = true := by kernel_rfl
set_option maxRecDepth 100000 in
theorem c_plainKeys : (Rows.fnExactEncodeVectorRow.plainKeys == Try.pinned.checked.prog.plainKeys) = true := by kernel_rfl
set_option maxRecDepth 100000 in
theorem c_make : (Try.pinned.checked.prog.make == some Rows.fnExactEncodeVectorRow.make) = true := by kernel_rfl
set_option maxRecDepth 100000 in
theorem closed : joinedFacts Try.pinned.checked.prog 4 Try.f4 Rows.fnExactEncodeVectorSpec Rows.fnExactEncodeVectorRow = true := by
  unfold joinedFacts
  rw [show laidOutB Try.pinned.checked.prog = true from laid, show mapsRowed Try.pinned.checked.prog = true from Facts.rowed, show (Rows.fnExactEncodeVectorRow.inPlace == Try.pinned.checked.prog.inPlace 4) = true from c_inPlace, show (Rows.fnExactEncodeVectorRow.unfollowed == Try.pinned.checked.prog.unfollowed 4) = true from c_unfollowed, show (Rows.fnExactEncodeVectorRow.recurses == Try.pinned.checked.prog.recurses 4) = true from c_recurses, show (Rows.fnExactEncodeVectorRow.named == Try.pinned.checked.prog.varsNamed 4) = true from c_named, c_read, c_maps, c_ifaces, c_loops, c_wide, c_rread, c_veiled, c_vfits, c_enter, c_heard, c_lifted, c_plainKeys, c_make]
  kernel_rfl
theorem over : Rows.fnExactEncodeVectorRow.holds Try.pinned (OpenSpec.ofChange Rows.fnExactEncodeVectorSpec) :=
  OpenClaim.holds_of_wide 4 Try.f4 rfl rfl rfl rfl rfl rfl rfl ⟨rfl, rfl, rfl, rfl, rfl⟩ rfl rfl rfl rfl rfl (by kernel_rfl) Try.func4 closed
    (of_decide_eq_true (by kernel_rfl)) (by unfold Func.isWrapper; first | (rw [if_pos (by decide +kernel)]; kernel_rfl) | (rw [if_neg (by decide +kernel)]; exact ⟨rfl, rfl⟩))
    (fun os started H enc _ => lifted os started H enc)
theorem proved : Rows.FnExactEncodeVectorSaid := over
#print axioms proved
end LawEncodeVector
end Go.Proofs.Ytfffongneoegbaa

