/-
  What the proof of one law needs: rules of the program logic, functions as Lean functions, contracts. No condition but what each says. Written by a program (pack.py) out of my own texts.
-/
import Derived.Test.YtolepebgdfdciaaGreatKFnGroups3
namespace Go.Proofs.YtolepebgdfdciaaGreat
open Go.Stp
set_option linter.unusedVariables false
set_option linter.unusedSimpArgs false
theorem f133 (w : World) (n : Nat) (hn : n + 0 ≤ 9) (v : StateVector) (pv : Option Addr) (cv : Nat) (N0 : RdSl (hp w) pv cv v.entries) (hokv : GoT.ok n v) :
 Does Tryz.prog 133 #[.agg #[.slice pv ((v.entries).length) cv]] w emp (fun (rv : Value) (_ : World) => rv = .int .i64 ((a3r v)) ∧ GoT.ok n ((a3r v) : Int)) := by
 have hbP := bd_pos n
 have hbB := bd_big (n := n) (by omega)
 refine WX.enter (tt := tt) (Γ := [(0, MF.rs .stb pv cv v.entries)]) Tryz.func133 Z J Z (allS_cons Z N0 allS_nil) ?_
 refine R0 ?_
 have r1 : (v.entries).length ≤ bd n := (okl (ok_StateVector hokv)).1
 refine WX.loop (ι := Int × Nat) ⟨fun | (sum_, i) => (i ≤ (v.entries).length) ∧ (-9223372036854775808 ≤ sum_ ∧ sum_ ≤ 9223372036854775807) ∧ (a3b v.entries 0 = a3b ((v.entries).drop i) sum_), fun | (sum_, i) => (v.entries).length - i, fun | (sum_, i) => [(3, .v (.int .i64 (sum_))), (9, .v (.int .i64 (((i : Nat) : Int)))), (8, .v (.int .i64 ((((v.entries).length : Nat) : Int)))), (7, .v (.slice pv ((v.entries).length) cv))], fun | (sum_, i) => [], fun | (sum_, i) => [], fun | (sum_, i) => [(0, MF.rs .stb pv cv v.entries)]⟩ (0, 0) ⟨(Nat.zero_le _), (by first | assumption | omega), Z⟩
  (.cons Z (.cons Z (.cons Z (.cons Z (.nil))))) .nil .nil [0] Z ?_
 rintro ⟨sum_, i⟩ hpre
 have hpre_ : (i ≤ (v.entries).length) ∧ (-9223372036854775808 ≤ sum_ ∧ sum_ ≤ 9223372036854775807) ∧ (a3b v.entries 0 = a3b ((v.entries).drop i) sum_) := hpre
 clear hpre
 obtain ⟨v1, v2, v3⟩ := hpre_
 refine R0 ?_
 refine WX.cases 10 Z (fun h1 => ?_) (fun h1 => ?_)
 ·skip
  have h1d := B.dt h1
  have e1i : i < (v.entries).length := (by omega)
  obtain ⟨e1, e1h⟩ : ∃ e1, (v.entries)[i]? = some e1 := ⟨_, List.getElem?_eq_getElem e1i⟩
  have ok1 : GoT.ok n e1 := (okl (ok_StateVector hokv)).2 _ (List.mem_of_getElem? e1h)
  refine R0 ?_
  refine WX.idx 0 i ttOk Z Z Z Z Z Z Z Z Z Z e1i ?_
  rintro ad1 rfl
  refine WX.ldE 0 1 e1 ttOk Z Z Z Z Z Z Z Z e1h O O ?_
  rintro ⟨⟨p1, c1⟩, ⟨⟩⟩
  refine R0 ?_
  refine WX.see Z Z Z (fun _ hΓ => looks_wrap Z Z Z Z) ?_
  refine R0 ?_
  refine WX.see Z Z Z (fun _ hΓ => looks_arith Z Z Z Z (by unfold I64; first | omega | (simp only [List.length_take] at *; omega))) ?_
  refine R0 ?_
  exact WX.iter (IntKind.i64.wrap (sum_ + e1.value), i + 1) ⟨(by omega), (i64_wrap _), (by rw [v3, drop_get e1h]; simp only [a3b, ct, cf])⟩ (by first | (dsimp only; omega) | omega) (.cons Z (.cons Z (.cons Z (.cons Z (.nil))))) .nil .nil [0] Z
 have h1d := B.df h1
 refine R0 ?_
 have hX1 : a3b v.entries 0 = sum_ := by rw [v3, List.drop_eq_nil_of_le (show (v.entries).length ≤ i by omega)]; simp only [a3b, ct, cf]
 have hP1 : a3r v = sum_ := by simp only [a3r, hX1, ct, cf]
 refine R1 ?_
 intro w1 G bs hI hΓ
 rw [hP1]
 exact ⟨Z, v2⟩
theorem f135 (w : World) (n : Nat) (hn : n + 0 ≤ 9) (v : StateVector) (pv : Option Addr) (cv : Nat) (N0 : RdSl (hp w) pv cv v.entries) (hokv : GoT.ok n v) :
 Does Tryz.prog 135 #[.agg #[.slice pv ((v.entries).length) cv]] w emp (fun (rv : Value) (_ : World) => rv = .int .i64 ((a3c v)) ∧ GoT.ok n ((a3c v) : Int)) := by
 have hbP := bd_pos n
 have hbB := bd_big (n := n) (by omega)
 refine WX.enter (tt := tt) (Γ := [(0, MF.rs .stb pv cv v.entries)]) Tryz.func135 Z J Z (allS_cons Z N0 allS_nil) ?_
 refine R0 ?_
 have r1 : (v.entries).length ≤ bd n := (okl (ok_StateVector hokv)).1
 refine WX.loop (ι := Int × Nat) ⟨fun | (n_, i) => (i ≤ (v.entries).length) ∧ (-9223372036854775808 ≤ n_ ∧ n_ ≤ 9223372036854775807) ∧ (a2m v.entries 0 = a2m ((v.entries).drop i) n_), fun | (n_, i) => (v.entries).length - i, fun | (n_, i) => [(3, .v (.int .i64 (n_))), (4, .v (.int .i64 (((i : Nat) : Int)))), (1, .p 1 0)], fun | (n_, i) => [(1, ⟨57, [.slice pv ((v.entries).length) cv]⟩)], fun | (n_, i) => [], fun | (n_, i) => [(0, MF.rs .stb pv cv v.entries)]⟩ (0, 0) ⟨(Nat.zero_le _), (by first | assumption | omega), Z⟩
  (.cons Z (.cons Z (.cons Z (.nil)))) (.cons Z (.nil)) .nil [0] Z ?_
 rintro ⟨n_, i⟩ hpre
 have hpre_ : (i ≤ (v.entries).length) ∧ (-9223372036854775808 ≤ n_ ∧ n_ ≤ 9223372036854775807) ∧ (a2m v.entries 0 = a2m ((v.entries).drop i) n_) := hpre
 clear hpre
 obtain ⟨v1, v2, v3⟩ := hpre_
 refine R0 ?_
 refine WX.cases 9 Z (fun h1 => ?_) (fun h1 => ?_)
 ·skip
  have h1d := B.dt h1
  have e1i : i < (v.entries).length := (by omega)
  obtain ⟨e1, e1h⟩ : ∃ e1, (v.entries)[i]? = some e1 := ⟨_, List.getElem?_eq_getElem e1i⟩
  have ok1 : GoT.ok n e1 := (okl (ok_StateVector hokv)).2 _ (List.mem_of_getElem? e1h)
  refine R0 ?_
  refine WX.idx 0 i ttOk Z Z Z Z Z Z Z Z Z Z e1i ?_
  rintro ad1 rfl
  refine R0 ?_
  refine WX.ldE 0 1 e1 ttOk Z Z Z Z Z Z Z Z e1h O O ?_
  rintro ⟨⟨p1, c1⟩, ⟨⟩⟩
  refine WX.see Z Z Z (fun _ hΓ => looks_wrap Z Z Z Z) ?_
  refine R0 ?_
  refine WX.see Z Z Z (fun _ hΓ => looks_arith Z Z Z Z (by unfold I64; first | omega | (simp only [List.length_take] at *; omega))) ?_
  refine R0 ?_
  exact WX.iter (IntKind.i64.wrap (n_ + e1.value), i + 1) ⟨(by omega), (i64_wrap _), (by rw [v3, drop_get e1h]; simp only [a2m, ct, cf])⟩ (by first | (dsimp only; omega) | omega) (.cons Z (.cons Z (.cons Z (.nil)))) (.cons Z (.nil)) .nil [0] Z
 have h1d := B.df h1
 refine R0 ?_
 have hX1 : a2m v.entries 0 = n_ := by rw [v3, List.drop_eq_nil_of_le (show (v.entries).length ≤ i by omega)]; simp only [a2m, ct, cf]
 have hP1 : a3c v = n_ := by simp only [a3c, hX1, ct, cf]
 refine R1 ?_
 intro w1 G bs hI hΓ
 rw [hP1]
 exact ⟨Z, v2⟩
theorem f57 (w : World) (n : Nat) (hn : n + 0 ≤ 9) (m : Member) (K0 : Option Addr) (M0 : Nat) (N0 : RdSl (hp w) K0 M0 m.name.parts) (K1 : Option Addr) (M1 : Nat) (N1 : RdSl (hp w) K1 M1 m.vector.entries) (K2 : Option Addr) (M2 : Nat) (N2 : RdSl (hp w) K2 M2 m.publications) (hokm : GoT.ok n m) :
 Does Tryz.prog 57 #[.agg #[.slice K0 ((m.name.parts).length) M0, .slice K1 ((m.vector.entries).length) M1, .slice K2 ((m.publications).length) M2]] w emp (fun (rv : Value) (_ : World) => rv = .bool (a1e m) ∧ True) := by
 have hbP := bd_pos n
 have hbB := bd_big (n := n) (by omega)
 refine WX.enter (tt := tt) (Γ := [(0, MF.rs .stb K0 M0 m.name.parts), (1, MF.rs .stb K1 M1 m.vector.entries), (2, MF.rs .stb K2 M2 m.publications)]) Tryz.func57 Z J Z (allS_cons Z N0 (allS_cons Z N1 (allS_cons Z N2 allS_nil))) ?_
 refine R0 ?_
 refine WX.callV Z Z Z Z Z O Z (fun w G bs hI hΓ => f97 w n (by omega) m.name K0 M0 (hΓ.get 0 Z) ((ok_Member hokm).1)) ?_
 intro hq1
 refine R0 ?_
 refine WX.cases 9 Z (fun h1 => ?_) (fun h1 => ?_)
 ·skip
  have h1d := (B.nt h1)
  refine R0 ?_
  have hP1 : a1e m = false := by simp only [a1e, h1, ct, cf]
  exact R3 hP1
 have h1d := (B.nf h1)
 refine R0 ?_
 refine WX.cases 16 Z (fun h2 => ?_) (fun h2 => ?_)
 ·skip
  have h2d := B.et h2
  refine R0 ?_
  have hP2 : a1e m = false := by simp only [a1e, h1, h2, ct, cf]
  exact R3 hP2
 have h2d := B.ef h2
 refine R0 ?_
 refine WX.callV Z Z Z Z Z O Z (fun w G bs hI hΓ => f131 w n (by omega) m.vector K1 M1 (hΓ.get 1 Z) ((ok_Member hokm).2.1)) ?_
 intro hq2
 refine R0 ?_
 refine WX.cases 22 Z (fun h3 => ?_) (fun h3 => ?_)
 ·skip
  have h3d := (B.nt h3)
  refine R0 ?_
  have hP3 : a1e m = false := by simp only [a1e, h1, h2, h3, ct, cf]
  exact R3 hP3
 have h3d := (B.nf h3)
 refine R0 ?_
 refine WX.cases 27 Z (fun h4 => ?_) (fun h4 => ?_)
 ·skip
  have h4d := B.dt h4
  refine R0 ?_
  have hP4 : a1e m = false := by simp only [a1e, h1, h2, h3, h4, ct, cf]
  exact R3 hP4
 have h4d := B.df h4
 refine R0 ?_
 have r1 : (m.publications).length ≤ bd n := (okl (ok_Member hokm).2.2).1
 refine WX.loop (ι := Nat) ⟨fun i => (i ≤ (m.publications).length) ∧ (a23 m m.publications 0 = a23 m ((m.publications).drop i) i), fun i => (m.publications).length - i, fun i => [(31, .v (.int .i64 (((i : Nat) : Int)))), (30, .v (.int .i64 ((((m.publications).length : Nat) : Int)))), (29, .v (.slice K2 ((m.publications).length) M2)), (1, .p 1 0)], fun i => [(1, ⟨60, [.slice K0 ((m.name.parts).length) M0, .slice K1 ((m.vector.entries).length) M1, .slice K2 ((m.publications).length) M2]⟩)], fun i => [], fun i => [(0, MF.rs .stb K0 M0 m.name.parts), (1, MF.rs .stb K1 M1 m.vector.entries), (2, MF.rs .stb K2 M2 m.publications)]⟩ 0 ⟨(Nat.zero_le _), Z⟩
  (.cons Z (.cons Z (.cons Z (.cons Z (.nil))))) (.cons Z (.nil)) .nil [0, 1, 2] Z ?_
 rintro i hpre
 have hpre_ : (i ≤ (m.publications).length) ∧ (a23 m m.publications 0 = a23 m ((m.publications).drop i) i) := hpre
 clear hpre
 obtain ⟨v1, v2⟩ := hpre_
 refine R0 ?_
 refine WX.cases 32 Z (fun h5 => ?_) (fun h5 => ?_)
 ·skip
  have h5d := B.dt h5
  have e1i : i < (m.publications).length := (by omega)
  obtain ⟨e1, e1h⟩ : ∃ e1, (m.publications)[i]? = some e1 := ⟨_, List.getElem?_eq_getElem e1i⟩
  have ok1 : GoT.ok n e1 := (okl (ok_Member hokm).2.2).2 _ (List.mem_of_getElem? e1h)
  refine R0 ?_
  refine WX.idx 2 i ttOk Z Z Z Z Z Z Z Z Z Z e1i ?_
  rintro ad1 rfl
  refine WX.ldE 2 3 e1 ttOk Z Z Z Z Z Z Z Z e1h O O ?_
  rintro ⟨⟨p1, c1⟩, ⟨⟩, ⟨p2, c2⟩⟩
  refine R0 ?_
  refine WX.draw [] mixed ?_
  intro bs G0 hΓ0
  refine DX.takes (fuel := 21) ttOk [(0, true), (1, false), (2, true), (3, false), (4, true), (5, false)] J Z ?_
  refine DX.callV 6 Z J Z Z Z Z Z Z O Z (fun w G bs hI hΓ => f60 w n (by omega) m.vector K1 M1 (hΓ.get 1 Z) e1.publisher p1 c1 (hΓ.get 3 Z) ((ok_Member hokm).2.1) ((ok_Publication ok1).1)) ?_
  intro hq3
  refine DX.callV 7 Z J Z Z Z Z Z Z O Z (fun w G bs hI hΓ => f132 w n (by omega) e1.seq 1 (a11 m.vector e1.publisher) ((ok_Publication ok1).2.1) (show I64 1 from (by unfold I64; omega)) hq3) ?_
  intro hq4
  refine DX.takes (fuel := 17) ttOk [(8, true), (9, true)] J Z ?_
  refine DX.cases 45 Z (fun h6 => ?_) (fun h6 => ?_)
  ·skip
   have h6d := (B.nt h6)
   refine DX.takes (fuel := 0) ttOk [(10, true), (11, true), (12, true), (13, true), (14, true), (15, true), (16, true), (17, true), (18, true), (19, true), (20, true), (21, true), (22, true), (23, true), (24, true), (25, true), (26, true)] J Z ?_
   refine DX.tail2 [] Z Z J ?_
   refine R0 ?_
   have hP5 : a23 m m.publications 0 = (some false) := by rw [v2, drop_get e1h]; simp only [a23, h6, ct, cf]
   have hP6 : a1e m = false := by simp only [a1e, h1, h2, h3, h4, hP5, ct, cf]
   exact R3 hP6
  have h6d := (B.nf h6)
  have h6r := inR_impl (B.nf h6)
  refine DX.takes (fuel := 11) ttOk [(10, true), (11, false), (12, true), (13, true), (14, true), (15, true)] J Z ?_
  refine DX.cases 51 Z (fun h7 => ?_) (fun h7 => ?_)
  ·skip
   have h7d := B.dt h7
   refine DX.takes (fuel := 0) ttOk [(16, true), (17, true), (18, true), (19, true), (20, true), (21, true), (22, true), (23, true), (24, true), (25, true), (26, true)] J Z ?_
   refine DX.tail2 [] Z Z J ?_
   refine R0 ?_
   have hP7 : a23 m m.publications 0 = (some false) := by rw [v2, drop_get e1h]; simp only [a23, h6, h7, ct, cf]
   have hP8 : a1e m = false := by simp only [a1e, h1, h2, h3, h4, hP7, ct, cf]
   exact R3 hP8
  have h7d := B.df h7
  refine DX.takes (fuel := 8) ttOk [(16, true), (17, false), (18, true)] J Z ?_
  refine DX.seeP 19 J Z Z Z Z (looksP_slH i ttOk Z Z Z Z (by simp) (Nat.le_trans (show i ≤ (m.publications).length from (by omega)) (hΓ0.get 2 Z : RdSl _ _ _ _).1)) ?_
  refine DX.slot 55 (y := .v (.slice (some ad1) (((List.take i m.publications)).length) M2)) Z (fun _ => by rw [show ((List.take i m.publications)).length = i from (by simp only [List.length_take]; have z_ := (show i ≤ (m.publications).length from (by omega)); omega)]) ?_
  refine DX.der 5 (MF.rs .der (some ad1) M2 (List.take i m.publications)) Z (fun _ hΓ => RdSl.pre (hΓ.get 2 Z : RdSl _ _ _ _) i) ?_
  refine DX.takes (fuel := 3) ttOk [(20, true), (21, false), (22, true), (23, false)] J Z ?_
  refine DX.callV 24 Z J Z Z Z Z Z Z O Z (fun w G bs hI hΓ => f120 w n (by omega) (List.take i m.publications) (some ad1) M2 (hΓ.get 5 Z) e1.publisher p1 c1 (hΓ.get 3 Z) e1.seq (okl_mk (by first | assumption | omega | (simp; omega)) (fun a ha => (okl (ok_Member hokm).2.2).2 a (List.mem_of_mem_take ha)) : GoT.ok n ((List.take i m.publications) : List Publication)) ((ok_Publication ok1).1) ((ok_Publication ok1).2.1)) ?_
  intro hq5
  have q1 := lt_publishedAt (List.take i m.publications) e1.publisher e1.seq
  refine DX.takes (fuel := 0) ttOk [(25, true), (26, true)] J Z ?_
  refine DX.tail2 [] Z Z J ?_
  refine R0 ?_
  refine WX.cases 62 Z (fun h8 => ?_) (fun h8 => ?_)
  ·skip
   have h8d := B.dt h8
   refine R0 ?_
   have hP9 : a23 m m.publications 0 = (some false) := by rw [v2, drop_get e1h]; simp only [a23, h6, h7, h8, ct, cf]
   have hP10 : a1e m = false := by simp only [a1e, h1, h2, h3, h4, hP9, ct, cf]
   exact R3 hP10
  have h8d := B.df h8
  refine R0 ?_
  refine WX.see Z Z Z (fun _ hΓ => looks_arith Z Z Z Z (by unfold I64; first | omega | (simp only [List.length_take] at *; omega))) ?_
  refine R0 ?_
  exact WX.iter (i + 1) ⟨(by omega), (by rw [v2, drop_get e1h]; simp only [a23, h6, h7, h8, ct, cf])⟩ (by first | (dsimp only; omega) | omega) (.cons Z (.cons Z (.cons Z (.cons Z (.nil))))) (.cons Z (.nil)) .nil [0, 1, 2] Z
 have h5d := B.df h5
 refine R0 ?_
 have hX1 : a23 m m.publications 0 = none := by rw [v2, List.drop_eq_nil_of_le (show (m.publications).length ≤ i by omega)]; simp only [a23, ct, cf]
 refine WX.draw [] mixed ?_
 intro bs G0 hΓ0
 refine DX.takes (fuel := 3) ttOk [(0, true), (1, false), (3, true), (4, false), (5, true)] J Z ?_
 refine DX.callV 2 Z J Z Z Z Z Z Z O Z (fun w G bs hI hΓ => f133 w n (by omega) m.vector K1 M1 (hΓ.get 1 Z) ((ok_Member hokm).2.1)) ?_
 intro hq6
 refine DX.takes (fuel := 0) ttOk [(6, true), (7, true)] J Z ?_
 refine DX.tail2 [] Z Z J ?_
 refine R0 ?_
 have hP11 : a1e m = ((a3r m.vector) == (((m.publications).length : Nat) : Int)) := by simp only [a1e, h1, h2, h3, h4, hX1, ct, cf]
 exact R3 hP11
theorem f58 (w : World) (n : Nat) (hn : n + 0 ≤ 9) (m : Member) (K0 : Option Addr) (M0 : Nat) (N0 : RdSl (hp w) K0 M0 m.name.parts) (K1 : Option Addr) (M1 : Nat) (N1 : RdSl (hp w) K1 M1 m.vector.entries) (K2 : Option Addr) (M2 : Nat) (N2 : RdSl (hp w) K2 M2 m.publications) (hokm : GoT.ok n m) :
 Does Tryz.prog 58 #[.agg #[.slice K0 ((m.name.parts).length) M0, .slice K1 ((m.vector.entries).length) M1, .slice K2 ((m.publications).length) M2]] w emp (fun (rv : Value) (_ : World) => rv = .bool (a15 m) ∧ True) := by
 have hbP := bd_pos n
 have hbB := bd_big (n := n) (by omega)
 refine WX.enter (tt := tt) (Γ := [(0, MF.rs .stb K0 M0 m.name.parts), (1, MF.rs .stb K1 M1 m.vector.entries), (2, MF.rs .stb K2 M2 m.publications)]) Tryz.func58 Z J Z (allS_cons Z N0 (allS_cons Z N1 (allS_cons Z N2 allS_nil))) ?_
 refine R0 ?_
 refine WX.draw [] mixed ?_
 intro bs G0 hΓ0
 refine DX.takes (fuel := 30) ttOk [(0, true), (1, false)] J Z ?_
 refine DX.callV 2 Z J Z Z Z Z Z Z O Z (fun w G bs hI hΓ => f100 w n (by omega) m.name K0 M0 (hΓ.get 0 Z) ((ok_Member hokm).1)) ?_
 intro hq1
 refine DX.takes (fuel := 27) ttOk [(3, true), (4, true)] J Z ?_
 refine DX.cases 9 Z (fun h1 => ?_) (fun h1 => ?_)
 ·skip
  have h1d := (B.nt h1)
  refine DX.takes (fuel := 0) ttOk [(5, true), (6, true), (7, true), (8, true), (9, true), (10, true), (11, true), (12, true), (13, true), (14, true), (15, true), (16, true), (17, true), (18, true), (19, true), (20, true), (21, true), (22, true), (23, true), (24, true), (25, true), (26, true), (27, true), (28, true), (29, true), (30, true), (31, true)] J Z ?_
  refine DX.tail2 [] Z Z J ?_
  refine R0 ?_
  have hP1 : a15 m = false := by simp only [a15, h1, ct, cf]
  exact R3 hP1
 have h1d := (B.nf h1)
 refine DX.takes (fuel := 20) ttOk [(5, true), (6, true), (7, false), (8, true), (9, true), (10, true), (11, true)] J Z ?_
 refine DX.cases 16 Z (fun h2 => ?_) (fun h2 => ?_)
 ·skip
  have h2d := B.et h2
  refine DX.takes (fuel := 0) ttOk [(12, true), (13, true), (14, true), (15, true), (16, true), (17, true), (18, true), (19, true), (20, true), (21, true), (22, true), (23, true), (24, true), (25, true), (26, true), (27, true), (28, true), (29, true), (30, true), (31, true)] J Z ?_
  refine DX.tail2 [] Z Z J ?_
  refine R0 ?_
  have hP2 : a15 m = false := by simp only [a15, h1, h2, ct, cf]
  exact R3 hP2
 have h2d := B.ef h2
 refine DX.takes (fuel := 18) ttOk [(12, true), (13, false)] J Z ?_
 refine DX.callV 14 Z J Z Z Z Z Z Z O Z (fun w G bs hI hΓ => f134 w n (by omega) m.vector K1 M1 (hΓ.get 1 Z) ((ok_Member hokm).2.1)) ?_
 intro hq2
 refine DX.takes (fuel := 14) ttOk [(15, true), (16, true), (17, true)] J Z ?_
 refine DX.cases 22 Z (fun h3 => ?_) (fun h3 => ?_)
 ·skip
  have h3d := (B.nt h3)
  refine DX.takes (fuel := 0) ttOk [(18, true), (19, true), (20, true), (21, true), (22, true), (23, true), (24, true), (25, true), (26, true), (27, true), (28, true), (29, true), (30, true), (31, true)] J Z ?_
  refine DX.tail2 [] Z Z J ?_
  refine R0 ?_
  have hP3 : a15 m = false := by simp only [a15, h1, h2, h3, ct, cf]
  exact R3 hP3
 have h3d := (B.nf h3)
 refine DX.takes (fuel := 8) ttOk [(18, true), (19, false), (20, true), (21, true), (22, true), (23, true)] J Z ?_
 refine DX.cases 28 Z (fun h4 => ?_) (fun h4 => ?_)
 ·skip
  have h4d := B.dt h4
  refine DX.takes (fuel := 0) ttOk [(24, true), (25, true), (26, true), (27, true), (28, true), (29, true), (30, true), (31, true)] J Z ?_
  refine DX.tail2 [] Z Z J ?_
  refine R0 ?_
  have hP4 : a15 m = false := by simp only [a15, h1, h2, h3, h4, ct, cf]
  exact R3 hP4
 have h4d := B.df h4
 refine DX.takes (fuel := 3) ttOk [(24, true), (25, false), (26, true), (27, true), (28, false)] J Z ?_
 refine DX.callV 29 Z J Z Z Z Z Z Z O Z (fun w G bs hI hΓ => f135 w n (by omega) m.vector K1 M1 (hΓ.get 1 Z) ((ok_Member hokm).2.1)) ?_
 intro hq3
 refine DX.takes (fuel := 0) ttOk [(30, true), (31, true)] J Z ?_
 refine DX.tail2 [] Z Z J ?_
 refine R0 ?_
 refine WX.cases 36 Z (fun h5 => ?_) (fun h5 => ?_)
 ·skip
  have h5d := B.nt' h5
  refine R0 ?_
  have hP5 : a15 m = false := by simp only [a15, h1, h2, h3, h4, h5, ct, cf]
  exact R3 hP5
 have h5d := B.nf' h5
 refine R0 ?_
 have r1 : (m.publications).length ≤ bd n := (okl (ok_Member hokm).2.2).1
 refine WX.loop (ι := Nat) ⟨fun i => (i ≤ (m.publications).length) ∧ (a1m m m.publications 0 = a1m m ((m.publications).drop i) i), fun i => (m.publications).length - i, fun i => [(3, .v (.int .i64 (((i : Nat) : Int)))), (1, .p 1 0)], fun i => [(1, ⟨60, [.slice K0 ((m.name.parts).length) M0, .slice K1 ((m.vector.entries).length) M1, .slice K2 ((m.publications).length) M2]⟩)], fun i => [], fun i => [(0, MF.rs .stb K0 M0 m.name.parts), (1, MF.rs .stb K1 M1 m.vector.entries), (2, MF.rs .stb K2 M2 m.publications)]⟩ 0 ⟨(Nat.zero_le _), Z⟩
  (.cons Z (.cons Z (.nil))) (.cons Z (.nil)) .nil [0, 1, 2] Z ?_
 rintro i hpre
 have hpre_ : (i ≤ (m.publications).length) ∧ (a1m m m.publications 0 = a1m m ((m.publications).drop i) i) := hpre
 clear hpre
 obtain ⟨v1, v2⟩ := hpre_
 refine R0 ?_
 refine WX.cases 41 Z (fun h6 => ?_) (fun h6 => ?_)
 ·skip
  have h6d := B.dt h6
  have e1i : i < (m.publications).length := (by omega)
  obtain ⟨e1, e1h⟩ : ∃ e1, (m.publications)[i]? = some e1 := ⟨_, List.getElem?_eq_getElem e1i⟩
  have ok1 : GoT.ok n e1 := (okl (ok_Member hokm).2.2).2 _ (List.mem_of_getElem? e1h)
  refine R0 ?_
  refine WX.idx 2 i ttOk Z Z Z Z Z Z Z Z Z Z e1i ?_
  rintro ad1 rfl
  refine WX.ldE 2 3 e1 ttOk Z Z Z Z Z Z Z Z e1h O O ?_
  rintro ⟨⟨p1, c1⟩, ⟨⟩, ⟨p2, c2⟩⟩
  refine R0 ?_
  refine WX.draw [] mixed ?_
  intro bs G0 hΓ0
  refine DX.takes (fuel := 21) ttOk [(0, true), (1, false), (2, true), (3, false), (4, true), (5, false)] J Z ?_
  refine DX.callV 6 Z J Z Z Z Z Z Z O Z (fun w G bs hI hΓ => f108 w n (by omega) m.vector K1 M1 (hΓ.get 1 Z) e1.publisher p1 c1 (hΓ.get 3 Z) ((ok_Member hokm).2.1) ((ok_Publication ok1).1)) ?_
  intro hq4
  refine DX.callV 7 Z J Z Z Z Z Z Z O Z (fun w G bs hI hΓ => f136 w n (by omega) e1.seq 1 (a0b m.vector e1.publisher) ((ok_Publication ok1).2.1) (show I64 1 from (by unfold I64; omega)) hq4) ?_
  intro hq5
  refine DX.takes (fuel := 17) ttOk [(8, true), (9, true)] J Z ?_
  refine DX.cases 58 Z (fun h7 => ?_) (fun h7 => ?_)
  ·skip
   have h7d := (B.nt h7)
   refine DX.takes (fuel := 0) ttOk [(10, true), (11, true), (12, true), (13, true), (14, true), (15, true), (16, true), (17, true), (18, true), (19, true), (20, true), (21, true), (22, true), (23, true), (24, true), (25, true), (26, true)] J Z ?_
   refine DX.tail2 [] Z Z J ?_
   refine R0 ?_
   have hP6 : a1m m m.publications 0 = (some false) := by rw [v2, drop_get e1h]; simp only [a1m, h7, ct, cf]
   have hP7 : a15 m = false := by simp only [a15, h1, h2, h3, h4, h5, hP6, ct, cf]
   exact R3 hP7
  have h7d := (B.nf h7)
  have h7r := inR_spec (B.nf h7)
  refine DX.takes (fuel := 11) ttOk [(10, true), (11, false), (12, true), (13, true), (14, true), (15, true)] J Z ?_
  refine DX.cases 64 Z (fun h8 => ?_) (fun h8 => ?_)
  ·skip
   have h8d := B.dt h8
   refine DX.takes (fuel := 0) ttOk [(16, true), (17, true), (18, true), (19, true), (20, true), (21, true), (22, true), (23, true), (24, true), (25, true), (26, true)] J Z ?_
   refine DX.tail2 [] Z Z J ?_
   refine R0 ?_
   have hP8 : a1m m m.publications 0 = (some false) := by rw [v2, drop_get e1h]; simp only [a1m, h7, h8, ct, cf]
   have hP9 : a15 m = false := by simp only [a15, h1, h2, h3, h4, h5, hP8, ct, cf]
   exact R3 hP9
  have h8d := B.df h8
  refine DX.takes (fuel := 8) ttOk [(16, true), (17, false), (18, true)] J Z ?_
  refine DX.seeP 19 J Z Z Z Z (looksP_slH i ttOk Z Z Z Z (by simp) (Nat.le_trans (show i ≤ (m.publications).length from (by omega)) (hΓ0.get 2 Z : RdSl _ _ _ _).1)) ?_
  refine DX.slot 68 (y := .v (.slice (some ad1) (((List.take i m.publications)).length) M2)) Z (fun _ => by rw [show ((List.take i m.publications)).length = i from (by simp only [List.length_take]; have z_ := (show i ≤ (m.publications).length from (by omega)); omega)]) ?_
  refine DX.der 5 (MF.rs .der (some ad1) M2 (List.take i m.publications)) Z (fun _ hΓ => RdSl.pre (hΓ.get 2 Z : RdSl _ _ _ _) i) ?_
  refine DX.takes (fuel := 3) ttOk [(20, true), (21, false), (22, true), (23, false)] J Z ?_
  refine DX.callV 24 Z J Z Z Z Z Z Z O Z (fun w G bs hI hΓ => f121 w n (by omega) (List.take i m.publications) (some ad1) M2 (hΓ.get 5 Z) e1.publisher p1 c1 (hΓ.get 3 Z) e1.seq (okl_mk (by first | assumption | omega | (simp; omega)) (fun a ha => (okl (ok_Member hokm).2.2).2 a (List.mem_of_mem_take ha)) : GoT.ok n ((List.take i m.publications) : List Publication)) ((ok_Publication ok1).1) ((ok_Publication ok1).2.1)) ?_
  intro hq6
  have q1 := lt_l28Find (List.take i m.publications) e1.publisher e1.seq
  refine DX.takes (fuel := 0) ttOk [(25, true), (26, true)] J Z ?_
  refine DX.tail2 [] Z Z J ?_
  refine R0 ?_
  refine WX.cases 75 Z (fun h9 => ?_) (fun h9 => ?_)
  ·skip
   have h9d := B.dt h9
   refine R0 ?_
   have hP10 : a1m m m.publications 0 = (some false) := by rw [v2, drop_get e1h]; simp only [a1m, h7, h8, h9, ct, cf]
   have hP11 : a15 m = false := by simp only [a15, h1, h2, h3, h4, h5, hP10, ct, cf]
   exact R3 hP11
  have h9d := B.df h9
  refine R0 ?_
  refine WX.see Z Z Z (fun _ hΓ => looks_arith Z Z Z Z (by unfold I64; first | omega | (simp only [List.length_take] at *; omega))) ?_
  refine R0 ?_
  exact WX.iter (i + 1) ⟨(by omega), (by rw [v2, drop_get e1h]; simp only [a1m, h7, h8, h9, ct, cf])⟩ (by first | (dsimp only; omega) | omega) (.cons Z (.cons Z (.nil))) (.cons Z (.nil)) .nil [0, 1, 2] Z
 have h6d := B.df h6
 refine R0 ?_
 have hX1 : a1m m m.publications 0 = none := by rw [v2, List.drop_eq_nil_of_le (show (m.publications).length ≤ i by omega)]; simp only [a1m, ct, cf]
 have hP12 : a15 m = true := by simp only [a15, h1, h2, h3, h4, h5, hX1, ct, cf]
 exact R3 hP12
end Go.Proofs.YtolepebgdfdciaaGreat

namespace Go.Stp
set_option linter.unusedVariables false
set_option linter.unusedSimpArgs false
def slices_Insert_TableEntry (s : List TableEntry) (i : Int) (v : List TableEntry) : List TableEntry := s.take i.toNat ++ v ++ s.drop i.toNat
end Go.Stp

namespace Go.Proofs.YtolepebgdfdciaaGreat
open Go.Stp
set_option linter.unusedVariables false
set_option linter.unusedSimpArgs false
theorem ok_slices_Insert_TableEntry {n : Nat} {s v : List TableEntry} (hn : n + 1 ≤ 9) (i : Int) (h : GoT.ok n s) (hv : GoT.ok n v) : GoT.ok (n + 1) (slices_Insert_TableEntry s i v) := by
 have hbS0 := bd_succ (n := n) (by omega)
 have h1 := (okl h).1
 have h2 := (okl hv).1
 refine okl_mk (by unfold slices_Insert_TableEntry; simp only [List.length_append, List.length_take, List.length_drop]; omega) (fun a ha => GoT.okm (Nat.le_succ n) ?_)
 unfold slices_Insert_TableEntry at ha
 rcases List.mem_append.1 ha with ha | ha
 ·rcases List.mem_append.1 ha with ha | ha
  ·exact (okl h).2 a (List.mem_of_mem_take ha)
  ·exact (okl hv).2 a ha
 ·exact (okl h).2 a (List.mem_of_mem_drop ha)
theorem len_slices_Insert_TableEntry (s : List TableEntry) (i : Int) (v : List TableEntry) : (slices_Insert_TableEntry s i v).length = s.length + v.length := by
 unfold slices_Insert_TableEntry; simp only [List.length_append, List.length_take, List.length_drop]; omega
theorem f189 (w : World) (n : Nat) (hn : n + 1 ≤ 9) (s : List TableEntry) (ps : Option Addr) (cs : Nat) (i : Int) (v : List TableEntry) (pv : Option Addr) (cv : Nat) (H : GH) (hH : Le H (hp w)) (hown : Sep H (GoT.oa s (ps, cs) ++ GoT.oa v (pv, cv))) (hq0 : 0 ≤ i ∧ i ≤ (s.length : Int)) (hq1 : 0 < v.length) (hoks : GoT.ok n s) (hoki : GoT.ok n i) (hokv : GoT.ok n v) :
    Does Tryz.prog 189 #[.slice ps ((s).length) cs, .int .i64 i, .slice pv ((v).length) cv] w H (Post w H (fun x : GoT.X (List TableEntry) => (GoT.sh ((slices_Insert_TableEntry s i v) : List TableEntry) x).headD undef) (fun x => GoT.oa ((slices_Insert_TableEntry s i v) : List TableEntry) x) (GoT.ok (n + 1) ((slices_Insert_TableEntry s i v) : List TableEntry))) := by
  obtain ⟨m, rfl⟩ : ∃ m : Nat, i = (m : Int) := ⟨i.toNat, by omega⟩
  have hms : m ≤ s.length := by omega
  have hok := ok_slices_Insert_TableEntry hn (m : Int) hoks hokv
  have hlD := (len_slices_Insert_TableEntry s (m : Int) v).symm
  have hbP := bd_pos n
  have hbS0 := bd_succ (n := n) (by omega)
  have hbB := bd_big (n := n + 1) (by omega)
  have r1 : (s).length ≤ bd n := (okl hoks).1
  have r2 : (v).length ≤ bd n := (okl hokv).1
  refine WX.enterM (tt := tt) (Γ := []) 0 Tryz.func189 Z J Z allS_nil hH hown (fun f hf => (List.mem_append.1 hf).elim (fun hf => GoT.oak f hf) (fun hf => GoT.oak f hf)) Z ?_
  refine R0 ?_
  refine WX.see Z Z Z (fun _ hΓ => looks_slL m ttOk Z Z Z Z Z hms) ?_
  refine R0 ?_
  refine WX.cases 16 Z (fun h1 => ?_) (fun h1 => ?_)
  · have := B.et h1; omega
  refine R0 ?_
  refine WX.cases 22 Z (fun h2 => ?_) (fun h2 => ?_)
  · have h2d := B.et h2
    have hm : m = s.length := by omega
    have hP : slices_Insert_TableEntry s (m : Int) v = s ++ v := by unfold slices_Insert_TableEntry; simp [hm]
    refine R0 ?_
    refine WX.opn (kk := 2) 501 0 2 Z Z Z ?_
    intro xs hx
    refine WX.opn (kk := 2) 502 1 3 Z Z Z ?_
    intro ys hy
    refine WX.know (fun G hΓ => (hΓ.get 3 Z : OwL _ _ _).rd.one) ?_
    intro hone
    refine WX.appR1 501 502 (s.length + v.length) ttOk Z Z Z Z Z Z Z Z Z Z Z Z Z hone Z (by omega) (by omega) (fun _ _ => Z) ?_
    intro p1 c1
    refine WX.turn [2, 3] 4 Z (fun h hs => ol_app hs) (gs := [MF.ol (xs ++ ys) (s ++ v)]) Z ?_
    refine WX.seal 501 4 5 Z Z (show s.length + v.length = (s ++ v).length by simp) Z Z ?_
    refine R0 ?_
    refine WX.slot 6 (y := .v (.slice p1 (s ++ v).length c1)) Z (fun _ => by rw [List.length_append]) ?_
    refine R1 ?_
    intro w1 G bs hI hΓ
    rw [hP] at hok ⊢
    exact Post.of [6] (p1, c1) hI hΓ Z Z Z hok
  · have h2d := B.ef h2
    have hm : m < s.length := by omega
    refine R0 ?_
    refine WX.see Z Z Z (fun _ hΓ => looks_arith Z Z Z Z (by unfold I64; omega)) ?_
    refine R0 ?_
    refine WX.see Z Z Z (fun _ hΓ => looks_cap ttOk Z Z Z Z) ?_
    refine R0 ?_
    refine WX.opn (kk := 2) 501 0 2 Z Z Z ?_
    intro xs hx
    refine WX.opn (kk := 2) 502 1 3 Z Z Z ?_
    intro ys hy
    refine WX.know (fun G hΓ => (hΓ.get 2 Z : OwL _ _ _).rd.one) ?_
    intro honx
    refine WX.know (fun G hΓ => (hΓ.get 3 Z : OwL _ _ _).rd.one) ?_
    intro hone
    refine WX.cap 501 Z ?_
    intro hcap
    have hcap' : s.length ≤ cs := hcap
    refine WX.cases 31 Z (fun h3 => ?_) (fun h3 => ?_)
    · have h3d := B.dt h3
      refine R0 ?_
      refine WX.see Z Z Z (fun _ hΓ => looks_slH m ttOk Z Z Z Z Z (by omega)) ?_
      refine R0 ?_
      refine WX.see Z Z Z (fun _ hΓ => looks_arith Z Z Z Z (by unfold I64; omega)) ?_
      refine R0 ?_
      refine WX.see Z Z Z (fun _ hΓ => looks_arith Z Z Z Z (by unfold I64; omega)) ?_
      refine WX.appZ 501 m (s.length + v.length - m) ttOk Z Z Z Z Z Z Z Z Z (by omega) Z Z hms (by omega) (show cs < m + (s.length + v.length - m) by omega) (by omega) (by omega) Z ?_
      intro pq cq
      refine R0 ?_
      refine WX.see Z Z Z (fun _ hΓ => looks_slL m ttOk Z Z Z Z Z (by omega)) ?_
      refine R0 ?_
      refine WX.cpy 40 m v.length ys ttOk Z Z Z Z Z Z Z Z Z (show min v.length (m + (s.length + v.length - m) - m) = v.length by omega) (show m + v.length ≤ m + (s.length + v.length - m) by omega) hy hone (fun w G bs hI => src_cells0 (σ := 502) hI Z) Z ?_
      refine R0 ?_
      · refine WX.draw [8] mixed ?_
        intro bs G0 hΓ0
        refine DX.takes (fuel := 6) ttOk [(0, true), (1, true), (2, true)] J Z ?_
        refine DX.seeP 3 J Z Z Z Z (looksP_arith Z Z Z Z (by unfold I64; omega)) ?_
        refine DX.seeP 4 J Z Z Z Z (looksP_slL (m + v.length) ttOk Z Z Z Z (by omega) (by omega)) ?_
        refine DX.takes (fuel := 2) ttOk [(5, true), (6, true)] J Z ?_
        refine DX.seeP 7 J Z Z Z Z (looksP_slL m ttOk Z Z Z Z Z (by omega)) ?_
        refine DX.tail2 [8] Z Z J ?_
        refine WX.cpy 40 (m + v.length) (s.length - m) ((xs.drop (m * 2)).take ((s.length - m) * 2)) ttOk Z Z Z Z Z Z Z Z Z (show min (s.length - m) (m + (s.length + v.length - m) - (m + v.length)) = s.length - m by omega) (show m + v.length + (s.length - m) ≤ m + (s.length + v.length - m) by omega) (by rw [List.length_take, List.length_drop, hx, Nat.sub_mul]; omega) (fun u hu => honx u (List.mem_of_mem_drop (List.mem_of_mem_take hu))) (fun w G bs hI => src_cells (σ := 501) hI Z m (s.length - m) (show m + (s.length - m) ≤ s.length by omega)) Z ?_
        have hX := ins_new (zs := zrep (s.length + v.length - m) ([.slice none (0) 0, .int .i64 (0)] : List Value)) (v := v.length) hx hy (zrep_len ([.slice none (0) 0, .int .i64 (0)] : List Value) (s.length + v.length - m)) hms
        replace hlD : m + (s.length + v.length - m) = (slices_Insert_TableEntry s (m : Int) v).length := by omega
        refine R0 ?_
        refine WX.turn [2, 3] 4 Z (fun h hs => by rw [show (((xs.take (m * 2) ++ zrep (s.length + v.length - m) ([.slice none (0) 0, .int .i64 (0)] : List Value)).take (m * 2) ++ ys ++ (xs.take (m * 2) ++ zrep (s.length + v.length - m) ([.slice none (0) 0, .int .i64 (0)] : List Value)).drop (m * 2 + ys.length)).take ((m + v.length) * 2) ++ ((xs.drop (m * 2)).take ((s.length - m) * 2)) ++ ((xs.take (m * 2) ++ zrep (s.length + v.length - m) ([.slice none (0) 0, .int .i64 (0)] : List Value)).take (m * 2) ++ ys ++ (xs.take (m * 2) ++ zrep (s.length + v.length - m) ([.slice none (0) 0, .int .i64 (0)] : List Value)).drop (m * 2 + ys.length)).drop ((m + v.length) * 2 + ((xs.drop (m * 2)).take ((s.length - m) * 2)).length)) = xs.take (m * 2) ++ ys ++ xs.drop (m * 2) from hX]; exact ol_insert m (by omega) hs) (gs := [MF.ol (((xs.take (m * 2) ++ zrep (s.length + v.length - m) ([.slice none (0) 0, .int .i64 (0)] : List Value)).take (m * 2) ++ ys ++ (xs.take (m * 2) ++ zrep (s.length + v.length - m) ([.slice none (0) 0, .int .i64 (0)] : List Value)).drop (m * 2 + ys.length)).take ((m + v.length) * 2) ++ ((xs.drop (m * 2)).take ((s.length - m) * 2)) ++ ((xs.take (m * 2) ++ zrep (s.length + v.length - m) ([.slice none (0) 0, .int .i64 (0)] : List Value)).take (m * 2) ++ ys ++ (xs.take (m * 2) ++ zrep (s.length + v.length - m) ([.slice none (0) 0, .int .i64 (0)] : List Value)).drop (m * 2 + ys.length)).drop ((m + v.length) * 2 + ((xs.drop (m * 2)).take ((s.length - m) * 2)).length)) (slices_Insert_TableEntry s (m : Int) v)]) Z ?_
        refine WX.seal 40 4 5 Z Z (show _ = (slices_Insert_TableEntry s (m : Int) v).length from hlD) Z Z ?_
        refine WX.slot 6 (y := .v (.slice pq (slices_Insert_TableEntry s (m : Int) v).length cq)) Z (fun _ => by rw [show (slices_Insert_TableEntry s (m : Int) v).length = _ from hlD.symm]) ?_
        refine R1 ?_
        intro w1 G bs hI hΓ
        exact Post.of [6] (pq, cq) hI hΓ Z Z Z hok
    · have h3d := B.df h3
      refine R0 ?_
      refine WX.see Z Z Z (fun _ hΓ => looks_arith Z Z Z Z (by unfold I64; omega)) ?_
      refine R0 ?_
      refine WX.see Z Z Z (fun _ hΓ => looks_slH (s.length + v.length) ttOk Z Z Z Z Z (by omega)) ?_
      refine WX.widen 501 (s.length + v.length) Z (show s.length ≤ s.length + v.length by omega) (show s.length + v.length ≤ cs by omega) O ?_
      intro jk hjk
      refine R0 ?_
      refine WX.see Z Z Z (fun _ hΓ => looks_arith Z Z Z Z (by unfold I64; omega)) ?_
      refine R0 ?_
      refine WX.see Z Z Z (fun _ hΓ => looks_slL (m + v.length) ttOk Z Z Z Z Z (by omega)) ?_
      refine WX.ovl (T := 55) (tR := 4) 502 501 (m + v.length) ttOk Z Z Z Z Z O Tryz.func228 J J J J Z Z Z Z Z Z Z (show 0 < v.length from hq1) (show m + v.length < s.length + v.length by omega) ?_
      refine R0 ?_
      · refine WX.draw [8] mixed ?_
        intro bs G0 hΓ0
        refine DX.takes (fuel := 6) ttOk [(0, true), (1, true), (2, true)] J Z ?_
        refine DX.seeP 3 J Z Z Z Z (looksP_arith Z Z Z Z (by unfold I64; omega)) ?_
        refine DX.seeP 4 J Z Z Z Z (looksP_slL (m + v.length) ttOk Z Z Z Z (by omega) (by omega)) ?_
        refine DX.takes (fuel := 2) ttOk [(5, true), (6, true)] J Z ?_
        refine DX.seeP 7 J Z Z Z Z (looksP_slL m ttOk Z Z Z Z Z (by omega)) ?_
        refine DX.tail2 [8] Z Z J ?_
        refine WX.cpy 501 (m + v.length) (s.length - m) (((xs ++ jk).drop (m * 2)).take ((s.length - m) * 2)) ttOk Z Z Z Z Z Z Z Z Z (show min (s.length + v.length - m) (s.length + v.length - (m + v.length)) = s.length - m by omega) (show m + v.length + (s.length - m) ≤ s.length + v.length by omega) (by rw [List.length_take, List.length_drop, List.length_append, hx, hjk, Nat.sub_mul]; omega) (fun u hu => ?_) (fun w G bs hI => src_cells (σ := 501) hI Z m (s.length - m) (show m + (s.length - m) ≤ s.length + v.length by omega)) Z ?_
        · refine honx u ?_
          have h6 : (((xs ++ jk).drop (m * 2)).take ((s.length - m) * 2)) = ((xs.drop (m * 2)).take ((s.length - m) * 2)) := by rw [List.drop_append_of_le_length (by rw [hx]; exact Nat.mul_le_mul_right _ hms), List.take_append_of_le_length (by rw [List.length_drop, hx, Nat.sub_mul]; exact Nat.le_refl _)]
          rw [h6] at hu
          exact List.mem_of_mem_drop (List.mem_of_mem_take hu)
        refine R0 ?_
        refine WX.see Z Z Z (fun _ hΓ => looks_slL m ttOk Z Z Z Z Z (by omega)) ?_
        refine R0 ?_
        refine WX.cpy 501 m v.length ys ttOk Z Z Z Z Z Z Z Z Z (show min v.length (s.length + v.length - m) = v.length by omega) (show m + v.length ≤ s.length + v.length by omega) hy hone (fun w G bs hI => src_cells0 (σ := 502) hI Z) Z ?_
        have hX := ins_old (n := s.length) (v := v.length) hx hy hjk hms
        refine R0 ?_
        refine WX.turn [2, 3] 4 Z (fun h hs => by rw [show (((xs ++ jk).take ((m + v.length) * 2) ++ (((xs ++ jk).drop (m * 2)).take ((s.length - m) * 2)) ++ (xs ++ jk).drop ((m + v.length) * 2 + (((xs ++ jk).drop (m * 2)).take ((s.length - m) * 2)).length)).take (m * 2) ++ ys ++ ((xs ++ jk).take ((m + v.length) * 2) ++ (((xs ++ jk).drop (m * 2)).take ((s.length - m) * 2)) ++ (xs ++ jk).drop ((m + v.length) * 2 + (((xs ++ jk).drop (m * 2)).take ((s.length - m) * 2)).length)).drop (m * 2 + ys.length)) = xs.take (m * 2) ++ ys ++ xs.drop (m * 2) from hX]; exact ol_insert m (by omega) hs) (gs := [MF.ol (((xs ++ jk).take ((m + v.length) * 2) ++ (((xs ++ jk).drop (m * 2)).take ((s.length - m) * 2)) ++ (xs ++ jk).drop ((m + v.length) * 2 + (((xs ++ jk).drop (m * 2)).take ((s.length - m) * 2)).length)).take (m * 2) ++ ys ++ ((xs ++ jk).take ((m + v.length) * 2) ++ (((xs ++ jk).drop (m * 2)).take ((s.length - m) * 2)) ++ (xs ++ jk).drop ((m + v.length) * 2 + (((xs ++ jk).drop (m * 2)).take ((s.length - m) * 2)).length)).drop (m * 2 + ys.length)) (slices_Insert_TableEntry s (m : Int) v)]) Z ?_
        refine WX.seal 501 4 5 Z Z (show _ = (slices_Insert_TableEntry s (m : Int) v).length from hlD) Z Z ?_
        refine WX.slot 6 (y := .v (.slice ps (slices_Insert_TableEntry s (m : Int) v).length cs)) Z (fun _ => by rw [show (slices_Insert_TableEntry s (m : Int) v).length = _ from hlD.symm]) ?_
        refine R1 ?_
        intro w1 G bs hI hΓ
        exact Post.of [6] (ps, cs) hI hΓ Z Z Z hok
end Go.Proofs.YtolepebgdfdciaaGreat

namespace Go.Stp
set_option linter.unusedVariables false
set_option linter.unusedSimpArgs false
def a3l (e_ : TableEntry) : Bool :=
 true
def a2d (keepq : TableEntry → Bool) : List TableEntry → (List TableEntry) → (List TableEntry)
 | [], out => ((out) : List TableEntry)
 | e1 :: rest_, out =>
  bif keepq e1 then
   a2d keepq rest_ (((out ++ [(TableEntry.mk (a09 e1.name) e1.value)])) : List TableEntry)
  else
   a2d keepq rest_ ((out) : List TableEntry)
def a3m (l : (List TableEntry)) (keepq : TableEntry → Bool) : (List TableEntry) :=
 match a2d keepq l ([] : List TableEntry) with
  | out =>
   out
def a0a (l : (List TableEntry)) : (List TableEntry) :=
 (a3m l (fun e0_ => (a3l e0_)))
theorem kTL : ∀ (l o : List TableEntry), a2d (fun e0_ => a3l e0_) l o = o ++ l
 | [], o => by simp [a2d]
 | x :: l, o => by
  simp only [a2d]
  rw [show a3l x = true from rfl, cond_true, kTL l]
  simp [a09]
theorem cT_impl (l : List TableEntry) : a0a l = l := by simp [a0a, a3m, kTL]
theorem len_copyTable (l : List TableEntry) : (a0a l).length = l.length := by rw [cT_impl]
def a2x : List TableEntry → (List TableEntry) → (List TableEntry)
 | [], out => ((out) : List TableEntry)
 | e1 :: rest_, out =>
  a2x rest_ (((out ++ [(TableEntry.mk (a02 e1.name) e1.value)])) : List TableEntry)
def a00 (l : (List TableEntry)) : (List TableEntry) :=
 match a2x l ([] : List TableEntry) with
  | out =>
   out
theorem l6L : ∀ (l o : List TableEntry), a2x l o = o ++ l
 | [], o => by simp [a2x]
 | x :: l, o => by
  simp only [a2x]
  rw [l6L l]
  simp [a02]
theorem cT_spec (l : List TableEntry) : a00 l = l := by simp [a00, l6L]
theorem len_l6Copy (l : List TableEntry) : (a00 l).length = l.length := by rw [cT_spec]
def a1g (n_ : Name) (e_ : TableEntry) : Bool :=
 (decide ((a3f e_.name n_) > 0))
def a0x (l : (List TableEntry)) (n_ : Name) (v : Int) : (List TableEntry) × Bool :=
 bif decide ((a0i l n_) ≥ 0) then
  match ((a0a l))[((a0i l n_)).toNat]? with
   | none => default
   | some e1 =>
    bif (!(a2j ((a0a l).set (((a0i l n_)).toNat) (TableEntry.mk e1.name v)))) then
     ((a0a l), false)
    else
     (((a0a l).set (((a0i l n_)).toNat) (TableEntry.mk e1.name v)), true)
 else
  bif decide ((slices_IndexFunc_TableEntry l (fun e0_ => (a1g n_ e0_))) < 0) then
   bif (!(a2j (slices_Insert_TableEntry (a0a l) (((l).length : Nat) : Int) ([(TableEntry.mk (a09 n_) v)])))) then
    ((a0a l), false)
   else
    ((slices_Insert_TableEntry (a0a l) (((l).length : Nat) : Int) ([(TableEntry.mk (a09 n_) v)])), true)
  else
   bif (!(a2j (slices_Insert_TableEntry (a0a l) (slices_IndexFunc_TableEntry l (fun e0_ => (a1g n_ e0_))) ([(TableEntry.mk (a09 n_) v)])))) then
    ((a0a l), false)
   else
    ((slices_Insert_TableEntry (a0a l) (slices_IndexFunc_TableEntry l (fun e0_ => (a1g n_ e0_))) ([(TableEntry.mk (a09 n_) v)])), true)
def a2a (l : (List TableEntry)) (n_ : Name) (i : Nat) : Nat :=
 if ((i : Nat) : Int) < ((((a00 l)).length : Nat) : Int) then
  match ((a00 l))[i]? with
   | none => default
   | some e2 =>
    if (a0v e2.name n_) < 0 then
     a2a l n_ (i + 1)
    else
     i
 else
  i
termination_by (a00 l).length - i
decreasing_by all_goals (simp_wf; omega)
def a03 (l : (List TableEntry)) (n_ : Name) (v : Int) : (List TableEntry) × Bool :=
 bif decide ((a0c l n_) ≥ 0) then
  match ((a00 l))[((a0c l n_)).toNat]? with
   | none => default
   | some e1 =>
    bif (!(a1u ((a00 l).set (((a0c l n_)).toNat) (TableEntry.mk e1.name v)))) then
     ((a00 l), false)
    else
     (((a00 l).set (((a0c l n_)).toNat) (TableEntry.mk e1.name v)), true)
 else
  match a2a l n_ 0 with
   | i =>
    bif (!(a1u (((List.take i (a00 l)) ++ [(TableEntry.mk (a02 n_) v)]) ++ (List.drop i (a00 l))))) then
     ((a00 l), false)
    else
     ((((List.take i (a00 l)) ++ [(TableEntry.mk (a02 n_) v)]) ++ (List.drop i (a00 l))), true)
inductive PutShape (l : List TableEntry) (n_ : Name) (v : Int) : List TableEntry → Prop
 | same : PutShape l n_ v l
 | nil : PutShape l n_ v []
 | set (i : Nat) (e : TableEntry) (h : l[i]? = some e) : PutShape l n_ v (l.set i ⟨e.name, v⟩)
 | ins (i : Nat) : PutShape l n_ v (l.take i ++ [⟨n_, v⟩] ++ l.drop i)
theorem PutShape.len {l r : List TableEntry} {n_ : Name} {v : Int} (h : PutShape l n_ v r) : r.length ≤ l.length + 1 := by
 cases h with
 | same => exact Nat.le_succ _
 | nil => exact Nat.zero_le _
 | set i e h => rw [List.length_set]; exact Nat.le_succ _
 | ins i => simp only [List.length_append, List.length_take, List.length_drop, List.length_cons, List.length_nil]; omega
theorem PutShape.els {l r : List TableEntry} {n_ : Name} {v : Int} {k : Nat} (h : PutShape l n_ v r) (hl : ∀ a ∈ l, GoT.ok k a) (hn : GoT.ok k n_) (hv : GoT.ok k v) : ∀ a ∈ r, GoT.ok k a := by
 intro a ha
 cases h with
 | same => exact hl a ha
 | nil => cases ha
 | set i e h =>
  rcases List.mem_or_eq_of_mem_set ha with ha | rfl
  ·exact hl a ha
  ·exact ⟨(ok_TableEntry (hl e (List.mem_of_getElem? h))).1, hv⟩
 | ins i =>
  rcases List.mem_append.1 ha with ha | ha
  ·rcases List.mem_append.1 ha with ha | ha
   ·exact hl a (List.mem_of_mem_take ha)
   ·obtain rfl := List.mem_singleton.1 ha
    exact ⟨hn, hv⟩
  ·exact hl a (List.mem_of_mem_drop ha)
theorem put_bif {P : List TableEntry → Prop} {c : Bool} {a b : List TableEntry × Bool} (h1 : P a.1) (h2 : P b.1) : P (bif c then a else b).1 := by
 cases c
 ·exact h2
 ·exact h1
theorem put_impl (l : List TableEntry) (n_ : Name) (v : Int) : PutShape l n_ v (a0x l n_ v).1 := by
 unfold a0x
 rw [cT_impl]
 refine put_bif ?_ (put_bif (put_bif .same ?_) (put_bif .same ?_))
 ·cases h : l[(a0i l n_).toNat]? with
  | none => exact .nil
  | some e1 => exact put_bif .same (.set _ e1 h)
 ·exact .ins _
 ·exact .ins _
theorem put_spec (l : List TableEntry) (n_ : Name) (v : Int) : PutShape l n_ v (a03 l n_ v).1 := by
 unfold a03
 rw [cT_spec]
 refine put_bif ?_ (put_bif .same ?_)
 ·cases h : l[(a0c l n_).toNat]? with
  | none => exact .nil
  | some e1 => exact put_bif .same (.set _ e1 h)
 ·exact .ins _
end Go.Stp

namespace Go.Proofs.YtolepebgdfdciaaGreat
open Go.Stp
set_option linter.unusedVariables false
set_option linter.unusedSimpArgs false
theorem f207 (w : World) (n : Nat) (hn : n + 0 ≤ 9) (e_ : TableEntry) (K0 : Option Addr) (M0 : Nat) (N0 : RdSl (hp w) K0 M0 e_.name.parts) (hoke_ : GoT.ok n e_) :
 Does Tryz.prog 207 #[.agg #[.slice K0 ((e_.name.parts).length) M0, .int .i64 (e_.value)]] w emp (fun (rv : Value) (_ : World) => rv = .bool (a3l e_) ∧ True) := by
 refine WX.enter (tt := tt) (Γ := [(0, MF.rs .stb K0 M0 e_.name.parts)]) Tryz.func207 Z J Z (allS_cons Z N0 allS_nil) ?_
 refine R0 ?_
 have hP1 : a3l e_ = true := by simp only [a3l, ct, cf]
 exact R3 hP1
theorem f206 (w : World) (n : Nat) (hn : n + 0 ≤ 9) (l : (List TableEntry)) (pl : Option Addr) (cl : Nat) (N0 : RdSl (hp w) pl cl l) (keepg : FuncId) (keepc : List Value) (keepq : TableEntry → Bool) (keepf : ∀ w1, Kp emp w w1 → ∀ (e0 : TableEntry) (x0 : GoT.X TableEntry), GoT.ok n e0 → All (hp w1) (GoT.fa .der e0 x0) → Does Tryz.prog keepg ([Value.agg ⟨GoT.sh e0 x0⟩] ++ keepc).toArray w1 emp (fun rv _ => rv = .bool (keepq e0) ∧ True)) (hokl : GoT.ok n l) :
 Does Tryz.prog 206 #[.slice pl ((l).length) cl, .func (.func keepg) #[] keepc.toArray] w emp (Post w emp (fun x : GoT.X ((List TableEntry)) => (GoT.sh ((a3m l keepq) : (List TableEntry)) x).headD undef) (fun x => GoT.oa ((a3m l keepq) : (List TableEntry)) x) (GoT.ok n ((a3m l keepq) : (List TableEntry)))) := by
 have hbP := bd_pos n
 have hbB := bd_big (n := n) (by omega)
 refine WX.enter (tt := tt) (Γ := [(0, MF.rs .stb pl cl l)]) Tryz.func206 Z J Z (allS_cons Z N0 allS_nil) ?_
 refine R0 ?_
 refine WX.bld ttOk Z Z Z Z Z Z Z ?_
 intro p1
 refine R0 ?_
 refine WX.free 1 (MF.ol [] ([] : List TableEntry)) Z ?_
 have r1 : (l).length ≤ bd n := (okl hokl).1
 refine WX.loop (ι := (Option Addr) × Nat × (List Value) × (List TableEntry) × Nat) ⟨fun | (pout, cout, xsout, out, i) => (i ≤ (l).length) ∧ (∀ z_ ∈ out, GoT.ok n z_) ∧ (out.length ≤ i) ∧ (a2d keepq l ([] : List TableEntry) = a2d keepq ((l).drop i) out), fun | (pout, cout, xsout, out, i) => (l).length - i, fun | (pout, cout, xsout, out, i) => [(5, .v (.slice pout ((out).length) cout)), (11, .v (.int .i64 (((i : Nat) : Int)))), (10, .v (.int .i64 ((((l).length : Nat) : Int)))), (9, .v (.slice pl ((l).length) cl)), (1, .v (.func (.func keepg) #[] keepc.toArray))], fun | (pout, cout, xsout, out, i) => [], fun | (pout, cout, xsout, out, i) => [(8, ⟨2, pout, (out).length, cout, xsout⟩)], fun | (pout, cout, xsout, out, i) => [(0, MF.rs .stb pl cl l), (1, MF.ol xsout (out : List TableEntry))]⟩ (p1, 0, [], ([] : List TableEntry), 0) ⟨(Nat.zero_le _), (fun a ha => by cases ha), (by simp), Z⟩
  (.cons Z (.cons Z (.cons Z (.cons Z (.cons Z (.nil)))))) .nil (.cons Z (.nil)) [0, 1] Z ?_
 rintro ⟨pout, cout, xsout, out, i⟩ hpre
 have hpre_ : (i ≤ (l).length) ∧ (∀ z_ ∈ out, GoT.ok n z_) ∧ (out.length ≤ i) ∧ (a2d keepq l ([] : List TableEntry) = a2d keepq ((l).drop i) out) := hpre
 clear hpre
 obtain ⟨v1, v2, v3, v4⟩ := hpre_
 refine R0 ?_
 refine WX.cases 12 Z (fun h1 => ?_) (fun h1 => ?_)
 ·skip
  have h1d := B.dt h1
  have e1i : i < (l).length := (by omega)
  obtain ⟨e1, e1h⟩ : ∃ e1, (l)[i]? = some e1 := ⟨_, List.getElem?_eq_getElem e1i⟩
  have ok1 : GoT.ok n e1 := (okl hokl).2 _ (List.mem_of_getElem? e1h)
  refine R0 ?_
  refine WX.idx 0 i ttOk Z Z Z Z Z Z Z Z Z Z e1i ?_
  rintro ad1 rfl
  refine WX.ldE 0 2 e1 ttOk Z Z Z Z Z Z Z Z e1h O O ?_
  rintro ⟨⟨p2, c1⟩, ⟨⟩⟩
  refine R0 ?_
  refine WX.callV Z Z Z Z Z O Z (fun w G bs hI hΓ => keepf w hI.keep e1 ((p2, c1), ()) ok1 (All.cons (hΓ.get 2 Z : RdSl _ _ _ _) All.nil)) ?_
  intro hq1
  refine R0 ?_
  refine WX.cases 17 Z (fun h2 => ?_) (fun h2 => ?_)
  ·skip
   refine R0 ?_
   refine WX.draw [8, 9] mixed ?_
   intro bs G0 hΓ0
   refine DX.takes (fuel := 5) ttOk [(0, true), (1, true), (2, false), (4, true), (5, false)] J Z ?_
   refine DX.callF 3 3 (fun _ _ h => GoT.ow_rd h) (fun _ f hf => GoT.fak f hf) Z J Z Z Z Z Z Z O Z (fun w G bs hI hΓ => f113 w n (by omega) e1.name p2 c1 (hΓ.get 2 Z) ((ok_TableEntry ok1).1)) O O ?_
   rintro ⟨p3, c2⟩ hq2
   refine DX.takes (fuel := 3) ttOk [(6, true)] J Z ?_
   refine DX.tail2 [7, 8, 9] Z Z J ?_
   refine WX.bld ttOk Z Z Z Z Z Z Z ?_
   intro p4
   refine WX.turn [4] 5 Z (fun h hs => ol_one (α := TableEntry) (a := (TableEntry.mk (a09 e1.name) e1.value)) (x := ((p3, c2), ())) hs) (gs := [MF.ol [.slice p3 (((a09 e1.name).parts).length) c2, .int .i64 (e1.value)] ([(TableEntry.mk (a09 e1.name) e1.value)] : List TableEntry)]) Z ?_
   have r2 : -9223372036854775808 ≤ e1.value ∧ e1.value ≤ 9223372036854775807 := (ok_TableEntry ok1).2
   refine WX.know (fun G hΓ => (hΓ.get 5 Z : OwL _ _ _).rd.one) ?_
   intro ho1
   refine WX.appR1 8 25 ((out ++ [(TableEntry.mk (a09 e1.name) e1.value)]) : List TableEntry).length ttOk Z Z Z Z Z Z Z Z Z Z Z Z Z ho1 (by simp) (by simp; omega) (by simp; omega) (fun _ _ => Z) ?_
   intro p5 c3
   refine WX.turn [1, 5] 6 Z (fun h hs => ol_app hs) (gs := [MF.ol (xsout ++ [.slice p3 (((a09 e1.name).parts).length) c2, .int .i64 (e1.value)]) ((out ++ [(TableEntry.mk (a09 e1.name) e1.value)]) : List TableEntry)]) Z ?_
   refine R0 ?_
   refine WX.see Z Z Z (fun _ hΓ => looks_arith Z Z Z Z (by unfold I64; first | omega | (simp only [List.length_take] at *; omega))) ?_
   refine R0 ?_
   refine WX.turn [6] 1 Z (fun _ h => h) Z ?_
   exact WX.iter (p5, c3, (xsout ++ [.slice p3 (((a09 e1.name).parts).length) c2, .int .i64 (e1.value)]), ((out ++ [(TableEntry.mk (a09 e1.name) e1.value)]) : List TableEntry), i + 1) ⟨(by omega), (all_app v2 (all_cons (α := TableEntry) (And.intro hq2 (ok_TableEntry ok1).2) (fun a ha => by cases ha))), (by first | assumption | omega | (simp; omega)), (by rw [v4, drop_get e1h]; simp only [a2d, h2, ct, cf])⟩ (by first | (dsimp only; omega) | omega) (.cons Z (.cons Z (.cons Z (.cons Z (.cons Z (.nil)))))) .nil (.cons Z (.nil)) [0, 1] Z
  refine R0 ?_
  refine WX.see Z Z Z (fun _ hΓ => looks_arith Z Z Z Z (by unfold I64; first | omega | (simp only [List.length_take] at *; omega))) ?_
  refine R0 ?_
  exact WX.iter (pout, cout, xsout, (out : List TableEntry), i + 1) ⟨(by omega), v2, (by first | assumption | omega | (simp; omega)), (by rw [v4, drop_get e1h]; simp only [a2d, h2, ct, cf])⟩ (by first | (dsimp only; omega) | omega) (.cons Z (.cons Z (.cons Z (.cons Z (.cons Z (.nil)))))) .nil (.cons Z (.nil)) [0, 1] Z
 have h1d := B.df h1
 refine R0 ?_
 have hX1 : a2d keepq l ([] : List TableEntry) = ((out) : List TableEntry) := by rw [v4, List.drop_eq_nil_of_le (show (l).length ≤ i by omega)]; simp only [a2d, ct, cf]
 refine WX.seal 8 1 7 Z Z Z Z Z ?_
 have hP1 : a3m l keepq = out := by simp only [a3m, hX1, ct, cf]
 refine R1 ?_
 intro w1 G bs hI hΓ
 rw [hP1]
 exact Post.of [8] (pout, cout) hI hΓ Z Z Z (okl_mk (by omega) v2 : GoT.ok n (out : List TableEntry))
theorem f137 (w : World) (n : Nat) (hn : n + 0 ≤ 9) (l : (List TableEntry)) (pl : Option Addr) (cl : Nat) (N0 : RdSl (hp w) pl cl l) (hokl : GoT.ok n l) :
 Does Tryz.prog 137 #[.slice pl ((l).length) cl] w emp (Post w emp (fun x : GoT.X ((List TableEntry)) => (GoT.sh ((a0a l) : (List TableEntry)) x).headD undef) (fun x => GoT.oa ((a0a l) : (List TableEntry)) x) (GoT.ok n ((a0a l) : (List TableEntry)))) := by
 have hbP := bd_pos n
 have hbB := bd_big (n := n) (by omega)
 refine WX.enter (tt := tt) (Γ := [(0, MF.rs .stb pl cl l)]) Tryz.func137 Z J Z (allS_cons Z N0 allS_nil) ?_
 refine R0 ?_
 refine WX.callF 1 (fun _ _ h => GoT.ow_rd h) (fun _ f hf => GoT.fak f hf) Z Z Z Z Z O Z (fun w G bs hI hΓ => f206 w n (by omega) l pl cl (hΓ.get 0 Z) 207 [] (fun e0_ => (a3l e0_)) (fun w1_ hb_ e0_ x0_ hk0_ hx0_ => f207 w1_ n (by omega) e0_ x0_.1.1 x0_.1.2 (hx0_ _ List.mem_cons_self) hk0_) hokl) O O ?_
 rintro ⟨p1, c1⟩ hq1
 refine R0 ?_
 have hP1 : a0a l = (a3m l (fun e0_ => (a3l e0_))) := by simp only [a0a, ct, cf]
 refine R1 ?_
 intro w1 G bs hI hΓ
 rw [hP1]
 exact Post.of [2] (p1, c1) hI hΓ Z Z Z hq1
theorem f191 (w : World) (n : Nat) (hn : n + 0 ≤ 9) (l : (List TableEntry)) (pl : Option Addr) (cl : Nat) (N0 : RdSl (hp w) pl cl l) (hokl : GoT.ok n l) :
 Does Tryz.prog 191 #[.slice pl ((l).length) cl] w emp (Post w emp (fun x : GoT.X ((List TableEntry)) => (GoT.sh ((a00 l) : (List TableEntry)) x).headD undef) (fun x => GoT.oa ((a00 l) : (List TableEntry)) x) (GoT.ok n ((a00 l) : (List TableEntry)))) := by
 have hbP := bd_pos n
 have hbB := bd_big (n := n) (by omega)
 refine WX.enter (tt := tt) (Γ := [(0, MF.rs .stb pl cl l)]) Tryz.func191 Z J Z (allS_cons Z N0 allS_nil) ?_
 refine R0 ?_
 refine WX.bld ttOk Z Z Z Z Z Z Z ?_
 intro p1
 refine R0 ?_
 refine WX.free 1 (MF.ol [] ([] : List TableEntry)) Z ?_
 have r1 : (l).length ≤ bd n := (okl hokl).1
 refine WX.loop (ι := (Option Addr) × Nat × (List Value) × (List TableEntry) × Nat) ⟨fun | (pout, cout, xsout, out, i) => (i ≤ (l).length) ∧ (∀ z_ ∈ out, GoT.ok n z_) ∧ (out.length ≤ i) ∧ (a2x l ([] : List TableEntry) = a2x ((l).drop i) out), fun | (pout, cout, xsout, out, i) => (l).length - i, fun | (pout, cout, xsout, out, i) => [(3, .v (.slice pout ((out).length) cout)), (4, .v (.int .i64 (((i : Nat) : Int)))), (0, .v (.slice pl ((l).length) cl))], fun | (pout, cout, xsout, out, i) => [], fun | (pout, cout, xsout, out, i) => [(6, ⟨2, pout, (out).length, cout, xsout⟩)], fun | (pout, cout, xsout, out, i) => [(0, MF.rs .stb pl cl l), (1, MF.ol xsout (out : List TableEntry))]⟩ (p1, 0, [], ([] : List TableEntry), 0) ⟨(Nat.zero_le _), (fun a ha => by cases ha), (by simp), Z⟩
  (.cons Z (.cons Z (.cons Z (.nil)))) .nil (.cons Z (.nil)) [0, 1] Z ?_
 rintro ⟨pout, cout, xsout, out, i⟩ hpre
 have hpre_ : (i ≤ (l).length) ∧ (∀ z_ ∈ out, GoT.ok n z_) ∧ (out.length ≤ i) ∧ (a2x l ([] : List TableEntry) = a2x ((l).drop i) out) := hpre
 clear hpre
 obtain ⟨v1, v2, v3, v4⟩ := hpre_
 refine R0 ?_
 refine WX.cases 10 Z (fun h1 => ?_) (fun h1 => ?_)
 ·skip
  have h1d := B.dt h1
  have e1i : i < (l).length := (by omega)
  obtain ⟨e1, e1h⟩ : ∃ e1, (l)[i]? = some e1 := ⟨_, List.getElem?_eq_getElem e1i⟩
  have ok1 : GoT.ok n e1 := (okl hokl).2 _ (List.mem_of_getElem? e1h)
  refine R0 ?_
  refine WX.idx 0 i ttOk Z Z Z Z Z Z Z Z Z Z e1i ?_
  rintro ad1 rfl
  refine R0 ?_
  refine WX.ldE 0 2 e1 ttOk Z Z Z Z Z Z Z Z e1h O O ?_
  rintro ⟨⟨p2, c1⟩, ⟨⟩⟩
  refine WX.callF 3 (fun _ _ h => GoT.ow_rd h) (fun _ f hf => GoT.fak f hf) Z Z Z Z Z O Z (fun w G bs hI hΓ => f118 w n (by omega) e1.name p2 c1 (hΓ.get 2 Z) ((ok_TableEntry ok1).1)) O O ?_
  rintro ⟨p3, c2⟩ hq1
  refine R0 ?_
  refine WX.draw [9, 10] mixed ?_
  intro bs G0 hΓ0
  refine DX.takes (fuel := 7) ttOk [(0, true), (1, false), (2, true), (3, true)] J Z ?_
  refine DX.idx 4 0 i ttOk hΓ0 J Z Z Z Z Z Z Z Z Z Z Z e1i ?_
  rintro ad2 ⟨⟩
  refine DX.takes (fuel := 5) ttOk [(5, true)] J Z ?_
  refine DX.ldE 6 0 5 e1 ttOk hΓ0 J Z Z Z Z Z Z Z Z e1h O O ?_
  rintro ⟨⟨p4, c3⟩, ⟨⟩⟩
  refine DX.takes (fuel := 3) ttOk [(7, true)] J Z ?_
  refine DX.tail2 [8, 9, 10] Z Z J ?_
  refine WX.bld ttOk Z Z Z Z Z Z Z ?_
  intro p5
  refine WX.turn [4] 6 Z (fun h hs => ol_one (α := TableEntry) (a := (TableEntry.mk (a02 e1.name) e1.value)) (x := ((p3, c2), ())) hs) (gs := [MF.ol [.slice p3 (((a02 e1.name).parts).length) c2, .int .i64 (e1.value)] ([(TableEntry.mk (a02 e1.name) e1.value)] : List TableEntry)]) Z ?_
  have r2 : -9223372036854775808 ≤ e1.value ∧ e1.value ≤ 9223372036854775807 := (ok_TableEntry ok1).2
  refine WX.know (fun G hΓ => (hΓ.get 6 Z : OwL _ _ _).rd.one) ?_
  intro ho1
  refine WX.appR1 6 27 ((out ++ [(TableEntry.mk (a02 e1.name) e1.value)]) : List TableEntry).length ttOk Z Z Z Z Z Z Z Z Z Z Z Z Z ho1 (by simp) (by simp; omega) (by simp; omega) (fun _ _ => Z) ?_
  intro p6 c4
  refine WX.turn [1, 6] 7 Z (fun h hs => ol_app hs) (gs := [MF.ol (xsout ++ [.slice p3 (((a02 e1.name).parts).length) c2, .int .i64 (e1.value)]) ((out ++ [(TableEntry.mk (a02 e1.name) e1.value)]) : List TableEntry)]) Z ?_
  refine R0 ?_
  refine WX.see Z Z Z (fun _ hΓ => looks_arith Z Z Z Z (by unfold I64; first | omega | (simp only [List.length_take] at *; omega))) ?_
  refine R0 ?_
  refine WX.turn [7] 1 Z (fun _ h => h) Z ?_
  exact WX.iter (p6, c4, (xsout ++ [.slice p3 (((a02 e1.name).parts).length) c2, .int .i64 (e1.value)]), ((out ++ [(TableEntry.mk (a02 e1.name) e1.value)]) : List TableEntry), i + 1) ⟨(by omega), (all_app v2 (all_cons (α := TableEntry) (And.intro hq1 (ok_TableEntry ok1).2) (fun a ha => by cases ha))), (by first | assumption | omega | (simp; omega)), (by rw [v4, drop_get e1h]; simp only [a2x, ct, cf])⟩ (by first | (dsimp only; omega) | omega) (.cons Z (.cons Z (.cons Z (.nil)))) .nil (.cons Z (.nil)) [0, 1] Z
 have h1d := B.df h1
 refine R0 ?_
 have hX1 : a2x l ([] : List TableEntry) = ((out) : List TableEntry) := by rw [v4, List.drop_eq_nil_of_le (show (l).length ≤ i by omega)]; simp only [a2x, ct, cf]
 refine WX.seal 6 1 8 Z Z Z Z Z ?_
 have hP1 : a00 l = out := by simp only [a00, hX1, ct, cf]
 refine R1 ?_
 intro w1 G bs hI hΓ
 rw [hP1]
 exact Post.of [9] (pout, cout) hI hΓ Z Z Z (okl_mk (by omega) v2 : GoT.ok n (out : List TableEntry))
theorem f187 (w : World) (n : Nat) (hn : n + 0 ≤ 9) (e_ : TableEntry) (K0 : Option Addr) (M0 : Nat) (N0 : RdSl (hp w) K0 M0 e_.name.parts) (n_ : Name) (bn_ : Addr) (hn_ : RdSl (hp w) (some bn_) 1 [n_]) (hoke_ : GoT.ok n e_) (hokn_ : GoT.ok n n_) :
 Does Tryz.prog 187 #[.agg #[.slice K0 ((e_.name.parts).length) M0, .int .i64 (e_.value)], .pointer (some bn_)] w emp (fun (rv : Value) (_ : World) => rv = .bool (a1g n_ e_) ∧ True) := by
 have hbP := bd_pos n
 have hbB := bd_big (n := n) (by omega)
 refine WX.enter (tt := tt) (Γ := [(0, MF.rs .stb K0 M0 e_.name.parts), (1, MF.rs .stb (some bn_) 1 ([n_]))]) Tryz.func187 Z J Z (allS_cons Z N0 (allS_cons Z hn_ allS_nil)) ?_
 have n_h : ([n_] : List Name)[0]? = some n_ := rfl
 refine WX.slot 1 (y := .e (some bn_) 0 1 0) Z (fun _ => cap_eq) ?_
 refine R0 ?_
 refine WX.ldE 1 2 n_ ttOk Z Z Z Z Z Z Z Z n_h O O ?_
 rintro ⟨p1, c1⟩
 refine WX.callV Z Z Z Z Z O Z (fun w G bs hI hΓ => f188 w n (by omega) e_.name K0 M0 (hΓ.get 0 Z) n_ p1 c1 (hΓ.get 2 Z) ((ok_TableEntry hoke_).1) hokn_) ?_
 intro hq1
 refine R0 ?_
 have hP1 : a1g n_ e_ = (decide ((a3f e_.name n_) > 0)) := by simp only [a1g, ct, cf]
 exact R3 hP1
theorem f115 (w : World) (n : Nat) (hn : n + 1 ≤ 9) (l : (List TableEntry)) (pl : Option Addr) (cl : Nat) (N0 : RdSl (hp w) pl cl l) (n_ : Name) (K1 : Option Addr) (M1 : Nat) (N1 : RdSl (hp w) K1 M1 n_.parts) (v : Int) (hokl : GoT.ok n l) (hokn_ : GoT.ok n n_) (hokv : GoT.ok n v) :
 Does Tryz.prog 115 #[.slice pl ((l).length) cl, .agg #[.slice K1 ((n_.parts).length) M1], .int .i64 (v)] w emp (Post w emp (fun x : GoT.X ((List TableEntry)) => .tuple #[(GoT.sh ((a0x l n_ v).1 : (List TableEntry)) x).headD undef, .bool ((a0x l n_ v).2)]) (fun x => GoT.oa ((a0x l n_ v).1 : (List TableEntry)) x) (GoT.ok (n + 1) ((a0x l n_ v).1 : (List TableEntry)))) := by
 have hbP := bd_pos n
 have hbS0 : bd (n + 1) = 4 * bd (n) := bd_succ (n := n) (by omega)
 have hbB := bd_big (n := (n + 1)) (by omega)
 have hbM := bd_mono (show n ≤ n + 1 by omega)
 refine WX.enter (tt := tt) (Γ := [(0, MF.rs .stb pl cl l), (1, MF.rs .stb K1 M1 n_.parts)]) Tryz.func115 Z J Z (allS_cons Z N0 (allS_cons Z N1 allS_nil)) ?_
 refine R0 ?_
 refine WX.callF 2 (fun _ _ h => GoT.ow_rd h) (fun _ f hf => GoT.fak f hf) Z Z Z Z Z O Z (fun w G bs hI hΓ => f137 w n (by omega) l pl cl (hΓ.get 0 Z) hokl) O O ?_
 rintro ⟨p1, c1⟩ hq1
 have q1 := len_copyTable l
 refine R0 ?_
 refine WX.callV Z Z Z Z Z O Z (fun w G bs hI hΓ => f185 w n (by omega) l pl cl (hΓ.get 0 Z) n_ K1 M1 (hΓ.get 1 Z) hokl hokn_) ?_
 intro hq2
 have q2 := lt_indexOfName l n_
 refine R0 ?_
 refine WX.cases 16 Z (fun h1 => ?_) (fun h1 => ?_)
 ·skip
  have h1d := B.dt h1
  refine R0 ?_
  have r1 : (l).length ≤ bd n := (okl hokl).1
  have r2 : -9223372036854775808 ≤ (a0i l n_) ∧ (a0i l n_) ≤ 9223372036854775807 := hq2
  refine WX.slot 18 (y := .v (.int .i64 ((((a0i l n_)).toNat : Nat) : Int))) Z (fun _ => congrArg (Value.int .i64) (show (a0i l n_) = ((((a0i l n_)).toNat : Nat) : Int) from by omega)) ?_
  refine WX.opn (kk := 2) 501 3 4 Z Z Z ?_
  intro xs1 hx1
  have hr1 : ((a0i l n_)).toNat < ((a0a l)).length := (by first | assumption | omega)
  refine WX.idxR 501 (((a0i l n_)).toNat) ttOk Z Z Z Z Z Z Z Z Z hr1 ?_
  rintro ad1 rfl
  refine R0 ?_
  have e1i : ((a0i l n_)).toNat < ((a0a l)).length := (by first | assumption | omega)
  obtain ⟨e1, e1h⟩ : ∃ e1, ((a0a l))[((a0i l n_)).toNat]? = some e1 := ⟨_, List.getElem?_eq_getElem e1i⟩
  have ok1 : GoT.ok n e1 := (okl hq1).2 _ (List.mem_of_getElem? e1h)
  refine WX.opnE (α := TableEntry) (e := e1) 501 4 5 (((a0i l n_)).toNat) Z Z Z e1h O (fun _ _ _ => Z) (fun _ _ _ => Z) ?_
  rintro A1 B1 ⟨⟨p2, c2⟩, ⟨⟩⟩ hA1 hB1
  refine WX.stA 501 ttOk Z Z Z Z Z Z Z Z Z Z Z Z Z Z hA1 hr1 Z Z Z Z (by simp) Z ?_
  refine R0 ?_
  refine WX.turn [6, 7, 8] 9 Z (fun h hs => cl_elem (α := TableEntry) (e := (TableEntry.mk e1.name v)) (x := ((p2, c2), ())) e1i hs) (gs := [MF.ol (A1 ++ [.slice p2 ((e1.name.parts).length) c2, .int .i64 (v)] ++ B1) ((a0a l).set (((a0i l n_)).toNat) (TableEntry.mk e1.name v))]) Z ?_
  refine WX.seal 501 9 10 Z Z (show ((a0a l)).length = (((a0a l).set (((a0i l n_)).toNat) (TableEntry.mk e1.name v))).length from by first | (simp; done) | (simp; omega)) Z Z ?_
  refine WX.slot 37 (y := .v (.slice (some ad1) (((a0a l).set (((a0i l n_)).toNat) (TableEntry.mk e1.name v))).length c1)) Z (fun _ => by show (Value.slice (some ad1) (((a0a l)).length) c1 : Value) = Value.slice (some ad1) (((a0a l).set (((a0i l n_)).toNat) (TableEntry.mk e1.name v))).length c1; rw [(show ((a0a l)).length = (((a0a l).set (((a0i l n_)).toNat) (TableEntry.mk e1.name v))).length from by first | (simp; done) | (simp; omega))]) ?_
  refine WX.slot 17 (y := .v (.slice (some ad1) (((a0a l).set (((a0i l n_)).toNat) (TableEntry.mk e1.name v))).length c1)) Z (fun _ => by show (Value.slice (some ad1) (((a0a l)).length) c1 : Value) = Value.slice (some ad1) (((a0a l).set (((a0i l n_)).toNat) (TableEntry.mk e1.name v))).length c1; rw [(show ((a0a l)).length = (((a0a l).set (((a0i l n_)).toNat) (TableEntry.mk e1.name v))).length from by first | (simp; done) | (simp; omega))]) ?_
  refine WX.slot 8 (y := .v (.slice (some ad1) (((a0a l).set (((a0i l n_)).toNat) (TableEntry.mk e1.name v))).length c1)) Z (fun _ => by show (Value.slice (some ad1) (((a0a l)).length) c1 : Value) = Value.slice (some ad1) (((a0a l).set (((a0i l n_)).toNat) (TableEntry.mk e1.name v))).length c1; rw [(show ((a0a l)).length = (((a0a l).set (((a0i l n_)).toNat) (TableEntry.mk e1.name v))).length from by first | (simp; done) | (simp; omega))]) ?_
  refine WX.slot 11 (y := .v (.slice (some ad1) (((a0a l).set (((a0i l n_)).toNat) (TableEntry.mk e1.name v))).length c1)) Z (fun _ => by show (Value.slice (some ad1) (((a0a l)).length) c1 : Value) = Value.slice (some ad1) (((a0a l).set (((a0i l n_)).toNat) (TableEntry.mk e1.name v))).length c1; rw [(show ((a0a l)).length = (((a0a l).set (((a0i l n_)).toNat) (TableEntry.mk e1.name v))).length from by first | (simp; done) | (simp; omega))]) ?_
  have r3 : -9223372036854775808 ≤ v ∧ v ≤ 9223372036854775807 := hokv
  have r4 : (a0a l).length ≤ bd n := (okl hq1).1
  refine WX.callV Z Z Z Z Z O Z (fun w G bs hI hΓ => f190 w n (by omega) ((a0a l).set (((a0i l n_)).toNat) (TableEntry.mk e1.name v)) (some ad1) c1 (hΓ.get 10 Z) (okl_mk (by simp; omega) (all_set (okl hq1).2 (show GoT.ok n ((TableEntry.mk e1.name v) : TableEntry) from (And.intro (ok_TableEntry ok1).1 hokv))) : GoT.ok n (((a0a l).set (((a0i l n_)).toNat) (TableEntry.mk e1.name v)) : List TableEntry))) ?_
  intro hq3
  refine R0 ?_
  refine WX.cases 39 Z (fun h2 => ?_) (fun h2 => ?_)
  ·skip
   have h2d := (B.nt h2)
   refine R0 ?_
   refine WX.callF 12 (fun _ _ h => GoT.ow_rd h) (fun _ f hf => GoT.fak f hf) Z Z Z Z Z O Z (fun w G bs hI hΓ => f137 w n (by omega) l pl cl (hΓ.get 0 Z) hokl) O O ?_
   rintro ⟨p3, c3⟩ hq4
   have q3 := len_copyTable l
   refine R0 ?_
   have hP1 : a0x l n_ v = (a0a l, false) := by simp only [a0x, h1, e1h, h2, ct, cf]
   refine R1 ?_
   intro w1 G bs hI hΓ
   rw [hP1]
   exact Post.of [13] (p3, c3) hI hΓ Z Z Z (GoT.okm (α := List TableEntry) (by omega) hq4)
  have h2d := (B.nf h2)
  refine R0 ?_
  have hP2 : a0x l n_ v = ((a0a l).set (((a0i l n_)).toNat) (TableEntry.mk e1.name v), true) := by simp only [a0x, h1, e1h, h2, ct, cf]
  refine R1 ?_
  intro w1 G bs hI hΓ
  rw [hP2]
  exact Post.of [11] ((some ad1), c1) hI hΓ Z Z Z (okl_mk (by simp; omega) (fun a ha => GoT.okm (by omega) ((all_set (okl hq1).2 (show GoT.ok n ((TableEntry.mk e1.name v) : TableEntry) from (And.intro (ok_TableEntry ok1).1 hokv))) a ha)) : GoT.ok (n + 1) (((a0a l).set (((a0i l n_)).toNat) (TableEntry.mk e1.name v)) : List TableEntry))
 have h1d := B.df h1
 refine R0 ?_
 refine WX.callV Z Z Z Z Z O Z (fun w G bs hI hΓ => f186 w n (by omega) l pl cl (hΓ.get 0 Z) 187 [Value.pointer (some ⟨bs 4, 0, none⟩)] (fun e0_ => (a1g n_ e0_)) (fun w1_ hb_ e0_ x0_ hk0_ hx0_ => f187 w1_ n (by omega) e0_ x0_.1.1 x0_.1.2 (hx0_ _ List.mem_cons_self) n_ ⟨bs 4, 0, none⟩ ((rd_box (α := Name) (a := n_) (x := (K1, M1)) (hI.loc 4 _ Z).1 (All.cons (hΓ.get 1 Z : RdSl _ _ _ _) All.nil)).mono (kp_le hb_)) hk0_ hokn_) hokl) ?_
 intro hq5
 have q4 := ltI_slices_IndexFunc_TableEntry l (fun e0_ => (a1g n_ e0_))
 refine R0 ?_
 refine WX.cases 26 Z (fun h3 => ?_) (fun h3 => ?_)
 ·skip
  have h3d := B.dt h3
  refine R0 ?_
  refine WX.callF 14 (fun _ _ h => GoT.ow_rd h) (fun _ f hf => GoT.fak f hf) Z Z Z Z Z O Z (fun w G bs hI hΓ => f113 w n (by omega) n_ K1 M1 (hΓ.get 1 Z) hokn_) O O ?_
  rintro ⟨p4, c4⟩ hq6
  refine R0 ?_
  refine WX.bld ttOk Z Z Z Z Z Z Z ?_
  intro p5
  refine WX.turn [15] 16 Z (fun h hs => ol_one (α := TableEntry) (a := (TableEntry.mk (a09 n_) v)) (x := ((p4, c4), ())) hs) (gs := [MF.ol [.slice p4 (((a09 n_).parts).length) c4, .int .i64 (v)] ([(TableEntry.mk (a09 n_) v)] : List TableEntry)]) Z ?_
  refine WX.seal 35 16 17 Z Z Z Z Z ?_
  have r5 : (l).length ≤ bd n := (okl hokl).1
  have r6 : -9223372036854775808 ≤ v ∧ v ≤ 9223372036854775807 := hokv
  refine WX.callN [3, 18] 19 Z (fun _ _ h => GoT.ow_rd h) (fun _ f hf => GoT.fak f hf) Z Z Z Z Z O Z (fun w G bs H hI hHG hH hs hΓ => f189 w n (by omega) (a0a l) p1 c1 (((l).length : Nat) : Int) ([(TableEntry.mk (a09 n_) v)]) p5 1 H hH hs ⟨by omega, by omega⟩ (by simp) hq1 (show I64 (((l).length : Nat) : Int) from (by unfold I64; omega)) (okl_mk (by simp; omega) (all_cons (α := TableEntry) (And.intro hq6 hokv) (fun a ha => by cases ha)) : GoT.ok n ([(TableEntry.mk (a09 n_) v)] : List TableEntry))) O O ?_
  rintro ⟨p6, c5⟩ hq7
  have q5 := len_slices_Insert_TableEntry (a0a l) (((l).length : Nat) : Int) ([(TableEntry.mk (a09 n_) v)])
  refine R0 ?_
  refine WX.callV Z Z Z Z Z O Z (fun w G bs hI hΓ => f190 w (n + 1) (by omega) (slices_Insert_TableEntry (a0a l) (((l).length : Nat) : Int) ([(TableEntry.mk (a09 n_) v)])) p6 c5 (hΓ.get 19 Z) hq7) ?_
  intro hq8
  refine R0 ?_
  refine WX.cases 39 Z (fun h4 => ?_) (fun h4 => ?_)
  ·skip
   have h4d := (B.nt h4)
   refine R0 ?_
   refine WX.callF 21 (fun _ _ h => GoT.ow_rd h) (fun _ f hf => GoT.fak f hf) Z Z Z Z Z O Z (fun w G bs hI hΓ => f137 w n (by omega) l pl cl (hΓ.get 0 Z) hokl) O O ?_
   rintro ⟨p7, c6⟩ hq9
   have q6 := len_copyTable l
   refine R0 ?_
   have hP3 : a0x l n_ v = (a0a l, false) := by simp only [a0x, h1, h3, h4, ct, cf]
   refine R1 ?_
   intro w1 G bs hI hΓ
   rw [hP3]
   exact Post.of [22] (p7, c6) hI hΓ Z Z Z (GoT.okm (α := List TableEntry) (by omega) hq9)
  have h4d := (B.nf h4)
  refine R0 ?_
  have hP4 : a0x l n_ v = (slices_Insert_TableEntry (a0a l) (((l).length : Nat) : Int) ([(TableEntry.mk (a09 n_) v)]), true) := by simp only [a0x, h1, h3, h4, ct, cf]
  refine R1 ?_
  intro w1 G bs hI hΓ
  rw [hP4]
  exact Post.of [20] (p6, c5) hI hΓ Z Z Z hq7
 have h3d := B.df h3
 refine R0 ?_
 refine WX.callF 23 (fun _ _ h => GoT.ow_rd h) (fun _ f hf => GoT.fak f hf) Z Z Z Z Z O Z (fun w G bs hI hΓ => f113 w n (by omega) n_ K1 M1 (hΓ.get 1 Z) hokn_) O O ?_
 rintro ⟨p8, c7⟩ hq10
 refine R0 ?_
 refine WX.bld ttOk Z Z Z Z Z Z Z ?_
 intro p9
 refine WX.turn [24] 25 Z (fun h hs => ol_one (α := TableEntry) (a := (TableEntry.mk (a09 n_) v)) (x := ((p8, c7), ())) hs) (gs := [MF.ol [.slice p8 (((a09 n_).parts).length) c7, .int .i64 (v)] ([(TableEntry.mk (a09 n_) v)] : List TableEntry)]) Z ?_
 refine WX.seal 35 25 26 Z Z Z Z Z ?_
 have r7 : -9223372036854775808 ≤ v ∧ v ≤ 9223372036854775807 := hokv
 refine WX.callN [3, 27] 28 Z (fun _ _ h => GoT.ow_rd h) (fun _ f hf => GoT.fak f hf) Z Z Z Z Z O Z (fun w G bs H hI hHG hH hs hΓ => f189 w n (by omega) (a0a l) p1 c1 (slices_IndexFunc_TableEntry l (fun e0_ => (a1g n_ e0_))) ([(TableEntry.mk (a09 n_) v)]) p9 1 H hH hs ⟨by omega, by omega⟩ (by simp) hq1 hq5 (okl_mk (by simp; omega) (all_cons (α := TableEntry) (And.intro hq10 hokv) (fun a ha => by cases ha)) : GoT.ok n ([(TableEntry.mk (a09 n_) v)] : List TableEntry))) O O ?_
 rintro ⟨p10, c8⟩ hq11
 have q7 := len_slices_Insert_TableEntry (a0a l) (slices_IndexFunc_TableEntry l (fun e0_ => (a1g n_ e0_))) ([(TableEntry.mk (a09 n_) v)])
 refine R0 ?_
 refine WX.callV Z Z Z Z Z O Z (fun w G bs hI hΓ => f190 w (n + 1) (by omega) (slices_Insert_TableEntry (a0a l) (slices_IndexFunc_TableEntry l (fun e0_ => (a1g n_ e0_))) ([(TableEntry.mk (a09 n_) v)])) p10 c8 (hΓ.get 28 Z) hq11) ?_
 intro hq12
 refine R0 ?_
 refine WX.cases 39 Z (fun h5 => ?_) (fun h5 => ?_)
 ·skip
  have h5d := (B.nt h5)
  refine R0 ?_
  refine WX.callF 30 (fun _ _ h => GoT.ow_rd h) (fun _ f hf => GoT.fak f hf) Z Z Z Z Z O Z (fun w G bs hI hΓ => f137 w n (by omega) l pl cl (hΓ.get 0 Z) hokl) O O ?_
  rintro ⟨p11, c9⟩ hq13
  have q8 := len_copyTable l
  refine R0 ?_
  have hP5 : a0x l n_ v = (a0a l, false) := by simp only [a0x, h1, h3, h5, ct, cf]
  refine R1 ?_
  intro w1 G bs hI hΓ
  rw [hP5]
  exact Post.of [31] (p11, c9) hI hΓ Z Z Z (GoT.okm (α := List TableEntry) (by omega) hq13)
 have h5d := (B.nf h5)
 refine R0 ?_
 have hP6 : a0x l n_ v = (slices_Insert_TableEntry (a0a l) (slices_IndexFunc_TableEntry l (fun e0_ => (a1g n_ e0_))) ([(TableEntry.mk (a09 n_) v)]), true) := by simp only [a0x, h1, h3, h5, ct, cf]
 refine R1 ?_
 intro w1 G bs hI hΓ
 rw [hP6]
 exact Post.of [29] (p10, c8) hI hΓ Z Z Z hq11
theorem f117 (w : World) (n : Nat) (hn : n + 3 ≤ 9) (l : (List TableEntry)) (pl : Option Addr) (cl : Nat) (N0 : RdSl (hp w) pl cl l) (n_ : Name) (K1 : Option Addr) (M1 : Nat) (N1 : RdSl (hp w) K1 M1 n_.parts) (v : Int) (hokl : GoT.ok n l) (hokn_ : GoT.ok n n_) (hokv : GoT.ok n v) :
 Does Tryz.prog 117 #[.slice pl ((l).length) cl, .agg #[.slice K1 ((n_.parts).length) M1], .int .i64 (v)] w emp (Post w emp (fun x : GoT.X ((List TableEntry)) => .tuple #[(GoT.sh ((a03 l n_ v).1 : (List TableEntry)) x).headD undef, .bool ((a03 l n_ v).2)]) (fun x => GoT.oa ((a03 l n_ v).1 : (List TableEntry)) x) (GoT.ok (n + 3) ((a03 l n_ v).1 : (List TableEntry)))) := by
 have hbP := bd_pos n
 have hbS0 : bd (n + 1) = 4 * bd (n) := bd_succ (n := n) (by omega)
 have hbS1 : bd (n + 2) = 4 * bd (n + 1) := bd_succ (n := n + 1) (by omega)
 have hbS2 : bd (n + 3) = 4 * bd (n + 2) := bd_succ (n := n + 2) (by omega)
 have hbB := bd_big (n := (n + 3)) (by omega)
 have hbM := bd_mono (show n ≤ n + 3 by omega)
 refine WX.enter (tt := tt) (Γ := [(0, MF.rs .stb pl cl l), (1, MF.rs .stb K1 M1 n_.parts)]) Tryz.func117 Z J Z (allS_cons Z N0 (allS_cons Z N1 allS_nil)) ?_
 refine R0 ?_
 refine WX.callF 2 (fun _ _ h => GoT.ow_rd h) (fun _ f hf => GoT.fak f hf) Z Z Z Z Z O Z (fun w G bs hI hΓ => f191 w n (by omega) l pl cl (hΓ.get 0 Z) hokl) O O ?_
 rintro ⟨p1, c1⟩ hq1
 have q1 := len_l6Copy l
 refine R0 ?_
 refine WX.callV Z Z Z Z Z O Z (fun w G bs hI hΓ => f192 w n (by omega) l pl cl (hΓ.get 0 Z) n_ K1 M1 (hΓ.get 1 Z) hokl hokn_) ?_
 intro hq2
 have q2 := lt_l6Find l n_
 refine R0 ?_
 refine WX.cases 17 Z (fun h1 => ?_) (fun h1 => ?_)
 ·skip
  have h1d := B.dt h1
  refine R0 ?_
  have r1 : (l).length ≤ bd n := (okl hokl).1
  have r2 : -9223372036854775808 ≤ (a0c l n_) ∧ (a0c l n_) ≤ 9223372036854775807 := hq2
  refine WX.slot 19 (y := .v (.int .i64 ((((a0c l n_)).toNat : Nat) : Int))) Z (fun _ => congrArg (Value.int .i64) (show (a0c l n_) = ((((a0c l n_)).toNat : Nat) : Int) from by omega)) ?_
  refine WX.opn (kk := 2) 501 3 4 Z Z Z ?_
  intro xs1 hx1
  have hr1 : ((a0c l n_)).toNat < ((a00 l)).length := (by first | assumption | omega)
  refine WX.idxR 501 (((a0c l n_)).toNat) ttOk Z Z Z Z Z Z Z Z Z hr1 ?_
  rintro ad1 rfl
  refine R0 ?_
  have e1i : ((a0c l n_)).toNat < ((a00 l)).length := (by first | assumption | omega)
  obtain ⟨e1, e1h⟩ : ∃ e1, ((a00 l))[((a0c l n_)).toNat]? = some e1 := ⟨_, List.getElem?_eq_getElem e1i⟩
  have ok1 : GoT.ok n e1 := (okl hq1).2 _ (List.mem_of_getElem? e1h)
  refine WX.opnE (α := TableEntry) (e := e1) 501 4 5 (((a0c l n_)).toNat) Z Z Z e1h O (fun _ _ _ => Z) (fun _ _ _ => Z) ?_
  rintro A1 B1 ⟨⟨p2, c2⟩, ⟨⟩⟩ hA1 hB1
  refine WX.stA 501 ttOk Z Z Z Z Z Z Z Z Z Z Z Z Z Z hA1 hr1 Z Z Z Z (by simp) Z ?_
  refine R0 ?_
  refine WX.turn [6, 7, 8] 9 Z (fun h hs => cl_elem (α := TableEntry) (e := (TableEntry.mk e1.name v)) (x := ((p2, c2), ())) e1i hs) (gs := [MF.ol (A1 ++ [.slice p2 ((e1.name.parts).length) c2, .int .i64 (v)] ++ B1) ((a00 l).set (((a0c l n_)).toNat) (TableEntry.mk e1.name v))]) Z ?_
  refine WX.seal 501 9 10 Z Z (show ((a00 l)).length = (((a00 l).set (((a0c l n_)).toNat) (TableEntry.mk e1.name v))).length from by first | (simp; done) | (simp; omega)) Z Z ?_
  refine WX.slot 55 (y := .v (.slice (some ad1) (((a00 l).set (((a0c l n_)).toNat) (TableEntry.mk e1.name v))).length c1)) Z (fun _ => by show (Value.slice (some ad1) (((a00 l)).length) c1 : Value) = Value.slice (some ad1) (((a00 l).set (((a0c l n_)).toNat) (TableEntry.mk e1.name v))).length c1; rw [(show ((a00 l)).length = (((a00 l).set (((a0c l n_)).toNat) (TableEntry.mk e1.name v))).length from by first | (simp; done) | (simp; omega))]) ?_
  refine WX.slot 18 (y := .v (.slice (some ad1) (((a00 l).set (((a0c l n_)).toNat) (TableEntry.mk e1.name v))).length c1)) Z (fun _ => by show (Value.slice (some ad1) (((a00 l)).length) c1 : Value) = Value.slice (some ad1) (((a00 l).set (((a0c l n_)).toNat) (TableEntry.mk e1.name v))).length c1; rw [(show ((a00 l)).length = (((a00 l).set (((a0c l n_)).toNat) (TableEntry.mk e1.name v))).length from by first | (simp; done) | (simp; omega))]) ?_
  refine WX.slot 8 (y := .v (.slice (some ad1) (((a00 l).set (((a0c l n_)).toNat) (TableEntry.mk e1.name v))).length c1)) Z (fun _ => by show (Value.slice (some ad1) (((a00 l)).length) c1 : Value) = Value.slice (some ad1) (((a00 l).set (((a0c l n_)).toNat) (TableEntry.mk e1.name v))).length c1; rw [(show ((a00 l)).length = (((a00 l).set (((a0c l n_)).toNat) (TableEntry.mk e1.name v))).length from by first | (simp; done) | (simp; omega))]) ?_
  refine WX.slot 12 (y := .v (.slice (some ad1) (((a00 l).set (((a0c l n_)).toNat) (TableEntry.mk e1.name v))).length c1)) Z (fun _ => by show (Value.slice (some ad1) (((a00 l)).length) c1 : Value) = Value.slice (some ad1) (((a00 l).set (((a0c l n_)).toNat) (TableEntry.mk e1.name v))).length c1; rw [(show ((a00 l)).length = (((a00 l).set (((a0c l n_)).toNat) (TableEntry.mk e1.name v))).length from by first | (simp; done) | (simp; omega))]) ?_
  have r3 : -9223372036854775808 ≤ v ∧ v ≤ 9223372036854775807 := hokv
  have r4 : (a00 l).length ≤ bd n := (okl hq1).1
  refine WX.callV Z Z Z Z Z O Z (fun w G bs hI hΓ => f194 w n (by omega) ((a00 l).set (((a0c l n_)).toNat) (TableEntry.mk e1.name v)) (some ad1) c1 (hΓ.get 10 Z) (okl_mk (by simp; omega) (all_set (okl hq1).2 (show GoT.ok n ((TableEntry.mk e1.name v) : TableEntry) from (And.intro (ok_TableEntry ok1).1 hokv))) : GoT.ok n (((a00 l).set (((a0c l n_)).toNat) (TableEntry.mk e1.name v)) : List TableEntry))) ?_
  intro hq3
  refine R0 ?_
  refine WX.cases 57 Z (fun h2 => ?_) (fun h2 => ?_)
  ·skip
   have h2d := (B.nt h2)
   refine R0 ?_
   refine WX.callF 12 (fun _ _ h => GoT.ow_rd h) (fun _ f hf => GoT.fak f hf) Z Z Z Z Z O Z (fun w G bs hI hΓ => f191 w n (by omega) l pl cl (hΓ.get 0 Z) hokl) O O ?_
   rintro ⟨p3, c3⟩ hq4
   have q3 := len_l6Copy l
   refine R0 ?_
   have hP1 : a03 l n_ v = (a00 l, false) := by simp only [a03, h1, e1h, h2, ct, cf]
   refine R1 ?_
   intro w1 G bs hI hΓ
   rw [hP1]
   exact Post.of [13] (p3, c3) hI hΓ Z Z Z (GoT.okm (α := List TableEntry) (by omega) hq4)
  have h2d := (B.nf h2)
  refine R0 ?_
  have hP2 : a03 l n_ v = ((a00 l).set (((a0c l n_)).toNat) (TableEntry.mk e1.name v), true) := by simp only [a03, h1, e1h, h2, ct, cf]
  refine R1 ?_
  intro w1 G bs hI hΓ
  rw [hP2]
  exact Post.of [11] ((some ad1), c1) hI hΓ Z Z Z (okl_mk (by simp; omega) (fun a ha => GoT.okm (by omega) ((all_set (okl hq1).2 (show GoT.ok n ((TableEntry.mk e1.name v) : TableEntry) from (And.intro (ok_TableEntry ok1).1 hokv))) a ha)) : GoT.ok (n + 3) (((a00 l).set (((a0c l n_)).toNat) (TableEntry.mk e1.name v)) : List TableEntry))
 have h1d := B.df h1
 refine R0 ?_
 have hL0 : (a00 l).length ≤ bd n := (okl hq1).1
 refine WX.loop (ι := Nat) ⟨fun i => (i ≤ (a00 l).length) ∧ (a2a l n_ 0 = a2a l n_ i), fun i => (a00 l).length - i, fun i => [(9, .v (.int .i64 (((i : Nat) : Int)))), (8, .v (.slice p1 (((a00 l)).length) c1)), (4, .p 4 0), (0, .v (.slice pl ((l).length) cl)), (2, .v (.int .i64 (v)))], fun i => [(4, ⟨30, [.slice K1 ((n_.parts).length) M1]⟩)], fun i => [], fun i => [(0, MF.rs .stb pl cl l), (1, MF.rs .stb K1 M1 n_.parts), (3, MF.os p1 c1 (a00 l))]⟩ 0 ⟨(Nat.zero_le _), Z⟩
  (.cons Z (.cons Z (.cons Z (.cons Z (.cons Z (.nil)))))) (.cons Z (.nil)) .nil [0, 1, 3] Z ?_
 rintro i hpre
 have hpre_ : (i ≤ (a00 l).length) ∧ (a2a l n_ 0 = a2a l n_ i) := hpre
 clear hpre
 obtain ⟨v1, v2⟩ := hpre_
 refine R0 ?_
 refine WX.der 14 (MF.rs .der p1 c1 (a00 l)) Z (fun _ hΓ => (hΓ.get 3 Z : OwSl _ _ _ _).rd) ?_
 refine WX.draw [] mixed ?_
 intro bs G0 hΓ0
 refine DX.takes (fuel := 9) ttOk [(0, true), (1, true), (2, true), (3, true), (4, true)] J Z ?_
 refine DX.cases 27 Z (fun h3 => ?_) (fun h3 => ?_)
 ·skip
  have h3d := B.dt h3
  refine DX.takes (fuel := 7) ttOk [(5, true), (6, true)] J Z ?_
  have e2i : i < ((a00 l)).length := (by first | assumption | omega)
  obtain ⟨e2, e2h⟩ : ∃ e2, ((a00 l))[i]? = some e2 := ⟨_, List.getElem?_eq_getElem e2i⟩
  have ok2 : GoT.ok n e2 := (okl hq1).2 _ (List.mem_of_getElem? e2h)
  refine DX.idx 7 14 i ttOk hΓ0 J Z Z Z Z Z Z Z Z Z Z Z e2i ?_
  rintro ad2 rfl
  refine DX.takes (fuel := 5) ttOk [(8, true)] J Z ?_
  refine DX.ldE 9 14 15 e2 ttOk hΓ0 J Z Z Z Z Z Z Z Z e2h O O ?_
  rintro ⟨⟨p4, c4⟩, ⟨⟩⟩
  refine DX.takes (fuel := 3) ttOk [(10, false)] J Z ?_
  refine DX.callV 11 Z J Z Z Z Z Z Z O Z (fun w G bs hI hΓ => f193 w n (by omega) e2.name p4 c4 (hΓ.get 15 Z) n_ K1 M1 (hΓ.get 1 Z) ((ok_TableEntry ok2).1) hokn_) ?_
  intro hq5
  refine DX.takes (fuel := 0) ttOk [(12, true), (13, true)] J Z ?_
  refine DX.tail2 [] Z Z J ?_
  refine R0 ?_
  refine WX.cases 36 Z (fun h4 => ?_) (fun h4 => ?_)
  ·skip
   have h4d := B.dt h4
   refine R0 ?_
   refine WX.see Z Z Z (fun _ hΓ => looks_arith Z Z Z Z (by unfold I64; first | omega | (simp only [List.length_take] at *; omega))) ?_
   refine R0 ?_
   exact WX.iter (i + 1) ⟨(by omega), (by rw [v2]; rw [a2a]; simp only [h3, h3d, e2h, h4, h4d, ct, cf, ↓reduceIte, Bool.false_eq_true])⟩ (by first | (dsimp only; omega) | omega) (.cons Z (.cons Z (.cons Z (.cons Z (.cons Z (.nil)))))) (.cons Z (.nil)) .nil [0, 1, 3] Z
  have h4d := B.df h4
  refine R0 ?_
  have hX1 : a2a l n_ 0 = i := by rw [v2]; rw [a2a]; simp only [h3, h3d, e2h, h4, h4d, ct, cf, ↓reduceIte, Bool.false_eq_true]
  refine WX.callF 16 (fun _ _ h => GoT.ow_rd h) (fun _ f hf => GoT.fak f hf) Z Z Z Z Z O Z (fun w G bs hI hΓ => f118 w n (by omega) n_ K1 M1 (hΓ.get 1 Z) hokn_) O O ?_
  rintro ⟨p5, c5⟩ hq6
  refine R0 ?_
  refine WX.opn (kk := 2) 502 3 18 Z Z Z ?_
  intro xs2 hx2
  refine WX.cap 502 Z ?_
  intro hcap1
  refine WX.know (fun G hΓ => (hΓ.get 18 Z : OwL _ _ _).rd.one) ?_
  intro hone1
  refine WX.der 19 (MF.rs .der p5 c5 ((a02 n_).parts)) Z (fun _ hΓ => (hΓ.get 17 Z : OwSl _ _ _ _).rd) ?_
  refine WX.draw [4, 5, 7, 11, 12] mixed ?_
  intro bs G0 hΓ0
  refine DX.takes (fuel := 11) ttOk [(1, true), (2, true)] J Z ?_
  have r5 : (l).length ≤ bd n := (okl hokl).1
  have r6 : (a00 l).length ≤ bd n := (okl hq1).1
  refine DX.seeP 3 J Z Z Z Z (looksP_slH i ttOk Z Z Z Z (by simp) (Nat.le_trans (show i ≤ ((a00 l)).length from (by omega)) hcap1)) ?_
  refine DX.takes (fuel := 8) ttOk [(8, true), (9, true)] J Z ?_
  refine DX.seeP 10 J Z Z Z Z (looksP_slL i ttOk Z Z Z Z (by simp) (show i ≤ ((a00 l)).length from (by omega))) ?_
  refine DX.toTX ?_
  intro S_
  refine TX.all2 0 5 J ?_ ?_
  ·skip
   refine TS.op 0 Z J ?_
   refine WX.bld ttOk Z Z Z Z Z Z Z ?_
   intro p6
   refine R0 ?_
   refine WX.back0 ?_
   refine TX.all2 4 5 J ?_ ?_
   ·skip
    refine TS.op 4 Z J ?_
    refine WX.free 20 (MF.ol [] ([] : List TableEntry)) Z ?_
    refine WX.appPre 43 502 i ((List.take i (a00 l)) : List TableEntry).length ttOk Z Z Z Z Z Z Z Z Z Z Z Z Z hone1 (show i ≤ ((a00 l)).length from (by omega)) (by have z_ := (show i ≤ ((a00 l)).length from (by omega)); first | (simp; done) | (simp only [List.length_append, List.length_cons, List.length_nil, List.length_take, List.length_drop, List.length_set]; omega) | (simp; omega)) (by first | assumption | omega | (simp; omega)) (by first | assumption | omega | (simp; omega)) (fun _ _ => Z) ?_
    intro p7 c6
    refine WX.turn [18] 21 Z (fun h hs => ol_split i (show i ≤ ((a00 l)).length from (by omega)) hs) (gs := [MF.ol (List.take (i * 2) xs2) (List.take i (a00 l)), MF.ol (List.drop (i * 2) xs2) (List.drop i (a00 l))]) Z ?_
    refine WX.turn [20, 21] 23 Z (fun h hs => ol_app hs) (gs := [MF.ol ([] ++ (List.take (i * 2) xs2)) ((List.take i (a00 l)) : List TableEntry)]) Z ?_
    refine R0 ?_
    refine WX.back0 ?_
    refine TX.tail [5, 6, 7, 11, 12] Z Z J ?_
    refine R0 ?_
    refine WX.bld ttOk Z Z Z Z Z Z Z ?_
    intro p8
    refine WX.turn [17] 24 Z (fun h hs => ol_one (α := TableEntry) (a := (TableEntry.mk (a02 n_) v)) (x := ((p5, c5), ())) hs) (gs := [MF.ol [.slice p5 (((a02 n_).parts).length) c5, .int .i64 (v)] ([(TableEntry.mk (a02 n_) v)] : List TableEntry)]) Z ?_
    have r7 : -9223372036854775808 ≤ v ∧ v ≤ 9223372036854775807 := hokv
    refine WX.know (fun G hΓ => (hΓ.get 24 Z : OwL _ _ _).rd.one) ?_
    intro ho1
    refine WX.appR1 43 49 (((List.take i (a00 l)) ++ [(TableEntry.mk (a02 n_) v)]) : List TableEntry).length ttOk Z Z Z Z Z Z Z Z Z Z Z Z Z ho1 (by first | (simp; done) | omega | (simp only [List.length_append, List.length_cons, List.length_nil, List.length_take, List.length_drop, List.length_set]; omega) | (simp; omega)) (by first | assumption | omega | (simp; omega)) (by first | assumption | omega | (simp; omega)) (fun _ _ => Z) ?_
    intro p9 c7
    refine WX.turn [23, 24] 25 Z (fun h hs => ol_app hs) (gs := [MF.ol (([] ++ (List.take (i * 2) xs2)) ++ [.slice p5 (((a02 n_).parts).length) c5, .int .i64 (v)]) (((List.take i (a00 l)) ++ [(TableEntry.mk (a02 n_) v)]) : List TableEntry)]) Z ?_
    refine WX.appSuf 43 502 i ((((List.take i (a00 l)) ++ [(TableEntry.mk (a02 n_) v)]) ++ (List.drop i (a00 l))) : List TableEntry).length ttOk Z Z Z Z Z Z Z Z Z Z Z Z Z hone1 (show i ≤ ((a00 l)).length from (by omega)) (by have z_ := (show i ≤ ((a00 l)).length from (by omega)); first | (simp; done) | (simp only [List.length_append, List.length_cons, List.length_nil, List.length_take, List.length_drop, List.length_set]; omega) | (simp; omega)) (by first | assumption | omega | (simp; omega)) (by first | assumption | omega | (simp; omega)) (fun _ _ => Z) ?_
    intro p10 c8
    refine WX.turn [22] 26 Z (fun h hs => ol_drop (show i ≤ i by omega) (show i ≤ ((a00 l)).length from (by omega)) hs) (gs := [MF.ol (List.drop (i * 2) xs2) (List.drop i (a00 l))]) Z ?_
    refine WX.turn [25, 26] 27 Z (fun h hs => ol_app hs) (gs := [MF.ol ((([] ++ (List.take (i * 2) xs2)) ++ [.slice p5 (((a02 n_).parts).length) c5, .int .i64 (v)]) ++ (List.drop (i * 2) xs2)) ((((List.take i (a00 l)) ++ [(TableEntry.mk (a02 n_) v)]) ++ (List.drop i (a00 l))) : List TableEntry)]) Z ?_
    refine R0 ?_
    refine WX.seal 43 27 28 Z Z Z Z Z ?_
    refine WX.callV Z Z Z Z Z O Z (fun w G bs hI hΓ => f194 w (n + 3) (by omega) (((List.take i (a00 l)) ++ [(TableEntry.mk (a02 n_) v)]) ++ (List.drop i (a00 l))) p10 c8 (hΓ.get 28 Z) (okl_mk (by first | assumption | omega | (simp; omega)) (fun a ha => GoT.okm (show (n + 2) ≤ (n + 3) by omega) ((all_app (fun a ha => GoT.okm (show (n + 1) ≤ (n + 2) by omega) ((all_app (fun a ha => GoT.okm (show n ≤ (n + 1) by omega) ((fun a ha => (okl hq1).2 a (List.mem_of_mem_take ha)) a ha)) (fun a ha => GoT.okm (by omega) ((all_cons (α := TableEntry) (And.intro hq6 hokv) (fun a ha => by cases ha)) a ha))) a ha)) (fun a ha => GoT.okm (by omega) ((fun a ha => (okl hq1).2 a (List.mem_of_mem_drop ha)) a ha))) a ha)) : GoT.ok (n + 3) ((((List.take i (a00 l)) ++ [(TableEntry.mk (a02 n_) v)]) ++ (List.drop i (a00 l))) : List TableEntry))) ?_
    intro hq7
    refine R0 ?_
    refine WX.cases 57 Z (fun h5 => ?_) (fun h5 => ?_)
    ·skip
     have h5d := (B.nt h5)
     refine R0 ?_
     refine WX.callF 30 (fun _ _ h => GoT.ow_rd h) (fun _ f hf => GoT.fak f hf) Z Z Z Z Z O Z (fun w G bs hI hΓ => f191 w n (by omega) l pl cl (hΓ.get 0 Z) hokl) O O ?_
     rintro ⟨p11, c9⟩ hq8
     have q4 := len_l6Copy l
     refine R0 ?_
     have hP3 : a03 l n_ v = (a00 l, false) := by simp only [a03, h1, hX1, h5, ct, cf]
     refine R1 ?_
     intro w1 G bs hI hΓ
     rw [hP3]
     exact Post.of [31] (p11, c9) hI hΓ Z Z Z (GoT.okm (α := List TableEntry) (by omega) hq8)
    have h5d := (B.nf h5)
    refine R0 ?_
    have hP4 : a03 l n_ v = (((List.take i (a00 l)) ++ [(TableEntry.mk (a02 n_) v)]) ++ (List.drop i (a00 l)), true) := by simp only [a03, h1, hX1, h5, ct, cf]
    refine R1 ?_
    intro w1 G bs hI hΓ
    rw [hP4]
    exact Post.of [29] (p10, c8) hI hΓ Z Z Z (okl_mk (by first | assumption | omega | (simp; omega)) (fun a ha => GoT.okm (show (n + 2) ≤ (n + 3) by omega) ((all_app (fun a ha => GoT.okm (show (n + 1) ≤ (n + 2) by omega) ((all_app (fun a ha => GoT.okm (show n ≤ (n + 1) by omega) ((fun a ha => (okl hq1).2 a (List.mem_of_mem_take ha)) a ha)) (fun a ha => GoT.okm (by omega) ((all_cons (α := TableEntry) (And.intro hq6 hokv) (fun a ha => by cases ha)) a ha))) a ha)) (fun a ha => GoT.okm (by omega) ((fun a ha => (okl hq1).2 a (List.mem_of_mem_drop ha)) a ha))) a ha)) : GoT.ok (n + 3) ((((List.take i (a00 l)) ++ [(TableEntry.mk (a02 n_) v)]) ++ (List.drop i (a00 l))) : List TableEntry))
   refine TS.op 5 Z J ?_
   refine R0 ?_
   refine WX.back0 ?_
   refine TX.all2 4 6 J ?_ ?_
   ·skip
    refine TS.op 4 Z J ?_
    refine WX.free 32 (MF.ol [] ([] : List TableEntry)) Z ?_
    refine WX.appPre 43 502 i ((List.take i (a00 l)) : List TableEntry).length ttOk Z Z Z Z Z Z Z Z Z Z Z Z Z hone1 (show i ≤ ((a00 l)).length from (by omega)) (by have z_ := (show i ≤ ((a00 l)).length from (by omega)); first | (simp; done) | (simp only [List.length_append, List.length_cons, List.length_nil, List.length_take, List.length_drop, List.length_set]; omega) | (simp; omega)) (by first | assumption | omega | (simp; omega)) (by first | assumption | omega | (simp; omega)) (fun _ _ => Z) ?_
    intro p12 c10
    refine WX.turn [18] 33 Z (fun h hs => ol_split i (show i ≤ ((a00 l)).length from (by omega)) hs) (gs := [MF.ol (List.take (i * 2) xs2) (List.take i (a00 l)), MF.ol (List.drop (i * 2) xs2) (List.drop i (a00 l))]) Z ?_
    refine WX.turn [32, 33] 35 Z (fun h hs => ol_app hs) (gs := [MF.ol ([] ++ (List.take (i * 2) xs2)) ((List.take i (a00 l)) : List TableEntry)]) Z ?_
    refine R0 ?_
    refine WX.back0 ?_
    refine TX.tail [6, 7, 11, 12] Z Z J ?_
    refine WX.bld ttOk Z Z Z Z Z Z Z ?_
    intro p13
    refine WX.turn [17] 36 Z (fun h hs => ol_one (α := TableEntry) (a := (TableEntry.mk (a02 n_) v)) (x := ((p5, c5), ())) hs) (gs := [MF.ol [.slice p5 (((a02 n_).parts).length) c5, .int .i64 (v)] ([(TableEntry.mk (a02 n_) v)] : List TableEntry)]) Z ?_
    have r8 : -9223372036854775808 ≤ v ∧ v ≤ 9223372036854775807 := hokv
    refine WX.know (fun G hΓ => (hΓ.get 36 Z : OwL _ _ _).rd.one) ?_
    intro ho2
    refine WX.appR1 43 49 (((List.take i (a00 l)) ++ [(TableEntry.mk (a02 n_) v)]) : List TableEntry).length ttOk Z Z Z Z Z Z Z Z Z Z Z Z Z ho2 (by first | (simp; done) | omega | (simp only [List.length_append, List.length_cons, List.length_nil, List.length_take, List.length_drop, List.length_set]; omega) | (simp; omega)) (by first | assumption | omega | (simp; omega)) (by first | assumption | omega | (simp; omega)) (fun _ _ => Z) ?_
    intro p14 c11
    refine WX.turn [35, 36] 37 Z (fun h hs => ol_app hs) (gs := [MF.ol (([] ++ (List.take (i * 2) xs2)) ++ [.slice p5 (((a02 n_).parts).length) c5, .int .i64 (v)]) (((List.take i (a00 l)) ++ [(TableEntry.mk (a02 n_) v)]) : List TableEntry)]) Z ?_
    refine WX.appSuf 43 502 i ((((List.take i (a00 l)) ++ [(TableEntry.mk (a02 n_) v)]) ++ (List.drop i (a00 l))) : List TableEntry).length ttOk Z Z Z Z Z Z Z Z Z Z Z Z Z hone1 (show i ≤ ((a00 l)).length from (by omega)) (by have z_ := (show i ≤ ((a00 l)).length from (by omega)); first | (simp; done) | (simp only [List.length_append, List.length_cons, List.length_nil, List.length_take, List.length_drop, List.length_set]; omega) | (simp; omega)) (by first | assumption | omega | (simp; omega)) (by first | assumption | omega | (simp; omega)) (fun _ _ => Z) ?_
    intro p15 c12
    refine WX.turn [34] 38 Z (fun h hs => ol_drop (show i ≤ i by omega) (show i ≤ ((a00 l)).length from (by omega)) hs) (gs := [MF.ol (List.drop (i * 2) xs2) (List.drop i (a00 l))]) Z ?_
    refine WX.turn [37, 38] 39 Z (fun h hs => ol_app hs) (gs := [MF.ol ((([] ++ (List.take (i * 2) xs2)) ++ [.slice p5 (((a02 n_).parts).length) c5, .int .i64 (v)]) ++ (List.drop (i * 2) xs2)) ((((List.take i (a00 l)) ++ [(TableEntry.mk (a02 n_) v)]) ++ (List.drop i (a00 l))) : List TableEntry)]) Z ?_
    refine R0 ?_
    refine WX.seal 43 39 40 Z Z Z Z Z ?_
    refine WX.callV Z Z Z Z Z O Z (fun w G bs hI hΓ => f194 w (n + 3) (by omega) (((List.take i (a00 l)) ++ [(TableEntry.mk (a02 n_) v)]) ++ (List.drop i (a00 l))) p15 c12 (hΓ.get 40 Z) (okl_mk (by first | assumption | omega | (simp; omega)) (fun a ha => GoT.okm (show (n + 2) ≤ (n + 3) by omega) ((all_app (fun a ha => GoT.okm (show (n + 1) ≤ (n + 2) by omega) ((all_app (fun a ha => GoT.okm (show n ≤ (n + 1) by omega) ((fun a ha => (okl hq1).2 a (List.mem_of_mem_take ha)) a ha)) (fun a ha => GoT.okm (by omega) ((all_cons (α := TableEntry) (And.intro hq6 hokv) (fun a ha => by cases ha)) a ha))) a ha)) (fun a ha => GoT.okm (by omega) ((fun a ha => (okl hq1).2 a (List.mem_of_mem_drop ha)) a ha))) a ha)) : GoT.ok (n + 3) ((((List.take i (a00 l)) ++ [(TableEntry.mk (a02 n_) v)]) ++ (List.drop i (a00 l))) : List TableEntry))) ?_
    intro hq9
    refine R0 ?_
    refine WX.cases 57 Z (fun h6 => ?_) (fun h6 => ?_)
    ·skip
     have h6d := (B.nt h6)
     refine R0 ?_
     refine WX.callF 42 (fun _ _ h => GoT.ow_rd h) (fun _ f hf => GoT.fak f hf) Z Z Z Z Z O Z (fun w G bs hI hΓ => f191 w n (by omega) l pl cl (hΓ.get 0 Z) hokl) O O ?_
     rintro ⟨p16, c13⟩ hq10
     have q5 := len_l6Copy l
     refine R0 ?_
     have hP5 : a03 l n_ v = (a00 l, false) := by simp only [a03, h1, hX1, h6, ct, cf]
     refine R1 ?_
     intro w1 G bs hI hΓ
     rw [hP5]
     exact Post.of [43] (p16, c13) hI hΓ Z Z Z (GoT.okm (α := List TableEntry) (by omega) hq10)
    have h6d := (B.nf h6)
    refine R0 ?_
    have hP6 : a03 l n_ v = (((List.take i (a00 l)) ++ [(TableEntry.mk (a02 n_) v)]) ++ (List.drop i (a00 l)), true) := by simp only [a03, h1, hX1, h6, ct, cf]
    refine R1 ?_
    intro w1 G bs hI hΓ
    rw [hP6]
    exact Post.of [41] (p15, c12) hI hΓ Z Z Z (okl_mk (by first | assumption | omega | (simp; omega)) (fun a ha => GoT.okm (show (n + 2) ≤ (n + 3) by omega) ((all_app (fun a ha => GoT.okm (show (n + 1) ≤ (n + 2) by omega) ((all_app (fun a ha => GoT.okm (show n ≤ (n + 1) by omega) ((fun a ha => (okl hq1).2 a (List.mem_of_mem_take ha)) a ha)) (fun a ha => GoT.okm (by omega) ((all_cons (α := TableEntry) (And.intro hq6 hokv) (fun a ha => by cases ha)) a ha))) a ha)) (fun a ha => GoT.okm (by omega) ((fun a ha => (okl hq1).2 a (List.mem_of_mem_drop ha)) a ha))) a ha)) : GoT.ok (n + 3) ((((List.take i (a00 l)) ++ [(TableEntry.mk (a02 n_) v)]) ++ (List.drop i (a00 l))) : List TableEntry))
   refine TS.op 6 Z J ?_
   refine WX.bld ttOk Z Z Z Z Z Z Z ?_
   intro p17
   refine R0 ?_
   refine WX.back0 ?_
   refine TX.tail [4, 7, 11, 12] Z Z J ?_
   refine WX.free 44 (MF.ol [] ([] : List TableEntry)) Z ?_
   refine WX.appPre 43 502 i ((List.take i (a00 l)) : List TableEntry).length ttOk Z Z Z Z Z Z Z Z Z Z Z Z Z hone1 (show i ≤ ((a00 l)).length from (by omega)) (by have z_ := (show i ≤ ((a00 l)).length from (by omega)); first | (simp; done) | (simp only [List.length_append, List.length_cons, List.length_nil, List.length_take, List.length_drop, List.length_set]; omega) | (simp; omega)) (by first | assumption | omega | (simp; omega)) (by first | assumption | omega | (simp; omega)) (fun _ _ => Z) ?_
   intro p18 c14
   refine WX.turn [18] 45 Z (fun h hs => ol_split i (show i ≤ ((a00 l)).length from (by omega)) hs) (gs := [MF.ol (List.take (i * 2) xs2) (List.take i (a00 l)), MF.ol (List.drop (i * 2) xs2) (List.drop i (a00 l))]) Z ?_
   refine WX.turn [44, 45] 47 Z (fun h hs => ol_app hs) (gs := [MF.ol ([] ++ (List.take (i * 2) xs2)) ((List.take i (a00 l)) : List TableEntry)]) Z ?_
   refine WX.turn [17] 48 Z (fun h hs => ol_one (α := TableEntry) (a := (TableEntry.mk (a02 n_) v)) (x := ((p5, c5), ())) hs) (gs := [MF.ol [.slice p5 (((a02 n_).parts).length) c5, .int .i64 (v)] ([(TableEntry.mk (a02 n_) v)] : List TableEntry)]) Z ?_
   have r9 : -9223372036854775808 ≤ v ∧ v ≤ 9223372036854775807 := hokv
   refine WX.know (fun G hΓ => (hΓ.get 48 Z : OwL _ _ _).rd.one) ?_
   intro ho3
   refine WX.appR1 43 49 (((List.take i (a00 l)) ++ [(TableEntry.mk (a02 n_) v)]) : List TableEntry).length ttOk Z Z Z Z Z Z Z Z Z Z Z Z Z ho3 (by first | (simp; done) | omega | (simp only [List.length_append, List.length_cons, List.length_nil, List.length_take, List.length_drop, List.length_set]; omega) | (simp; omega)) (by first | assumption | omega | (simp; omega)) (by first | assumption | omega | (simp; omega)) (fun _ _ => Z) ?_
   intro p19 c15
   refine WX.turn [47, 48] 49 Z (fun h hs => ol_app hs) (gs := [MF.ol (([] ++ (List.take (i * 2) xs2)) ++ [.slice p5 (((a02 n_).parts).length) c5, .int .i64 (v)]) (((List.take i (a00 l)) ++ [(TableEntry.mk (a02 n_) v)]) : List TableEntry)]) Z ?_
   refine WX.appSuf 43 502 i ((((List.take i (a00 l)) ++ [(TableEntry.mk (a02 n_) v)]) ++ (List.drop i (a00 l))) : List TableEntry).length ttOk Z Z Z Z Z Z Z Z Z Z Z Z Z hone1 (show i ≤ ((a00 l)).length from (by omega)) (by have z_ := (show i ≤ ((a00 l)).length from (by omega)); first | (simp; done) | (simp only [List.length_append, List.length_cons, List.length_nil, List.length_take, List.length_drop, List.length_set]; omega) | (simp; omega)) (by first | assumption | omega | (simp; omega)) (by first | assumption | omega | (simp; omega)) (fun _ _ => Z) ?_
   intro p20 c16
   refine WX.turn [46] 50 Z (fun h hs => ol_drop (show i ≤ i by omega) (show i ≤ ((a00 l)).length from (by omega)) hs) (gs := [MF.ol (List.drop (i * 2) xs2) (List.drop i (a00 l))]) Z ?_
   refine WX.turn [49, 50] 51 Z (fun h hs => ol_app hs) (gs := [MF.ol ((([] ++ (List.take (i * 2) xs2)) ++ [.slice p5 (((a02 n_).parts).length) c5, .int .i64 (v)]) ++ (List.drop (i * 2) xs2)) ((((List.take i (a00 l)) ++ [(TableEntry.mk (a02 n_) v)]) ++ (List.drop i (a00 l))) : List TableEntry)]) Z ?_
   refine R0 ?_
   refine WX.seal 43 51 52 Z Z Z Z Z ?_
   refine WX.callV Z Z Z Z Z O Z (fun w G bs hI hΓ => f194 w (n + 3) (by omega) (((List.take i (a00 l)) ++ [(TableEntry.mk (a02 n_) v)]) ++ (List.drop i (a00 l))) p20 c16 (hΓ.get 52 Z) (okl_mk (by first | assumption | omega | (simp; omega)) (fun a ha => GoT.okm (show (n + 2) ≤ (n + 3) by omega) ((all_app (fun a ha => GoT.okm (show (n + 1) ≤ (n + 2) by omega) ((all_app (fun a ha => GoT.okm (show n ≤ (n + 1) by omega) ((fun a ha => (okl hq1).2 a (List.mem_of_mem_take ha)) a ha)) (fun a ha => GoT.okm (by omega) ((all_cons (α := TableEntry) (And.intro hq6 hokv) (fun a ha => by cases ha)) a ha))) a ha)) (fun a ha => GoT.okm (by omega) ((fun a ha => (okl hq1).2 a (List.mem_of_mem_drop ha)) a ha))) a ha)) : GoT.ok (n + 3) ((((List.take i (a00 l)) ++ [(TableEntry.mk (a02 n_) v)]) ++ (List.drop i (a00 l))) : List TableEntry))) ?_
   intro hq11
   refine R0 ?_
   refine WX.cases 57 Z (fun h7 => ?_) (fun h7 => ?_)
   ·skip
    have h7d := (B.nt h7)
    refine R0 ?_
    refine WX.callF 54 (fun _ _ h => GoT.ow_rd h) (fun _ f hf => GoT.fak f hf) Z Z Z Z Z O Z (fun w G bs hI hΓ => f191 w n (by omega) l pl cl (hΓ.get 0 Z) hokl) O O ?_
    rintro ⟨p21, c17⟩ hq12
    have q6 := len_l6Copy l
    refine R0 ?_
    have hP7 : a03 l n_ v = (a00 l, false) := by simp only [a03, h1, hX1, h7, ct, cf]
    refine R1 ?_
    intro w1 G bs hI hΓ
    rw [hP7]
    exact Post.of [55] (p21, c17) hI hΓ Z Z Z (GoT.okm (α := List TableEntry) (by omega) hq12)
   have h7d := (B.nf h7)
   refine R0 ?_
   have hP8 : a03 l n_ v = (((List.take i (a00 l)) ++ [(TableEntry.mk (a02 n_) v)]) ++ (List.drop i (a00 l)), true) := by simp only [a03, h1, hX1, h7, ct, cf]
   refine R1 ?_
   intro w1 G bs hI hΓ
   rw [hP8]
   exact Post.of [53] (p20, c16) hI hΓ Z Z Z (okl_mk (by first | assumption | omega | (simp; omega)) (fun a ha => GoT.okm (show (n + 2) ≤ (n + 3) by omega) ((all_app (fun a ha => GoT.okm (show (n + 1) ≤ (n + 2) by omega) ((all_app (fun a ha => GoT.okm (show n ≤ (n + 1) by omega) ((fun a ha => (okl hq1).2 a (List.mem_of_mem_take ha)) a ha)) (fun a ha => GoT.okm (by omega) ((all_cons (α := TableEntry) (And.intro hq6 hokv) (fun a ha => by cases ha)) a ha))) a ha)) (fun a ha => GoT.okm (by omega) ((fun a ha => (okl hq1).2 a (List.mem_of_mem_drop ha)) a ha))) a ha)) : GoT.ok (n + 3) ((((List.take i (a00 l)) ++ [(TableEntry.mk (a02 n_) v)]) ++ (List.drop i (a00 l))) : List TableEntry))
  refine TS.op 5 Z J ?_
  refine R0 ?_
  refine WX.back0 ?_
  refine TX.all2 0 6 J ?_ ?_
  ·skip
   refine TS.op 0 Z J ?_
   refine WX.bld ttOk Z Z Z Z Z Z Z ?_
   intro p22
   refine R0 ?_
   refine WX.back0 ?_
   refine TX.all2 4 6 J ?_ ?_
   ·skip
    refine TS.op 4 Z J ?_
    refine WX.free 56 (MF.ol [] ([] : List TableEntry)) Z ?_
    refine WX.appPre 43 502 i ((List.take i (a00 l)) : List TableEntry).length ttOk Z Z Z Z Z Z Z Z Z Z Z Z Z hone1 (show i ≤ ((a00 l)).length from (by omega)) (by have z_ := (show i ≤ ((a00 l)).length from (by omega)); first | (simp; done) | (simp only [List.length_append, List.length_cons, List.length_nil, List.length_take, List.length_drop, List.length_set]; omega) | (simp; omega)) (by first | assumption | omega | (simp; omega)) (by first | assumption | omega | (simp; omega)) (fun _ _ => Z) ?_
    intro p23 c18
    refine WX.turn [18] 57 Z (fun h hs => ol_split i (show i ≤ ((a00 l)).length from (by omega)) hs) (gs := [MF.ol (List.take (i * 2) xs2) (List.take i (a00 l)), MF.ol (List.drop (i * 2) xs2) (List.drop i (a00 l))]) Z ?_
    refine WX.turn [56, 57] 59 Z (fun h hs => ol_app hs) (gs := [MF.ol ([] ++ (List.take (i * 2) xs2)) ((List.take i (a00 l)) : List TableEntry)]) Z ?_
    refine R0 ?_
    refine WX.back0 ?_
    refine TX.tail [6, 7, 11, 12] Z Z J ?_
    refine WX.bld ttOk Z Z Z Z Z Z Z ?_
    intro p24
    refine WX.turn [17] 60 Z (fun h hs => ol_one (α := TableEntry) (a := (TableEntry.mk (a02 n_) v)) (x := ((p5, c5), ())) hs) (gs := [MF.ol [.slice p5 (((a02 n_).parts).length) c5, .int .i64 (v)] ([(TableEntry.mk (a02 n_) v)] : List TableEntry)]) Z ?_
    have r10 : -9223372036854775808 ≤ v ∧ v ≤ 9223372036854775807 := hokv
    refine WX.know (fun G hΓ => (hΓ.get 60 Z : OwL _ _ _).rd.one) ?_
    intro ho4
    refine WX.appR1 43 49 (((List.take i (a00 l)) ++ [(TableEntry.mk (a02 n_) v)]) : List TableEntry).length ttOk Z Z Z Z Z Z Z Z Z Z Z Z Z ho4 (by first | (simp; done) | omega | (simp only [List.length_append, List.length_cons, List.length_nil, List.length_take, List.length_drop, List.length_set]; omega) | (simp; omega)) (by first | assumption | omega | (simp; omega)) (by first | assumption | omega | (simp; omega)) (fun _ _ => Z) ?_
    intro p25 c19
    refine WX.turn [59, 60] 61 Z (fun h hs => ol_app hs) (gs := [MF.ol (([] ++ (List.take (i * 2) xs2)) ++ [.slice p5 (((a02 n_).parts).length) c5, .int .i64 (v)]) (((List.take i (a00 l)) ++ [(TableEntry.mk (a02 n_) v)]) : List TableEntry)]) Z ?_
    refine WX.appSuf 43 502 i ((((List.take i (a00 l)) ++ [(TableEntry.mk (a02 n_) v)]) ++ (List.drop i (a00 l))) : List TableEntry).length ttOk Z Z Z Z Z Z Z Z Z Z Z Z Z hone1 (show i ≤ ((a00 l)).length from (by omega)) (by have z_ := (show i ≤ ((a00 l)).length from (by omega)); first | (simp; done) | (simp only [List.length_append, List.length_cons, List.length_nil, List.length_take, List.length_drop, List.length_set]; omega) | (simp; omega)) (by first | assumption | omega | (simp; omega)) (by first | assumption | omega | (simp; omega)) (fun _ _ => Z) ?_
    intro p26 c20
    refine WX.turn [58] 62 Z (fun h hs => ol_drop (show i ≤ i by omega) (show i ≤ ((a00 l)).length from (by omega)) hs) (gs := [MF.ol (List.drop (i * 2) xs2) (List.drop i (a00 l))]) Z ?_
    refine WX.turn [61, 62] 63 Z (fun h hs => ol_app hs) (gs := [MF.ol ((([] ++ (List.take (i * 2) xs2)) ++ [.slice p5 (((a02 n_).parts).length) c5, .int .i64 (v)]) ++ (List.drop (i * 2) xs2)) ((((List.take i (a00 l)) ++ [(TableEntry.mk (a02 n_) v)]) ++ (List.drop i (a00 l))) : List TableEntry)]) Z ?_
    refine R0 ?_
    refine WX.seal 43 63 64 Z Z Z Z Z ?_
    refine WX.callV Z Z Z Z Z O Z (fun w G bs hI hΓ => f194 w (n + 3) (by omega) (((List.take i (a00 l)) ++ [(TableEntry.mk (a02 n_) v)]) ++ (List.drop i (a00 l))) p26 c20 (hΓ.get 64 Z) (okl_mk (by first | assumption | omega | (simp; omega)) (fun a ha => GoT.okm (show (n + 2) ≤ (n + 3) by omega) ((all_app (fun a ha => GoT.okm (show (n + 1) ≤ (n + 2) by omega) ((all_app (fun a ha => GoT.okm (show n ≤ (n + 1) by omega) ((fun a ha => (okl hq1).2 a (List.mem_of_mem_take ha)) a ha)) (fun a ha => GoT.okm (by omega) ((all_cons (α := TableEntry) (And.intro hq6 hokv) (fun a ha => by cases ha)) a ha))) a ha)) (fun a ha => GoT.okm (by omega) ((fun a ha => (okl hq1).2 a (List.mem_of_mem_drop ha)) a ha))) a ha)) : GoT.ok (n + 3) ((((List.take i (a00 l)) ++ [(TableEntry.mk (a02 n_) v)]) ++ (List.drop i (a00 l))) : List TableEntry))) ?_
    intro hq13
    refine R0 ?_
    refine WX.cases 57 Z (fun h8 => ?_) (fun h8 => ?_)
    ·skip
     have h8d := (B.nt h8)
     refine R0 ?_
     refine WX.callF 66 (fun _ _ h => GoT.ow_rd h) (fun _ f hf => GoT.fak f hf) Z Z Z Z Z O Z (fun w G bs hI hΓ => f191 w n (by omega) l pl cl (hΓ.get 0 Z) hokl) O O ?_
     rintro ⟨p27, c21⟩ hq14
     have q7 := len_l6Copy l
     refine R0 ?_
     have hP9 : a03 l n_ v = (a00 l, false) := by simp only [a03, h1, hX1, h8, ct, cf]
     refine R1 ?_
     intro w1 G bs hI hΓ
     rw [hP9]
     exact Post.of [67] (p27, c21) hI hΓ Z Z Z (GoT.okm (α := List TableEntry) (by omega) hq14)
    have h8d := (B.nf h8)
    refine R0 ?_
    have hP10 : a03 l n_ v = (((List.take i (a00 l)) ++ [(TableEntry.mk (a02 n_) v)]) ++ (List.drop i (a00 l)), true) := by simp only [a03, h1, hX1, h8, ct, cf]
    refine R1 ?_
    intro w1 G bs hI hΓ
    rw [hP10]
    exact Post.of [65] (p26, c20) hI hΓ Z Z Z (okl_mk (by first | assumption | omega | (simp; omega)) (fun a ha => GoT.okm (show (n + 2) ≤ (n + 3) by omega) ((all_app (fun a ha => GoT.okm (show (n + 1) ≤ (n + 2) by omega) ((all_app (fun a ha => GoT.okm (show n ≤ (n + 1) by omega) ((fun a ha => (okl hq1).2 a (List.mem_of_mem_take ha)) a ha)) (fun a ha => GoT.okm (by omega) ((all_cons (α := TableEntry) (And.intro hq6 hokv) (fun a ha => by cases ha)) a ha))) a ha)) (fun a ha => GoT.okm (by omega) ((fun a ha => (okl hq1).2 a (List.mem_of_mem_drop ha)) a ha))) a ha)) : GoT.ok (n + 3) ((((List.take i (a00 l)) ++ [(TableEntry.mk (a02 n_) v)]) ++ (List.drop i (a00 l))) : List TableEntry))
   refine TS.op 6 Z J ?_
   refine WX.bld ttOk Z Z Z Z Z Z Z ?_
   intro p28
   refine R0 ?_
   refine WX.back0 ?_
   refine TX.tail [4, 7, 11, 12] Z Z J ?_
   refine WX.free 68 (MF.ol [] ([] : List TableEntry)) Z ?_
   refine WX.appPre 43 502 i ((List.take i (a00 l)) : List TableEntry).length ttOk Z Z Z Z Z Z Z Z Z Z Z Z Z hone1 (show i ≤ ((a00 l)).length from (by omega)) (by have z_ := (show i ≤ ((a00 l)).length from (by omega)); first | (simp; done) | (simp only [List.length_append, List.length_cons, List.length_nil, List.length_take, List.length_drop, List.length_set]; omega) | (simp; omega)) (by first | assumption | omega | (simp; omega)) (by first | assumption | omega | (simp; omega)) (fun _ _ => Z) ?_
   intro p29 c22
   refine WX.turn [18] 69 Z (fun h hs => ol_split i (show i ≤ ((a00 l)).length from (by omega)) hs) (gs := [MF.ol (List.take (i * 2) xs2) (List.take i (a00 l)), MF.ol (List.drop (i * 2) xs2) (List.drop i (a00 l))]) Z ?_
   refine WX.turn [68, 69] 71 Z (fun h hs => ol_app hs) (gs := [MF.ol ([] ++ (List.take (i * 2) xs2)) ((List.take i (a00 l)) : List TableEntry)]) Z ?_
   refine WX.turn [17] 72 Z (fun h hs => ol_one (α := TableEntry) (a := (TableEntry.mk (a02 n_) v)) (x := ((p5, c5), ())) hs) (gs := [MF.ol [.slice p5 (((a02 n_).parts).length) c5, .int .i64 (v)] ([(TableEntry.mk (a02 n_) v)] : List TableEntry)]) Z ?_
   have r11 : -9223372036854775808 ≤ v ∧ v ≤ 9223372036854775807 := hokv
   refine WX.know (fun G hΓ => (hΓ.get 72 Z : OwL _ _ _).rd.one) ?_
   intro ho5
   refine WX.appR1 43 49 (((List.take i (a00 l)) ++ [(TableEntry.mk (a02 n_) v)]) : List TableEntry).length ttOk Z Z Z Z Z Z Z Z Z Z Z Z Z ho5 (by first | (simp; done) | omega | (simp only [List.length_append, List.length_cons, List.length_nil, List.length_take, List.length_drop, List.length_set]; omega) | (simp; omega)) (by first | assumption | omega | (simp; omega)) (by first | assumption | omega | (simp; omega)) (fun _ _ => Z) ?_
   intro p30 c23
   refine WX.turn [71, 72] 73 Z (fun h hs => ol_app hs) (gs := [MF.ol (([] ++ (List.take (i * 2) xs2)) ++ [.slice p5 (((a02 n_).parts).length) c5, .int .i64 (v)]) (((List.take i (a00 l)) ++ [(TableEntry.mk (a02 n_) v)]) : List TableEntry)]) Z ?_
   refine WX.appSuf 43 502 i ((((List.take i (a00 l)) ++ [(TableEntry.mk (a02 n_) v)]) ++ (List.drop i (a00 l))) : List TableEntry).length ttOk Z Z Z Z Z Z Z Z Z Z Z Z Z hone1 (show i ≤ ((a00 l)).length from (by omega)) (by have z_ := (show i ≤ ((a00 l)).length from (by omega)); first | (simp; done) | (simp only [List.length_append, List.length_cons, List.length_nil, List.length_take, List.length_drop, List.length_set]; omega) | (simp; omega)) (by first | assumption | omega | (simp; omega)) (by first | assumption | omega | (simp; omega)) (fun _ _ => Z) ?_
   intro p31 c24
   refine WX.turn [70] 74 Z (fun h hs => ol_drop (show i ≤ i by omega) (show i ≤ ((a00 l)).length from (by omega)) hs) (gs := [MF.ol (List.drop (i * 2) xs2) (List.drop i (a00 l))]) Z ?_
   refine WX.turn [73, 74] 75 Z (fun h hs => ol_app hs) (gs := [MF.ol ((([] ++ (List.take (i * 2) xs2)) ++ [.slice p5 (((a02 n_).parts).length) c5, .int .i64 (v)]) ++ (List.drop (i * 2) xs2)) ((((List.take i (a00 l)) ++ [(TableEntry.mk (a02 n_) v)]) ++ (List.drop i (a00 l))) : List TableEntry)]) Z ?_
   refine R0 ?_
   refine WX.seal 43 75 76 Z Z Z Z Z ?_
   refine WX.callV Z Z Z Z Z O Z (fun w G bs hI hΓ => f194 w (n + 3) (by omega) (((List.take i (a00 l)) ++ [(TableEntry.mk (a02 n_) v)]) ++ (List.drop i (a00 l))) p31 c24 (hΓ.get 76 Z) (okl_mk (by first | assumption | omega | (simp; omega)) (fun a ha => GoT.okm (show (n + 2) ≤ (n + 3) by omega) ((all_app (fun a ha => GoT.okm (show (n + 1) ≤ (n + 2) by omega) ((all_app (fun a ha => GoT.okm (show n ≤ (n + 1) by omega) ((fun a ha => (okl hq1).2 a (List.mem_of_mem_take ha)) a ha)) (fun a ha => GoT.okm (by omega) ((all_cons (α := TableEntry) (And.intro hq6 hokv) (fun a ha => by cases ha)) a ha))) a ha)) (fun a ha => GoT.okm (by omega) ((fun a ha => (okl hq1).2 a (List.mem_of_mem_drop ha)) a ha))) a ha)) : GoT.ok (n + 3) ((((List.take i (a00 l)) ++ [(TableEntry.mk (a02 n_) v)]) ++ (List.drop i (a00 l))) : List TableEntry))) ?_
   intro hq15
   refine R0 ?_
   refine WX.cases 57 Z (fun h9 => ?_) (fun h9 => ?_)
   ·skip
    have h9d := (B.nt h9)
    refine R0 ?_
    refine WX.callF 78 (fun _ _ h => GoT.ow_rd h) (fun _ f hf => GoT.fak f hf) Z Z Z Z Z O Z (fun w G bs hI hΓ => f191 w n (by omega) l pl cl (hΓ.get 0 Z) hokl) O O ?_
    rintro ⟨p32, c25⟩ hq16
    have q8 := len_l6Copy l
    refine R0 ?_
    have hP11 : a03 l n_ v = (a00 l, false) := by simp only [a03, h1, hX1, h9, ct, cf]
    refine R1 ?_
    intro w1 G bs hI hΓ
    rw [hP11]
    exact Post.of [79] (p32, c25) hI hΓ Z Z Z (GoT.okm (α := List TableEntry) (by omega) hq16)
   have h9d := (B.nf h9)
   refine R0 ?_
   have hP12 : a03 l n_ v = (((List.take i (a00 l)) ++ [(TableEntry.mk (a02 n_) v)]) ++ (List.drop i (a00 l)), true) := by simp only [a03, h1, hX1, h9, ct, cf]
   refine R1 ?_
   intro w1 G bs hI hΓ
   rw [hP12]
   exact Post.of [77] (p31, c24) hI hΓ Z Z Z (okl_mk (by first | assumption | omega | (simp; omega)) (fun a ha => GoT.okm (show (n + 2) ≤ (n + 3) by omega) ((all_app (fun a ha => GoT.okm (show (n + 1) ≤ (n + 2) by omega) ((all_app (fun a ha => GoT.okm (show n ≤ (n + 1) by omega) ((fun a ha => (okl hq1).2 a (List.mem_of_mem_take ha)) a ha)) (fun a ha => GoT.okm (by omega) ((all_cons (α := TableEntry) (And.intro hq6 hokv) (fun a ha => by cases ha)) a ha))) a ha)) (fun a ha => GoT.okm (by omega) ((fun a ha => (okl hq1).2 a (List.mem_of_mem_drop ha)) a ha))) a ha)) : GoT.ok (n + 3) ((((List.take i (a00 l)) ++ [(TableEntry.mk (a02 n_) v)]) ++ (List.drop i (a00 l))) : List TableEntry))
  refine TS.op 6 Z J ?_
  refine WX.bld ttOk Z Z Z Z Z Z Z ?_
  intro p33
  refine R0 ?_
  refine WX.back0 ?_
  refine TX.tail [0, 4, 7, 11, 12] Z Z J ?_
  refine WX.bld ttOk Z Z Z Z Z Z Z ?_
  intro p34
  refine WX.free 80 (MF.ol [] ([] : List TableEntry)) Z ?_
  refine WX.appPre 43 502 i ((List.take i (a00 l)) : List TableEntry).length ttOk Z Z Z Z Z Z Z Z Z Z Z Z Z hone1 (show i ≤ ((a00 l)).length from (by omega)) (by have z_ := (show i ≤ ((a00 l)).length from (by omega)); first | (simp; done) | (simp only [List.length_append, List.length_cons, List.length_nil, List.length_take, List.length_drop, List.length_set]; omega) | (simp; omega)) (by first | assumption | omega | (simp; omega)) (by first | assumption | omega | (simp; omega)) (fun _ _ => Z) ?_
  intro p35 c26
  refine WX.turn [18] 81 Z (fun h hs => ol_split i (show i ≤ ((a00 l)).length from (by omega)) hs) (gs := [MF.ol (List.take (i * 2) xs2) (List.take i (a00 l)), MF.ol (List.drop (i * 2) xs2) (List.drop i (a00 l))]) Z ?_
  refine WX.turn [80, 81] 83 Z (fun h hs => ol_app hs) (gs := [MF.ol ([] ++ (List.take (i * 2) xs2)) ((List.take i (a00 l)) : List TableEntry)]) Z ?_
  refine WX.turn [17] 84 Z (fun h hs => ol_one (α := TableEntry) (a := (TableEntry.mk (a02 n_) v)) (x := ((p5, c5), ())) hs) (gs := [MF.ol [.slice p5 (((a02 n_).parts).length) c5, .int .i64 (v)] ([(TableEntry.mk (a02 n_) v)] : List TableEntry)]) Z ?_
  have r12 : -9223372036854775808 ≤ v ∧ v ≤ 9223372036854775807 := hokv
  refine WX.know (fun G hΓ => (hΓ.get 84 Z : OwL _ _ _).rd.one) ?_
  intro ho6
  refine WX.appR1 43 49 (((List.take i (a00 l)) ++ [(TableEntry.mk (a02 n_) v)]) : List TableEntry).length ttOk Z Z Z Z Z Z Z Z Z Z Z Z Z ho6 (by first | (simp; done) | omega | (simp only [List.length_append, List.length_cons, List.length_nil, List.length_take, List.length_drop, List.length_set]; omega) | (simp; omega)) (by first | assumption | omega | (simp; omega)) (by first | assumption | omega | (simp; omega)) (fun _ _ => Z) ?_
  intro p36 c27
  refine WX.turn [83, 84] 85 Z (fun h hs => ol_app hs) (gs := [MF.ol (([] ++ (List.take (i * 2) xs2)) ++ [.slice p5 (((a02 n_).parts).length) c5, .int .i64 (v)]) (((List.take i (a00 l)) ++ [(TableEntry.mk (a02 n_) v)]) : List TableEntry)]) Z ?_
  refine WX.appSuf 43 502 i ((((List.take i (a00 l)) ++ [(TableEntry.mk (a02 n_) v)]) ++ (List.drop i (a00 l))) : List TableEntry).length ttOk Z Z Z Z Z Z Z Z Z Z Z Z Z hone1 (show i ≤ ((a00 l)).length from (by omega)) (by have z_ := (show i ≤ ((a00 l)).length from (by omega)); first | (simp; done) | (simp only [List.length_append, List.length_cons, List.length_nil, List.length_take, List.length_drop, List.length_set]; omega) | (simp; omega)) (by first | assumption | omega | (simp; omega)) (by first | assumption | omega | (simp; omega)) (fun _ _ => Z) ?_
  intro p37 c28
  refine WX.turn [82] 86 Z (fun h hs => ol_drop (show i ≤ i by omega) (show i ≤ ((a00 l)).length from (by omega)) hs) (gs := [MF.ol (List.drop (i * 2) xs2) (List.drop i (a00 l))]) Z ?_
  refine WX.turn [85, 86] 87 Z (fun h hs => ol_app hs) (gs := [MF.ol ((([] ++ (List.take (i * 2) xs2)) ++ [.slice p5 (((a02 n_).parts).length) c5, .int .i64 (v)]) ++ (List.drop (i * 2) xs2)) ((((List.take i (a00 l)) ++ [(TableEntry.mk (a02 n_) v)]) ++ (List.drop i (a00 l))) : List TableEntry)]) Z ?_
  refine R0 ?_
  refine WX.seal 43 87 88 Z Z Z Z Z ?_
  refine WX.callV Z Z Z Z Z O Z (fun w G bs hI hΓ => f194 w (n + 3) (by omega) (((List.take i (a00 l)) ++ [(TableEntry.mk (a02 n_) v)]) ++ (List.drop i (a00 l))) p37 c28 (hΓ.get 88 Z) (okl_mk (by first | assumption | omega | (simp; omega)) (fun a ha => GoT.okm (show (n + 2) ≤ (n + 3) by omega) ((all_app (fun a ha => GoT.okm (show (n + 1) ≤ (n + 2) by omega) ((all_app (fun a ha => GoT.okm (show n ≤ (n + 1) by omega) ((fun a ha => (okl hq1).2 a (List.mem_of_mem_take ha)) a ha)) (fun a ha => GoT.okm (by omega) ((all_cons (α := TableEntry) (And.intro hq6 hokv) (fun a ha => by cases ha)) a ha))) a ha)) (fun a ha => GoT.okm (by omega) ((fun a ha => (okl hq1).2 a (List.mem_of_mem_drop ha)) a ha))) a ha)) : GoT.ok (n + 3) ((((List.take i (a00 l)) ++ [(TableEntry.mk (a02 n_) v)]) ++ (List.drop i (a00 l))) : List TableEntry))) ?_
  intro hq17
  refine R0 ?_
  refine WX.cases 57 Z (fun h10 => ?_) (fun h10 => ?_)
  ·skip
   have h10d := (B.nt h10)
   refine R0 ?_
   refine WX.callF 90 (fun _ _ h => GoT.ow_rd h) (fun _ f hf => GoT.fak f hf) Z Z Z Z Z O Z (fun w G bs hI hΓ => f191 w n (by omega) l pl cl (hΓ.get 0 Z) hokl) O O ?_
   rintro ⟨p38, c29⟩ hq18
   have q9 := len_l6Copy l
   refine R0 ?_
   have hP13 : a03 l n_ v = (a00 l, false) := by simp only [a03, h1, hX1, h10, ct, cf]
   refine R1 ?_
   intro w1 G bs hI hΓ
   rw [hP13]
   exact Post.of [91] (p38, c29) hI hΓ Z Z Z (GoT.okm (α := List TableEntry) (by omega) hq18)
  have h10d := (B.nf h10)
  refine R0 ?_
  have hP14 : a03 l n_ v = (((List.take i (a00 l)) ++ [(TableEntry.mk (a02 n_) v)]) ++ (List.drop i (a00 l)), true) := by simp only [a03, h1, hX1, h10, ct, cf]
  refine R1 ?_
  intro w1 G bs hI hΓ
  rw [hP14]
  exact Post.of [89] (p37, c28) hI hΓ Z Z Z (okl_mk (by first | assumption | omega | (simp; omega)) (fun a ha => GoT.okm (show (n + 2) ≤ (n + 3) by omega) ((all_app (fun a ha => GoT.okm (show (n + 1) ≤ (n + 2) by omega) ((all_app (fun a ha => GoT.okm (show n ≤ (n + 1) by omega) ((fun a ha => (okl hq1).2 a (List.mem_of_mem_take ha)) a ha)) (fun a ha => GoT.okm (by omega) ((all_cons (α := TableEntry) (And.intro hq6 hokv) (fun a ha => by cases ha)) a ha))) a ha)) (fun a ha => GoT.okm (by omega) ((fun a ha => (okl hq1).2 a (List.mem_of_mem_drop ha)) a ha))) a ha)) : GoT.ok (n + 3) ((((List.take i (a00 l)) ++ [(TableEntry.mk (a02 n_) v)]) ++ (List.drop i (a00 l))) : List TableEntry))
 have h3d := B.df h3
 refine DX.takes (fuel := 0) ttOk [(5, true), (6, true), (7, true), (8, true), (9, true), (10, true), (11, true), (12, true), (13, true)] J Z ?_
 refine DX.tail2 [] Z Z J ?_
 refine R0 ?_
 have hX2 : a2a l n_ 0 = i := by rw [v2]; rw [a2a]; simp only [h3, h3d, ct, cf, ↓reduceIte, Bool.false_eq_true]
 refine WX.callF 92 (fun _ _ h => GoT.ow_rd h) (fun _ f hf => GoT.fak f hf) Z Z Z Z Z O Z (fun w G bs hI hΓ => f118 w n (by omega) n_ K1 M1 (hΓ.get 1 Z) hokn_) O O ?_
 rintro ⟨p39, c30⟩ hq19
 refine R0 ?_
 refine WX.opn (kk := 2) 503 3 94 Z Z Z ?_
 intro xs3 hx3
 refine WX.cap 503 Z ?_
 intro hcap2
 refine WX.know (fun G hΓ => (hΓ.get 94 Z : OwL _ _ _).rd.one) ?_
 intro hone2
 refine WX.der 95 (MF.rs .der p39 c30 ((a02 n_).parts)) Z (fun _ hΓ => (hΓ.get 93 Z : OwSl _ _ _ _).rd) ?_
 refine WX.draw [4, 5, 7, 11, 12] mixed ?_
 intro bs G0 hΓ0
 refine DX.takes (fuel := 11) ttOk [(1, true), (2, true)] J Z ?_
 have r13 : (l).length ≤ bd n := (okl hokl).1
 have r14 : (a00 l).length ≤ bd n := (okl hq1).1
 refine DX.seeP 3 J Z Z Z Z (looksP_slH i ttOk Z Z Z Z (by simp) (Nat.le_trans (show i ≤ ((a00 l)).length from (by omega)) hcap2)) ?_
 refine DX.takes (fuel := 8) ttOk [(8, true), (9, true)] J Z ?_
 refine DX.seeP 10 J Z Z Z Z (looksP_slL i ttOk Z Z Z Z (by simp) (show i ≤ ((a00 l)).length from (by omega))) ?_
 refine DX.toTX ?_
 intro S_
 refine TX.all2 0 5 J ?_ ?_
 ·skip
  refine TS.op 0 Z J ?_
  refine WX.bld ttOk Z Z Z Z Z Z Z ?_
  intro p40
  refine R0 ?_
  refine WX.back0 ?_
  refine TX.all2 4 5 J ?_ ?_
  ·skip
   refine TS.op 4 Z J ?_
   refine WX.free 96 (MF.ol [] ([] : List TableEntry)) Z ?_
   refine WX.appPre 43 503 i ((List.take i (a00 l)) : List TableEntry).length ttOk Z Z Z Z Z Z Z Z Z Z Z Z Z hone2 (show i ≤ ((a00 l)).length from (by omega)) (by have z_ := (show i ≤ ((a00 l)).length from (by omega)); first | (simp; done) | (simp only [List.length_append, List.length_cons, List.length_nil, List.length_take, List.length_drop, List.length_set]; omega) | (simp; omega)) (by first | assumption | omega | (simp; omega)) (by first | assumption | omega | (simp; omega)) (fun _ _ => Z) ?_
   intro p41 c31
   refine WX.turn [94] 97 Z (fun h hs => ol_split i (show i ≤ ((a00 l)).length from (by omega)) hs) (gs := [MF.ol (List.take (i * 2) xs3) (List.take i (a00 l)), MF.ol (List.drop (i * 2) xs3) (List.drop i (a00 l))]) Z ?_
   refine WX.turn [96, 97] 99 Z (fun h hs => ol_app hs) (gs := [MF.ol ([] ++ (List.take (i * 2) xs3)) ((List.take i (a00 l)) : List TableEntry)]) Z ?_
   refine R0 ?_
   refine WX.back0 ?_
   refine TX.tail [5, 6, 7, 11, 12] Z Z J ?_
   refine R0 ?_
   refine WX.bld ttOk Z Z Z Z Z Z Z ?_
   intro p42
   refine WX.turn [93] 100 Z (fun h hs => ol_one (α := TableEntry) (a := (TableEntry.mk (a02 n_) v)) (x := ((p39, c30), ())) hs) (gs := [MF.ol [.slice p39 (((a02 n_).parts).length) c30, .int .i64 (v)] ([(TableEntry.mk (a02 n_) v)] : List TableEntry)]) Z ?_
   have r15 : -9223372036854775808 ≤ v ∧ v ≤ 9223372036854775807 := hokv
   refine WX.know (fun G hΓ => (hΓ.get 100 Z : OwL _ _ _).rd.one) ?_
   intro ho7
   refine WX.appR1 43 49 (((List.take i (a00 l)) ++ [(TableEntry.mk (a02 n_) v)]) : List TableEntry).length ttOk Z Z Z Z Z Z Z Z Z Z Z Z Z ho7 (by first | (simp; done) | omega | (simp only [List.length_append, List.length_cons, List.length_nil, List.length_take, List.length_drop, List.length_set]; omega) | (simp; omega)) (by first | assumption | omega | (simp; omega)) (by first | assumption | omega | (simp; omega)) (fun _ _ => Z) ?_
   intro p43 c32
   refine WX.turn [99, 100] 101 Z (fun h hs => ol_app hs) (gs := [MF.ol (([] ++ (List.take (i * 2) xs3)) ++ [.slice p39 (((a02 n_).parts).length) c30, .int .i64 (v)]) (((List.take i (a00 l)) ++ [(TableEntry.mk (a02 n_) v)]) : List TableEntry)]) Z ?_
   refine WX.appSuf 43 503 i ((((List.take i (a00 l)) ++ [(TableEntry.mk (a02 n_) v)]) ++ (List.drop i (a00 l))) : List TableEntry).length ttOk Z Z Z Z Z Z Z Z Z Z Z Z Z hone2 (show i ≤ ((a00 l)).length from (by omega)) (by have z_ := (show i ≤ ((a00 l)).length from (by omega)); first | (simp; done) | (simp only [List.length_append, List.length_cons, List.length_nil, List.length_take, List.length_drop, List.length_set]; omega) | (simp; omega)) (by first | assumption | omega | (simp; omega)) (by first | assumption | omega | (simp; omega)) (fun _ _ => Z) ?_
   intro p44 c33
   refine WX.turn [98] 102 Z (fun h hs => ol_drop (show i ≤ i by omega) (show i ≤ ((a00 l)).length from (by omega)) hs) (gs := [MF.ol (List.drop (i * 2) xs3) (List.drop i (a00 l))]) Z ?_
   refine WX.turn [101, 102] 103 Z (fun h hs => ol_app hs) (gs := [MF.ol ((([] ++ (List.take (i * 2) xs3)) ++ [.slice p39 (((a02 n_).parts).length) c30, .int .i64 (v)]) ++ (List.drop (i * 2) xs3)) ((((List.take i (a00 l)) ++ [(TableEntry.mk (a02 n_) v)]) ++ (List.drop i (a00 l))) : List TableEntry)]) Z ?_
   refine R0 ?_
   refine WX.seal 43 103 104 Z Z Z Z Z ?_
   refine WX.callV Z Z Z Z Z O Z (fun w G bs hI hΓ => f194 w (n + 3) (by omega) (((List.take i (a00 l)) ++ [(TableEntry.mk (a02 n_) v)]) ++ (List.drop i (a00 l))) p44 c33 (hΓ.get 104 Z) (okl_mk (by first | assumption | omega | (simp; omega)) (fun a ha => GoT.okm (show (n + 2) ≤ (n + 3) by omega) ((all_app (fun a ha => GoT.okm (show (n + 1) ≤ (n + 2) by omega) ((all_app (fun a ha => GoT.okm (show n ≤ (n + 1) by omega) ((fun a ha => (okl hq1).2 a (List.mem_of_mem_take ha)) a ha)) (fun a ha => GoT.okm (by omega) ((all_cons (α := TableEntry) (And.intro hq19 hokv) (fun a ha => by cases ha)) a ha))) a ha)) (fun a ha => GoT.okm (by omega) ((fun a ha => (okl hq1).2 a (List.mem_of_mem_drop ha)) a ha))) a ha)) : GoT.ok (n + 3) ((((List.take i (a00 l)) ++ [(TableEntry.mk (a02 n_) v)]) ++ (List.drop i (a00 l))) : List TableEntry))) ?_
   intro hq20
   refine R0 ?_
   refine WX.cases 57 Z (fun h11 => ?_) (fun h11 => ?_)
   ·skip
    have h11d := (B.nt h11)
    refine R0 ?_
    refine WX.callF 106 (fun _ _ h => GoT.ow_rd h) (fun _ f hf => GoT.fak f hf) Z Z Z Z Z O Z (fun w G bs hI hΓ => f191 w n (by omega) l pl cl (hΓ.get 0 Z) hokl) O O ?_
    rintro ⟨p45, c34⟩ hq21
    have q10 := len_l6Copy l
    refine R0 ?_
    have hP15 : a03 l n_ v = (a00 l, false) := by simp only [a03, h1, hX2, h11, ct, cf]
    refine R1 ?_
    intro w1 G bs hI hΓ
    rw [hP15]
    exact Post.of [107] (p45, c34) hI hΓ Z Z Z (GoT.okm (α := List TableEntry) (by omega) hq21)
   have h11d := (B.nf h11)
   refine R0 ?_
   have hP16 : a03 l n_ v = (((List.take i (a00 l)) ++ [(TableEntry.mk (a02 n_) v)]) ++ (List.drop i (a00 l)), true) := by simp only [a03, h1, hX2, h11, ct, cf]
   refine R1 ?_
   intro w1 G bs hI hΓ
   rw [hP16]
   exact Post.of [105] (p44, c33) hI hΓ Z Z Z (okl_mk (by first | assumption | omega | (simp; omega)) (fun a ha => GoT.okm (show (n + 2) ≤ (n + 3) by omega) ((all_app (fun a ha => GoT.okm (show (n + 1) ≤ (n + 2) by omega) ((all_app (fun a ha => GoT.okm (show n ≤ (n + 1) by omega) ((fun a ha => (okl hq1).2 a (List.mem_of_mem_take ha)) a ha)) (fun a ha => GoT.okm (by omega) ((all_cons (α := TableEntry) (And.intro hq19 hokv) (fun a ha => by cases ha)) a ha))) a ha)) (fun a ha => GoT.okm (by omega) ((fun a ha => (okl hq1).2 a (List.mem_of_mem_drop ha)) a ha))) a ha)) : GoT.ok (n + 3) ((((List.take i (a00 l)) ++ [(TableEntry.mk (a02 n_) v)]) ++ (List.drop i (a00 l))) : List TableEntry))
  refine TS.op 5 Z J ?_
  refine R0 ?_
  refine WX.back0 ?_
  refine TX.all2 4 6 J ?_ ?_
  ·skip
   refine TS.op 4 Z J ?_
   refine WX.free 108 (MF.ol [] ([] : List TableEntry)) Z ?_
   refine WX.appPre 43 503 i ((List.take i (a00 l)) : List TableEntry).length ttOk Z Z Z Z Z Z Z Z Z Z Z Z Z hone2 (show i ≤ ((a00 l)).length from (by omega)) (by have z_ := (show i ≤ ((a00 l)).length from (by omega)); first | (simp; done) | (simp only [List.length_append, List.length_cons, List.length_nil, List.length_take, List.length_drop, List.length_set]; omega) | (simp; omega)) (by first | assumption | omega | (simp; omega)) (by first | assumption | omega | (simp; omega)) (fun _ _ => Z) ?_
   intro p46 c35
   refine WX.turn [94] 109 Z (fun h hs => ol_split i (show i ≤ ((a00 l)).length from (by omega)) hs) (gs := [MF.ol (List.take (i * 2) xs3) (List.take i (a00 l)), MF.ol (List.drop (i * 2) xs3) (List.drop i (a00 l))]) Z ?_
   refine WX.turn [108, 109] 111 Z (fun h hs => ol_app hs) (gs := [MF.ol ([] ++ (List.take (i * 2) xs3)) ((List.take i (a00 l)) : List TableEntry)]) Z ?_
   refine R0 ?_
   refine WX.back0 ?_
   refine TX.tail [6, 7, 11, 12] Z Z J ?_
   refine WX.bld ttOk Z Z Z Z Z Z Z ?_
   intro p47
   refine WX.turn [93] 112 Z (fun h hs => ol_one (α := TableEntry) (a := (TableEntry.mk (a02 n_) v)) (x := ((p39, c30), ())) hs) (gs := [MF.ol [.slice p39 (((a02 n_).parts).length) c30, .int .i64 (v)] ([(TableEntry.mk (a02 n_) v)] : List TableEntry)]) Z ?_
   have r16 : -9223372036854775808 ≤ v ∧ v ≤ 9223372036854775807 := hokv
   refine WX.know (fun G hΓ => (hΓ.get 112 Z : OwL _ _ _).rd.one) ?_
   intro ho8
   refine WX.appR1 43 49 (((List.take i (a00 l)) ++ [(TableEntry.mk (a02 n_) v)]) : List TableEntry).length ttOk Z Z Z Z Z Z Z Z Z Z Z Z Z ho8 (by first | (simp; done) | omega | (simp only [List.length_append, List.length_cons, List.length_nil, List.length_take, List.length_drop, List.length_set]; omega) | (simp; omega)) (by first | assumption | omega | (simp; omega)) (by first | assumption | omega | (simp; omega)) (fun _ _ => Z) ?_
   intro p48 c36
   refine WX.turn [111, 112] 113 Z (fun h hs => ol_app hs) (gs := [MF.ol (([] ++ (List.take (i * 2) xs3)) ++ [.slice p39 (((a02 n_).parts).length) c30, .int .i64 (v)]) (((List.take i (a00 l)) ++ [(TableEntry.mk (a02 n_) v)]) : List TableEntry)]) Z ?_
   refine WX.appSuf 43 503 i ((((List.take i (a00 l)) ++ [(TableEntry.mk (a02 n_) v)]) ++ (List.drop i (a00 l))) : List TableEntry).length ttOk Z Z Z Z Z Z Z Z Z Z Z Z Z hone2 (show i ≤ ((a00 l)).length from (by omega)) (by have z_ := (show i ≤ ((a00 l)).length from (by omega)); first | (simp; done) | (simp only [List.length_append, List.length_cons, List.length_nil, List.length_take, List.length_drop, List.length_set]; omega) | (simp; omega)) (by first | assumption | omega | (simp; omega)) (by first | assumption | omega | (simp; omega)) (fun _ _ => Z) ?_
   intro p49 c37
   refine WX.turn [110] 114 Z (fun h hs => ol_drop (show i ≤ i by omega) (show i ≤ ((a00 l)).length from (by omega)) hs) (gs := [MF.ol (List.drop (i * 2) xs3) (List.drop i (a00 l))]) Z ?_
   refine WX.turn [113, 114] 115 Z (fun h hs => ol_app hs) (gs := [MF.ol ((([] ++ (List.take (i * 2) xs3)) ++ [.slice p39 (((a02 n_).parts).length) c30, .int .i64 (v)]) ++ (List.drop (i * 2) xs3)) ((((List.take i (a00 l)) ++ [(TableEntry.mk (a02 n_) v)]) ++ (List.drop i (a00 l))) : List TableEntry)]) Z ?_
   refine R0 ?_
   refine WX.seal 43 115 116 Z Z Z Z Z ?_
   refine WX.callV Z Z Z Z Z O Z (fun w G bs hI hΓ => f194 w (n + 3) (by omega) (((List.take i (a00 l)) ++ [(TableEntry.mk (a02 n_) v)]) ++ (List.drop i (a00 l))) p49 c37 (hΓ.get 116 Z) (okl_mk (by first | assumption | omega | (simp; omega)) (fun a ha => GoT.okm (show (n + 2) ≤ (n + 3) by omega) ((all_app (fun a ha => GoT.okm (show (n + 1) ≤ (n + 2) by omega) ((all_app (fun a ha => GoT.okm (show n ≤ (n + 1) by omega) ((fun a ha => (okl hq1).2 a (List.mem_of_mem_take ha)) a ha)) (fun a ha => GoT.okm (by omega) ((all_cons (α := TableEntry) (And.intro hq19 hokv) (fun a ha => by cases ha)) a ha))) a ha)) (fun a ha => GoT.okm (by omega) ((fun a ha => (okl hq1).2 a (List.mem_of_mem_drop ha)) a ha))) a ha)) : GoT.ok (n + 3) ((((List.take i (a00 l)) ++ [(TableEntry.mk (a02 n_) v)]) ++ (List.drop i (a00 l))) : List TableEntry))) ?_
   intro hq22
   refine R0 ?_
   refine WX.cases 57 Z (fun h12 => ?_) (fun h12 => ?_)
   ·skip
    have h12d := (B.nt h12)
    refine R0 ?_
    refine WX.callF 118 (fun _ _ h => GoT.ow_rd h) (fun _ f hf => GoT.fak f hf) Z Z Z Z Z O Z (fun w G bs hI hΓ => f191 w n (by omega) l pl cl (hΓ.get 0 Z) hokl) O O ?_
    rintro ⟨p50, c38⟩ hq23
    have q11 := len_l6Copy l
    refine R0 ?_
    have hP17 : a03 l n_ v = (a00 l, false) := by simp only [a03, h1, hX2, h12, ct, cf]
    refine R1 ?_
    intro w1 G bs hI hΓ
    rw [hP17]
    exact Post.of [119] (p50, c38) hI hΓ Z Z Z (GoT.okm (α := List TableEntry) (by omega) hq23)
   have h12d := (B.nf h12)
   refine R0 ?_
   have hP18 : a03 l n_ v = (((List.take i (a00 l)) ++ [(TableEntry.mk (a02 n_) v)]) ++ (List.drop i (a00 l)), true) := by simp only [a03, h1, hX2, h12, ct, cf]
   refine R1 ?_
   intro w1 G bs hI hΓ
   rw [hP18]
   exact Post.of [117] (p49, c37) hI hΓ Z Z Z (okl_mk (by first | assumption | omega | (simp; omega)) (fun a ha => GoT.okm (show (n + 2) ≤ (n + 3) by omega) ((all_app (fun a ha => GoT.okm (show (n + 1) ≤ (n + 2) by omega) ((all_app (fun a ha => GoT.okm (show n ≤ (n + 1) by omega) ((fun a ha => (okl hq1).2 a (List.mem_of_mem_take ha)) a ha)) (fun a ha => GoT.okm (by omega) ((all_cons (α := TableEntry) (And.intro hq19 hokv) (fun a ha => by cases ha)) a ha))) a ha)) (fun a ha => GoT.okm (by omega) ((fun a ha => (okl hq1).2 a (List.mem_of_mem_drop ha)) a ha))) a ha)) : GoT.ok (n + 3) ((((List.take i (a00 l)) ++ [(TableEntry.mk (a02 n_) v)]) ++ (List.drop i (a00 l))) : List TableEntry))
  refine TS.op 6 Z J ?_
  refine WX.bld ttOk Z Z Z Z Z Z Z ?_
  intro p51
  refine R0 ?_
  refine WX.back0 ?_
  refine TX.tail [4, 7, 11, 12] Z Z J ?_
  refine WX.free 120 (MF.ol [] ([] : List TableEntry)) Z ?_
  refine WX.appPre 43 503 i ((List.take i (a00 l)) : List TableEntry).length ttOk Z Z Z Z Z Z Z Z Z Z Z Z Z hone2 (show i ≤ ((a00 l)).length from (by omega)) (by have z_ := (show i ≤ ((a00 l)).length from (by omega)); first | (simp; done) | (simp only [List.length_append, List.length_cons, List.length_nil, List.length_take, List.length_drop, List.length_set]; omega) | (simp; omega)) (by first | assumption | omega | (simp; omega)) (by first | assumption | omega | (simp; omega)) (fun _ _ => Z) ?_
  intro p52 c39
  refine WX.turn [94] 121 Z (fun h hs => ol_split i (show i ≤ ((a00 l)).length from (by omega)) hs) (gs := [MF.ol (List.take (i * 2) xs3) (List.take i (a00 l)), MF.ol (List.drop (i * 2) xs3) (List.drop i (a00 l))]) Z ?_
  refine WX.turn [120, 121] 123 Z (fun h hs => ol_app hs) (gs := [MF.ol ([] ++ (List.take (i * 2) xs3)) ((List.take i (a00 l)) : List TableEntry)]) Z ?_
  refine WX.turn [93] 124 Z (fun h hs => ol_one (α := TableEntry) (a := (TableEntry.mk (a02 n_) v)) (x := ((p39, c30), ())) hs) (gs := [MF.ol [.slice p39 (((a02 n_).parts).length) c30, .int .i64 (v)] ([(TableEntry.mk (a02 n_) v)] : List TableEntry)]) Z ?_
  have r17 : -9223372036854775808 ≤ v ∧ v ≤ 9223372036854775807 := hokv
  refine WX.know (fun G hΓ => (hΓ.get 124 Z : OwL _ _ _).rd.one) ?_
  intro ho9
  refine WX.appR1 43 49 (((List.take i (a00 l)) ++ [(TableEntry.mk (a02 n_) v)]) : List TableEntry).length ttOk Z Z Z Z Z Z Z Z Z Z Z Z Z ho9 (by first | (simp; done) | omega | (simp only [List.length_append, List.length_cons, List.length_nil, List.length_take, List.length_drop, List.length_set]; omega) | (simp; omega)) (by first | assumption | omega | (simp; omega)) (by first | assumption | omega | (simp; omega)) (fun _ _ => Z) ?_
  intro p53 c40
  refine WX.turn [123, 124] 125 Z (fun h hs => ol_app hs) (gs := [MF.ol (([] ++ (List.take (i * 2) xs3)) ++ [.slice p39 (((a02 n_).parts).length) c30, .int .i64 (v)]) (((List.take i (a00 l)) ++ [(TableEntry.mk (a02 n_) v)]) : List TableEntry)]) Z ?_
  refine WX.appSuf 43 503 i ((((List.take i (a00 l)) ++ [(TableEntry.mk (a02 n_) v)]) ++ (List.drop i (a00 l))) : List TableEntry).length ttOk Z Z Z Z Z Z Z Z Z Z Z Z Z hone2 (show i ≤ ((a00 l)).length from (by omega)) (by have z_ := (show i ≤ ((a00 l)).length from (by omega)); first | (simp; done) | (simp only [List.length_append, List.length_cons, List.length_nil, List.length_take, List.length_drop, List.length_set]; omega) | (simp; omega)) (by first | assumption | omega | (simp; omega)) (by first | assumption | omega | (simp; omega)) (fun _ _ => Z) ?_
  intro p54 c41
  refine WX.turn [122] 126 Z (fun h hs => ol_drop (show i ≤ i by omega) (show i ≤ ((a00 l)).length from (by omega)) hs) (gs := [MF.ol (List.drop (i * 2) xs3) (List.drop i (a00 l))]) Z ?_
  refine WX.turn [125, 126] 127 Z (fun h hs => ol_app hs) (gs := [MF.ol ((([] ++ (List.take (i * 2) xs3)) ++ [.slice p39 (((a02 n_).parts).length) c30, .int .i64 (v)]) ++ (List.drop (i * 2) xs3)) ((((List.take i (a00 l)) ++ [(TableEntry.mk (a02 n_) v)]) ++ (List.drop i (a00 l))) : List TableEntry)]) Z ?_
  refine R0 ?_
  refine WX.seal 43 127 128 Z Z Z Z Z ?_
  refine WX.callV Z Z Z Z Z O Z (fun w G bs hI hΓ => f194 w (n + 3) (by omega) (((List.take i (a00 l)) ++ [(TableEntry.mk (a02 n_) v)]) ++ (List.drop i (a00 l))) p54 c41 (hΓ.get 128 Z) (okl_mk (by first | assumption | omega | (simp; omega)) (fun a ha => GoT.okm (show (n + 2) ≤ (n + 3) by omega) ((all_app (fun a ha => GoT.okm (show (n + 1) ≤ (n + 2) by omega) ((all_app (fun a ha => GoT.okm (show n ≤ (n + 1) by omega) ((fun a ha => (okl hq1).2 a (List.mem_of_mem_take ha)) a ha)) (fun a ha => GoT.okm (by omega) ((all_cons (α := TableEntry) (And.intro hq19 hokv) (fun a ha => by cases ha)) a ha))) a ha)) (fun a ha => GoT.okm (by omega) ((fun a ha => (okl hq1).2 a (List.mem_of_mem_drop ha)) a ha))) a ha)) : GoT.ok (n + 3) ((((List.take i (a00 l)) ++ [(TableEntry.mk (a02 n_) v)]) ++ (List.drop i (a00 l))) : List TableEntry))) ?_
  intro hq24
  refine R0 ?_
  refine WX.cases 57 Z (fun h13 => ?_) (fun h13 => ?_)
  ·skip
   have h13d := (B.nt h13)
   refine R0 ?_
   refine WX.callF 130 (fun _ _ h => GoT.ow_rd h) (fun _ f hf => GoT.fak f hf) Z Z Z Z Z O Z (fun w G bs hI hΓ => f191 w n (by omega) l pl cl (hΓ.get 0 Z) hokl) O O ?_
   rintro ⟨p55, c42⟩ hq25
   have q12 := len_l6Copy l
   refine R0 ?_
   have hP19 : a03 l n_ v = (a00 l, false) := by simp only [a03, h1, hX2, h13, ct, cf]
   refine R1 ?_
   intro w1 G bs hI hΓ
   rw [hP19]
   exact Post.of [131] (p55, c42) hI hΓ Z Z Z (GoT.okm (α := List TableEntry) (by omega) hq25)
  have h13d := (B.nf h13)
  refine R0 ?_
  have hP20 : a03 l n_ v = (((List.take i (a00 l)) ++ [(TableEntry.mk (a02 n_) v)]) ++ (List.drop i (a00 l)), true) := by simp only [a03, h1, hX2, h13, ct, cf]
  refine R1 ?_
  intro w1 G bs hI hΓ
  rw [hP20]
  exact Post.of [129] (p54, c41) hI hΓ Z Z Z (okl_mk (by first | assumption | omega | (simp; omega)) (fun a ha => GoT.okm (show (n + 2) ≤ (n + 3) by omega) ((all_app (fun a ha => GoT.okm (show (n + 1) ≤ (n + 2) by omega) ((all_app (fun a ha => GoT.okm (show n ≤ (n + 1) by omega) ((fun a ha => (okl hq1).2 a (List.mem_of_mem_take ha)) a ha)) (fun a ha => GoT.okm (by omega) ((all_cons (α := TableEntry) (And.intro hq19 hokv) (fun a ha => by cases ha)) a ha))) a ha)) (fun a ha => GoT.okm (by omega) ((fun a ha => (okl hq1).2 a (List.mem_of_mem_drop ha)) a ha))) a ha)) : GoT.ok (n + 3) ((((List.take i (a00 l)) ++ [(TableEntry.mk (a02 n_) v)]) ++ (List.drop i (a00 l))) : List TableEntry))
 refine TS.op 5 Z J ?_
 refine R0 ?_
 refine WX.back0 ?_
 refine TX.all2 0 6 J ?_ ?_
 ·skip
  refine TS.op 0 Z J ?_
  refine WX.bld ttOk Z Z Z Z Z Z Z ?_
  intro p56
  refine R0 ?_
  refine WX.back0 ?_
  refine TX.all2 4 6 J ?_ ?_
  ·skip
   refine TS.op 4 Z J ?_
   refine WX.free 132 (MF.ol [] ([] : List TableEntry)) Z ?_
   refine WX.appPre 43 503 i ((List.take i (a00 l)) : List TableEntry).length ttOk Z Z Z Z Z Z Z Z Z Z Z Z Z hone2 (show i ≤ ((a00 l)).length from (by omega)) (by have z_ := (show i ≤ ((a00 l)).length from (by omega)); first | (simp; done) | (simp only [List.length_append, List.length_cons, List.length_nil, List.length_take, List.length_drop, List.length_set]; omega) | (simp; omega)) (by first | assumption | omega | (simp; omega)) (by first | assumption | omega | (simp; omega)) (fun _ _ => Z) ?_
   intro p57 c43
   refine WX.turn [94] 133 Z (fun h hs => ol_split i (show i ≤ ((a00 l)).length from (by omega)) hs) (gs := [MF.ol (List.take (i * 2) xs3) (List.take i (a00 l)), MF.ol (List.drop (i * 2) xs3) (List.drop i (a00 l))]) Z ?_
   refine WX.turn [132, 133] 135 Z (fun h hs => ol_app hs) (gs := [MF.ol ([] ++ (List.take (i * 2) xs3)) ((List.take i (a00 l)) : List TableEntry)]) Z ?_
   refine R0 ?_
   refine WX.back0 ?_
   refine TX.tail [6, 7, 11, 12] Z Z J ?_
   refine WX.bld ttOk Z Z Z Z Z Z Z ?_
   intro p58
   refine WX.turn [93] 136 Z (fun h hs => ol_one (α := TableEntry) (a := (TableEntry.mk (a02 n_) v)) (x := ((p39, c30), ())) hs) (gs := [MF.ol [.slice p39 (((a02 n_).parts).length) c30, .int .i64 (v)] ([(TableEntry.mk (a02 n_) v)] : List TableEntry)]) Z ?_
   have r18 : -9223372036854775808 ≤ v ∧ v ≤ 9223372036854775807 := hokv
   refine WX.know (fun G hΓ => (hΓ.get 136 Z : OwL _ _ _).rd.one) ?_
   intro ho10
   refine WX.appR1 43 49 (((List.take i (a00 l)) ++ [(TableEntry.mk (a02 n_) v)]) : List TableEntry).length ttOk Z Z Z Z Z Z Z Z Z Z Z Z Z ho10 (by first | (simp; done) | omega | (simp only [List.length_append, List.length_cons, List.length_nil, List.length_take, List.length_drop, List.length_set]; omega) | (simp; omega)) (by first | assumption | omega | (simp; omega)) (by first | assumption | omega | (simp; omega)) (fun _ _ => Z) ?_
   intro p59 c44
   refine WX.turn [135, 136] 137 Z (fun h hs => ol_app hs) (gs := [MF.ol (([] ++ (List.take (i * 2) xs3)) ++ [.slice p39 (((a02 n_).parts).length) c30, .int .i64 (v)]) (((List.take i (a00 l)) ++ [(TableEntry.mk (a02 n_) v)]) : List TableEntry)]) Z ?_
   refine WX.appSuf 43 503 i ((((List.take i (a00 l)) ++ [(TableEntry.mk (a02 n_) v)]) ++ (List.drop i (a00 l))) : List TableEntry).length ttOk Z Z Z Z Z Z Z Z Z Z Z Z Z hone2 (show i ≤ ((a00 l)).length from (by omega)) (by have z_ := (show i ≤ ((a00 l)).length from (by omega)); first | (simp; done) | (simp only [List.length_append, List.length_cons, List.length_nil, List.length_take, List.length_drop, List.length_set]; omega) | (simp; omega)) (by first | assumption | omega | (simp; omega)) (by first | assumption | omega | (simp; omega)) (fun _ _ => Z) ?_
   intro p60 c45
   refine WX.turn [134] 138 Z (fun h hs => ol_drop (show i ≤ i by omega) (show i ≤ ((a00 l)).length from (by omega)) hs) (gs := [MF.ol (List.drop (i * 2) xs3) (List.drop i (a00 l))]) Z ?_
   refine WX.turn [137, 138] 139 Z (fun h hs => ol_app hs) (gs := [MF.ol ((([] ++ (List.take (i * 2) xs3)) ++ [.slice p39 (((a02 n_).parts).length) c30, .int .i64 (v)]) ++ (List.drop (i * 2) xs3)) ((((List.take i (a00 l)) ++ [(TableEntry.mk (a02 n_) v)]) ++ (List.drop i (a00 l))) : List TableEntry)]) Z ?_
   refine R0 ?_
   refine WX.seal 43 139 140 Z Z Z Z Z ?_
   refine WX.callV Z Z Z Z Z O Z (fun w G bs hI hΓ => f194 w (n + 3) (by omega) (((List.take i (a00 l)) ++ [(TableEntry.mk (a02 n_) v)]) ++ (List.drop i (a00 l))) p60 c45 (hΓ.get 140 Z) (okl_mk (by first | assumption | omega | (simp; omega)) (fun a ha => GoT.okm (show (n + 2) ≤ (n + 3) by omega) ((all_app (fun a ha => GoT.okm (show (n + 1) ≤ (n + 2) by omega) ((all_app (fun a ha => GoT.okm (show n ≤ (n + 1) by omega) ((fun a ha => (okl hq1).2 a (List.mem_of_mem_take ha)) a ha)) (fun a ha => GoT.okm (by omega) ((all_cons (α := TableEntry) (And.intro hq19 hokv) (fun a ha => by cases ha)) a ha))) a ha)) (fun a ha => GoT.okm (by omega) ((fun a ha => (okl hq1).2 a (List.mem_of_mem_drop ha)) a ha))) a ha)) : GoT.ok (n + 3) ((((List.take i (a00 l)) ++ [(TableEntry.mk (a02 n_) v)]) ++ (List.drop i (a00 l))) : List TableEntry))) ?_
   intro hq26
   refine R0 ?_
   refine WX.cases 57 Z (fun h14 => ?_) (fun h14 => ?_)
   ·skip
    have h14d := (B.nt h14)
    refine R0 ?_
    refine WX.callF 142 (fun _ _ h => GoT.ow_rd h) (fun _ f hf => GoT.fak f hf) Z Z Z Z Z O Z (fun w G bs hI hΓ => f191 w n (by omega) l pl cl (hΓ.get 0 Z) hokl) O O ?_
    rintro ⟨p61, c46⟩ hq27
    have q13 := len_l6Copy l
    refine R0 ?_
    have hP21 : a03 l n_ v = (a00 l, false) := by simp only [a03, h1, hX2, h14, ct, cf]
    refine R1 ?_
    intro w1 G bs hI hΓ
    rw [hP21]
    exact Post.of [143] (p61, c46) hI hΓ Z Z Z (GoT.okm (α := List TableEntry) (by omega) hq27)
   have h14d := (B.nf h14)
   refine R0 ?_
   have hP22 : a03 l n_ v = (((List.take i (a00 l)) ++ [(TableEntry.mk (a02 n_) v)]) ++ (List.drop i (a00 l)), true) := by simp only [a03, h1, hX2, h14, ct, cf]
   refine R1 ?_
   intro w1 G bs hI hΓ
   rw [hP22]
   exact Post.of [141] (p60, c45) hI hΓ Z Z Z (okl_mk (by first | assumption | omega | (simp; omega)) (fun a ha => GoT.okm (show (n + 2) ≤ (n + 3) by omega) ((all_app (fun a ha => GoT.okm (show (n + 1) ≤ (n + 2) by omega) ((all_app (fun a ha => GoT.okm (show n ≤ (n + 1) by omega) ((fun a ha => (okl hq1).2 a (List.mem_of_mem_take ha)) a ha)) (fun a ha => GoT.okm (by omega) ((all_cons (α := TableEntry) (And.intro hq19 hokv) (fun a ha => by cases ha)) a ha))) a ha)) (fun a ha => GoT.okm (by omega) ((fun a ha => (okl hq1).2 a (List.mem_of_mem_drop ha)) a ha))) a ha)) : GoT.ok (n + 3) ((((List.take i (a00 l)) ++ [(TableEntry.mk (a02 n_) v)]) ++ (List.drop i (a00 l))) : List TableEntry))
  refine TS.op 6 Z J ?_
  refine WX.bld ttOk Z Z Z Z Z Z Z ?_
  intro p62
  refine R0 ?_
  refine WX.back0 ?_
  refine TX.tail [4, 7, 11, 12] Z Z J ?_
  refine WX.free 144 (MF.ol [] ([] : List TableEntry)) Z ?_
  refine WX.appPre 43 503 i ((List.take i (a00 l)) : List TableEntry).length ttOk Z Z Z Z Z Z Z Z Z Z Z Z Z hone2 (show i ≤ ((a00 l)).length from (by omega)) (by have z_ := (show i ≤ ((a00 l)).length from (by omega)); first | (simp; done) | (simp only [List.length_append, List.length_cons, List.length_nil, List.length_take, List.length_drop, List.length_set]; omega) | (simp; omega)) (by first | assumption | omega | (simp; omega)) (by first | assumption | omega | (simp; omega)) (fun _ _ => Z) ?_
  intro p63 c47
  refine WX.turn [94] 145 Z (fun h hs => ol_split i (show i ≤ ((a00 l)).length from (by omega)) hs) (gs := [MF.ol (List.take (i * 2) xs3) (List.take i (a00 l)), MF.ol (List.drop (i * 2) xs3) (List.drop i (a00 l))]) Z ?_
  refine WX.turn [144, 145] 147 Z (fun h hs => ol_app hs) (gs := [MF.ol ([] ++ (List.take (i * 2) xs3)) ((List.take i (a00 l)) : List TableEntry)]) Z ?_
  refine WX.turn [93] 148 Z (fun h hs => ol_one (α := TableEntry) (a := (TableEntry.mk (a02 n_) v)) (x := ((p39, c30), ())) hs) (gs := [MF.ol [.slice p39 (((a02 n_).parts).length) c30, .int .i64 (v)] ([(TableEntry.mk (a02 n_) v)] : List TableEntry)]) Z ?_
  have r19 : -9223372036854775808 ≤ v ∧ v ≤ 9223372036854775807 := hokv
  refine WX.know (fun G hΓ => (hΓ.get 148 Z : OwL _ _ _).rd.one) ?_
  intro ho11
  refine WX.appR1 43 49 (((List.take i (a00 l)) ++ [(TableEntry.mk (a02 n_) v)]) : List TableEntry).length ttOk Z Z Z Z Z Z Z Z Z Z Z Z Z ho11 (by first | (simp; done) | omega | (simp only [List.length_append, List.length_cons, List.length_nil, List.length_take, List.length_drop, List.length_set]; omega) | (simp; omega)) (by first | assumption | omega | (simp; omega)) (by first | assumption | omega | (simp; omega)) (fun _ _ => Z) ?_
  intro p64 c48
  refine WX.turn [147, 148] 149 Z (fun h hs => ol_app hs) (gs := [MF.ol (([] ++ (List.take (i * 2) xs3)) ++ [.slice p39 (((a02 n_).parts).length) c30, .int .i64 (v)]) (((List.take i (a00 l)) ++ [(TableEntry.mk (a02 n_) v)]) : List TableEntry)]) Z ?_
  refine WX.appSuf 43 503 i ((((List.take i (a00 l)) ++ [(TableEntry.mk (a02 n_) v)]) ++ (List.drop i (a00 l))) : List TableEntry).length ttOk Z Z Z Z Z Z Z Z Z Z Z Z Z hone2 (show i ≤ ((a00 l)).length from (by omega)) (by have z_ := (show i ≤ ((a00 l)).length from (by omega)); first | (simp; done) | (simp only [List.length_append, List.length_cons, List.length_nil, List.length_take, List.length_drop, List.length_set]; omega) | (simp; omega)) (by first | assumption | omega | (simp; omega)) (by first | assumption | omega | (simp; omega)) (fun _ _ => Z) ?_
  intro p65 c49
  refine WX.turn [146] 150 Z (fun h hs => ol_drop (show i ≤ i by omega) (show i ≤ ((a00 l)).length from (by omega)) hs) (gs := [MF.ol (List.drop (i * 2) xs3) (List.drop i (a00 l))]) Z ?_
  refine WX.turn [149, 150] 151 Z (fun h hs => ol_app hs) (gs := [MF.ol ((([] ++ (List.take (i * 2) xs3)) ++ [.slice p39 (((a02 n_).parts).length) c30, .int .i64 (v)]) ++ (List.drop (i * 2) xs3)) ((((List.take i (a00 l)) ++ [(TableEntry.mk (a02 n_) v)]) ++ (List.drop i (a00 l))) : List TableEntry)]) Z ?_
  refine R0 ?_
  refine WX.seal 43 151 152 Z Z Z Z Z ?_
  refine WX.callV Z Z Z Z Z O Z (fun w G bs hI hΓ => f194 w (n + 3) (by omega) (((List.take i (a00 l)) ++ [(TableEntry.mk (a02 n_) v)]) ++ (List.drop i (a00 l))) p65 c49 (hΓ.get 152 Z) (okl_mk (by first | assumption | omega | (simp; omega)) (fun a ha => GoT.okm (show (n + 2) ≤ (n + 3) by omega) ((all_app (fun a ha => GoT.okm (show (n + 1) ≤ (n + 2) by omega) ((all_app (fun a ha => GoT.okm (show n ≤ (n + 1) by omega) ((fun a ha => (okl hq1).2 a (List.mem_of_mem_take ha)) a ha)) (fun a ha => GoT.okm (by omega) ((all_cons (α := TableEntry) (And.intro hq19 hokv) (fun a ha => by cases ha)) a ha))) a ha)) (fun a ha => GoT.okm (by omega) ((fun a ha => (okl hq1).2 a (List.mem_of_mem_drop ha)) a ha))) a ha)) : GoT.ok (n + 3) ((((List.take i (a00 l)) ++ [(TableEntry.mk (a02 n_) v)]) ++ (List.drop i (a00 l))) : List TableEntry))) ?_
  intro hq28
  refine R0 ?_
  refine WX.cases 57 Z (fun h15 => ?_) (fun h15 => ?_)
  ·skip
   have h15d := (B.nt h15)
   refine R0 ?_
   refine WX.callF 154 (fun _ _ h => GoT.ow_rd h) (fun _ f hf => GoT.fak f hf) Z Z Z Z Z O Z (fun w G bs hI hΓ => f191 w n (by omega) l pl cl (hΓ.get 0 Z) hokl) O O ?_
   rintro ⟨p66, c50⟩ hq29
   have q14 := len_l6Copy l
   refine R0 ?_
   have hP23 : a03 l n_ v = (a00 l, false) := by simp only [a03, h1, hX2, h15, ct, cf]
   refine R1 ?_
   intro w1 G bs hI hΓ
   rw [hP23]
   exact Post.of [155] (p66, c50) hI hΓ Z Z Z (GoT.okm (α := List TableEntry) (by omega) hq29)
  have h15d := (B.nf h15)
  refine R0 ?_
  have hP24 : a03 l n_ v = (((List.take i (a00 l)) ++ [(TableEntry.mk (a02 n_) v)]) ++ (List.drop i (a00 l)), true) := by simp only [a03, h1, hX2, h15, ct, cf]
  refine R1 ?_
  intro w1 G bs hI hΓ
  rw [hP24]
  exact Post.of [153] (p65, c49) hI hΓ Z Z Z (okl_mk (by first | assumption | omega | (simp; omega)) (fun a ha => GoT.okm (show (n + 2) ≤ (n + 3) by omega) ((all_app (fun a ha => GoT.okm (show (n + 1) ≤ (n + 2) by omega) ((all_app (fun a ha => GoT.okm (show n ≤ (n + 1) by omega) ((fun a ha => (okl hq1).2 a (List.mem_of_mem_take ha)) a ha)) (fun a ha => GoT.okm (by omega) ((all_cons (α := TableEntry) (And.intro hq19 hokv) (fun a ha => by cases ha)) a ha))) a ha)) (fun a ha => GoT.okm (by omega) ((fun a ha => (okl hq1).2 a (List.mem_of_mem_drop ha)) a ha))) a ha)) : GoT.ok (n + 3) ((((List.take i (a00 l)) ++ [(TableEntry.mk (a02 n_) v)]) ++ (List.drop i (a00 l))) : List TableEntry))
 refine TS.op 6 Z J ?_
 refine WX.bld ttOk Z Z Z Z Z Z Z ?_
 intro p67
 refine R0 ?_
 refine WX.back0 ?_
 refine TX.tail [0, 4, 7, 11, 12] Z Z J ?_
 refine WX.bld ttOk Z Z Z Z Z Z Z ?_
 intro p68
 refine WX.free 156 (MF.ol [] ([] : List TableEntry)) Z ?_
 refine WX.appPre 43 503 i ((List.take i (a00 l)) : List TableEntry).length ttOk Z Z Z Z Z Z Z Z Z Z Z Z Z hone2 (show i ≤ ((a00 l)).length from (by omega)) (by have z_ := (show i ≤ ((a00 l)).length from (by omega)); first | (simp; done) | (simp only [List.length_append, List.length_cons, List.length_nil, List.length_take, List.length_drop, List.length_set]; omega) | (simp; omega)) (by first | assumption | omega | (simp; omega)) (by first | assumption | omega | (simp; omega)) (fun _ _ => Z) ?_
 intro p69 c51
 refine WX.turn [94] 157 Z (fun h hs => ol_split i (show i ≤ ((a00 l)).length from (by omega)) hs) (gs := [MF.ol (List.take (i * 2) xs3) (List.take i (a00 l)), MF.ol (List.drop (i * 2) xs3) (List.drop i (a00 l))]) Z ?_
 refine WX.turn [156, 157] 159 Z (fun h hs => ol_app hs) (gs := [MF.ol ([] ++ (List.take (i * 2) xs3)) ((List.take i (a00 l)) : List TableEntry)]) Z ?_
 refine WX.turn [93] 160 Z (fun h hs => ol_one (α := TableEntry) (a := (TableEntry.mk (a02 n_) v)) (x := ((p39, c30), ())) hs) (gs := [MF.ol [.slice p39 (((a02 n_).parts).length) c30, .int .i64 (v)] ([(TableEntry.mk (a02 n_) v)] : List TableEntry)]) Z ?_
 have r20 : -9223372036854775808 ≤ v ∧ v ≤ 9223372036854775807 := hokv
 refine WX.know (fun G hΓ => (hΓ.get 160 Z : OwL _ _ _).rd.one) ?_
 intro ho12
 refine WX.appR1 43 49 (((List.take i (a00 l)) ++ [(TableEntry.mk (a02 n_) v)]) : List TableEntry).length ttOk Z Z Z Z Z Z Z Z Z Z Z Z Z ho12 (by first | (simp; done) | omega | (simp only [List.length_append, List.length_cons, List.length_nil, List.length_take, List.length_drop, List.length_set]; omega) | (simp; omega)) (by first | assumption | omega | (simp; omega)) (by first | assumption | omega | (simp; omega)) (fun _ _ => Z) ?_
 intro p70 c52
 refine WX.turn [159, 160] 161 Z (fun h hs => ol_app hs) (gs := [MF.ol (([] ++ (List.take (i * 2) xs3)) ++ [.slice p39 (((a02 n_).parts).length) c30, .int .i64 (v)]) (((List.take i (a00 l)) ++ [(TableEntry.mk (a02 n_) v)]) : List TableEntry)]) Z ?_
 refine WX.appSuf 43 503 i ((((List.take i (a00 l)) ++ [(TableEntry.mk (a02 n_) v)]) ++ (List.drop i (a00 l))) : List TableEntry).length ttOk Z Z Z Z Z Z Z Z Z Z Z Z Z hone2 (show i ≤ ((a00 l)).length from (by omega)) (by have z_ := (show i ≤ ((a00 l)).length from (by omega)); first | (simp; done) | (simp only [List.length_append, List.length_cons, List.length_nil, List.length_take, List.length_drop, List.length_set]; omega) | (simp; omega)) (by first | assumption | omega | (simp; omega)) (by first | assumption | omega | (simp; omega)) (fun _ _ => Z) ?_
 intro p71 c53
 refine WX.turn [158] 162 Z (fun h hs => ol_drop (show i ≤ i by omega) (show i ≤ ((a00 l)).length from (by omega)) hs) (gs := [MF.ol (List.drop (i * 2) xs3) (List.drop i (a00 l))]) Z ?_
 refine WX.turn [161, 162] 163 Z (fun h hs => ol_app hs) (gs := [MF.ol ((([] ++ (List.take (i * 2) xs3)) ++ [.slice p39 (((a02 n_).parts).length) c30, .int .i64 (v)]) ++ (List.drop (i * 2) xs3)) ((((List.take i (a00 l)) ++ [(TableEntry.mk (a02 n_) v)]) ++ (List.drop i (a00 l))) : List TableEntry)]) Z ?_
 refine R0 ?_
 refine WX.seal 43 163 164 Z Z Z Z Z ?_
 refine WX.callV Z Z Z Z Z O Z (fun w G bs hI hΓ => f194 w (n + 3) (by omega) (((List.take i (a00 l)) ++ [(TableEntry.mk (a02 n_) v)]) ++ (List.drop i (a00 l))) p71 c53 (hΓ.get 164 Z) (okl_mk (by first | assumption | omega | (simp; omega)) (fun a ha => GoT.okm (show (n + 2) ≤ (n + 3) by omega) ((all_app (fun a ha => GoT.okm (show (n + 1) ≤ (n + 2) by omega) ((all_app (fun a ha => GoT.okm (show n ≤ (n + 1) by omega) ((fun a ha => (okl hq1).2 a (List.mem_of_mem_take ha)) a ha)) (fun a ha => GoT.okm (by omega) ((all_cons (α := TableEntry) (And.intro hq19 hokv) (fun a ha => by cases ha)) a ha))) a ha)) (fun a ha => GoT.okm (by omega) ((fun a ha => (okl hq1).2 a (List.mem_of_mem_drop ha)) a ha))) a ha)) : GoT.ok (n + 3) ((((List.take i (a00 l)) ++ [(TableEntry.mk (a02 n_) v)]) ++ (List.drop i (a00 l))) : List TableEntry))) ?_
 intro hq30
 refine R0 ?_
 refine WX.cases 57 Z (fun h16 => ?_) (fun h16 => ?_)
 ·skip
  have h16d := (B.nt h16)
  refine R0 ?_
  refine WX.callF 166 (fun _ _ h => GoT.ow_rd h) (fun _ f hf => GoT.fak f hf) Z Z Z Z Z O Z (fun w G bs hI hΓ => f191 w n (by omega) l pl cl (hΓ.get 0 Z) hokl) O O ?_
  rintro ⟨p72, c54⟩ hq31
  have q15 := len_l6Copy l
  refine R0 ?_
  have hP25 : a03 l n_ v = (a00 l, false) := by simp only [a03, h1, hX2, h16, ct, cf]
  refine R1 ?_
  intro w1 G bs hI hΓ
  rw [hP25]
  exact Post.of [167] (p72, c54) hI hΓ Z Z Z (GoT.okm (α := List TableEntry) (by omega) hq31)
 have h16d := (B.nf h16)
 refine R0 ?_
 have hP26 : a03 l n_ v = (((List.take i (a00 l)) ++ [(TableEntry.mk (a02 n_) v)]) ++ (List.drop i (a00 l)), true) := by simp only [a03, h1, hX2, h16, ct, cf]
 refine R1 ?_
 intro w1 G bs hI hΓ
 rw [hP26]
 exact Post.of [165] (p71, c53) hI hΓ Z Z Z (okl_mk (by first | assumption | omega | (simp; omega)) (fun a ha => GoT.okm (show (n + 2) ≤ (n + 3) by omega) ((all_app (fun a ha => GoT.okm (show (n + 1) ≤ (n + 2) by omega) ((all_app (fun a ha => GoT.okm (show n ≤ (n + 1) by omega) ((fun a ha => (okl hq1).2 a (List.mem_of_mem_take ha)) a ha)) (fun a ha => GoT.okm (by omega) ((all_cons (α := TableEntry) (And.intro hq19 hokv) (fun a ha => by cases ha)) a ha))) a ha)) (fun a ha => GoT.okm (by omega) ((fun a ha => (okl hq1).2 a (List.mem_of_mem_drop ha)) a ha))) a ha)) : GoT.ok (n + 3) ((((List.take i (a00 l)) ++ [(TableEntry.mk (a02 n_) v)]) ++ (List.drop i (a00 l))) : List TableEntry))
end Go.Proofs.YtolepebgdfdciaaGreat

namespace Go.Stp
set_option linter.unusedVariables false
set_option linter.unusedSimpArgs false
def a2y : List Publication → (List Publication) → (List Publication)
 | [], out => ((out) : List Publication)
 | e1 :: rest_, out =>
  a2y rest_ (((out ++ [(Publication.mk (a09 e1.publisher) e1.seq e1.content)])) : List Publication)
def a0j (m : Member) : Member :=
 match a2y m.publications ([] : List Publication) with
  | out =>
   (Member.mk (a09 m.name) (StateVector.mk (a0a m.vector.entries)) out)
def a2z : List Publication → (List Publication) → (List Publication)
 | [], out => ((out) : List Publication)
 | e1 :: rest_, out =>
  a2z rest_ (((out ++ [(Publication.mk (a02 e1.publisher) e1.seq e1.content)])) : List Publication)
def a0d (m : Member) : Member :=
 match a2z m.publications ([] : List Publication) with
  | out =>
   (Member.mk (a02 m.name) (StateVector.mk (a00 m.vector.entries)) out)
theorem cML : ∀ (l o : List Publication), a2y l o = o ++ l
 | [], o => by simp [a2y]
 | x :: l, o => by
  simp only [a2y]
  rw [cML l]
  simp [a09]
theorem cM_impl (m : Member) : a0j m = m := by simp [a0j, cML, cT_impl, a09]
theorem cMS : ∀ (l o : List Publication), a2z l o = o ++ l
 | [], o => by simp [a2z]
 | x :: l, o => by
  simp only [a2z]
  rw [cMS l]
  simp [a02]
theorem cM_spec (m : Member) : a0d m = m := by simp [a0d, cMS, cT_spec, a02]
def a0t (m : Member) (x_ : Publication) : Member × Bool :=
 bif (x_.seq != IntKind.i64.wrap ((a11 m.vector x_.publisher) + 1)) then
  ((a0j m), false)
 else
  bif (!((a0x m.vector.entries x_.publisher x_.seq).2)) then
   ((a0j m), false)
  else
   bif (!(a1e (Member.mk ((a0j m).name) (StateVector.mk ((a0x m.vector.entries x_.publisher x_.seq).1)) ((a0j m).publications ++ [(Publication.mk (a09 x_.publisher) x_.seq x_.content)])))) then
    ((a0j m), false)
   else
    ((Member.mk ((a0j m).name) (StateVector.mk ((a0x m.vector.entries x_.publisher x_.seq).1)) ((a0j m).publications ++ [(Publication.mk (a09 x_.publisher) x_.seq x_.content)])), true)
def a0k (m : Member) (x_ : Publication) : Member × Bool :=
 bif (x_.seq != IntKind.i64.wrap ((a0b m.vector x_.publisher) + 1)) then
  ((a0d m), false)
 else
  bif (!((a03 m.vector.entries x_.publisher x_.seq).2)) then
   ((a0d m), false)
  else
   bif (!(a15 (Member.mk ((a0d m).name) (StateVector.mk ((a03 m.vector.entries x_.publisher x_.seq).1)) ((a0d m).publications ++ [(Publication.mk (a02 x_.publisher) x_.seq x_.content)])))) then
    ((a0d m), false)
   else
    ((Member.mk ((a0d m).name) (StateVector.mk ((a03 m.vector.entries x_.publisher x_.seq).1)) ((a0d m).publications ++ [(Publication.mk (a02 x_.publisher) x_.seq x_.content)])), true)
inductive ApShape (m : Member) (x_ : Publication) : Member → Prop
 | same : ApShape m x_ m
 | put (l : List TableEntry) (h : PutShape m.vector.entries x_.publisher x_.seq l) : ApShape m x_ ⟨m.name, ⟨l⟩, m.publications ++ [x_]⟩
theorem ApShape.lenN {m r : Member} {x_ : Publication} (h : ApShape m x_ r) : r.name.parts.length = m.name.parts.length := by cases h <;> rfl
theorem ApShape.lenE {m r : Member} {x_ : Publication} (h : ApShape m x_ r) : r.vector.entries.length ≤ m.vector.entries.length + 1 := by
 cases h with
 | same => omega
 | put l h => exact h.len
theorem ApShape.lenP {m r : Member} {x_ : Publication} (h : ApShape m x_ r) : r.publications.length ≤ m.publications.length + 1 := by
 cases h with
 | same => omega
 | put l h => simp
theorem ApShape.elsN {m r : Member} {x_ : Publication} {k : Nat} (h : ApShape m x_ r) (hm : ∀ a ∈ m.name.parts, GoT.ok k a) (_ : GoT.ok k x_) : ∀ a ∈ r.name.parts, GoT.ok k a := by cases h <;> exact hm
theorem ApShape.elsE {m r : Member} {x_ : Publication} {k : Nat} (h : ApShape m x_ r) (hm : ∀ a ∈ m.vector.entries, GoT.ok k a) (hx : GoT.ok k x_) : ∀ a ∈ r.vector.entries, GoT.ok k a := by
 cases h with
 | same => exact hm
 | put l h => exact h.els hm (ok_Publication hx).1 (ok_Publication hx).2.1
theorem ApShape.elsP {m r : Member} {x_ : Publication} {k : Nat} (h : ApShape m x_ r) (hm : ∀ a ∈ m.publications, GoT.ok k a) (hx : GoT.ok k x_) : ∀ a ∈ r.publications, GoT.ok k a := by
 cases h with
 | same => exact hm
 | put l h => exact fun a ha => (List.mem_append.1 ha).elim (hm a) (fun ha => by obtain rfl := List.mem_singleton.1 ha; exact hx)
theorem ap_bif {P : Member → Prop} {c : Bool} {a b : Member × Bool} (h1 : P a.1) (h2 : P b.1) : P (bif c then a else b).1 := by
 cases c
 ·exact h2
 ·exact h1
theorem ap_impl (m : Member) (x_ : Publication) : ApShape m x_ (a0t m x_).1 := by
 unfold a0t
 rw [cM_impl]
 exact ap_bif .same (ap_bif .same (ap_bif .same (.put _ (put_impl _ _ _))))
theorem ap_spec (m : Member) (x_ : Publication) : ApShape m x_ (a0k m x_).1 := by
 unfold a0k
 rw [cM_spec]
 exact ap_bif .same (ap_bif .same (ap_bif .same (.put _ (put_spec _ _ _))))
def a16 (m : Member) (b : (List UInt8)) : Member × Bool :=
 (((a0t m (Publication.mk m.name (IntKind.i64.wrap ((a11 m.vector m.name) + 1)) b)).1), ((a0t m (Publication.mk m.name (IntKind.i64.wrap ((a11 m.vector m.name) + 1)) b)).2))
def a0f (m : Member) (b : (List UInt8)) : Member × Bool :=
 (((a0k m (Publication.mk m.name (IntKind.i64.wrap ((a0b m.vector m.name) + 1)) b)).1), ((a0k m (Publication.mk m.name (IntKind.i64.wrap ((a0b m.vector m.name) + 1)) b)).2))
end Go.Stp

