/-
  What the proof of one law needs: rules of the program logic, functions as Lean functions, contracts. No condition but what each says. Written by a program (pack.py) out of my own texts.
-/
import Derived.Carry
import Derived.ChangeArms
import Derived.ProofKit
import Derived.OpenShut
import Derived.JoinedCond
import Derived.Test.YtdimfabadjfkiaaGreatKValidNetwork8
namespace Go.Proofs.YtdimfabadjfkiaaGreat
open Go.Stp
set_option linter.unusedVariables false
set_option linter.unusedSimpArgs false
theorem f185 (w : World) (n : Nat) (hn : n + 0 ≤ 9) (w_ : Network) (K0 : Option Addr) (M0 : Nat) (N0 : RdSl (hp w) K0 M0 w_.topology.links) (K1 : Option Addr) (M1 : Nat) (N1 : RdSl (hp w) K1 M1 w_.trust.keys) (K2 : Option Addr) (M2 : Nat) (N2 : RdSl (hp w) K2 M2 w_.trust.rules) (K3 : Option Addr) (M3 : Nat) (N3 : RdSl (hp w) K3 M3 w_.trust.anchors) (K4 : Option Addr) (M4 : Nat) (N4 : RdSl (hp w) K4 M4 w_.trust.certificates) (K5 : Option Addr) (M5 : Nat) (N5 : RdSl (hp w) K5 M5 w_.producers) (K6 : Option Addr) (M6 : Nat) (N6 : RdSl (hp w) K6 M6 w_.nodes) (K7 : Option Addr) (M7 : Nat) (N7 : RdSl (hp w) K7 M7 w_.failedLinks) (K8 : Option Addr) (M8 : Nat) (N8 : RdSl (hp w) K8 M8 w_.inFlight) (K9 : Option Addr) (M9 : Nat) (N9 : RdSl (hp w) K9 M9 w_.consumers) (hq0 : 0 ≤ w_.topology.size) (hokw_ : GoT.ok n w_) :
  Does Tryz.prog 185 #[.agg #[.int .i64 (w_.topology.size), .slice K0 ((w_.topology.links).length) M0, .slice K1 ((w_.trust.keys).length) M1, .slice K2 ((w_.trust.rules).length) M2, .slice K3 ((w_.trust.anchors).length) M3, .slice K4 ((w_.trust.certificates).length) M4, .slice K5 ((w_.producers).length) M5, .slice K6 ((w_.nodes).length) M6, .int .i64 (w_.downNodes), .slice K7 ((w_.failedLinks).length) M7, .slice K8 ((w_.inFlight).length) M8, .slice K9 ((w_.consumers).length) M9, .int .i64 (w_.now), .int .i64 (w_.dropped)]] w emp (fun (rv : Value) (_ : World) => rv = .bool (spec_l32Dead w_) ∧ True) := by
 have hbP := bd_pos n
 have hbB := bd_big (n := n) (by omega)
 refine WX.enter (tt := tt) (Γ := [(0, MF.rs .stb K0 M0 w_.topology.links), (1, MF.rs .stb K1 M1 w_.trust.keys), (2, MF.rs .stb K2 M2 w_.trust.rules), (3, MF.rs .stb K3 M3 w_.trust.anchors), (4, MF.rs .stb K4 M4 w_.trust.certificates), (5, MF.rs .stb K5 M5 w_.producers), (6, MF.rs .stb K6 M6 w_.nodes), (7, MF.rs .stb K7 M7 w_.failedLinks), (8, MF.rs .stb K8 M8 w_.inFlight), (9, MF.rs .stb K9 M9 w_.consumers)]) Tryz.func185 rfl (by kernel_rfl) rfl (allS_cons rfl N0 (allS_cons rfl N1 (allS_cons rfl N2 (allS_cons rfl N3 (allS_cons rfl N4 (allS_cons rfl N5 (allS_cons rfl N6 (allS_cons rfl N7 (allS_cons rfl N8 (allS_cons rfl N9 allS_nil)))))))))) ?_
 refine R0 ?_
 have r1 : (w_.failedLinks).length ≤ bd n := (okl (ok_Network hokw_).2.2.2.2.2.1).1
 refine WX.loop (ι := Nat) ⟨fun i => (i ≤ (w_.failedLinks).length) ∧ (spec_l32Dead_L1 w_ w_.failedLinks 0 = spec_l32Dead_L1 w_ ((w_.failedLinks).drop i) i), fun i => (w_.failedLinks).length - i, fun i => [(3, .v (.int .i64 (((i : Nat) : Int)))), (1, .p 1 0)], fun i => [(1, ⟨139, [.int .i64 (w_.topology.size), .slice K0 ((w_.topology.links).length) M0, .slice K1 ((w_.trust.keys).length) M1, .slice K2 ((w_.trust.rules).length) M2, .slice K3 ((w_.trust.anchors).length) M3, .slice K4 ((w_.trust.certificates).length) M4, .slice K5 ((w_.producers).length) M5, .slice K6 ((w_.nodes).length) M6, .int .i64 (w_.downNodes), .slice K7 ((w_.failedLinks).length) M7, .slice K8 ((w_.inFlight).length) M8, .slice K9 ((w_.consumers).length) M9, .int .i64 (w_.now), .int .i64 (w_.dropped)]⟩)], fun i => [], fun i => [(0, MF.rs .stb K0 M0 w_.topology.links), (1, MF.rs .stb K1 M1 w_.trust.keys), (2, MF.rs .stb K2 M2 w_.trust.rules), (3, MF.rs .stb K3 M3 w_.trust.anchors), (4, MF.rs .stb K4 M4 w_.trust.certificates), (5, MF.rs .stb K5 M5 w_.producers), (6, MF.rs .stb K6 M6 w_.nodes), (7, MF.rs .stb K7 M7 w_.failedLinks), (8, MF.rs .stb K8 M8 w_.inFlight), (9, MF.rs .stb K9 M9 w_.consumers)]⟩ 0 ⟨(Nat.zero_le _), rfl⟩
  (.cons rfl (.cons rfl (.nil))) (.cons rfl (.nil)) .nil [0, 1, 2, 3, 4, 5, 6, 7, 8, 9] rfl ?_
 rintro i hpre
 have hpre_ : (i ≤ (w_.failedLinks).length) ∧ (spec_l32Dead_L1 w_ w_.failedLinks 0 = spec_l32Dead_L1 w_ ((w_.failedLinks).drop i) i) := hpre
 clear hpre
 obtain ⟨v1, v2⟩ := hpre_
 refine R0 ?_
 refine WX.cases 8 rfl (fun h1 => ?_) (fun h1 => ?_)
 ·skip
  have h1d := B.dt h1
  have e1i : i < (w_.failedLinks).length := (by omega)
  obtain ⟨e1, e1h⟩ : ∃ e1, (w_.failedLinks)[i]? = some e1 := ⟨_, List.getElem?_eq_getElem e1i⟩
  have ok1 : GoT.ok n e1 := (okl (ok_Network hokw_).2.2.2.2.2.1).2 _ (List.mem_of_getElem? e1h)
  refine R0 ?_
  refine WX.draw [] mixed ?_
  intro bs G0 hΓ0
  refine DX.takes (fuel := 27) ttOk [(0, true), (1, false), (2, true)] (by kernel_rfl) rfl ?_
  refine DX.idx 3 7 i ttOk hΓ0 (by kernel_rfl) rfl rfl rfl rfl rfl rfl rfl rfl rfl rfl rfl e1i ?_
  rintro ad1 rfl
  refine DX.ldE 4 7 10 e1 ttOk hΓ0 (by kernel_rfl) rfl rfl rfl rfl rfl rfl rfl rfl e1h (fun _ => rfl) (fun _ => rfl) ?_
  rintro ⟨⟩
  refine DX.takes (fuel := 21) ttOk [(5, true), (6, true), (7, false), (8, true)] (by kernel_rfl) rfl ?_
  refine DX.seeP 9 (by kernel_rfl) rfl rfl rfl rfl (looksP_wrap rfl rfl rfl rfl) ?_
  refine DX.callV 10 rfl (by kernel_rfl) rfl rfl rfl rfl rfl rfl (fun _ => rfl) rfl (fun w G bs hI hΓ => f142 w n (by omega) e1 0 (IntKind.i64.wrap ((((w_.topology.links).length : Nat) : Int) - 1)) ok1 (show I64 0 from (by unfold I64; omega)) (i64_wrap _)) ?_
  intro hq1
  refine DX.takes (fuel := 17) ttOk [(11, true), (12, true)] (by kernel_rfl) rfl ?_
  refine DX.cases 23 rfl (fun h2 => ?_) (fun h2 => ?_)
  ·skip
   have h2d := (B.nt h2)
   refine DX.takes (fuel := 0) ttOk [(13, true), (14, true), (15, true), (16, true), (17, true), (18, true), (19, true), (20, true), (21, true), (22, true), (23, true), (24, true), (25, true), (26, true), (27, true), (28, true), (29, true)] (by kernel_rfl) rfl ?_
   refine DX.tail2 [] rfl rfl (by kernel_rfl) ?_
   refine R0 ?_
   have hP1 : spec_l32Dead_L1 w_ w_.failedLinks 0 = (some false) := by rw [v2, drop_get e1h]; simp only [spec_l32Dead_L1, h2, ct, cf]
   have hP2 : spec_l32Dead w_ = false := by simp only [spec_l32Dead, hP1, ct, cf]
   exact R3 hP2
  ·skip
   have h2d := (B.nf h2)
   have h2r := inR_spec (B.nf h2)
   refine DX.takes (fuel := 14) ttOk [(13, true), (14, true), (15, true)] (by kernel_rfl) rfl ?_
   refine DX.cases 26 rfl (fun h3 => ?_) (fun h3 => ?_)
   ·skip
    have h3d := B.dt h3
    refine DX.takes (fuel := 11) ttOk [(16, true), (17, false), (18, true)] (by kernel_rfl) rfl ?_
    refine DX.seeP 19 (by kernel_rfl) rfl rfl rfl rfl (looksP_arith rfl rfl rfl rfl (by unfold I64; first | omega | (simp only [List.length_take] at *; omega))) ?_
    refine DX.slot 30 (y := .v (.int .i64 (((((i : Nat) : Int) - 1).toNat : Nat) : Int))) rfl (fun _ => congrArg (Value.int .i64) (show ((i : Nat) : Int) - 1 = (((((i : Nat) : Int) - 1).toNat : Nat) : Int) from by omega)) ?_
    have e2i : (((i : Nat) : Int) - 1).toNat < (w_.failedLinks).length := (by first | assumption | omega)
    obtain ⟨e2, e2h⟩ : ∃ e2, (w_.failedLinks)[(((i : Nat) : Int) - 1).toNat]? = some e2 := ⟨_, List.getElem?_eq_getElem e2i⟩
    have ok2 : GoT.ok n e2 := (okl (ok_Network hokw_).2.2.2.2.2.1).2 _ (List.mem_of_getElem? e2h)
    refine DX.idx 20 7 ((((i : Nat) : Int) - 1).toNat) ttOk hΓ0 (by kernel_rfl) rfl rfl rfl rfl rfl rfl rfl rfl rfl rfl rfl e2i ?_
    rintro ad2 ⟨⟩
    refine DX.ldE 21 7 10 e2 ttOk hΓ0 (by kernel_rfl) rfl rfl rfl rfl rfl rfl rfl rfl e2h (fun _ => rfl) (fun _ => rfl) ?_
    rintro ⟨⟩
    refine DX.takes (fuel := 5) ttOk [(22, true), (23, false), (24, true)] (by kernel_rfl) rfl ?_
    refine DX.idx 25 7 i ttOk hΓ0 (by kernel_rfl) rfl rfl rfl rfl rfl rfl rfl rfl rfl rfl rfl e1i ?_
    rintro ad3 ⟨⟩
    refine DX.ldE 26 7 10 e1 ttOk hΓ0 (by kernel_rfl) rfl rfl rfl rfl rfl rfl rfl rfl e1h (fun _ => rfl) (fun _ => rfl) ?_
    rintro ⟨⟩
    refine DX.takes (fuel := 0) ttOk [(27, true), (28, true), (29, true)] (by kernel_rfl) rfl ?_
    refine DX.tail2 [] rfl rfl (by kernel_rfl) ?_
    refine R0 ?_
    refine WX.cases 40 rfl (fun h4 => ?_) (fun h4 => ?_)
    ·skip
     have h4d := B.dt h4
     refine R0 ?_
     have hP3 : spec_l32Dead_L1 w_ w_.failedLinks 0 = (some false) := by rw [v2, drop_get e1h]; simp only [spec_l32Dead_L1, h2, h3, e2h, h4, ct, cf]
     have hP4 : spec_l32Dead w_ = false := by simp only [spec_l32Dead, hP3, ct, cf]
     exact R3 hP4
    ·skip
     have h4d := B.df h4
     refine R0 ?_
     refine WX.see rfl rfl rfl (fun _ hΓ => looks_arith rfl rfl rfl rfl (by unfold I64; first | omega | (simp only [List.length_take] at *; omega))) ?_
     refine R0 ?_
     exact WX.iter (i + 1) ⟨(by omega), (by rw [v2, drop_get e1h]; simp only [spec_l32Dead_L1, h2, h3, e2h, h4, ct, cf])⟩ (by first | (dsimp only; omega) | omega) (.cons rfl (.cons rfl (.nil))) (.cons rfl (.nil)) .nil [0, 1, 2, 3, 4, 5, 6, 7, 8, 9] rfl
   ·skip
    have h3d := B.df h3
    refine DX.takes (fuel := 0) ttOk [(16, true), (17, true), (18, true), (19, true), (20, true), (21, true), (22, true), (23, true), (24, true), (25, true), (26, true), (27, true), (28, true), (29, true)] (by kernel_rfl) rfl ?_
    refine DX.tail2 [] rfl rfl (by kernel_rfl) ?_
    refine R0 ?_
    refine WX.see rfl rfl rfl (fun _ hΓ => looks_arith rfl rfl rfl rfl (by unfold I64; first | omega | (simp only [List.length_take] at *; omega))) ?_
    refine R0 ?_
    exact WX.iter (i + 1) ⟨(by omega), (by rw [v2, drop_get e1h]; simp only [spec_l32Dead_L1, h2, h3, ct, cf])⟩ (by first | (dsimp only; omega) | omega) (.cons rfl (.cons rfl (.nil))) (.cons rfl (.nil)) .nil [0, 1, 2, 3, 4, 5, 6, 7, 8, 9] rfl
 ·skip
  have h1d := B.df h1
  refine R0 ?_
  have hX1 : spec_l32Dead_L1 w_ w_.failedLinks 0 = none := by rw [v2, List.drop_eq_nil_of_le (show (w_.failedLinks).length ≤ i by omega)]; simp only [spec_l32Dead_L1, ct, cf]
  refine WX.draw [] mixed ?_
  intro bs G0 hΓ0
  refine DX.takes (fuel := 4) ttOk [(0, true), (1, false), (2, true), (3, true), (4, false)] (by kernel_rfl) rfl ?_
  have r2 : -9223372036854775808 ≤ w_.topology.size ∧ w_.topology.size ≤ 9223372036854775807 := (ok_Topology (ok_Network hokw_).1).1
  refine DX.see 5 (by kernel_rfl) rfl rfl rfl rfl (looks_shl rfl rfl rfl (by omega)) ?_
  refine DX.seeP 6 (by kernel_rfl) rfl rfl rfl rfl (looksP_wrap rfl rfl rfl rfl) ?_
  refine DX.callV 7 rfl (by kernel_rfl) rfl rfl rfl rfl rfl rfl (fun _ => rfl) rfl (fun w G bs hI hΓ => f142 w n (by omega) w_.downNodes 0 (IntKind.i64.wrap ((IntKind.i64.wrap (1 * 2 ^ (min (Int.toNat w_.topology.size) 64))) - 1)) ((ok_Network hokw_).2.2.2.2.1) (show I64 0 from (by unfold I64; omega)) (i64_wrap _)) ?_
  intro hq2
  refine DX.takes (fuel := 0) ttOk [(8, true)] (by kernel_rfl) rfl ?_
  refine DX.tail2 [] rfl rfl (by kernel_rfl) ?_
  refine R0 ?_
  have hP5 : spec_l32Dead w_ = (spec_l1In w_.downNodes 0 (IntKind.i64.wrap ((IntKind.i64.wrap (1 * 2 ^ (min (Int.toNat w_.topology.size) 64))) - 1))) := by simp only [spec_l32Dead, hX1, ct, cf]
  exact R3 hP5
theorem f201 (w : World) (n : Nat) (hn : n + 0 ≤ 9) (x_ : NodeP) (K0 : Option Addr) (M0 : Nat) (N0 : RdSl (hp w) K0 M0 x_.locl) (K1 : Option Addr) (M1 : Nat) (N1 : RdSl (hp w) K1 M1 x_.cache.entries) (K2 : Option Addr) (M2 : Nat) (N2 : RdSl (hp w) K2 M2 x_.pending) (K3 : Option Addr) (M3 : Nat) (N3 : RdSl (hp w) K3 M3 x_.seen) (K4 : Option Addr) (M4 : Nat) (N4 : RdSl (hp w) K4 M4 x_.routes) (K5 : Option Addr) (M5 : Nat) (N5 : RdSl (hp w) K5 M5 x_.measurements) (hokx_ : GoT.ok n x_) :
  Does Tryz.prog 201 #[.agg #[.slice K0 ((x_.locl).length) M0, .int .i64 (x_.cache.capacity), .slice K1 ((x_.cache.entries).length) M1, .slice K2 ((x_.pending).length) M2, .slice K3 ((x_.seen).length) M3, .slice K4 ((x_.routes).length) M4, .slice K5 ((x_.measurements).length) M5, .int .i64 (x_.dropped)]] w emp (fun (rv : Value) (_ : World) => rv = .bool (impl_ValidNetwork_c1 x_) ∧ True) := by
 have hbP := bd_pos n
 have hbB := bd_big (n := n) (by omega)
 refine WX.enter (tt := tt) (Γ := [(0, MF.rs .stb K0 M0 x_.locl), (1, MF.rs .stb K1 M1 x_.cache.entries), (2, MF.rs .stb K2 M2 x_.pending), (3, MF.rs .stb K3 M3 x_.seen), (4, MF.rs .stb K4 M4 x_.routes), (5, MF.rs .stb K5 M5 x_.measurements)]) Tryz.func201 rfl (by kernel_rfl) rfl (allS_cons rfl N0 (allS_cons rfl N1 (allS_cons rfl N2 (allS_cons rfl N3 (allS_cons rfl N4 (allS_cons rfl N5 allS_nil)))))) ?_
 refine R0 ?_
 refine WX.callV rfl rfl rfl rfl rfl (fun _ => rfl) rfl (fun w G bs hI hΓ => f202 w n (by omega) x_ K0 M0 (hΓ.get 0 rfl) K1 M1 (hΓ.get 1 rfl) K2 M2 (hΓ.get 2 rfl) K3 M3 (hΓ.get 3 rfl) K4 M4 (hΓ.get 4 rfl) K5 M5 (hΓ.get 5 rfl) hokx_) ?_
 intro hq1
 refine R0 ?_
 have hP1 : impl_ValidNetwork_c1 x_ = (!(impl_ValidNode x_)) := by simp only [impl_ValidNetwork_c1, ct, cf]
 exact R3 hP1
theorem f80 (w : World) (n : Nat) (hn : n + 0 ≤ 9) (w_ : Network) (K0 : Option Addr) (M0 : Nat) (N0 : RdSl (hp w) K0 M0 w_.topology.links) (K1 : Option Addr) (M1 : Nat) (N1 : RdSl (hp w) K1 M1 w_.trust.keys) (K2 : Option Addr) (M2 : Nat) (N2 : RdSl (hp w) K2 M2 w_.trust.rules) (K3 : Option Addr) (M3 : Nat) (N3 : RdSl (hp w) K3 M3 w_.trust.anchors) (K4 : Option Addr) (M4 : Nat) (N4 : RdSl (hp w) K4 M4 w_.trust.certificates) (K5 : Option Addr) (M5 : Nat) (N5 : RdSl (hp w) K5 M5 w_.producers) (K6 : Option Addr) (M6 : Nat) (N6 : RdSl (hp w) K6 M6 w_.nodes) (K7 : Option Addr) (M7 : Nat) (N7 : RdSl (hp w) K7 M7 w_.failedLinks) (K8 : Option Addr) (M8 : Nat) (N8 : RdSl (hp w) K8 M8 w_.inFlight) (K9 : Option Addr) (M9 : Nat) (N9 : RdSl (hp w) K9 M9 w_.consumers) (hokw_ : GoT.ok n w_) :
  Does Tryz.prog 80 #[.agg #[.int .i64 (w_.topology.size), .slice K0 ((w_.topology.links).length) M0, .slice K1 ((w_.trust.keys).length) M1, .slice K2 ((w_.trust.rules).length) M2, .slice K3 ((w_.trust.anchors).length) M3, .slice K4 ((w_.trust.certificates).length) M4, .slice K5 ((w_.producers).length) M5, .slice K6 ((w_.nodes).length) M6, .int .i64 (w_.downNodes), .slice K7 ((w_.failedLinks).length) M7, .slice K8 ((w_.inFlight).length) M8, .slice K9 ((w_.consumers).length) M9, .int .i64 (w_.now), .int .i64 (w_.dropped)]] w emp (fun (rv : Value) (_ : World) => rv = .bool (impl_ValidNetwork w_) ∧ True) := by
 have hbP := bd_pos n
 have hbB := bd_big (n := n) (by omega)
 refine WX.enter (tt := tt) (Γ := [(0, MF.rs .stb K0 M0 w_.topology.links), (1, MF.rs .stb K1 M1 w_.trust.keys), (2, MF.rs .stb K2 M2 w_.trust.rules), (3, MF.rs .stb K3 M3 w_.trust.anchors), (4, MF.rs .stb K4 M4 w_.trust.certificates), (5, MF.rs .stb K5 M5 w_.producers), (6, MF.rs .stb K6 M6 w_.nodes), (7, MF.rs .stb K7 M7 w_.failedLinks), (8, MF.rs .stb K8 M8 w_.inFlight), (9, MF.rs .stb K9 M9 w_.consumers)]) Tryz.func80 rfl (by kernel_rfl) rfl (allS_cons rfl N0 (allS_cons rfl N1 (allS_cons rfl N2 (allS_cons rfl N3 (allS_cons rfl N4 (allS_cons rfl N5 (allS_cons rfl N6 (allS_cons rfl N7 (allS_cons rfl N8 (allS_cons rfl N9 allS_nil)))))))))) ?_
 refine R0 ?_
 refine WX.draw [] mixed ?_
 intro bs G0 hΓ0
 refine DX.takes (fuel := 37) ttOk [(0, true), (1, false)] (by kernel_rfl) rfl ?_
 refine DX.callV 2 rfl (by kernel_rfl) rfl rfl rfl rfl rfl rfl (fun _ => rfl) rfl (fun w G bs hI hΓ => f195 w n (by omega) w_.topology K0 M0 (hΓ.get 0 rfl) ((ok_Network hokw_).1)) ?_
 intro hq1
 refine DX.takes (fuel := 34) ttOk [(3, true), (4, true)] (by kernel_rfl) rfl ?_
 refine DX.cases 13 rfl (fun h1 => ?_) (fun h1 => ?_)
 ·skip
  have h1d := (B.nt h1)
  refine DX.takes (fuel := 0) ttOk [(5, true), (6, true), (7, true), (8, true), (9, true), (10, true), (11, true), (12, true), (13, true), (14, true), (15, true), (16, true), (17, true), (18, true), (19, true), (20, true), (21, true), (22, true), (23, true), (24, true), (25, true), (26, true), (27, true), (28, true), (29, true), (30, true), (31, true), (32, true), (33, true), (34, true), (35, true), (36, true), (37, true), (38, true)] (by kernel_rfl) rfl ?_
  refine DX.tail2 [] rfl rfl (by kernel_rfl) ?_
  refine R0 ?_
  have hP1 : impl_ValidNetwork w_ = false := by simp only [impl_ValidNetwork, h1, ct, cf]
  exact R3 hP1
 ·skip
  have h1d := (B.nf h1)
  refine DX.takes (fuel := 32) ttOk [(5, true), (6, false)] (by kernel_rfl) rfl ?_
  refine DX.callV 7 rfl (by kernel_rfl) rfl rfl rfl rfl rfl rfl (fun _ => rfl) rfl (fun w G bs hI hΓ => f196 w n (by omega) w_.trust K1 M1 (hΓ.get 1 rfl) K2 M2 (hΓ.get 2 rfl) K3 M3 (hΓ.get 3 rfl) K4 M4 (hΓ.get 4 rfl) ((ok_Network hokw_).2.1)) ?_
  intro hq2
  refine DX.takes (fuel := 28) ttOk [(8, true), (9, true), (10, true)] (by kernel_rfl) rfl ?_
  refine DX.cases 19 rfl (fun h2 => ?_) (fun h2 => ?_)
  ·skip
   have h2d := (B.nt h2)
   refine DX.takes (fuel := 0) ttOk [(11, true), (12, true), (13, true), (14, true), (15, true), (16, true), (17, true), (18, true), (19, true), (20, true), (21, true), (22, true), (23, true), (24, true), (25, true), (26, true), (27, true), (28, true), (29, true), (30, true), (31, true), (32, true), (33, true), (34, true), (35, true), (36, true), (37, true), (38, true)] (by kernel_rfl) rfl ?_
   refine DX.tail2 [] rfl rfl (by kernel_rfl) ?_
   refine R0 ?_
   have hP2 : impl_ValidNetwork w_ = false := by simp only [impl_ValidNetwork, h1, h2, ct, cf]
   exact R3 hP2
  ·skip
   have h2d := (B.nf h2)
   refine DX.takes (fuel := 23) ttOk [(11, true), (12, false), (13, true), (14, true), (15, false)] (by kernel_rfl) rfl ?_
   refine DX.callV 16 rfl (by kernel_rfl) rfl rfl rfl rfl rfl rfl (fun _ => rfl) rfl (fun w G bs hI hΓ => f197 w n (by omega) w_.producers K5 M5 (hΓ.get 5 rfl) w_.topology.size ((ok_Network hokw_).2.2.1) ((ok_Topology (ok_Network hokw_).1).1)) ?_
   intro hq3
   refine DX.takes (fuel := 19) ttOk [(17, true), (18, true), (19, true)] (by kernel_rfl) rfl ?_
   refine DX.cases 28 rfl (fun h3 => ?_) (fun h3 => ?_)
   ·skip
    have h3d := (B.nt h3)
    refine DX.takes (fuel := 0) ttOk [(20, true), (21, true), (22, true), (23, true), (24, true), (25, true), (26, true), (27, true), (28, true), (29, true), (30, true), (31, true), (32, true), (33, true), (34, true), (35, true), (36, true), (37, true), (38, true)] (by kernel_rfl) rfl ?_
    refine DX.tail2 [] rfl rfl (by kernel_rfl) ?_
    refine R0 ?_
    have hP3 : impl_ValidNetwork w_ = false := by simp only [impl_ValidNetwork, h1, h2, h3, ct, cf]
    exact R3 hP3
   ·skip
    have h3d := (B.nf h3)
    refine DX.takes (fuel := 10) ttOk [(20, true), (21, false), (22, true), (23, true), (24, true), (25, false), (26, true), (27, true), (28, true)] (by kernel_rfl) rfl ?_
    refine DX.cases 37 rfl (fun h4 => ?_) (fun h4 => ?_)
    ·skip
     have h4d := B.nt' h4
     refine DX.takes (fuel := 0) ttOk [(29, true), (30, true), (31, true), (32, true), (33, true), (34, true), (35, true), (36, true), (37, true), (38, true)] (by kernel_rfl) rfl ?_
     refine DX.tail2 [] rfl rfl (by kernel_rfl) ?_
     refine R0 ?_
     have hP4 : impl_ValidNetwork w_ = false := by simp only [impl_ValidNetwork, h1, h2, h3, h4, ct, cf]
     exact R3 hP4
    ·skip
     have h4d := B.nf' h4
     refine DX.takes (fuel := 5) ttOk [(29, true), (30, false), (31, true), (32, true), (33, false)] (by kernel_rfl) rfl ?_
     have r1 : -9223372036854775808 ≤ w_.topology.size ∧ w_.topology.size ≤ 9223372036854775807 := (ok_Topology (ok_Network hokw_).1).1
     refine DX.see 34 (by kernel_rfl) rfl rfl rfl rfl (looks_shl rfl rfl rfl (by omega)) ?_
     refine DX.seeP 35 (by kernel_rfl) rfl rfl rfl rfl (looksP_wrap rfl rfl rfl rfl) ?_
     refine DX.callV 36 rfl (by kernel_rfl) rfl rfl rfl rfl rfl rfl (fun _ => rfl) rfl (fun w G bs hI hΓ => f138 w n (by omega) w_.downNodes 0 (IntKind.i64.wrap ((IntKind.i64.wrap (1 * 2 ^ (min (Int.toNat w_.topology.size) 64))) - 1)) ((ok_Network hokw_).2.2.2.2.1) (show I64 0 from (by unfold I64; omega)) (i64_wrap _)) ?_
     intro hq4
     refine DX.takes (fuel := 0) ttOk [(37, true), (38, true)] (by kernel_rfl) rfl ?_
     refine DX.tail2 [] rfl rfl (by kernel_rfl) ?_
     refine R0 ?_
     refine WX.cases 47 rfl (fun h5 => ?_) (fun h5 => ?_)
     ·skip
      have h5d := (B.nt h5)
      refine R0 ?_
      have hP5 : impl_ValidNetwork w_ = false := by simp only [impl_ValidNetwork, h1, h2, h3, h4, h5, ct, cf]
      exact R3 hP5
     ·skip
      have h5d := (B.nf h5)
      have h5r := inR_impl (B.nf h5)
      refine R0 ?_
      have r2 : (w_.failedLinks).length ≤ bd n := (okl (ok_Network hokw_).2.2.2.2.2.1).1
      refine WX.loop (ι := Nat) ⟨fun i => (i ≤ (w_.failedLinks).length) ∧ (impl_ValidNetwork_L1 w_ w_.failedLinks 0 = impl_ValidNetwork_L1 w_ ((w_.failedLinks).drop i) i), fun i => (w_.failedLinks).length - i, fun i => [(51, .v (.int .i64 (((i : Nat) : Int)))), (50, .v (.int .i64 ((((w_.failedLinks).length : Nat) : Int)))), (49, .v (.slice K7 ((w_.failedLinks).length) M7)), (1, .p 1 0)], fun i => [(1, ⟨139, [.int .i64 (w_.topology.size), .slice K0 ((w_.topology.links).length) M0, .slice K1 ((w_.trust.keys).length) M1, .slice K2 ((w_.trust.rules).length) M2, .slice K3 ((w_.trust.anchors).length) M3, .slice K4 ((w_.trust.certificates).length) M4, .slice K5 ((w_.producers).length) M5, .slice K6 ((w_.nodes).length) M6, .int .i64 (w_.downNodes), .slice K7 ((w_.failedLinks).length) M7, .slice K8 ((w_.inFlight).length) M8, .slice K9 ((w_.consumers).length) M9, .int .i64 (w_.now), .int .i64 (w_.dropped)]⟩)], fun i => [], fun i => [(0, MF.rs .stb K0 M0 w_.topology.links), (1, MF.rs .stb K1 M1 w_.trust.keys), (2, MF.rs .stb K2 M2 w_.trust.rules), (3, MF.rs .stb K3 M3 w_.trust.anchors), (4, MF.rs .stb K4 M4 w_.trust.certificates), (5, MF.rs .stb K5 M5 w_.producers), (6, MF.rs .stb K6 M6 w_.nodes), (7, MF.rs .stb K7 M7 w_.failedLinks), (8, MF.rs .stb K8 M8 w_.inFlight), (9, MF.rs .stb K9 M9 w_.consumers)]⟩ 0 ⟨(Nat.zero_le _), rfl⟩
       (.cons rfl (.cons rfl (.cons rfl (.cons rfl (.nil))))) (.cons rfl (.nil)) .nil [0, 1, 2, 3, 4, 5, 6, 7, 8, 9] rfl ?_
      rintro i hpre
      have hpre_ : (i ≤ (w_.failedLinks).length) ∧ (impl_ValidNetwork_L1 w_ w_.failedLinks 0 = impl_ValidNetwork_L1 w_ ((w_.failedLinks).drop i) i) := hpre
      clear hpre
      obtain ⟨v1, v2⟩ := hpre_
      refine R0 ?_
      refine WX.cases 52 rfl (fun h6 => ?_) (fun h6 => ?_)
      ·skip
       have h6d := B.dt h6
       have e1i : i < (w_.failedLinks).length := (by omega)
       obtain ⟨e1, e1h⟩ : ∃ e1, (w_.failedLinks)[i]? = some e1 := ⟨_, List.getElem?_eq_getElem e1i⟩
       have ok1 : GoT.ok n e1 := (okl (ok_Network hokw_).2.2.2.2.2.1).2 _ (List.mem_of_getElem? e1h)
       refine R0 ?_
       refine WX.idx 7 i ttOk rfl rfl rfl rfl rfl rfl rfl rfl rfl rfl e1i ?_
       rintro ad1 rfl
       refine WX.ldE 7 10 e1 ttOk rfl rfl rfl rfl rfl rfl rfl rfl e1h (fun _ => rfl) (fun _ => rfl) ?_
       rintro ⟨⟩
       refine R0 ?_
       refine WX.see rfl rfl rfl (fun _ hΓ => looks_wrap rfl rfl rfl rfl) ?_
       refine WX.callV rfl rfl rfl rfl rfl (fun _ => rfl) rfl (fun w G bs hI hΓ => f138 w n (by omega) e1 0 (IntKind.i64.wrap ((((w_.topology.links).length : Nat) : Int) - 1)) ok1 (show I64 0 from (by unfold I64; omega)) (i64_wrap _)) ?_
       intro hq5
       refine R0 ?_
       refine WX.cases 64 rfl (fun h7 => ?_) (fun h7 => ?_)
       ·skip
        have h7d := (B.nt h7)
        refine R0 ?_
        have hP6 : impl_ValidNetwork_L1 w_ w_.failedLinks 0 = (some false) := by rw [v2, drop_get e1h]; simp only [impl_ValidNetwork_L1, h7, ct, cf]
        have hP7 : impl_ValidNetwork w_ = false := by simp only [impl_ValidNetwork, h1, h2, h3, h4, h5, hP6, ct, cf]
        exact R3 hP7
       ·skip
        have h7d := (B.nf h7)
        have h7r := inR_impl (B.nf h7)
        refine R0 ?_
        refine WX.cases 67 rfl (fun h8 => ?_) (fun h8 => ?_)
        ·skip
         have h8d := B.dt h8
         refine R0 ?_
         refine WX.see rfl rfl rfl (fun _ hΓ => looks_arith rfl rfl rfl rfl (by unfold I64; first | omega | (simp only [List.length_take] at *; omega))) ?_
         refine WX.slot 71 (y := .v (.int .i64 (((((i : Nat) : Int) - 1).toNat : Nat) : Int))) rfl (fun _ => congrArg (Value.int .i64) (show ((i : Nat) : Int) - 1 = (((((i : Nat) : Int) - 1).toNat : Nat) : Int) from by omega)) ?_
         have e2i : (((i : Nat) : Int) - 1).toNat < (w_.failedLinks).length := (by first | assumption | omega)
         obtain ⟨e2, e2h⟩ : ∃ e2, (w_.failedLinks)[(((i : Nat) : Int) - 1).toNat]? = some e2 := ⟨_, List.getElem?_eq_getElem e2i⟩
         have ok2 : GoT.ok n e2 := (okl (ok_Network hokw_).2.2.2.2.2.1).2 _ (List.mem_of_getElem? e2h)
         refine WX.idx 7 ((((i : Nat) : Int) - 1).toNat) ttOk rfl rfl rfl rfl rfl rfl rfl rfl rfl rfl e2i ?_
         rintro ad2 ⟨⟩
         refine WX.ldE 7 10 e2 ttOk rfl rfl rfl rfl rfl rfl rfl rfl e2h (fun _ => rfl) (fun _ => rfl) ?_
         rintro ⟨⟩
         refine R0 ?_
         refine WX.cases 77 rfl (fun h9 => ?_) (fun h9 => ?_)
         ·skip
          have h9d := B.dt h9
          refine R0 ?_
          have hP8 : impl_ValidNetwork_L1 w_ w_.failedLinks 0 = (some false) := by rw [v2, drop_get e1h]; simp only [impl_ValidNetwork_L1, h7, h8, e2h, h9, ct, cf]
          have hP9 : impl_ValidNetwork w_ = false := by simp only [impl_ValidNetwork, h1, h2, h3, h4, h5, hP8, ct, cf]
          exact R3 hP9
         ·skip
          have h9d := B.df h9
          refine R0 ?_
          refine WX.see rfl rfl rfl (fun _ hΓ => looks_arith rfl rfl rfl rfl (by unfold I64; first | omega | (simp only [List.length_take] at *; omega))) ?_
          refine R0 ?_
          exact WX.iter (i + 1) ⟨(by omega), (by rw [v2, drop_get e1h]; simp only [impl_ValidNetwork_L1, h7, h8, e2h, h9, ct, cf])⟩ (by first | (dsimp only; omega) | omega) (.cons rfl (.cons rfl (.cons rfl (.cons rfl (.nil))))) (.cons rfl (.nil)) .nil [0, 1, 2, 3, 4, 5, 6, 7, 8, 9] rfl
        ·skip
         have h8d := B.df h8
         refine R0 ?_
         refine WX.see rfl rfl rfl (fun _ hΓ => looks_arith rfl rfl rfl rfl (by unfold I64; first | omega | (simp only [List.length_take] at *; omega))) ?_
         refine R0 ?_
         exact WX.iter (i + 1) ⟨(by omega), (by rw [v2, drop_get e1h]; simp only [impl_ValidNetwork_L1, h7, h8, ct, cf])⟩ (by first | (dsimp only; omega) | omega) (.cons rfl (.cons rfl (.cons rfl (.cons rfl (.nil))))) (.cons rfl (.nil)) .nil [0, 1, 2, 3, 4, 5, 6, 7, 8, 9] rfl
      ·skip
       have h6d := B.df h6
       refine R0 ?_
       have hX1 : impl_ValidNetwork_L1 w_ w_.failedLinks 0 = none := by rw [v2, List.drop_eq_nil_of_le (show (w_.failedLinks).length ≤ i by omega)]; simp only [impl_ValidNetwork_L1, ct, cf]
       have r3 : (w_.inFlight).length ≤ bd n := (okl (ok_Network hokw_).2.2.2.2.2.2.1).1
       refine WX.loop (ι := Nat) ⟨fun i => (i ≤ (w_.inFlight).length) ∧ (impl_ValidNetwork_L2 w_ w_.inFlight = impl_ValidNetwork_L2 w_ ((w_.inFlight).drop i)), fun i => (w_.inFlight).length - i, fun i => [(82, .v (.int .i64 (((i : Nat) : Int)))), (81, .v (.int .i64 ((((w_.inFlight).length : Nat) : Int)))), (80, .v (.slice K8 ((w_.inFlight).length) M8)), (1, .p 1 0)], fun i => [(1, ⟨139, [.int .i64 (w_.topology.size), .slice K0 ((w_.topology.links).length) M0, .slice K1 ((w_.trust.keys).length) M1, .slice K2 ((w_.trust.rules).length) M2, .slice K3 ((w_.trust.anchors).length) M3, .slice K4 ((w_.trust.certificates).length) M4, .slice K5 ((w_.producers).length) M5, .slice K6 ((w_.nodes).length) M6, .int .i64 (w_.downNodes), .slice K7 ((w_.failedLinks).length) M7, .slice K8 ((w_.inFlight).length) M8, .slice K9 ((w_.consumers).length) M9, .int .i64 (w_.now), .int .i64 (w_.dropped)]⟩)], fun i => [], fun i => [(0, MF.rs .stb K0 M0 w_.topology.links), (1, MF.rs .stb K1 M1 w_.trust.keys), (2, MF.rs .stb K2 M2 w_.trust.rules), (3, MF.rs .stb K3 M3 w_.trust.anchors), (4, MF.rs .stb K4 M4 w_.trust.certificates), (5, MF.rs .stb K5 M5 w_.producers), (6, MF.rs .stb K6 M6 w_.nodes), (7, MF.rs .stb K7 M7 w_.failedLinks), (8, MF.rs .stb K8 M8 w_.inFlight), (9, MF.rs .stb K9 M9 w_.consumers)]⟩ 0 ⟨(Nat.zero_le _), rfl⟩
        (.cons rfl (.cons rfl (.cons rfl (.cons rfl (.nil))))) (.cons rfl (.nil)) .nil [0, 1, 2, 3, 4, 5, 6, 7, 8, 9] rfl ?_
       rintro i hpre
       have hpre_ : (i ≤ (w_.inFlight).length) ∧ (impl_ValidNetwork_L2 w_ w_.inFlight = impl_ValidNetwork_L2 w_ ((w_.inFlight).drop i)) := hpre
       clear hpre
       obtain ⟨v3, v4⟩ := hpre_
       refine R0 ?_
       refine WX.cases 83 rfl (fun h10 => ?_) (fun h10 => ?_)
       ·skip
        have h10d := B.dt h10
        have e3i : i < (w_.inFlight).length := (by omega)
        obtain ⟨e3, e3h⟩ : ∃ e3, (w_.inFlight)[i]? = some e3 := ⟨_, List.getElem?_eq_getElem e3i⟩
        have ok3 : GoT.ok n e3 := (okl (ok_Network hokw_).2.2.2.2.2.2.1).2 _ (List.mem_of_getElem? e3h)
        refine R0 ?_
        refine WX.idx 8 i ttOk rfl rfl rfl rfl rfl rfl rfl rfl rfl rfl e3i ?_
        rintro ad3 rfl
        refine WX.ldE 8 10 e3 ttOk rfl rfl rfl rfl rfl rfl rfl rfl e3h (fun _ => rfl) (fun _ => rfl) ?_
        rintro ⟨⟨⟩, ⟨⟩, ⟨⟩, ⟨⟨p1, c1⟩, ⟨⟩, ⟨⟩, ⟨⟩⟩, ⟨⟨p2, c2⟩, ⟨p3, c3⟩, ⟨p4, c4⟩, ⟨⟩, ⟨⟩⟩⟩
        refine R0 ?_
        refine WX.draw [] mixed ?_
        intro bs G0 hΓ0
        refine DX.takes (fuel := 15) ttOk [(0, true), (1, false), (2, true), (3, true), (4, false)] (by kernel_rfl) rfl ?_
        refine DX.seeP 5 (by kernel_rfl) rfl rfl rfl rfl (looksP_wrap rfl rfl rfl rfl) ?_
        refine DX.callV 6 rfl (by kernel_rfl) rfl rfl rfl rfl rfl rfl (fun _ => rfl) rfl (fun w G bs hI hΓ => f138 w n (by omega) e3.to 0 (IntKind.i64.wrap (w_.topology.size - 1)) ((ok_PacketInFlight ok3).1) (show I64 0 from (by unfold I64; omega)) (i64_wrap _)) ?_
        intro hq6
        refine DX.takes (fuel := 11) ttOk [(7, true), (8, true)] (by kernel_rfl) rfl ?_
        refine DX.cases 94 rfl (fun h11 => ?_) (fun h11 => ?_)
        ·skip
         have h11d := (B.nt h11)
         refine DX.takes (fuel := 0) ttOk [(9, true), (10, true), (11, true), (12, true), (13, true), (14, true), (15, true), (16, true), (17, true), (18, true), (19, true)] (by kernel_rfl) rfl ?_
         refine DX.tail2 [] rfl rfl (by kernel_rfl) ?_
         refine R0 ?_
         have hP10 : impl_ValidNetwork_L2 w_ w_.inFlight = (some false) := by rw [v4, drop_get e3h]; simp only [impl_ValidNetwork_L2, h11, ct, cf]
         have hP11 : impl_ValidNetwork w_ = false := by simp only [impl_ValidNetwork, h1, h2, h3, h4, h5, hX1, hP10, ct, cf]
         exact R3 hP11
        ·skip
         have h11d := (B.nf h11)
         have h11r := inR_impl (B.nf h11)
         refine DX.takes (fuel := 5) ttOk [(9, true), (10, false), (11, true), (12, false), (13, true), (14, false)] (by kernel_rfl) rfl ?_
         refine DX.callF 15 14 (fun _ _ h => GoT.ow_rd h) (fun _ f hf => GoT.fak f hf) rfl (by kernel_rfl) rfl rfl rfl rfl rfl rfl (fun _ => rfl) rfl (fun w G bs hI hΓ => f198 w n (by omega) w_.topology K0 M0 (hΓ.get 0 rfl) e3.to ((ok_Network hokw_).1) ((ok_PacketInFlight ok3).1)) (fun _ => rfl) (fun _ => rfl) ?_
         rintro ⟨p5, c5⟩ hq7
         refine DX.takes (fuel := 3) ttOk [(16, true)] (by kernel_rfl) rfl ?_
         have r4 : -9223372036854775808 ≤ e3.to ∧ e3.to ≤ 9223372036854775807 := (ok_PacketInFlight ok3).1
         have r5 : (impl_NeighborsOf w_.topology e3.to).length ≤ bd n := (okl hq7).1
         refine DX.callV 17 rfl (by kernel_rfl) rfl rfl rfl rfl rfl rfl (fun _ => rfl) rfl (fun w G bs hI hΓ => f138 w n (by omega) e3.face 1 ((((impl_NeighborsOf w_.topology e3.to)).length : Nat) : Int) ((ok_PacketInFlight ok3).2.1) (show I64 1 from (by unfold I64; omega)) (show I64 ((((impl_NeighborsOf w_.topology e3.to)).length : Nat) : Int) from (by unfold I64; omega))) ?_
         intro hq8
         refine DX.takes (fuel := 0) ttOk [(18, true), (19, true)] (by kernel_rfl) rfl ?_
         refine DX.tail2 [] rfl rfl (by kernel_rfl) ?_
         refine R0 ?_
         refine WX.cases 105 rfl (fun h12 => ?_) (fun h12 => ?_)
         ·skip
          have h12d := (B.nt h12)
          refine R0 ?_
          have hP12 : impl_ValidNetwork_L2 w_ w_.inFlight = (some false) := by rw [v4, drop_get e3h]; simp only [impl_ValidNetwork_L2, h11, h12, ct, cf]
          have hP13 : impl_ValidNetwork w_ = false := by simp only [impl_ValidNetwork, h1, h2, h3, h4, h5, hX1, hP12, ct, cf]
          exact R3 hP13
         ·skip
          have h12d := (B.nf h12)
          have h12r := inR_impl (B.nf h12)
          refine R0 ?_
          refine WX.see rfl rfl rfl (fun _ hΓ => looks_arith rfl rfl rfl rfl (by unfold I64; first | omega | (simp only [List.length_take] at *; omega))) ?_
          refine R0 ?_
          exact WX.iter (i + 1) ⟨(by omega), (by rw [v4, drop_get e3h]; simp only [impl_ValidNetwork_L2, h11, h12, ct, cf])⟩ (by first | (dsimp only; omega) | omega) (.cons rfl (.cons rfl (.cons rfl (.cons rfl (.nil))))) (.cons rfl (.nil)) .nil [0, 1, 2, 3, 4, 5, 6, 7, 8, 9] rfl
       ·skip
        have h10d := B.df h10
        refine R0 ?_
        have hX2 : impl_ValidNetwork_L2 w_ w_.inFlight = none := by rw [v4, List.drop_eq_nil_of_le (show (w_.inFlight).length ≤ i by omega)]; simp only [impl_ValidNetwork_L2, ct, cf]
        have r6 : (w_.consumers).length ≤ bd n := (okl (ok_Network hokw_).2.2.2.2.2.2.2.1).1
        refine WX.loop (ι := Nat) ⟨fun i => (i ≤ (w_.consumers).length) ∧ (impl_ValidNetwork_L3 w_ w_.consumers 0 = impl_ValidNetwork_L3 w_ ((w_.consumers).drop i) i), fun i => (w_.consumers).length - i, fun i => [(110, .v (.int .i64 (((i : Nat) : Int)))), (109, .v (.int .i64 ((((w_.consumers).length : Nat) : Int)))), (108, .v (.slice K9 ((w_.consumers).length) M9)), (1, .p 1 0)], fun i => [(1, ⟨139, [.int .i64 (w_.topology.size), .slice K0 ((w_.topology.links).length) M0, .slice K1 ((w_.trust.keys).length) M1, .slice K2 ((w_.trust.rules).length) M2, .slice K3 ((w_.trust.anchors).length) M3, .slice K4 ((w_.trust.certificates).length) M4, .slice K5 ((w_.producers).length) M5, .slice K6 ((w_.nodes).length) M6, .int .i64 (w_.downNodes), .slice K7 ((w_.failedLinks).length) M7, .slice K8 ((w_.inFlight).length) M8, .slice K9 ((w_.consumers).length) M9, .int .i64 (w_.now), .int .i64 (w_.dropped)]⟩)], fun i => [], fun i => [(0, MF.rs .stb K0 M0 w_.topology.links), (1, MF.rs .stb K1 M1 w_.trust.keys), (2, MF.rs .stb K2 M2 w_.trust.rules), (3, MF.rs .stb K3 M3 w_.trust.anchors), (4, MF.rs .stb K4 M4 w_.trust.certificates), (5, MF.rs .stb K5 M5 w_.producers), (6, MF.rs .stb K6 M6 w_.nodes), (7, MF.rs .stb K7 M7 w_.failedLinks), (8, MF.rs .stb K8 M8 w_.inFlight), (9, MF.rs .stb K9 M9 w_.consumers)]⟩ 0 ⟨(Nat.zero_le _), rfl⟩
         (.cons rfl (.cons rfl (.cons rfl (.cons rfl (.nil))))) (.cons rfl (.nil)) .nil [0, 1, 2, 3, 4, 5, 6, 7, 8, 9] rfl ?_
        rintro i hpre
        have hpre_ : (i ≤ (w_.consumers).length) ∧ (impl_ValidNetwork_L3 w_ w_.consumers 0 = impl_ValidNetwork_L3 w_ ((w_.consumers).drop i) i) := hpre
        clear hpre
        obtain ⟨v5, v6⟩ := hpre_
        refine R0 ?_
        refine WX.cases 111 rfl (fun h13 => ?_) (fun h13 => ?_)
        ·skip
         have h13d := B.dt h13
         have e4i : i < (w_.consumers).length := (by omega)
         obtain ⟨e4, e4h⟩ : ∃ e4, (w_.consumers)[i]? = some e4 := ⟨_, List.getElem?_eq_getElem e4i⟩
         have ok4 : GoT.ok n e4 := (okl (ok_Network hokw_).2.2.2.2.2.2.2.1).2 _ (List.mem_of_getElem? e4h)
         refine R0 ?_
         refine WX.idx 9 i ttOk rfl rfl rfl rfl rfl rfl rfl rfl rfl rfl e4i ?_
         rintro ad4 rfl
         refine WX.ldE 9 16 e4 ttOk rfl rfl rfl rfl rfl rfl rfl rfl e4h (fun _ => rfl) (fun _ => rfl) ?_
         rintro ⟨⟨⟩, ⟨⟩, ⟨p6, c6⟩, ⟨⟩, ⟨⟩, ⟨⟩, ⟨⟨p7, c7⟩, ⟨p8, c8⟩, ⟨p9, c9⟩, ⟨⟩, ⟨⟩⟩⟩
         refine R0 ?_
         refine WX.callV rfl rfl rfl rfl rfl (fun _ => rfl) rfl (fun w G bs hI hΓ => f199 w n (by omega) e4 p6 c6 (hΓ.get 16 rfl) p7 c7 (hΓ.get 17 rfl) p8 c8 (hΓ.get 18 rfl) p9 c9 (hΓ.get 19 rfl) ok4) ?_
         intro hq9
         refine R0 ?_
         refine WX.cases 118 rfl (fun h14 => ?_) (fun h14 => ?_)
         ·skip
          have h14d := (B.nt h14)
          refine R0 ?_
          have hP14 : impl_ValidNetwork_L3 w_ w_.consumers 0 = (some false) := by rw [v6, drop_get e4h]; simp only [impl_ValidNetwork_L3, h14, ct, cf]
          have hP15 : impl_ValidNetwork w_ = false := by simp only [impl_ValidNetwork, h1, h2, h3, h4, h5, hX1, hX2, hP14, ct, cf]
          exact R3 hP15
         ·skip
          have h14d := (B.nf h14)
          refine R0 ?_
          refine WX.cases 124 rfl (fun h15 => ?_) (fun h15 => ?_)
          ·skip
           have h15d := B.nt' h15
           refine R0 ?_
           have hP16 : impl_ValidNetwork_L3 w_ w_.consumers 0 = (some false) := by rw [v6, drop_get e4h]; simp only [impl_ValidNetwork_L3, h14, h15, ct, cf]
           have hP17 : impl_ValidNetwork w_ = false := by simp only [impl_ValidNetwork, h1, h2, h3, h4, h5, hX1, hX2, hP16, ct, cf]
           exact R3 hP17
          ·skip
           have h15d := B.nf' h15
           refine R0 ?_
           refine WX.cases 131 rfl (fun h16 => ?_) (fun h16 => ?_)
           ·skip
            have h16d := B.dt h16
            refine R0 ?_
            have hP18 : impl_ValidNetwork_L3 w_ w_.consumers 0 = (some false) := by rw [v6, drop_get e4h]; simp only [impl_ValidNetwork_L3, h14, h15, h16, ct, cf]
            have hP19 : impl_ValidNetwork w_ = false := by simp only [impl_ValidNetwork, h1, h2, h3, h4, h5, hX1, hX2, hP18, ct, cf]
            exact R3 hP19
           ·skip
            have h16d := B.df h16
            refine R0 ?_
            refine WX.see rfl rfl rfl (fun _ hΓ => looks_arith rfl rfl rfl rfl (by unfold I64; first | omega | (simp only [List.length_take] at *; omega))) ?_
            refine R0 ?_
            exact WX.iter (i + 1) ⟨(by omega), (by rw [v6, drop_get e4h]; simp only [impl_ValidNetwork_L3, h14, h15, h16, ct, cf])⟩ (by first | (dsimp only; omega) | omega) (.cons rfl (.cons rfl (.cons rfl (.cons rfl (.nil))))) (.cons rfl (.nil)) .nil [0, 1, 2, 3, 4, 5, 6, 7, 8, 9] rfl
        ·skip
         have h13d := B.df h13
         refine R0 ?_
         have hX3 : impl_ValidNetwork_L3 w_ w_.consumers 0 = none := by rw [v6, List.drop_eq_nil_of_le (show (w_.consumers).length ≤ i by omega)]; simp only [impl_ValidNetwork_L3, ct, cf]
         refine WX.callV rfl rfl rfl rfl rfl (fun _ => rfl) rfl (fun w G bs hI hΓ => f200 w n (by omega) w_.nodes K6 M6 (hΓ.get 6 rfl) 201 [] (fun e0_ => (impl_ValidNetwork_c1 e0_)) (fun w1_ hb_ e0_ x0_ hk0_ hx0_ => f201 w1_ n (by omega) e0_ x0_.1.1 x0_.1.2 (hx0_ _ List.mem_cons_self) x0_.2.1.2.1 x0_.2.1.2.2 (hx0_ (MF.rs .der x0_.2.1.2.1 x0_.2.1.2.2 e0_.cache.entries) (by simp [GoT.fa])) x0_.2.2.1.1 x0_.2.2.1.2 (hx0_ (MF.rs .der x0_.2.2.1.1 x0_.2.2.1.2 e0_.pending) (by simp [GoT.fa])) x0_.2.2.2.1.1 x0_.2.2.2.1.2 (hx0_ (MF.rs .der x0_.2.2.2.1.1 x0_.2.2.2.1.2 e0_.seen) (by simp [GoT.fa])) x0_.2.2.2.2.1.1 x0_.2.2.2.2.1.2 (hx0_ (MF.rs .der x0_.2.2.2.2.1.1 x0_.2.2.2.2.1.2 e0_.routes) (by simp [GoT.fa])) x0_.2.2.2.2.2.1.1 x0_.2.2.2.2.2.1.2 (hx0_ (MF.rs .der x0_.2.2.2.2.2.1.1 x0_.2.2.2.2.2.1.2 e0_.measurements) (by simp [GoT.fa])) hk0_) ((ok_Network hokw_).2.2.2.1)) ?_
         intro hq10
         refine R0 ?_
         refine WX.cases 137 rfl (fun h17 => ?_) (fun h17 => ?_)
         ·skip
          have h17d := (B.nt h17)
          refine R0 ?_
          refine WX.cases 143 rfl (fun h18 => ?_) (fun h18 => ?_)
          ·skip
           have h18d := B.dt h18
           refine R0 ?_
           refine WX.cases 149 rfl (fun h19 => ?_) (fun h19 => ?_)
           ·skip
            have h19d := B.dt h19
            refine R0 ?_
            refine WX.callV rfl rfl rfl rfl rfl (fun _ => rfl) rfl (fun w G bs hI hΓ => f138 w n (by omega) w_.now 0 100000 ((ok_Network hokw_).2.2.2.2.2.2.2.2.1) (show I64 0 from (by unfold I64; omega)) (show I64 100000 from (by unfold I64; omega))) ?_
            intro hq11
            refine R0 ?_
            refine WX.cases 154 rfl (fun h20 => ?_) (fun h20 => ?_)
            ·skip
             have h20r := inR_impl h20
             refine R0 ?_
             have hP20 : impl_ValidNetwork w_ = (decide (w_.dropped ≥ 0)) := by simp only [impl_ValidNetwork, h1, h2, h3, h4, h5, hX1, hX2, hX3, h17, h18, h19, h20, ct, cf]
             exact R3 hP20
            ·skip
             refine R0 ?_
             have hP21 : impl_ValidNetwork w_ = false := by simp only [impl_ValidNetwork, h1, h2, h3, h4, h5, hX1, hX2, hX3, h17, h18, h19, h20, ct, cf]
             exact R3 hP21
           ·skip
            have h19d := B.df h19
            refine R0 ?_
            have hP22 : impl_ValidNetwork w_ = false := by simp only [impl_ValidNetwork, h1, h2, h3, h4, h5, hX1, hX2, hX3, h17, h18, h19, ct, cf]
            exact R3 hP22
          ·skip
           have h18d := B.df h18
           refine R0 ?_
           have hP23 : impl_ValidNetwork w_ = false := by simp only [impl_ValidNetwork, h1, h2, h3, h4, h5, hX1, hX2, hX3, h17, h18, ct, cf]
           exact R3 hP23
         ·skip
          have h17d := (B.nf h17)
          refine R0 ?_
          have hP24 : impl_ValidNetwork w_ = false := by simp only [impl_ValidNetwork, h1, h2, h3, h4, h5, hX1, hX2, hX3, h17, ct, cf]
          exact R3 hP24
theorem f78 (w : World) (n : Nat) (hn : n + 0 ≤ 9) (w_ : Network) (K0 : Option Addr) (M0 : Nat) (N0 : RdSl (hp w) K0 M0 w_.topology.links) (K1 : Option Addr) (M1 : Nat) (N1 : RdSl (hp w) K1 M1 w_.trust.keys) (K2 : Option Addr) (M2 : Nat) (N2 : RdSl (hp w) K2 M2 w_.trust.rules) (K3 : Option Addr) (M3 : Nat) (N3 : RdSl (hp w) K3 M3 w_.trust.anchors) (K4 : Option Addr) (M4 : Nat) (N4 : RdSl (hp w) K4 M4 w_.trust.certificates) (K5 : Option Addr) (M5 : Nat) (N5 : RdSl (hp w) K5 M5 w_.producers) (K6 : Option Addr) (M6 : Nat) (N6 : RdSl (hp w) K6 M6 w_.nodes) (K7 : Option Addr) (M7 : Nat) (N7 : RdSl (hp w) K7 M7 w_.failedLinks) (K8 : Option Addr) (M8 : Nat) (N8 : RdSl (hp w) K8 M8 w_.inFlight) (K9 : Option Addr) (M9 : Nat) (N9 : RdSl (hp w) K9 M9 w_.consumers) (hokw_ : GoT.ok n w_) :
  Does Tryz.prog 78 #[.agg #[.int .i64 (w_.topology.size), .slice K0 ((w_.topology.links).length) M0, .slice K1 ((w_.trust.keys).length) M1, .slice K2 ((w_.trust.rules).length) M2, .slice K3 ((w_.trust.anchors).length) M3, .slice K4 ((w_.trust.certificates).length) M4, .slice K5 ((w_.producers).length) M5, .slice K6 ((w_.nodes).length) M6, .int .i64 (w_.downNodes), .slice K7 ((w_.failedLinks).length) M7, .slice K8 ((w_.inFlight).length) M8, .slice K9 ((w_.consumers).length) M9, .int .i64 (w_.now), .int .i64 (w_.dropped)]] w emp (fun (rv : Value) (_ : World) => rv = .bool (spec_ValidNetwork w_) ∧ True) := by
 have hbP := bd_pos n
 have hbB := bd_big (n := n) (by omega)
 refine WX.enter (tt := tt) (Γ := [(0, MF.rs .stb K0 M0 w_.topology.links), (1, MF.rs .stb K1 M1 w_.trust.keys), (2, MF.rs .stb K2 M2 w_.trust.rules), (3, MF.rs .stb K3 M3 w_.trust.anchors), (4, MF.rs .stb K4 M4 w_.trust.certificates), (5, MF.rs .stb K5 M5 w_.producers), (6, MF.rs .stb K6 M6 w_.nodes), (7, MF.rs .stb K7 M7 w_.failedLinks), (8, MF.rs .stb K8 M8 w_.inFlight), (9, MF.rs .stb K9 M9 w_.consumers)]) Tryz.func78 rfl (by kernel_rfl) rfl (allS_cons rfl N0 (allS_cons rfl N1 (allS_cons rfl N2 (allS_cons rfl N3 (allS_cons rfl N4 (allS_cons rfl N5 (allS_cons rfl N6 (allS_cons rfl N7 (allS_cons rfl N8 (allS_cons rfl N9 allS_nil)))))))))) ?_
 refine R0 ?_
 refine WX.callV rfl rfl rfl rfl rfl (fun _ => rfl) rfl (fun w G bs hI hΓ => f182 w n (by omega) w_.topology K0 M0 (hΓ.get 0 rfl) ((ok_Network hokw_).1)) ?_
 intro hq1
 refine R0 ?_
 refine WX.cases 10 rfl (fun h1 => ?_) (fun h1 => ?_)
 ·skip
  have h1d := (B.nt h1)
  refine R0 ?_
  have hP1 : spec_ValidNetwork w_ = false := by simp only [spec_ValidNetwork, h1, ct, cf]
  exact R3 hP1
 ·skip
  have h1d := (B.nf h1)
  refine R0 ?_
  refine WX.callV rfl rfl rfl rfl rfl (fun _ => rfl) rfl (fun w G bs hI hΓ => f183 w n (by omega) w_.trust K1 M1 (hΓ.get 1 rfl) K2 M2 (hΓ.get 2 rfl) K3 M3 (hΓ.get 3 rfl) K4 M4 (hΓ.get 4 rfl) ((ok_Network hokw_).2.1)) ?_
  intro hq2
  refine R0 ?_
  refine WX.cases 16 rfl (fun h2 => ?_) (fun h2 => ?_)
  ·skip
   have h2d := (B.nt h2)
   refine R0 ?_
   have hP2 : spec_ValidNetwork w_ = false := by simp only [spec_ValidNetwork, h1, h2, ct, cf]
   exact R3 hP2
  ·skip
   have h2d := (B.nf h2)
   refine R0 ?_
   refine WX.callV rfl rfl rfl rfl rfl (fun _ => rfl) rfl (fun w G bs hI hΓ => f184 w n (by omega) w_.producers K5 M5 (hΓ.get 5 rfl) w_.topology.size ((ok_Network hokw_).2.2.1) ((ok_Topology (ok_Network hokw_).1).1)) ?_
   intro hq3
   refine R0 ?_
   refine WX.cases 25 rfl (fun h3 => ?_) (fun h3 => ?_)
   ·skip
    have h3d := (B.nt h3)
    refine R0 ?_
    have hP3 : spec_ValidNetwork w_ = false := by simp only [spec_ValidNetwork, h1, h2, h3, ct, cf]
    exact R3 hP3
   ·skip
    have h3d := (B.nf h3)
    refine R0 ?_
    refine WX.cases 34 rfl (fun h4 => ?_) (fun h4 => ?_)
    ·skip
     have h4d := B.nt' h4
     refine R0 ?_
     have hP4 : spec_ValidNetwork w_ = false := by simp only [spec_ValidNetwork, h1, h2, h3, h4, ct, cf]
     exact R3 hP4
    ·skip
     have h4d := B.nf' h4
     refine R0 ?_
     refine WX.callV rfl rfl rfl rfl rfl (fun _ => rfl) rfl (fun w G bs hI hΓ => f185 w n (by omega) w_ K0 M0 (hΓ.get 0 rfl) K1 M1 (hΓ.get 1 rfl) K2 M2 (hΓ.get 2 rfl) K3 M3 (hΓ.get 3 rfl) K4 M4 (hΓ.get 4 rfl) K5 M5 (hΓ.get 5 rfl) K6 M6 (hΓ.get 6 rfl) K7 M7 (hΓ.get 7 rfl) K8 M8 (hΓ.get 8 rfl) K9 M9 (hΓ.get 9 rfl) (vtS (by assumption)) hokw_) ?_
     intro hq4
     refine R0 ?_
     refine WX.cases 39 rfl (fun h5 => ?_) (fun h5 => ?_)
     ·skip
      have h5d := (B.nt h5)
      refine R0 ?_
      have hP5 : spec_ValidNetwork w_ = false := by simp only [spec_ValidNetwork, h1, h2, h3, h4, h5, ct, cf]
      exact R3 hP5
     ·skip
      have h5d := (B.nf h5)
      refine R0 ?_
      refine WX.cases 45 rfl (fun h6 => ?_) (fun h6 => ?_)
      ·skip
       have h6d := B.dt h6
       refine R0 ?_
       have hP6 : spec_ValidNetwork w_ = false := by simp only [spec_ValidNetwork, h1, h2, h3, h4, h5, h6, ct, cf]
       exact R3 hP6
      ·skip
       have h6d := B.df h6
       refine R0 ?_
       refine WX.cases 51 rfl (fun h7 => ?_) (fun h7 => ?_)
       ·skip
        have h7d := B.dt h7
        refine R0 ?_
        have hP7 : spec_ValidNetwork w_ = false := by simp only [spec_ValidNetwork, h1, h2, h3, h4, h5, h6, h7, ct, cf]
        exact R3 hP7
       ·skip
        have h7d := B.df h7
        refine R0 ?_
        refine WX.callV rfl rfl rfl rfl rfl (fun _ => rfl) rfl (fun w G bs hI hΓ => f142 w n (by omega) w_.now 0 100000 ((ok_Network hokw_).2.2.2.2.2.2.2.2.1) (show I64 0 from (by unfold I64; omega)) (show I64 100000 from (by unfold I64; omega))) ?_
        intro hq5
        refine R0 ?_
        refine WX.cases 57 rfl (fun h8 => ?_) (fun h8 => ?_)
        ·skip
         have h8d := (B.nt h8)
         refine R0 ?_
         have hP8 : spec_ValidNetwork w_ = false := by simp only [spec_ValidNetwork, h1, h2, h3, h4, h5, h6, h7, h8, ct, cf]
         exact R3 hP8
        ·skip
         have h8d := (B.nf h8)
         have h8r := inR_spec (B.nf h8)
         refine R0 ?_
         refine WX.cases 61 rfl (fun h9 => ?_) (fun h9 => ?_)
         ·skip
          have h9d := B.dt h9
          refine R0 ?_
          have hP9 : spec_ValidNetwork w_ = false := by simp only [spec_ValidNetwork, h1, h2, h3, h4, h5, h6, h7, h8, h9, ct, cf]
          exact R3 hP9
         ·skip
          have h9d := B.df h9
          refine R0 ?_
          have r1 : (w_.nodes).length ≤ bd n := (okl (ok_Network hokw_).2.2.2.1).1
          refine WX.loop (ι := Nat) ⟨fun i => (i ≤ (w_.nodes).length) ∧ (spec_ValidNetwork_L1 w_.nodes = spec_ValidNetwork_L1 ((w_.nodes).drop i)), fun i => (w_.nodes).length - i, fun i => [(3, .v (.int .i64 (((i : Nat) : Int)))), (1, .p 1 0)], fun i => [(1, ⟨139, [.int .i64 (w_.topology.size), .slice K0 ((w_.topology.links).length) M0, .slice K1 ((w_.trust.keys).length) M1, .slice K2 ((w_.trust.rules).length) M2, .slice K3 ((w_.trust.anchors).length) M3, .slice K4 ((w_.trust.certificates).length) M4, .slice K5 ((w_.producers).length) M5, .slice K6 ((w_.nodes).length) M6, .int .i64 (w_.downNodes), .slice K7 ((w_.failedLinks).length) M7, .slice K8 ((w_.inFlight).length) M8, .slice K9 ((w_.consumers).length) M9, .int .i64 (w_.now), .int .i64 (w_.dropped)]⟩)], fun i => [], fun i => [(0, MF.rs .stb K0 M0 w_.topology.links), (1, MF.rs .stb K1 M1 w_.trust.keys), (2, MF.rs .stb K2 M2 w_.trust.rules), (3, MF.rs .stb K3 M3 w_.trust.anchors), (4, MF.rs .stb K4 M4 w_.trust.certificates), (5, MF.rs .stb K5 M5 w_.producers), (6, MF.rs .stb K6 M6 w_.nodes), (7, MF.rs .stb K7 M7 w_.failedLinks), (8, MF.rs .stb K8 M8 w_.inFlight), (9, MF.rs .stb K9 M9 w_.consumers)]⟩ 0 ⟨(Nat.zero_le _), rfl⟩
           (.cons rfl (.cons rfl (.nil))) (.cons rfl (.nil)) .nil [0, 1, 2, 3, 4, 5, 6, 7, 8, 9] rfl ?_
          rintro i hpre
          have hpre_ : (i ≤ (w_.nodes).length) ∧ (spec_ValidNetwork_L1 w_.nodes = spec_ValidNetwork_L1 ((w_.nodes).drop i)) := hpre
          clear hpre
          obtain ⟨v1, v2⟩ := hpre_
          refine R0 ?_
          refine WX.cases 66 rfl (fun h10 => ?_) (fun h10 => ?_)
          ·skip
           have h10d := B.dt h10
           have e1i : i < (w_.nodes).length := (by omega)
           obtain ⟨e1, e1h⟩ : ∃ e1, (w_.nodes)[i]? = some e1 := ⟨_, List.getElem?_eq_getElem e1i⟩
           have ok1 : GoT.ok n e1 := (okl (ok_Network hokw_).2.2.2.1).2 _ (List.mem_of_getElem? e1h)
           refine R0 ?_
           refine WX.idx 6 i ttOk rfl rfl rfl rfl rfl rfl rfl rfl rfl rfl e1i ?_
           rintro ad1 rfl
           refine WX.ldE 6 10 e1 ttOk rfl rfl rfl rfl rfl rfl rfl rfl e1h (fun _ => rfl) (fun _ => rfl) ?_
           rintro ⟨⟨p1, c1⟩, ⟨⟨⟩, ⟨p2, c2⟩⟩, ⟨p3, c3⟩, ⟨p4, c4⟩, ⟨p5, c5⟩, ⟨p6, c6⟩, ⟨⟩⟩
           refine WX.callV rfl rfl rfl rfl rfl (fun _ => rfl) rfl (fun w G bs hI hΓ => f186 w n (by omega) e1 p1 c1 (hΓ.get 10 rfl) p2 c2 (hΓ.get 11 rfl) p3 c3 (hΓ.get 12 rfl) p4 c4 (hΓ.get 13 rfl) p5 c5 (hΓ.get 14 rfl) p6 c6 (hΓ.get 15 rfl) ok1) ?_
           intro hq6
           refine R0 ?_
           refine WX.cases 75 rfl (fun h11 => ?_) (fun h11 => ?_)
           ·skip
            have h11d := (B.nt h11)
            refine R0 ?_
            have hP10 : spec_ValidNetwork_L1 w_.nodes = (some false) := by rw [v2, drop_get e1h]; simp only [spec_ValidNetwork_L1, h11, ct, cf]
            have hP11 : spec_ValidNetwork w_ = false := by simp only [spec_ValidNetwork, h1, h2, h3, h4, h5, h6, h7, h8, h9, hP10, ct, cf]
            exact R3 hP11
           ·skip
            have h11d := (B.nf h11)
            refine R0 ?_
            refine WX.see rfl rfl rfl (fun _ hΓ => looks_arith rfl rfl rfl rfl (by unfold I64; first | omega | (simp only [List.length_take] at *; omega))) ?_
            refine R0 ?_
            exact WX.iter (i + 1) ⟨(by omega), (by rw [v2, drop_get e1h]; simp only [spec_ValidNetwork_L1, h11, ct, cf])⟩ (by first | (dsimp only; omega) | omega) (.cons rfl (.cons rfl (.nil))) (.cons rfl (.nil)) .nil [0, 1, 2, 3, 4, 5, 6, 7, 8, 9] rfl
          ·skip
           have h10d := B.df h10
           refine R0 ?_
           have hX1 : spec_ValidNetwork_L1 w_.nodes = none := by rw [v2, List.drop_eq_nil_of_le (show (w_.nodes).length ≤ i by omega)]; simp only [spec_ValidNetwork_L1, ct, cf]
           have r2 : (w_.inFlight).length ≤ bd n := (okl (ok_Network hokw_).2.2.2.2.2.2.1).1
           refine WX.loop (ι := Nat) ⟨fun i => (i ≤ (w_.inFlight).length) ∧ (spec_ValidNetwork_L2 w_ w_.inFlight = spec_ValidNetwork_L2 w_ ((w_.inFlight).drop i)), fun i => (w_.inFlight).length - i, fun i => [(4, .v (.int .i64 (((i : Nat) : Int)))), (1, .p 1 0)], fun i => [(1, ⟨139, [.int .i64 (w_.topology.size), .slice K0 ((w_.topology.links).length) M0, .slice K1 ((w_.trust.keys).length) M1, .slice K2 ((w_.trust.rules).length) M2, .slice K3 ((w_.trust.anchors).length) M3, .slice K4 ((w_.trust.certificates).length) M4, .slice K5 ((w_.producers).length) M5, .slice K6 ((w_.nodes).length) M6, .int .i64 (w_.downNodes), .slice K7 ((w_.failedLinks).length) M7, .slice K8 ((w_.inFlight).length) M8, .slice K9 ((w_.consumers).length) M9, .int .i64 (w_.now), .int .i64 (w_.dropped)]⟩)], fun i => [], fun i => [(0, MF.rs .stb K0 M0 w_.topology.links), (1, MF.rs .stb K1 M1 w_.trust.keys), (2, MF.rs .stb K2 M2 w_.trust.rules), (3, MF.rs .stb K3 M3 w_.trust.anchors), (4, MF.rs .stb K4 M4 w_.trust.certificates), (5, MF.rs .stb K5 M5 w_.producers), (6, MF.rs .stb K6 M6 w_.nodes), (7, MF.rs .stb K7 M7 w_.failedLinks), (8, MF.rs .stb K8 M8 w_.inFlight), (9, MF.rs .stb K9 M9 w_.consumers)]⟩ 0 ⟨(Nat.zero_le _), rfl⟩
            (.cons rfl (.cons rfl (.nil))) (.cons rfl (.nil)) .nil [0, 1, 2, 3, 4, 5, 6, 7, 8, 9] rfl ?_
           rintro i hpre
           have hpre_ : (i ≤ (w_.inFlight).length) ∧ (spec_ValidNetwork_L2 w_ w_.inFlight = spec_ValidNetwork_L2 w_ ((w_.inFlight).drop i)) := hpre
           clear hpre
           obtain ⟨v3, v4⟩ := hpre_
           refine R0 ?_
           refine WX.cases 80 rfl (fun h12 => ?_) (fun h12 => ?_)
           ·skip
            have h12d := B.dt h12
            have e2i : i < (w_.inFlight).length := (by omega)
            obtain ⟨e2, e2h⟩ : ∃ e2, (w_.inFlight)[i]? = some e2 := ⟨_, List.getElem?_eq_getElem e2i⟩
            have ok2 : GoT.ok n e2 := (okl (ok_Network hokw_).2.2.2.2.2.2.1).2 _ (List.mem_of_getElem? e2h)
            refine R0 ?_
            refine WX.draw [] mixed ?_
            intro bs G0 hΓ0
            refine DX.takes (fuel := 29) ttOk [(0, true), (1, false), (2, true)] (by kernel_rfl) rfl ?_
            refine DX.idx 3 8 i ttOk hΓ0 (by kernel_rfl) rfl rfl rfl rfl rfl rfl rfl rfl rfl rfl rfl e2i ?_
            rintro ad2 rfl
            refine DX.takes (fuel := 27) ttOk [(4, true)] (by kernel_rfl) rfl ?_
            refine DX.ldE 5 8 16 e2 ttOk hΓ0 (by kernel_rfl) rfl rfl rfl rfl rfl rfl rfl rfl e2h (fun _ => rfl) (fun _ => rfl) ?_
            rintro ⟨⟨⟩, ⟨⟩, ⟨⟩, ⟨⟨p7, c7⟩, ⟨⟩, ⟨⟩, ⟨⟩⟩, ⟨⟨p8, c8⟩, ⟨p9, c9⟩, ⟨p10, c10⟩, ⟨⟩, ⟨⟩⟩⟩
            refine DX.takes (fuel := 23) ttOk [(6, true), (7, true), (8, false)] (by kernel_rfl) rfl ?_
            refine DX.seeP 9 (by kernel_rfl) rfl rfl rfl rfl (looksP_wrap rfl rfl rfl rfl) ?_
            refine DX.callV 10 rfl (by kernel_rfl) rfl rfl rfl rfl rfl rfl (fun _ => rfl) rfl (fun w G bs hI hΓ => f142 w n (by omega) e2.to 0 (IntKind.i64.wrap (w_.topology.size - 1)) ((ok_PacketInFlight ok2).1) (show I64 0 from (by unfold I64; omega)) (i64_wrap _)) ?_
            intro hq7
            refine DX.takes (fuel := 19) ttOk [(11, true), (12, true)] (by kernel_rfl) rfl ?_
            refine DX.cases 95 rfl (fun h13 => ?_) (fun h13 => ?_)
            ·skip
             have h13d := (B.nt h13)
             refine DX.takes (fuel := 0) ttOk [(13, true), (14, true), (15, true), (16, true), (17, true), (18, true), (19, true), (20, true), (21, true), (22, true), (23, true), (24, true), (25, true), (26, true), (27, true), (28, true), (29, true), (30, true), (31, true)] (by kernel_rfl) rfl ?_
             refine DX.tail2 [] rfl rfl (by kernel_rfl) ?_
             refine R0 ?_
             have hP12 : spec_ValidNetwork_L2 w_ w_.inFlight = (some false) := by rw [v4, drop_get e2h]; simp only [spec_ValidNetwork_L2, h13, ct, cf]
             have hP13 : spec_ValidNetwork w_ = false := by simp only [spec_ValidNetwork, h1, h2, h3, h4, h5, h6, h7, h8, h9, hX1, hP12, ct, cf]
             exact R3 hP13
            ·skip
             have h13d := (B.nf h13)
             have h13r := inR_spec (B.nf h13)
             refine DX.takes (fuel := 16) ttOk [(13, true), (14, false), (15, true)] (by kernel_rfl) rfl ?_
             refine DX.idx 16 8 i ttOk hΓ0 (by kernel_rfl) rfl rfl rfl rfl rfl rfl rfl rfl rfl rfl rfl e2i ?_
             rintro ad3 ⟨⟩
             refine DX.takes (fuel := 14) ttOk [(17, true)] (by kernel_rfl) rfl ?_
             refine DX.ldE 18 8 20 e2 ttOk hΓ0 (by kernel_rfl) rfl rfl rfl rfl rfl rfl rfl rfl e2h (fun _ => rfl) (fun _ => rfl) ?_
             rintro ⟨⟨⟩, ⟨⟩, ⟨⟩, ⟨⟨p11, c11⟩, ⟨⟩, ⟨⟩, ⟨⟩⟩, ⟨⟨p12, c12⟩, ⟨p13, c13⟩, ⟨p14, c14⟩, ⟨⟩, ⟨⟩⟩⟩
             refine DX.takes (fuel := 8) ttOk [(19, true), (20, false), (21, true), (22, false), (23, true)] (by kernel_rfl) rfl ?_
             refine DX.idx 24 8 i ttOk hΓ0 (by kernel_rfl) rfl rfl rfl rfl rfl rfl rfl rfl rfl rfl rfl e2i ?_
             rintro ad4 ⟨⟩
             refine DX.takes (fuel := 6) ttOk [(25, true)] (by kernel_rfl) rfl ?_
             refine DX.ldE 26 8 24 e2 ttOk hΓ0 (by kernel_rfl) rfl rfl rfl rfl rfl rfl rfl rfl e2h (fun _ => rfl) (fun _ => rfl) ?_
             rintro ⟨⟨⟩, ⟨⟩, ⟨⟩, ⟨⟨p15, c15⟩, ⟨⟩, ⟨⟩, ⟨⟩⟩, ⟨⟨p16, c16⟩, ⟨p17, c17⟩, ⟨p18, c18⟩, ⟨⟩, ⟨⟩⟩⟩
             refine DX.callF 27 28 (fun _ _ h => GoT.ow_rd h) (fun _ f hf => GoT.fak f hf) rfl (by kernel_rfl) rfl rfl rfl rfl rfl rfl (fun _ => rfl) rfl (fun w G bs hI hΓ => f187 w n (by omega) w_.topology K0 M0 (hΓ.get 0 rfl) e2.to ((ok_Network hokw_).1) ((ok_PacketInFlight ok2).1)) (fun _ => rfl) (fun _ => rfl) ?_
             rintro ⟨p19, c19⟩ hq8
             refine DX.takes (fuel := 3) ttOk [(28, true)] (by kernel_rfl) rfl ?_
             have r3 : -9223372036854775808 ≤ e2.to ∧ e2.to ≤ 9223372036854775807 := (ok_PacketInFlight ok2).1
             have r4 : (spec_NeighborsOf w_.topology e2.to).length ≤ bd n := (okl hq8).1
             refine DX.callV 29 rfl (by kernel_rfl) rfl rfl rfl rfl rfl rfl (fun _ => rfl) rfl (fun w G bs hI hΓ => f142 w n (by omega) e2.face 1 ((((spec_NeighborsOf w_.topology e2.to)).length : Nat) : Int) ((ok_PacketInFlight ok2).2.1) (show I64 1 from (by unfold I64; omega)) (show I64 ((((spec_NeighborsOf w_.topology e2.to)).length : Nat) : Int) from (by unfold I64; omega))) ?_
             intro hq9
             refine DX.takes (fuel := 0) ttOk [(30, true), (31, true)] (by kernel_rfl) rfl ?_
             refine DX.tail2 [] rfl rfl (by kernel_rfl) ?_
             refine R0 ?_
             refine WX.cases 114 rfl (fun h14 => ?_) (fun h14 => ?_)
             ·skip
              have h14d := (B.nt h14)
              refine R0 ?_
              have hP14 : spec_ValidNetwork_L2 w_ w_.inFlight = (some false) := by rw [v4, drop_get e2h]; simp only [spec_ValidNetwork_L2, h13, h14, ct, cf]
              have hP15 : spec_ValidNetwork w_ = false := by simp only [spec_ValidNetwork, h1, h2, h3, h4, h5, h6, h7, h8, h9, hX1, hP14, ct, cf]
              exact R3 hP15
             ·skip
              have h14d := (B.nf h14)
              have h14r := inR_spec (B.nf h14)
              refine R0 ?_
              refine WX.see rfl rfl rfl (fun _ hΓ => looks_arith rfl rfl rfl rfl (by unfold I64; first | omega | (simp only [List.length_take] at *; omega))) ?_
              refine R0 ?_
              exact WX.iter (i + 1) ⟨(by omega), (by rw [v4, drop_get e2h]; simp only [spec_ValidNetwork_L2, h13, h14, ct, cf])⟩ (by first | (dsimp only; omega) | omega) (.cons rfl (.cons rfl (.nil))) (.cons rfl (.nil)) .nil [0, 1, 2, 3, 4, 5, 6, 7, 8, 9] rfl
           ·skip
            have h12d := B.df h12
            refine R0 ?_
            have hX2 : spec_ValidNetwork_L2 w_ w_.inFlight = none := by rw [v4, List.drop_eq_nil_of_le (show (w_.inFlight).length ≤ i by omega)]; simp only [spec_ValidNetwork_L2, ct, cf]
            have r5 : (w_.consumers).length ≤ bd n := (okl (ok_Network hokw_).2.2.2.2.2.2.2.1).1
            refine WX.loop (ι := Nat) ⟨fun i => (i ≤ (w_.consumers).length) ∧ (spec_ValidNetwork_L3 w_ w_.consumers 0 = spec_ValidNetwork_L3 w_ ((w_.consumers).drop i) i), fun i => (w_.consumers).length - i, fun i => [(5, .v (.int .i64 (((i : Nat) : Int)))), (1, .p 1 0)], fun i => [(1, ⟨139, [.int .i64 (w_.topology.size), .slice K0 ((w_.topology.links).length) M0, .slice K1 ((w_.trust.keys).length) M1, .slice K2 ((w_.trust.rules).length) M2, .slice K3 ((w_.trust.anchors).length) M3, .slice K4 ((w_.trust.certificates).length) M4, .slice K5 ((w_.producers).length) M5, .slice K6 ((w_.nodes).length) M6, .int .i64 (w_.downNodes), .slice K7 ((w_.failedLinks).length) M7, .slice K8 ((w_.inFlight).length) M8, .slice K9 ((w_.consumers).length) M9, .int .i64 (w_.now), .int .i64 (w_.dropped)]⟩)], fun i => [], fun i => [(0, MF.rs .stb K0 M0 w_.topology.links), (1, MF.rs .stb K1 M1 w_.trust.keys), (2, MF.rs .stb K2 M2 w_.trust.rules), (3, MF.rs .stb K3 M3 w_.trust.anchors), (4, MF.rs .stb K4 M4 w_.trust.certificates), (5, MF.rs .stb K5 M5 w_.producers), (6, MF.rs .stb K6 M6 w_.nodes), (7, MF.rs .stb K7 M7 w_.failedLinks), (8, MF.rs .stb K8 M8 w_.inFlight), (9, MF.rs .stb K9 M9 w_.consumers)]⟩ 0 ⟨(Nat.zero_le _), rfl⟩
             (.cons rfl (.cons rfl (.nil))) (.cons rfl (.nil)) .nil [0, 1, 2, 3, 4, 5, 6, 7, 8, 9] rfl ?_
            rintro i hpre
            have hpre_ : (i ≤ (w_.consumers).length) ∧ (spec_ValidNetwork_L3 w_ w_.consumers 0 = spec_ValidNetwork_L3 w_ ((w_.consumers).drop i) i) := hpre
            clear hpre
            obtain ⟨v5, v6⟩ := hpre_
            refine R0 ?_
            refine WX.cases 119 rfl (fun h15 => ?_) (fun h15 => ?_)
            ·skip
             have h15d := B.dt h15
             have e3i : i < (w_.consumers).length := (by omega)
             obtain ⟨e3, e3h⟩ : ∃ e3, (w_.consumers)[i]? = some e3 := ⟨_, List.getElem?_eq_getElem e3i⟩
             have ok3 : GoT.ok n e3 := (okl (ok_Network hokw_).2.2.2.2.2.2.2.1).2 _ (List.mem_of_getElem? e3h)
             refine R0 ?_
             refine WX.draw [] mixed ?_
             intro bs G0 hΓ0
             refine DX.takes (fuel := 26) ttOk [(0, true), (1, false), (2, true)] (by kernel_rfl) rfl ?_
             refine DX.idx 3 9 i ttOk hΓ0 (by kernel_rfl) rfl rfl rfl rfl rfl rfl rfl rfl rfl rfl rfl e3i ?_
             rintro ad5 rfl
             refine DX.ldE 4 9 30 e3 ttOk hΓ0 (by kernel_rfl) rfl rfl rfl rfl rfl rfl rfl rfl e3h (fun _ => rfl) (fun _ => rfl) ?_
             rintro ⟨⟨⟩, ⟨⟩, ⟨p20, c20⟩, ⟨⟩, ⟨⟩, ⟨⟩, ⟨⟨p21, c21⟩, ⟨p22, c22⟩, ⟨p23, c23⟩, ⟨⟩, ⟨⟩⟩⟩
             refine DX.callV 5 rfl (by kernel_rfl) rfl rfl rfl rfl rfl rfl (fun _ => rfl) rfl (fun w G bs hI hΓ => f188 w n (by omega) e3 p20 c20 (hΓ.get 30 rfl) p21 c21 (hΓ.get 31 rfl) p22 c22 (hΓ.get 32 rfl) p23 c23 (hΓ.get 33 rfl) ok3) ?_
             intro hq10
             refine DX.takes (fuel := 21) ttOk [(6, true), (7, true)] (by kernel_rfl) rfl ?_
             refine DX.cases 129 rfl (fun h16 => ?_) (fun h16 => ?_)
             ·skip
              have h16d := (B.nt h16)
              refine DX.takes (fuel := 0) ttOk [(8, true), (9, true), (10, true), (11, true), (12, true), (13, true), (14, true), (15, true), (16, true), (17, true), (18, true), (19, true), (20, true), (21, true), (22, true), (23, true), (24, true), (25, true), (26, true), (27, true), (28, true)] (by kernel_rfl) rfl ?_
              refine DX.tail2 [] rfl rfl (by kernel_rfl) ?_
              refine R0 ?_
              have hP16 : spec_ValidNetwork_L3 w_ w_.consumers 0 = (some false) := by rw [v6, drop_get e3h]; simp only [spec_ValidNetwork_L3, h16, ct, cf]
              have hP17 : spec_ValidNetwork w_ = false := by simp only [spec_ValidNetwork, h1, h2, h3, h4, h5, h6, h7, h8, h9, hX1, hX2, hP16, ct, cf]
              exact R3 hP17
             ·skip
              have h16d := (B.nf h16)
              refine DX.takes (fuel := 18) ttOk [(8, true), (9, false), (10, true)] (by kernel_rfl) rfl ?_
              refine DX.idx 11 9 i ttOk hΓ0 (by kernel_rfl) rfl rfl rfl rfl rfl rfl rfl rfl rfl rfl rfl e3i ?_
              rintro ad6 ⟨⟩
              refine DX.takes (fuel := 16) ttOk [(12, true)] (by kernel_rfl) rfl ?_
              refine DX.ldE 13 9 34 e3 ttOk hΓ0 (by kernel_rfl) rfl rfl rfl rfl rfl rfl rfl rfl e3h (fun _ => rfl) (fun _ => rfl) ?_
              rintro ⟨⟨⟩, ⟨⟩, ⟨p24, c24⟩, ⟨⟩, ⟨⟩, ⟨⟩, ⟨⟨p25, c25⟩, ⟨p26, c26⟩, ⟨p27, c27⟩, ⟨⟩, ⟨⟩⟩⟩
              refine DX.takes (fuel := 9) ttOk [(14, true), (15, true), (16, false), (17, true), (18, true), (19, true)] (by kernel_rfl) rfl ?_
              refine DX.cases 141 rfl (fun h17 => ?_) (fun h17 => ?_)
              ·skip
               have h17d := B.dt h17
               refine DX.takes (fuel := 0) ttOk [(20, true), (21, true), (22, true), (23, true), (24, true), (25, true), (26, true), (27, true), (28, true)] (by kernel_rfl) rfl ?_
               refine DX.tail2 [] rfl rfl (by kernel_rfl) ?_
               refine R0 ?_
               have hP18 : spec_ValidNetwork_L3 w_ w_.consumers 0 = (some false) := by rw [v6, drop_get e3h]; simp only [spec_ValidNetwork_L3, h16, h17, ct, cf]
               have hP19 : spec_ValidNetwork w_ = false := by simp only [spec_ValidNetwork, h1, h2, h3, h4, h5, h6, h7, h8, h9, hX1, hX2, hP18, ct, cf]
               exact R3 hP19
              ·skip
               have h17d := B.df h17
               refine DX.takes (fuel := 6) ttOk [(20, true), (21, false), (22, true)] (by kernel_rfl) rfl ?_
               refine DX.idx 23 9 i ttOk hΓ0 (by kernel_rfl) rfl rfl rfl rfl rfl rfl rfl rfl rfl rfl rfl e3i ?_
               rintro ad7 ⟨⟩
               refine DX.takes (fuel := 4) ttOk [(24, true)] (by kernel_rfl) rfl ?_
               refine DX.ldE 25 9 38 e3 ttOk hΓ0 (by kernel_rfl) rfl rfl rfl rfl rfl rfl rfl rfl e3h (fun _ => rfl) (fun _ => rfl) ?_
               rintro ⟨⟨⟩, ⟨⟩, ⟨p28, c28⟩, ⟨⟩, ⟨⟩, ⟨⟩, ⟨⟨p29, c29⟩, ⟨p30, c30⟩, ⟨p31, c31⟩, ⟨⟩, ⟨⟩⟩⟩
               refine DX.takes (fuel := 0) ttOk [(26, true), (27, true), (28, true)] (by kernel_rfl) rfl ?_
               refine DX.tail2 [] rfl rfl (by kernel_rfl) ?_
               refine R0 ?_
               refine WX.cases 150 rfl (fun h18 => ?_) (fun h18 => ?_)
               ·skip
                have h18d := B.nt' h18
                refine R0 ?_
                have hP20 : spec_ValidNetwork_L3 w_ w_.consumers 0 = (some false) := by rw [v6, drop_get e3h]; simp only [spec_ValidNetwork_L3, h16, h17, h18, ct, cf]
                have hP21 : spec_ValidNetwork w_ = false := by simp only [spec_ValidNetwork, h1, h2, h3, h4, h5, h6, h7, h8, h9, hX1, hX2, hP20, ct, cf]
                exact R3 hP21
               ·skip
                have h18d := B.nf' h18
                refine R0 ?_
                refine WX.see rfl rfl rfl (fun _ hΓ => looks_arith rfl rfl rfl rfl (by unfold I64; first | omega | (simp only [List.length_take] at *; omega))) ?_
                refine R0 ?_
                exact WX.iter (i + 1) ⟨(by omega), (by rw [v6, drop_get e3h]; simp only [spec_ValidNetwork_L3, h16, h17, h18, ct, cf])⟩ (by first | (dsimp only; omega) | omega) (.cons rfl (.cons rfl (.nil))) (.cons rfl (.nil)) .nil [0, 1, 2, 3, 4, 5, 6, 7, 8, 9] rfl
            ·skip
             have h15d := B.df h15
             refine R0 ?_
             have hX3 : spec_ValidNetwork_L3 w_ w_.consumers 0 = none := by rw [v6, List.drop_eq_nil_of_le (show (w_.consumers).length ≤ i by omega)]; simp only [spec_ValidNetwork_L3, ct, cf]
             have hP22 : spec_ValidNetwork w_ = true := by simp only [spec_ValidNetwork, h1, h2, h3, h4, h5, h6, h7, h8, h9, hX1, hX2, hX3, ct, cf]
             exact R3 hP22
end Go.Proofs.YtdimfabadjfkiaaGreat

namespace Go.Stp
theorem mid {α : Type} (p : List α) (e : α) (l : List α) : (p ++ e :: l)[p.length]? = some e := by simp
theorem mid_set {α : Type} (p : List α) (e x : α) (l : List α) : (p ++ e :: l).set p.length x = (p ++ [x]) ++ l := by simp
theorem mid_app {α : Type} (p : List α) (e : α) (l : List α) : (p ++ [e]) ++ l = p ++ e :: l := by simp
theorem mid_len {α : Type} (p : List α) (e : α) : (p ++ [e]).length = p.length + 1 := by simp
def SzR (r left : Int) (s : Nat) : Prop := r = -1 ∨ ((s : Int) ≤ left ∧ r = left - s)
theorem SzR.pos {r left : Int} {s : Nat} (h : SzR r left s) (hr : 0 ≤ r) : (s : Int) ≤ left ∧ r = left - s := by
  rcases h with h | h
  · omega
  · exact h
def SzL (r : Ctl Int Int) (left : Int) (s : Nat) : Prop := r = .ret (-1) ∨ ((s : Int) ≤ left ∧ r = .nxt (left - s))
theorem dF {x : Int} (h : 0 ≤ x) : decide (x < 0) = false := decide_eq_false (by omega)
theorem dT {x : Int} (h : x < 0) : decide (x < 0) = true := decide_eq_true h
theorem wrap_sub {x : Int} {n : Nat} (h0 : 0 ≤ x) (h1 : x ≤ 1048576) (hn : n ≤ 9223372036854775807) : IntKind.i64.wrap (x - (n : Int)) = x - n := wrap_i64 (by unfold I64; omega)
theorem szL_cons {α : Type} [GoT α] [Sz α] (a : α) (l : List α) : szL (a :: l) = sz a + szL l := by simp [szL]
theorem szL_nil {α : Type} [GoT α] [Sz α] : szL ([] : List α) = 0 := rfl
theorem szL_zero {α : Type} [GoT α] [Sz α] (h : ∀ a : α, sz a = 0) : ∀ l : List α, szL l = 0
  | [] => rfl
  | a :: l => by rw [szL_cons, h a, szL_zero h l]
theorem szL_u8 (l : List UInt8) : szL l = 0 := szL_zero (fun _ => rfl) l
theorem szL_int (l : List Int) : szL l = 0 := szL_zero (fun _ => rfl) l
theorem bne_self_F {α : Type} [BEq α] [LawfulBEq α] (a : α) : (a != a) = false := by simp
theorem nbeq_self_F {α : Type} [BEq α] [LawfulBEq α] (a : α) : (!(a == a)) = false := by simp
theorem bytesLess_self : ∀ l : List UInt8, Op.bytesLess l l = false
  | [] => rfl
  | a :: l => by simp [Op.bytesLess, bytesLess_self l]
theorem l4_zero (a b : List UInt8) : ((bif Op.bytesLess a b then (-1) else bif (!(Op.bytesLess a b || a == b)) then 1 else 0 : Int) = 0) ↔ a = b := by
  cases h : Op.bytesLess a b
  · by_cases e : a = b
    · simp [e]
    · have : (a == b) = false := by simpa using e
      simp [this, e]
  · constructor
    · intro x; simp at x
    · intro e; rw [e, bytesLess_self] at h; cases h
end Go.Stp

namespace Go.Stp
set_option linter.unusedVariables false
set_option linter.unusedSimpArgs false
theorem eqL_StringS : ∀ (l p : (List Str)), laws_eqStringS_L1 (p ++ l) l p.length = none
  | [], _ => rfl
  | e :: l, p => by
    have ih := eqL_StringS l (p ++ [e])
    rw [mid_app, mid_len] at ih
    simp only [laws_eqStringS_L1, mid, bne_self_F, nbeq_self_F, cond_false]
    exact ih
theorem eq_StringS (a : (List Str)) : laws_eqStringS a a = true := by
  have h := eqL_StringS a []
  simp only [List.nil_append, List.length_nil] at h
  simp only [laws_eqStringS, bne_self_F, cond_false, h]
theorem toL_StringS : ∀ (l p z : (List Str)), z.length = l.length → laws_toStringS_L1 l p.length (p ++ z) = p ++ l
  | [], p, [], _ => rfl
  | e :: l, p, y :: z, h => by
    have ih := toL_StringS l (p ++ [e]) z (by simpa using h)
    rw [mid_app p e l, mid_len] at ih
    simp only [laws_toStringS_L1, mid, mid_set]
    exact ih
theorem to_StringS (a : (List Str)) : laws_toStringS a = a := by
  simp only [laws_toStringS]
  exact toL_StringS a [] _ (by simp)
theorem szL_StringS_R : ∀ (l : (List Str)) (left : Int), (∀ a ∈ l, GoT.ok 10 a) → 0 ≤ left → left ≤ 1048576 → SzL (laws_szStringS_L1 l left) left (szL l)
  | [], left, _, h0, _ => .inr ⟨by simp [szL_nil]; omega, by simp [szL_nil, laws_szStringS_L1]⟩
  | e :: l, left, hk, h0, h1 => by
    have he : e.size ≤ 9223372036854775807 := hk e List.mem_cons_self
    rw [szL_cons, sz_str]
    unfold laws_szStringS_L1
    rw [wrap_sub h0 h1 he]
    by_cases hc : left - (e.size : Int) < 0
    · rw [dT hc, cond_true]; exact .inl rfl
    · rw [dF (by omega), cond_false]
      rcases szL_StringS_R l (left - (e.size : Int)) (fun a ha => hk a (List.mem_cons_of_mem _ ha)) (by omega) (by omega) with r | ⟨q, r⟩
      · exact .inl r
      · exact .inr ⟨by omega, by rw [r]; congr 1; omega⟩
theorem sz_StringS_R (a : (List Str)) (left : Int) (h : GoT.ok 10 a) (h0 : 0 ≤ left) (h1 : left ≤ 1048576) : SzR (laws_szStringS a left) left (sz a) := by
  have hl : a.length ≤ 9223372036854775807 := h.1
  rw [sz_list]
  unfold laws_szStringS
  rw [wrap_sub h0 h1 hl]
  by_cases hc : left - (a.length : Int) < 0
  · rw [dT hc, cond_true]; exact .inl rfl
  · rw [dF (by omega), cond_false]
    rcases szL_StringS_R a (left - (a.length : Int)) h.2 (by omega) (by omega) with r | ⟨q, r⟩
    · rw [r]; exact .inl rfl
    · rw [r]; exact .inr ⟨by omega, by show left - (a.length : Int) - (szL a : Int) = _; omega⟩
theorem eq_Name (a : Name) : laws_eqName a a = true := by
  simp only [laws_eqName, bne_self_F, nbeq_self_F, cond_false, Bool.not_true, eq_StringS]
theorem to_Name (a : Name) : laws_toName a = a := by
  simp only [laws_toName, to_StringS]
theorem sz_Name_R (a : Name) (left : Int) (h : GoT.ok 10 a) (h0 : 0 ≤ left) (h1 : left ≤ 1048576) : SzR (laws_szName a left) left (sz a) := by
  rw [sz_Name]
  unfold laws_szName
  rcases sz_StringS_R a.parts left (ok_Name h) (by omega) (by omega) with r0 | ⟨q0, r0⟩
  · rw [r0]; exact .inl rfl
  rw [r0, dF (by omega), cond_false]
  exact .inr ⟨by omega, by omega⟩
theorem eqL_ByteS : ∀ (l p : (List UInt8)), laws_eqByteS_L1 (p ++ l) l p.length = none
  | [], _ => rfl
  | e :: l, p => by
    have ih := eqL_ByteS l (p ++ [e])
    rw [mid_app, mid_len] at ih
    simp only [laws_eqByteS_L1, mid, bne_self_F, nbeq_self_F, cond_false]
    exact ih
theorem eq_ByteS (a : (List UInt8)) : laws_eqByteS a a = true := by
  have h := eqL_ByteS a []
  simp only [List.nil_append, List.length_nil] at h
  simp only [laws_eqByteS, bne_self_F, cond_false, h]
theorem toL_ByteS : ∀ (l p z : (List UInt8)), z.length = l.length → laws_toByteS_L1 l p.length (p ++ z) = p ++ l
  | [], p, [], _ => rfl
  | e :: l, p, y :: z, h => by
    have ih := toL_ByteS l (p ++ [e]) z (by simpa using h)
    rw [mid_app p e l, mid_len] at ih
    simp only [laws_toByteS_L1, mid, mid_set]
    exact ih
theorem to_ByteS (a : (List UInt8)) : laws_toByteS a = a := by
  simp only [laws_toByteS]
  exact toL_ByteS a [] _ (by simp)
theorem sz_ByteS_R (a : (List UInt8)) (left : Int) (h : GoT.ok 10 a) (h0 : 0 ≤ left) (h1 : left ≤ 1048576) : SzR (laws_szByteS a left) left (sz a) := by
  have hl : a.length ≤ 9223372036854775807 := h.1
  rw [sz_list, szL_u8]
  unfold laws_szByteS
  rw [wrap_sub h0 h1 hl]
  by_cases hc : left - (a.length : Int) < 0
  · rw [dT hc, cond_true]; exact .inl rfl
  · rw [dF (by omega), cond_false]; exact .inr ⟨by omega, rfl⟩
theorem eq_Data (a : DataP) : laws_eqData a a = true := by
  simp only [laws_eqData, bne_self_F, nbeq_self_F, cond_false, Bool.not_true, eq_Name, eq_ByteS]
theorem to_Data (a : DataP) : laws_toData a = a := by
  simp only [laws_toData, to_Name, to_ByteS]
theorem sz_Data_R (a : DataP) (left : Int) (h : GoT.ok 10 a) (h0 : 0 ≤ left) (h1 : left ≤ 1048576) : SzR (laws_szData a left) left (sz a) := by
  rw [sz_DataP]
  unfold laws_szData
  rcases sz_Name_R a.name left (ok_DataP h).1 (by omega) (by omega) with r0 | ⟨q0, r0⟩
  · rw [r0]; exact .inl rfl
  rw [r0, dF (by omega), cond_false]
  rcases sz_ByteS_R a.content (left - (sz a.name : Int)) (ok_DataP h).2.1 (by omega) (by omega) with r1 | ⟨q1, r1⟩
  · rw [r1]; exact .inl rfl
  rw [r1, dF (by omega), cond_false]
  rcases sz_Name_R a.keyName ((left - (sz a.name : Int)) - (sz a.content : Int)) (ok_DataP h).2.2.1 (by omega) (by omega) with r2 | ⟨q2, r2⟩
  · rw [r2]; exact .inl rfl
  rw [r2, dF (by omega), cond_false]
  exact .inr ⟨by omega, by omega⟩
theorem eq_Consumer (a : Consumer) : laws_eqConsumer a a = true := by
  simp only [laws_eqConsumer, bne_self_F, nbeq_self_F, cond_false, Bool.not_true, eq_Name, eq_Data]
theorem to_Consumer (a : Consumer) : laws_toConsumer a = a := by
  simp only [laws_toConsumer, to_Name, to_Data]
theorem sz_Consumer_R (a : Consumer) (left : Int) (h : GoT.ok 10 a) (h0 : 0 ≤ left) (h1 : left ≤ 1048576) : SzR (laws_szConsumer a left) left (sz a) := by
  rw [sz_Consumer]
  unfold laws_szConsumer
  rcases sz_Name_R a.name left (ok_Consumer h).2.2.1 (by omega) (by omega) with r0 | ⟨q0, r0⟩
  · rw [r0]; exact .inl rfl
  rw [r0, dF (by omega), cond_false]
  rcases sz_Data_R a.data (left - (sz a.name : Int)) (ok_Consumer h).2.2.2.2.2.2 (by omega) (by omega) with r1 | ⟨q1, r1⟩
  · rw [r1]; exact .inl rfl
  rw [r1, dF (by omega), cond_false]
  exact .inr ⟨by omega, by omega⟩
theorem eq_Key (a : Key) : laws_eqKey a a = true := by
  simp only [laws_eqKey, bne_self_F, nbeq_self_F, cond_false, Bool.not_true, eq_Name]
theorem to_Key (a : Key) : laws_toKey a = a := by
  simp only [laws_toKey, to_Name]
theorem sz_Key_R (a : Key) (left : Int) (h : GoT.ok 10 a) (h0 : 0 ≤ left) (h1 : left ≤ 1048576) : SzR (laws_szKey a left) left (sz a) := by
  rw [sz_Key]
  unfold laws_szKey
  rcases sz_Name_R a.name left (ok_Key h).1 (by omega) (by omega) with r0 | ⟨q0, r0⟩
  · rw [r0]; exact .inl rfl
  rw [r0, dF (by omega), cond_false]
  exact .inr ⟨by omega, by omega⟩
theorem eqL_KeyS : ∀ (l p : (List Key)), laws_eqKeyS_L1 (p ++ l) l p.length = none
  | [], _ => rfl
  | e :: l, p => by
    have ih := eqL_KeyS l (p ++ [e])
    rw [mid_app, mid_len] at ih
    simp only [laws_eqKeyS_L1, mid, eq_Key e, Bool.not_true, cond_false]
    exact ih
theorem eq_KeyS (a : (List Key)) : laws_eqKeyS a a = true := by
  have h := eqL_KeyS a []
  simp only [List.nil_append, List.length_nil] at h
  simp only [laws_eqKeyS, bne_self_F, cond_false, h]
theorem toL_KeyS : ∀ (l p z : (List Key)), z.length = l.length → laws_toKeyS_L1 l p.length (p ++ z) = p ++ l
  | [], p, [], _ => rfl
  | e :: l, p, y :: z, h => by
    have ih := toL_KeyS l (p ++ [e]) z (by simpa using h)
    rw [mid_app p e l, mid_len] at ih
    simp only [laws_toKeyS_L1, mid, mid_set, to_Key e]
    exact ih
theorem to_KeyS (a : (List Key)) : laws_toKeyS a = a := by
  simp only [laws_toKeyS]
  exact toL_KeyS a [] _ (by simp)
theorem szL_KeyS_R : ∀ (l : (List Key)) (left : Int), (∀ a ∈ l, GoT.ok 10 a) → 0 ≤ left → left ≤ 1048576 → SzL (laws_szKeyS_L1 l left) left (szL l)
  | [], left, _, h0, _ => .inr ⟨by simp [szL_nil]; omega, by simp [szL_nil, laws_szKeyS_L1]⟩
  | e :: l, left, hk, h0, h1 => by
    rw [szL_cons]
    unfold laws_szKeyS_L1
    rcases sz_Key_R e left (hk e List.mem_cons_self) h0 h1 with r0 | ⟨q0, r0⟩
    · rw [r0]; exact .inl rfl
    · rw [r0, dF (by omega), cond_false]
      rcases szL_KeyS_R l (left - (sz e : Int)) (fun a ha => hk a (List.mem_cons_of_mem _ ha)) (by omega) (by omega) with r | ⟨q, r⟩
      · exact .inl r
      · exact .inr ⟨by omega, by rw [r]; congr 1; omega⟩
theorem sz_KeyS_R (a : (List Key)) (left : Int) (h : GoT.ok 10 a) (h0 : 0 ≤ left) (h1 : left ≤ 1048576) : SzR (laws_szKeyS a left) left (sz a) := by
  have hl : a.length ≤ 9223372036854775807 := h.1
  rw [sz_list]
  unfold laws_szKeyS
  rw [wrap_sub h0 h1 hl]
  by_cases hc : left - (a.length : Int) < 0
  · rw [dT hc, cond_true]; exact .inl rfl
  · rw [dF (by omega), cond_false]
    rcases szL_KeyS_R a (left - (a.length : Int)) h.2 (by omega) (by omega) with r | ⟨q, r⟩
    · rw [r]; exact .inl rfl
    · rw [r]; exact .inr ⟨by omega, by show left - (a.length : Int) - (szL a : Int) = _; omega⟩
theorem eq_Pattern (a : Pattern) : laws_eqPattern a a = true := by
  simp only [laws_eqPattern, bne_self_F, nbeq_self_F, cond_false, Bool.not_true, eq_StringS]
theorem to_Pattern (a : Pattern) : laws_toPattern a = a := by
  simp only [laws_toPattern, to_StringS]
theorem sz_Pattern_R (a : Pattern) (left : Int) (h : GoT.ok 10 a) (h0 : 0 ≤ left) (h1 : left ≤ 1048576) : SzR (laws_szPattern a left) left (sz a) := by
  rw [sz_Pattern]
  unfold laws_szPattern
  rcases sz_StringS_R a.parts left (ok_Pattern h) (by omega) (by omega) with r0 | ⟨q0, r0⟩
  · rw [r0]; exact .inl rfl
  rw [r0, dF (by omega), cond_false]
  exact .inr ⟨by omega, by omega⟩
theorem eq_Rule (a : Rule) : laws_eqRule a a = true := by
  simp only [laws_eqRule, bne_self_F, nbeq_self_F, cond_false, Bool.not_true, eq_Pattern]
theorem to_Rule (a : Rule) : laws_toRule a = a := by
  simp only [laws_toRule, to_Pattern]
theorem sz_Rule_R (a : Rule) (left : Int) (h : GoT.ok 10 a) (h0 : 0 ≤ left) (h1 : left ≤ 1048576) : SzR (laws_szRule a left) left (sz a) := by
  rw [sz_Rule]
  unfold laws_szRule
  rcases sz_Pattern_R a.dataPattern left (ok_Rule h).1 (by omega) (by omega) with r0 | ⟨q0, r0⟩
  · rw [r0]; exact .inl rfl
  rw [r0, dF (by omega), cond_false]
  rcases sz_Pattern_R a.keyPattern (left - (sz a.dataPattern : Int)) (ok_Rule h).2 (by omega) (by omega) with r1 | ⟨q1, r1⟩
  · rw [r1]; exact .inl rfl
  rw [r1, dF (by omega), cond_false]
  exact .inr ⟨by omega, by omega⟩
theorem eqL_RuleS : ∀ (l p : (List Rule)), laws_eqRuleS_L1 (p ++ l) l p.length = none
  | [], _ => rfl
  | e :: l, p => by
    have ih := eqL_RuleS l (p ++ [e])
    rw [mid_app, mid_len] at ih
    simp only [laws_eqRuleS_L1, mid, eq_Rule e, Bool.not_true, cond_false]
    exact ih
theorem eq_RuleS (a : (List Rule)) : laws_eqRuleS a a = true := by
  have h := eqL_RuleS a []
  simp only [List.nil_append, List.length_nil] at h
  simp only [laws_eqRuleS, bne_self_F, cond_false, h]
theorem toL_RuleS : ∀ (l p z : (List Rule)), z.length = l.length → laws_toRuleS_L1 l p.length (p ++ z) = p ++ l
  | [], p, [], _ => rfl
  | e :: l, p, y :: z, h => by
    have ih := toL_RuleS l (p ++ [e]) z (by simpa using h)
    rw [mid_app p e l, mid_len] at ih
    simp only [laws_toRuleS_L1, mid, mid_set, to_Rule e]
    exact ih
theorem to_RuleS (a : (List Rule)) : laws_toRuleS a = a := by
  simp only [laws_toRuleS]
  exact toL_RuleS a [] _ (by simp)
theorem szL_RuleS_R : ∀ (l : (List Rule)) (left : Int), (∀ a ∈ l, GoT.ok 10 a) → 0 ≤ left → left ≤ 1048576 → SzL (laws_szRuleS_L1 l left) left (szL l)
  | [], left, _, h0, _ => .inr ⟨by simp [szL_nil]; omega, by simp [szL_nil, laws_szRuleS_L1]⟩
  | e :: l, left, hk, h0, h1 => by
    rw [szL_cons]
    unfold laws_szRuleS_L1
    rcases sz_Rule_R e left (hk e List.mem_cons_self) h0 h1 with r0 | ⟨q0, r0⟩
    · rw [r0]; exact .inl rfl
    · rw [r0, dF (by omega), cond_false]
      rcases szL_RuleS_R l (left - (sz e : Int)) (fun a ha => hk a (List.mem_cons_of_mem _ ha)) (by omega) (by omega) with r | ⟨q, r⟩
      · exact .inl r
      · exact .inr ⟨by omega, by rw [r]; congr 1; omega⟩
theorem sz_RuleS_R (a : (List Rule)) (left : Int) (h : GoT.ok 10 a) (h0 : 0 ≤ left) (h1 : left ≤ 1048576) : SzR (laws_szRuleS a left) left (sz a) := by
  have hl : a.length ≤ 9223372036854775807 := h.1
  rw [sz_list]
  unfold laws_szRuleS
  rw [wrap_sub h0 h1 hl]
  by_cases hc : left - (a.length : Int) < 0
  · rw [dT hc, cond_true]; exact .inl rfl
  · rw [dF (by omega), cond_false]
    rcases szL_RuleS_R a (left - (a.length : Int)) h.2 (by omega) (by omega) with r | ⟨q, r⟩
    · rw [r]; exact .inl rfl
    · rw [r]; exact .inr ⟨by omega, by show left - (a.length : Int) - (szL a : Int) = _; omega⟩
theorem eqL_NameS : ∀ (l p : (List Name)), laws_eqNameS_L1 (p ++ l) l p.length = none
  | [], _ => rfl
  | e :: l, p => by
    have ih := eqL_NameS l (p ++ [e])
    rw [mid_app, mid_len] at ih
    simp only [laws_eqNameS_L1, mid, eq_Name e, Bool.not_true, cond_false]
    exact ih
theorem eq_NameS (a : (List Name)) : laws_eqNameS a a = true := by
  have h := eqL_NameS a []
  simp only [List.nil_append, List.length_nil] at h
  simp only [laws_eqNameS, bne_self_F, cond_false, h]
theorem toL_NameS : ∀ (l p z : (List Name)), z.length = l.length → laws_toNameS_L1 l p.length (p ++ z) = p ++ l
  | [], p, [], _ => rfl
  | e :: l, p, y :: z, h => by
    have ih := toL_NameS l (p ++ [e]) z (by simpa using h)
    rw [mid_app p e l, mid_len] at ih
    simp only [laws_toNameS_L1, mid, mid_set, to_Name e]
    exact ih
theorem to_NameS (a : (List Name)) : laws_toNameS a = a := by
  simp only [laws_toNameS]
  exact toL_NameS a [] _ (by simp)
theorem szL_NameS_R : ∀ (l : (List Name)) (left : Int), (∀ a ∈ l, GoT.ok 10 a) → 0 ≤ left → left ≤ 1048576 → SzL (laws_szNameS_L1 l left) left (szL l)
  | [], left, _, h0, _ => .inr ⟨by simp [szL_nil]; omega, by simp [szL_nil, laws_szNameS_L1]⟩
  | e :: l, left, hk, h0, h1 => by
    rw [szL_cons]
    unfold laws_szNameS_L1
    rcases sz_Name_R e left (hk e List.mem_cons_self) h0 h1 with r0 | ⟨q0, r0⟩
    · rw [r0]; exact .inl rfl
    · rw [r0, dF (by omega), cond_false]
      rcases szL_NameS_R l (left - (sz e : Int)) (fun a ha => hk a (List.mem_cons_of_mem _ ha)) (by omega) (by omega) with r | ⟨q, r⟩
      · exact .inl r
      · exact .inr ⟨by omega, by rw [r]; congr 1; omega⟩
theorem sz_NameS_R (a : (List Name)) (left : Int) (h : GoT.ok 10 a) (h0 : 0 ≤ left) (h1 : left ≤ 1048576) : SzR (laws_szNameS a left) left (sz a) := by
  have hl : a.length ≤ 9223372036854775807 := h.1
  rw [sz_list]
  unfold laws_szNameS
  rw [wrap_sub h0 h1 hl]
  by_cases hc : left - (a.length : Int) < 0
  · rw [dT hc, cond_true]; exact .inl rfl
  · rw [dF (by omega), cond_false]
    rcases szL_NameS_R a (left - (a.length : Int)) h.2 (by omega) (by omega) with r | ⟨q, r⟩
    · rw [r]; exact .inl rfl
    · rw [r]; exact .inr ⟨by omega, by show left - (a.length : Int) - (szL a : Int) = _; omega⟩
theorem eqL_DataS : ∀ (l p : (List DataP)), laws_eqDataS_L1 (p ++ l) l p.length = none
  | [], _ => rfl
  | e :: l, p => by
    have ih := eqL_DataS l (p ++ [e])
    rw [mid_app, mid_len] at ih
    simp only [laws_eqDataS_L1, mid, eq_Data e, Bool.not_true, cond_false]
    exact ih
theorem eq_DataS (a : (List DataP)) : laws_eqDataS a a = true := by
  have h := eqL_DataS a []
  simp only [List.nil_append, List.length_nil] at h
  simp only [laws_eqDataS, bne_self_F, cond_false, h]
theorem toL_DataS : ∀ (l p z : (List DataP)), z.length = l.length → laws_toDataS_L1 l p.length (p ++ z) = p ++ l
  | [], p, [], _ => rfl
  | e :: l, p, y :: z, h => by
    have ih := toL_DataS l (p ++ [e]) z (by simpa using h)
    rw [mid_app p e l, mid_len] at ih
    simp only [laws_toDataS_L1, mid, mid_set, to_Data e]
    exact ih
theorem to_DataS (a : (List DataP)) : laws_toDataS a = a := by
  simp only [laws_toDataS]
  exact toL_DataS a [] _ (by simp)
theorem szL_DataS_R : ∀ (l : (List DataP)) (left : Int), (∀ a ∈ l, GoT.ok 10 a) → 0 ≤ left → left ≤ 1048576 → SzL (laws_szDataS_L1 l left) left (szL l)
  | [], left, _, h0, _ => .inr ⟨by simp [szL_nil]; omega, by simp [szL_nil, laws_szDataS_L1]⟩
  | e :: l, left, hk, h0, h1 => by
    rw [szL_cons]
    unfold laws_szDataS_L1
    rcases sz_Data_R e left (hk e List.mem_cons_self) h0 h1 with r0 | ⟨q0, r0⟩
    · rw [r0]; exact .inl rfl
    · rw [r0, dF (by omega), cond_false]
      rcases szL_DataS_R l (left - (sz e : Int)) (fun a ha => hk a (List.mem_cons_of_mem _ ha)) (by omega) (by omega) with r | ⟨q, r⟩
      · exact .inl r
      · exact .inr ⟨by omega, by rw [r]; congr 1; omega⟩
theorem sz_DataS_R (a : (List DataP)) (left : Int) (h : GoT.ok 10 a) (h0 : 0 ≤ left) (h1 : left ≤ 1048576) : SzR (laws_szDataS a left) left (sz a) := by
  have hl : a.length ≤ 9223372036854775807 := h.1
  rw [sz_list]
  unfold laws_szDataS
  rw [wrap_sub h0 h1 hl]
  by_cases hc : left - (a.length : Int) < 0
  · rw [dT hc, cond_true]; exact .inl rfl
  · rw [dF (by omega), cond_false]
    rcases szL_DataS_R a (left - (a.length : Int)) h.2 (by omega) (by omega) with r | ⟨q, r⟩
    · rw [r]; exact .inl rfl
    · rw [r]; exact .inr ⟨by omega, by show left - (a.length : Int) - (szL a : Int) = _; omega⟩
theorem eq_TrustPolicy (a : TrustPolicy) : laws_eqTrustPolicy a a = true := by
  simp only [laws_eqTrustPolicy, bne_self_F, nbeq_self_F, cond_false, Bool.not_true, eq_KeyS, eq_RuleS, eq_NameS, eq_DataS]
theorem to_TrustPolicy (a : TrustPolicy) : laws_toTrustPolicy a = a := by
  simp only [laws_toTrustPolicy, to_KeyS, to_RuleS, to_NameS, to_DataS]
theorem sz_TrustPolicy_R (a : TrustPolicy) (left : Int) (h : GoT.ok 10 a) (h0 : 0 ≤ left) (h1 : left ≤ 1048576) : SzR (laws_szTrustPolicy a left) left (sz a) := by
  rw [sz_TrustPolicy]
  unfold laws_szTrustPolicy
  rcases sz_KeyS_R a.keys left (ok_TrustPolicy h).1 (by omega) (by omega) with r0 | ⟨q0, r0⟩
  · rw [r0]; exact .inl rfl
  rw [r0, dF (by omega), cond_false]
  rcases sz_RuleS_R a.rules (left - (sz a.keys : Int)) (ok_TrustPolicy h).2.1 (by omega) (by omega) with r1 | ⟨q1, r1⟩
  · rw [r1]; exact .inl rfl
  rw [r1, dF (by omega), cond_false]
  rcases sz_NameS_R a.anchors ((left - (sz a.keys : Int)) - (sz a.rules : Int)) (ok_TrustPolicy h).2.2.1 (by omega) (by omega) with r2 | ⟨q2, r2⟩
  · rw [r2]; exact .inl rfl
  rw [r2, dF (by omega), cond_false]
  rcases sz_DataS_R a.certificates (((left - (sz a.keys : Int)) - (sz a.rules : Int)) - (sz a.anchors : Int)) (ok_TrustPolicy h).2.2.2 (by omega) (by omega) with r3 | ⟨q3, r3⟩
  · rw [r3]; exact .inl rfl
  rw [r3, dF (by omega), cond_false]
  exact .inr ⟨by omega, by omega⟩
theorem eq_Link (a : Link) : laws_eqLink a a = true := by
  simp only [laws_eqLink, bne_self_F, nbeq_self_F, cond_false, Bool.not_true]
theorem to_Link (a : Link) : laws_toLink a = a := by
  simp only [laws_toLink]
theorem eqL_LinkS : ∀ (l p : (List Link)), laws_eqLinkS_L1 (p ++ l) l p.length = none
  | [], _ => rfl
  | e :: l, p => by
    have ih := eqL_LinkS l (p ++ [e])
    rw [mid_app, mid_len] at ih
    simp only [laws_eqLinkS_L1, mid, eq_Link e, Bool.not_true, cond_false]
    exact ih
theorem eq_LinkS (a : (List Link)) : laws_eqLinkS a a = true := by
  have h := eqL_LinkS a []
  simp only [List.nil_append, List.length_nil] at h
  simp only [laws_eqLinkS, bne_self_F, cond_false, h]
theorem toL_LinkS : ∀ (l p z : (List Link)), z.length = l.length → laws_toLinkS_L1 l p.length (p ++ z) = p ++ l
  | [], p, [], _ => rfl
  | e :: l, p, y :: z, h => by
    have ih := toL_LinkS l (p ++ [e]) z (by simpa using h)
    rw [mid_app p e l, mid_len] at ih
    simp only [laws_toLinkS_L1, mid, mid_set, to_Link e]
    exact ih
theorem to_LinkS (a : (List Link)) : laws_toLinkS a = a := by
  simp only [laws_toLinkS]
  exact toL_LinkS a [] _ (by simp)
theorem sz_LinkS_R (a : (List Link)) (left : Int) (h : GoT.ok 10 a) (h0 : 0 ≤ left) (h1 : left ≤ 1048576) : SzR (laws_szLinkS a left) left (sz a) := by
  have hl : a.length ≤ 9223372036854775807 := h.1
  rw [sz_list, szL_zero (fun b => sz_Link b)]
  unfold laws_szLinkS
  rw [wrap_sub h0 h1 hl]
  by_cases hc : left - (a.length : Int) < 0
  · rw [dT hc, cond_true]; exact .inl rfl
  · rw [dF (by omega), cond_false]; exact .inr ⟨by omega, rfl⟩
theorem eq_Topology (a : Topology) : laws_eqTopology a a = true := by
  simp only [laws_eqTopology, bne_self_F, nbeq_self_F, cond_false, Bool.not_true, eq_LinkS]
theorem to_Topology (a : Topology) : laws_toTopology a = a := by
  simp only [laws_toTopology, to_LinkS]
theorem sz_Topology_R (a : Topology) (left : Int) (h : GoT.ok 10 a) (h0 : 0 ≤ left) (h1 : left ≤ 1048576) : SzR (laws_szTopology a left) left (sz a) := by
  rw [sz_Topology]
  unfold laws_szTopology
  rcases sz_LinkS_R a.links left (ok_Topology h).2 (by omega) (by omega) with r0 | ⟨q0, r0⟩
  · rw [r0]; exact .inl rfl
  rw [r0, dF (by omega), cond_false]
  exact .inr ⟨by omega, by omega⟩
theorem eq_TableEntry (a : TableEntry) : laws_eqTableEntry a a = true := by
  simp only [laws_eqTableEntry, bne_self_F, nbeq_self_F, cond_false, Bool.not_true, eq_Name]
theorem to_TableEntry (a : TableEntry) : laws_toTableEntry a = a := by
  simp only [laws_toTableEntry, to_Name]
theorem sz_TableEntry_R (a : TableEntry) (left : Int) (h : GoT.ok 10 a) (h0 : 0 ≤ left) (h1 : left ≤ 1048576) : SzR (laws_szTableEntry a left) left (sz a) := by
  rw [sz_TableEntry]
  unfold laws_szTableEntry
  rcases sz_Name_R a.name left (ok_TableEntry h).1 (by omega) (by omega) with r0 | ⟨q0, r0⟩
  · rw [r0]; exact .inl rfl
  rw [r0, dF (by omega), cond_false]
  exact .inr ⟨by omega, by omega⟩
theorem eqL_TableEntryS : ∀ (l p : (List TableEntry)), laws_eqTableEntryS_L1 (p ++ l) l p.length = none
  | [], _ => rfl
  | e :: l, p => by
    have ih := eqL_TableEntryS l (p ++ [e])
    rw [mid_app, mid_len] at ih
    simp only [laws_eqTableEntryS_L1, mid, eq_TableEntry e, Bool.not_true, cond_false]
    exact ih
theorem eq_TableEntryS (a : (List TableEntry)) : laws_eqTableEntryS a a = true := by
  have h := eqL_TableEntryS a []
  simp only [List.nil_append, List.length_nil] at h
  simp only [laws_eqTableEntryS, bne_self_F, cond_false, h]
theorem toL_TableEntryS : ∀ (l p z : (List TableEntry)), z.length = l.length → laws_toTableEntryS_L1 l p.length (p ++ z) = p ++ l
  | [], p, [], _ => rfl
  | e :: l, p, y :: z, h => by
    have ih := toL_TableEntryS l (p ++ [e]) z (by simpa using h)
    rw [mid_app p e l, mid_len] at ih
    simp only [laws_toTableEntryS_L1, mid, mid_set, to_TableEntry e]
    exact ih
theorem to_TableEntryS (a : (List TableEntry)) : laws_toTableEntryS a = a := by
  simp only [laws_toTableEntryS]
  exact toL_TableEntryS a [] _ (by simp)
theorem szL_TableEntryS_R : ∀ (l : (List TableEntry)) (left : Int), (∀ a ∈ l, GoT.ok 10 a) → 0 ≤ left → left ≤ 1048576 → SzL (laws_szTableEntryS_L1 l left) left (szL l)
  | [], left, _, h0, _ => .inr ⟨by simp [szL_nil]; omega, by simp [szL_nil, laws_szTableEntryS_L1]⟩
  | e :: l, left, hk, h0, h1 => by
    rw [szL_cons]
    unfold laws_szTableEntryS_L1
    rcases sz_TableEntry_R e left (hk e List.mem_cons_self) h0 h1 with r0 | ⟨q0, r0⟩
    · rw [r0]; exact .inl rfl
    · rw [r0, dF (by omega), cond_false]
      rcases szL_TableEntryS_R l (left - (sz e : Int)) (fun a ha => hk a (List.mem_cons_of_mem _ ha)) (by omega) (by omega) with r | ⟨q, r⟩
      · exact .inl r
      · exact .inr ⟨by omega, by rw [r]; congr 1; omega⟩
theorem sz_TableEntryS_R (a : (List TableEntry)) (left : Int) (h : GoT.ok 10 a) (h0 : 0 ≤ left) (h1 : left ≤ 1048576) : SzR (laws_szTableEntryS a left) left (sz a) := by
  have hl : a.length ≤ 9223372036854775807 := h.1
  rw [sz_list]
  unfold laws_szTableEntryS
  rw [wrap_sub h0 h1 hl]
  by_cases hc : left - (a.length : Int) < 0
  · rw [dT hc, cond_true]; exact .inl rfl
  · rw [dF (by omega), cond_false]
    rcases szL_TableEntryS_R a (left - (a.length : Int)) h.2 (by omega) (by omega) with r | ⟨q, r⟩
    · rw [r]; exact .inl rfl
    · rw [r]; exact .inr ⟨by omega, by show left - (a.length : Int) - (szL a : Int) = _; omega⟩
theorem eq_CacheEntry (a : CacheEntry) : laws_eqCacheEntry a a = true := by
  simp only [laws_eqCacheEntry, bne_self_F, nbeq_self_F, cond_false, Bool.not_true, eq_Data]
theorem to_CacheEntry (a : CacheEntry) : laws_toCacheEntry a = a := by
  simp only [laws_toCacheEntry, to_Data]
theorem sz_CacheEntry_R (a : CacheEntry) (left : Int) (h : GoT.ok 10 a) (h0 : 0 ≤ left) (h1 : left ≤ 1048576) : SzR (laws_szCacheEntry a left) left (sz a) := by
  rw [sz_CacheEntry]
  unfold laws_szCacheEntry
  rcases sz_Data_R a.data left (ok_CacheEntry h).1 (by omega) (by omega) with r0 | ⟨q0, r0⟩
  · rw [r0]; exact .inl rfl
  rw [r0, dF (by omega), cond_false]
  exact .inr ⟨by omega, by omega⟩
theorem eqL_CacheEntryS : ∀ (l p : (List CacheEntry)), laws_eqCacheEntryS_L1 (p ++ l) l p.length = none
  | [], _ => rfl
  | e :: l, p => by
    have ih := eqL_CacheEntryS l (p ++ [e])
    rw [mid_app, mid_len] at ih
    simp only [laws_eqCacheEntryS_L1, mid, eq_CacheEntry e, Bool.not_true, cond_false]
    exact ih
theorem eq_CacheEntryS (a : (List CacheEntry)) : laws_eqCacheEntryS a a = true := by
  have h := eqL_CacheEntryS a []
  simp only [List.nil_append, List.length_nil] at h
  simp only [laws_eqCacheEntryS, bne_self_F, cond_false, h]
theorem toL_CacheEntryS : ∀ (l p z : (List CacheEntry)), z.length = l.length → laws_toCacheEntryS_L1 l p.length (p ++ z) = p ++ l
  | [], p, [], _ => rfl
  | e :: l, p, y :: z, h => by
    have ih := toL_CacheEntryS l (p ++ [e]) z (by simpa using h)
    rw [mid_app p e l, mid_len] at ih
    simp only [laws_toCacheEntryS_L1, mid, mid_set, to_CacheEntry e]
    exact ih
theorem to_CacheEntryS (a : (List CacheEntry)) : laws_toCacheEntryS a = a := by
  simp only [laws_toCacheEntryS]
  exact toL_CacheEntryS a [] _ (by simp)
theorem szL_CacheEntryS_R : ∀ (l : (List CacheEntry)) (left : Int), (∀ a ∈ l, GoT.ok 10 a) → 0 ≤ left → left ≤ 1048576 → SzL (laws_szCacheEntryS_L1 l left) left (szL l)
  | [], left, _, h0, _ => .inr ⟨by simp [szL_nil]; omega, by simp [szL_nil, laws_szCacheEntryS_L1]⟩
  | e :: l, left, hk, h0, h1 => by
    rw [szL_cons]
    unfold laws_szCacheEntryS_L1
    rcases sz_CacheEntry_R e left (hk e List.mem_cons_self) h0 h1 with r0 | ⟨q0, r0⟩
    · rw [r0]; exact .inl rfl
    · rw [r0, dF (by omega), cond_false]
      rcases szL_CacheEntryS_R l (left - (sz e : Int)) (fun a ha => hk a (List.mem_cons_of_mem _ ha)) (by omega) (by omega) with r | ⟨q, r⟩
      · exact .inl r
      · exact .inr ⟨by omega, by rw [r]; congr 1; omega⟩
theorem sz_CacheEntryS_R (a : (List CacheEntry)) (left : Int) (h : GoT.ok 10 a) (h0 : 0 ≤ left) (h1 : left ≤ 1048576) : SzR (laws_szCacheEntryS a left) left (sz a) := by
  have hl : a.length ≤ 9223372036854775807 := h.1
  rw [sz_list]
  unfold laws_szCacheEntryS
  rw [wrap_sub h0 h1 hl]
  by_cases hc : left - (a.length : Int) < 0
  · rw [dT hc, cond_true]; exact .inl rfl
  · rw [dF (by omega), cond_false]
    rcases szL_CacheEntryS_R a (left - (a.length : Int)) h.2 (by omega) (by omega) with r | ⟨q, r⟩
    · rw [r]; exact .inl rfl
    · rw [r]; exact .inr ⟨by omega, by show left - (a.length : Int) - (szL a : Int) = _; omega⟩
theorem eq_ContentStore (a : ContentStore) : laws_eqContentStore a a = true := by
  simp only [laws_eqContentStore, bne_self_F, nbeq_self_F, cond_false, Bool.not_true, eq_CacheEntryS]
theorem to_ContentStore (a : ContentStore) : laws_toContentStore a = a := by
  simp only [laws_toContentStore, to_CacheEntryS]
theorem sz_ContentStore_R (a : ContentStore) (left : Int) (h : GoT.ok 10 a) (h0 : 0 ≤ left) (h1 : left ≤ 1048576) : SzR (laws_szContentStore a left) left (sz a) := by
  rw [sz_ContentStore]
  unfold laws_szContentStore
  rcases sz_CacheEntryS_R a.entries left (ok_ContentStore h).2 (by omega) (by omega) with r0 | ⟨q0, r0⟩
  · rw [r0]; exact .inl rfl
  rw [r0, dF (by omega), cond_false]
  exact .inr ⟨by omega, by omega⟩
theorem eq_Requester (a : Requester) : laws_eqRequester a a = true := by
  simp only [laws_eqRequester, bne_self_F, nbeq_self_F, cond_false, Bool.not_true]
theorem to_Requester (a : Requester) : laws_toRequester a = a := by
  simp only [laws_toRequester]
theorem eqL_RequesterS : ∀ (l p : (List Requester)), laws_eqRequesterS_L1 (p ++ l) l p.length = none
  | [], _ => rfl
  | e :: l, p => by
    have ih := eqL_RequesterS l (p ++ [e])
    rw [mid_app, mid_len] at ih
    simp only [laws_eqRequesterS_L1, mid, eq_Requester e, Bool.not_true, cond_false]
    exact ih
theorem eq_RequesterS (a : (List Requester)) : laws_eqRequesterS a a = true := by
  have h := eqL_RequesterS a []
  simp only [List.nil_append, List.length_nil] at h
  simp only [laws_eqRequesterS, bne_self_F, cond_false, h]
theorem toL_RequesterS : ∀ (l p z : (List Requester)), z.length = l.length → laws_toRequesterS_L1 l p.length (p ++ z) = p ++ l
  | [], p, [], _ => rfl
  | e :: l, p, y :: z, h => by
    have ih := toL_RequesterS l (p ++ [e]) z (by simpa using h)
    rw [mid_app p e l, mid_len] at ih
    simp only [laws_toRequesterS_L1, mid, mid_set, to_Requester e]
    exact ih
theorem to_RequesterS (a : (List Requester)) : laws_toRequesterS a = a := by
  simp only [laws_toRequesterS]
  exact toL_RequesterS a [] _ (by simp)
theorem sz_RequesterS_R (a : (List Requester)) (left : Int) (h : GoT.ok 10 a) (h0 : 0 ≤ left) (h1 : left ≤ 1048576) : SzR (laws_szRequesterS a left) left (sz a) := by
  have hl : a.length ≤ 9223372036854775807 := h.1
  rw [sz_list, szL_zero (fun b => sz_Requester b)]
  unfold laws_szRequesterS
  rw [wrap_sub h0 h1 hl]
  by_cases hc : left - (a.length : Int) < 0
  · rw [dT hc, cond_true]; exact .inl rfl
  · rw [dF (by omega), cond_false]; exact .inr ⟨by omega, rfl⟩
theorem eq_PendingInterest (a : PendingInterest) : laws_eqPendingInterest a a = true := by
  simp only [laws_eqPendingInterest, bne_self_F, nbeq_self_F, cond_false, Bool.not_true, eq_Name, eq_RequesterS]
theorem to_PendingInterest (a : PendingInterest) : laws_toPendingInterest a = a := by
  simp only [laws_toPendingInterest, to_Name, to_RequesterS]
theorem sz_PendingInterest_R (a : PendingInterest) (left : Int) (h : GoT.ok 10 a) (h0 : 0 ≤ left) (h1 : left ≤ 1048576) : SzR (laws_szPendingInterest a left) left (sz a) := by
  rw [sz_PendingInterest]
  unfold laws_szPendingInterest
  rcases sz_Name_R a.name left (ok_PendingInterest h).1 (by omega) (by omega) with r0 | ⟨q0, r0⟩
  · rw [r0]; exact .inl rfl
  rw [r0, dF (by omega), cond_false]
  rcases sz_RequesterS_R a.requesters (left - (sz a.name : Int)) (ok_PendingInterest h).2.1 (by omega) (by omega) with r1 | ⟨q1, r1⟩
  · rw [r1]; exact .inl rfl
  rw [r1, dF (by omega), cond_false]
  exact .inr ⟨by omega, by omega⟩
theorem eqL_PendingInterestS : ∀ (l p : (List PendingInterest)), laws_eqPendingInterestS_L1 (p ++ l) l p.length = none
  | [], _ => rfl
  | e :: l, p => by
    have ih := eqL_PendingInterestS l (p ++ [e])
    rw [mid_app, mid_len] at ih
    simp only [laws_eqPendingInterestS_L1, mid, eq_PendingInterest e, Bool.not_true, cond_false]
    exact ih
theorem eq_PendingInterestS (a : (List PendingInterest)) : laws_eqPendingInterestS a a = true := by
  have h := eqL_PendingInterestS a []
  simp only [List.nil_append, List.length_nil] at h
  simp only [laws_eqPendingInterestS, bne_self_F, cond_false, h]
theorem toL_PendingInterestS : ∀ (l p z : (List PendingInterest)), z.length = l.length → laws_toPendingInterestS_L1 l p.length (p ++ z) = p ++ l
  | [], p, [], _ => rfl
  | e :: l, p, y :: z, h => by
    have ih := toL_PendingInterestS l (p ++ [e]) z (by simpa using h)
    rw [mid_app p e l, mid_len] at ih
    simp only [laws_toPendingInterestS_L1, mid, mid_set, to_PendingInterest e]
    exact ih
theorem to_PendingInterestS (a : (List PendingInterest)) : laws_toPendingInterestS a = a := by
  simp only [laws_toPendingInterestS]
  exact toL_PendingInterestS a [] _ (by simp)
theorem szL_PendingInterestS_R : ∀ (l : (List PendingInterest)) (left : Int), (∀ a ∈ l, GoT.ok 10 a) → 0 ≤ left → left ≤ 1048576 → SzL (laws_szPendingInterestS_L1 l left) left (szL l)
  | [], left, _, h0, _ => .inr ⟨by simp [szL_nil]; omega, by simp [szL_nil, laws_szPendingInterestS_L1]⟩
  | e :: l, left, hk, h0, h1 => by
    rw [szL_cons]
    unfold laws_szPendingInterestS_L1
    rcases sz_PendingInterest_R e left (hk e List.mem_cons_self) h0 h1 with r0 | ⟨q0, r0⟩
    · rw [r0]; exact .inl rfl
    · rw [r0, dF (by omega), cond_false]
      rcases szL_PendingInterestS_R l (left - (sz e : Int)) (fun a ha => hk a (List.mem_cons_of_mem _ ha)) (by omega) (by omega) with r | ⟨q, r⟩
      · exact .inl r
      · exact .inr ⟨by omega, by rw [r]; congr 1; omega⟩
theorem sz_PendingInterestS_R (a : (List PendingInterest)) (left : Int) (h : GoT.ok 10 a) (h0 : 0 ≤ left) (h1 : left ≤ 1048576) : SzR (laws_szPendingInterestS a left) left (sz a) := by
  have hl : a.length ≤ 9223372036854775807 := h.1
  rw [sz_list]
  unfold laws_szPendingInterestS
  rw [wrap_sub h0 h1 hl]
  by_cases hc : left - (a.length : Int) < 0
  · rw [dT hc, cond_true]; exact .inl rfl
  · rw [dF (by omega), cond_false]
    rcases szL_PendingInterestS_R a (left - (a.length : Int)) h.2 (by omega) (by omega) with r | ⟨q, r⟩
    · rw [r]; exact .inl rfl
    · rw [r]; exact .inr ⟨by omega, by show left - (a.length : Int) - (szL a : Int) = _; omega⟩
theorem eq_SeenNonce (a : SeenNonce) : laws_eqSeenNonce a a = true := by
  simp only [laws_eqSeenNonce, bne_self_F, nbeq_self_F, cond_false, Bool.not_true, eq_Name]
theorem to_SeenNonce (a : SeenNonce) : laws_toSeenNonce a = a := by
  simp only [laws_toSeenNonce, to_Name]
theorem sz_SeenNonce_R (a : SeenNonce) (left : Int) (h : GoT.ok 10 a) (h0 : 0 ≤ left) (h1 : left ≤ 1048576) : SzR (laws_szSeenNonce a left) left (sz a) := by
  rw [sz_SeenNonce]
  unfold laws_szSeenNonce
  rcases sz_Name_R a.name left (ok_SeenNonce h).1 (by omega) (by omega) with r0 | ⟨q0, r0⟩
  · rw [r0]; exact .inl rfl
  rw [r0, dF (by omega), cond_false]
  exact .inr ⟨by omega, by omega⟩
theorem eqL_SeenNonceS : ∀ (l p : (List SeenNonce)), laws_eqSeenNonceS_L1 (p ++ l) l p.length = none
  | [], _ => rfl
  | e :: l, p => by
    have ih := eqL_SeenNonceS l (p ++ [e])
    rw [mid_app, mid_len] at ih
    simp only [laws_eqSeenNonceS_L1, mid, eq_SeenNonce e, Bool.not_true, cond_false]
    exact ih
theorem eq_SeenNonceS (a : (List SeenNonce)) : laws_eqSeenNonceS a a = true := by
  have h := eqL_SeenNonceS a []
  simp only [List.nil_append, List.length_nil] at h
  simp only [laws_eqSeenNonceS, bne_self_F, cond_false, h]
theorem toL_SeenNonceS : ∀ (l p z : (List SeenNonce)), z.length = l.length → laws_toSeenNonceS_L1 l p.length (p ++ z) = p ++ l
  | [], p, [], _ => rfl
  | e :: l, p, y :: z, h => by
    have ih := toL_SeenNonceS l (p ++ [e]) z (by simpa using h)
    rw [mid_app p e l, mid_len] at ih
    simp only [laws_toSeenNonceS_L1, mid, mid_set, to_SeenNonce e]
    exact ih
theorem to_SeenNonceS (a : (List SeenNonce)) : laws_toSeenNonceS a = a := by
  simp only [laws_toSeenNonceS]
  exact toL_SeenNonceS a [] _ (by simp)
theorem szL_SeenNonceS_R : ∀ (l : (List SeenNonce)) (left : Int), (∀ a ∈ l, GoT.ok 10 a) → 0 ≤ left → left ≤ 1048576 → SzL (laws_szSeenNonceS_L1 l left) left (szL l)
  | [], left, _, h0, _ => .inr ⟨by simp [szL_nil]; omega, by simp [szL_nil, laws_szSeenNonceS_L1]⟩
  | e :: l, left, hk, h0, h1 => by
    rw [szL_cons]
    unfold laws_szSeenNonceS_L1
    rcases sz_SeenNonce_R e left (hk e List.mem_cons_self) h0 h1 with r0 | ⟨q0, r0⟩
    · rw [r0]; exact .inl rfl
    · rw [r0, dF (by omega), cond_false]
      rcases szL_SeenNonceS_R l (left - (sz e : Int)) (fun a ha => hk a (List.mem_cons_of_mem _ ha)) (by omega) (by omega) with r | ⟨q, r⟩
      · exact .inl r
      · exact .inr ⟨by omega, by rw [r]; congr 1; omega⟩
theorem sz_SeenNonceS_R (a : (List SeenNonce)) (left : Int) (h : GoT.ok 10 a) (h0 : 0 ≤ left) (h1 : left ≤ 1048576) : SzR (laws_szSeenNonceS a left) left (sz a) := by
  have hl : a.length ≤ 9223372036854775807 := h.1
  rw [sz_list]
  unfold laws_szSeenNonceS
  rw [wrap_sub h0 h1 hl]
  by_cases hc : left - (a.length : Int) < 0
  · rw [dT hc, cond_true]; exact .inl rfl
  · rw [dF (by omega), cond_false]
    rcases szL_SeenNonceS_R a (left - (a.length : Int)) h.2 (by omega) (by omega) with r | ⟨q, r⟩
    · rw [r]; exact .inl rfl
    · rw [r]; exact .inr ⟨by omega, by show left - (a.length : Int) - (szL a : Int) = _; omega⟩
theorem eq_Route (a : Route) : laws_eqRoute a a = true := by
  simp only [laws_eqRoute, bne_self_F, nbeq_self_F, cond_false, Bool.not_true, eq_Name]
theorem to_Route (a : Route) : laws_toRoute a = a := by
  simp only [laws_toRoute, to_Name]
theorem sz_Route_R (a : Route) (left : Int) (h : GoT.ok 10 a) (h0 : 0 ≤ left) (h1 : left ≤ 1048576) : SzR (laws_szRoute a left) left (sz a) := by
  rw [sz_Route]
  unfold laws_szRoute
  rcases sz_Name_R a.pfx left (ok_Route h).1 (by omega) (by omega) with r0 | ⟨q0, r0⟩
  · rw [r0]; exact .inl rfl
  rw [r0, dF (by omega), cond_false]
  exact .inr ⟨by omega, by omega⟩
theorem eqL_RouteS : ∀ (l p : (List Route)), laws_eqRouteS_L1 (p ++ l) l p.length = none
  | [], _ => rfl
  | e :: l, p => by
    have ih := eqL_RouteS l (p ++ [e])
    rw [mid_app, mid_len] at ih
    simp only [laws_eqRouteS_L1, mid, eq_Route e, Bool.not_true, cond_false]
    exact ih
theorem eq_RouteS (a : (List Route)) : laws_eqRouteS a a = true := by
  have h := eqL_RouteS a []
  simp only [List.nil_append, List.length_nil] at h
  simp only [laws_eqRouteS, bne_self_F, cond_false, h]
theorem toL_RouteS : ∀ (l p z : (List Route)), z.length = l.length → laws_toRouteS_L1 l p.length (p ++ z) = p ++ l
  | [], p, [], _ => rfl
  | e :: l, p, y :: z, h => by
    have ih := toL_RouteS l (p ++ [e]) z (by simpa using h)
    rw [mid_app p e l, mid_len] at ih
    simp only [laws_toRouteS_L1, mid, mid_set, to_Route e]
    exact ih
theorem to_RouteS (a : (List Route)) : laws_toRouteS a = a := by
  simp only [laws_toRouteS]
  exact toL_RouteS a [] _ (by simp)
theorem szL_RouteS_R : ∀ (l : (List Route)) (left : Int), (∀ a ∈ l, GoT.ok 10 a) → 0 ≤ left → left ≤ 1048576 → SzL (laws_szRouteS_L1 l left) left (szL l)
  | [], left, _, h0, _ => .inr ⟨by simp [szL_nil]; omega, by simp [szL_nil, laws_szRouteS_L1]⟩
  | e :: l, left, hk, h0, h1 => by
    rw [szL_cons]
    unfold laws_szRouteS_L1
    rcases sz_Route_R e left (hk e List.mem_cons_self) h0 h1 with r0 | ⟨q0, r0⟩
    · rw [r0]; exact .inl rfl
    · rw [r0, dF (by omega), cond_false]
      rcases szL_RouteS_R l (left - (sz e : Int)) (fun a ha => hk a (List.mem_cons_of_mem _ ha)) (by omega) (by omega) with r | ⟨q, r⟩
      · exact .inl r
      · exact .inr ⟨by omega, by rw [r]; congr 1; omega⟩
theorem sz_RouteS_R (a : (List Route)) (left : Int) (h : GoT.ok 10 a) (h0 : 0 ≤ left) (h1 : left ≤ 1048576) : SzR (laws_szRouteS a left) left (sz a) := by
  have hl : a.length ≤ 9223372036854775807 := h.1
  rw [sz_list]
  unfold laws_szRouteS
  rw [wrap_sub h0 h1 hl]
  by_cases hc : left - (a.length : Int) < 0
  · rw [dT hc, cond_true]; exact .inl rfl
  · rw [dF (by omega), cond_false]
    rcases szL_RouteS_R a (left - (a.length : Int)) h.2 (by omega) (by omega) with r | ⟨q, r⟩
    · rw [r]; exact .inl rfl
    · rw [r]; exact .inr ⟨by omega, by show left - (a.length : Int) - (szL a : Int) = _; omega⟩
theorem eq_Measurement (a : Measurement) : laws_eqMeasurement a a = true := by
  simp only [laws_eqMeasurement, bne_self_F, nbeq_self_F, cond_false, Bool.not_true, eq_Name]
theorem to_Measurement (a : Measurement) : laws_toMeasurement a = a := by
  simp only [laws_toMeasurement, to_Name]
theorem sz_Measurement_R (a : Measurement) (left : Int) (h : GoT.ok 10 a) (h0 : 0 ≤ left) (h1 : left ≤ 1048576) : SzR (laws_szMeasurement a left) left (sz a) := by
  rw [sz_Measurement]
  unfold laws_szMeasurement
  rcases sz_Name_R a.pfx left (ok_Measurement h).1 (by omega) (by omega) with r0 | ⟨q0, r0⟩
  · rw [r0]; exact .inl rfl
  rw [r0, dF (by omega), cond_false]
  exact .inr ⟨by omega, by omega⟩
theorem eqL_MeasurementS : ∀ (l p : (List Measurement)), laws_eqMeasurementS_L1 (p ++ l) l p.length = none
  | [], _ => rfl
  | e :: l, p => by
    have ih := eqL_MeasurementS l (p ++ [e])
    rw [mid_app, mid_len] at ih
    simp only [laws_eqMeasurementS_L1, mid, eq_Measurement e, Bool.not_true, cond_false]
    exact ih
theorem eq_MeasurementS (a : (List Measurement)) : laws_eqMeasurementS a a = true := by
  have h := eqL_MeasurementS a []
  simp only [List.nil_append, List.length_nil] at h
  simp only [laws_eqMeasurementS, bne_self_F, cond_false, h]
theorem toL_MeasurementS : ∀ (l p z : (List Measurement)), z.length = l.length → laws_toMeasurementS_L1 l p.length (p ++ z) = p ++ l
  | [], p, [], _ => rfl
  | e :: l, p, y :: z, h => by
    have ih := toL_MeasurementS l (p ++ [e]) z (by simpa using h)
    rw [mid_app p e l, mid_len] at ih
    simp only [laws_toMeasurementS_L1, mid, mid_set, to_Measurement e]
    exact ih
theorem to_MeasurementS (a : (List Measurement)) : laws_toMeasurementS a = a := by
  simp only [laws_toMeasurementS]
  exact toL_MeasurementS a [] _ (by simp)
theorem szL_MeasurementS_R : ∀ (l : (List Measurement)) (left : Int), (∀ a ∈ l, GoT.ok 10 a) → 0 ≤ left → left ≤ 1048576 → SzL (laws_szMeasurementS_L1 l left) left (szL l)
  | [], left, _, h0, _ => .inr ⟨by simp [szL_nil]; omega, by simp [szL_nil, laws_szMeasurementS_L1]⟩
  | e :: l, left, hk, h0, h1 => by
    rw [szL_cons]
    unfold laws_szMeasurementS_L1
    rcases sz_Measurement_R e left (hk e List.mem_cons_self) h0 h1 with r0 | ⟨q0, r0⟩
    · rw [r0]; exact .inl rfl
    · rw [r0, dF (by omega), cond_false]
      rcases szL_MeasurementS_R l (left - (sz e : Int)) (fun a ha => hk a (List.mem_cons_of_mem _ ha)) (by omega) (by omega) with r | ⟨q, r⟩
      · exact .inl r
      · exact .inr ⟨by omega, by rw [r]; congr 1; omega⟩
theorem sz_MeasurementS_R (a : (List Measurement)) (left : Int) (h : GoT.ok 10 a) (h0 : 0 ≤ left) (h1 : left ≤ 1048576) : SzR (laws_szMeasurementS a left) left (sz a) := by
  have hl : a.length ≤ 9223372036854775807 := h.1
  rw [sz_list]
  unfold laws_szMeasurementS
  rw [wrap_sub h0 h1 hl]
  by_cases hc : left - (a.length : Int) < 0
  · rw [dT hc, cond_true]; exact .inl rfl
  · rw [dF (by omega), cond_false]
    rcases szL_MeasurementS_R a (left - (a.length : Int)) h.2 (by omega) (by omega) with r | ⟨q, r⟩
    · rw [r]; exact .inl rfl
    · rw [r]; exact .inr ⟨by omega, by show left - (a.length : Int) - (szL a : Int) = _; omega⟩
theorem eq_Node (a : NodeP) : laws_eqNode a a = true := by
  simp only [laws_eqNode, bne_self_F, nbeq_self_F, cond_false, Bool.not_true, eq_DataS, eq_ContentStore, eq_PendingInterestS, eq_SeenNonceS, eq_RouteS, eq_MeasurementS]
theorem to_Node (a : NodeP) : laws_toNode a = a := by
  simp only [laws_toNode, to_DataS, to_ContentStore, to_PendingInterestS, to_SeenNonceS, to_RouteS, to_MeasurementS]
theorem sz_Node_R (a : NodeP) (left : Int) (h : GoT.ok 10 a) (h0 : 0 ≤ left) (h1 : left ≤ 1048576) : SzR (laws_szNode a left) left (sz a) := by
  rw [sz_NodeP]
  unfold laws_szNode
  rcases sz_DataS_R a.locl left (ok_NodeP h).1 (by omega) (by omega) with r0 | ⟨q0, r0⟩
  · rw [r0]; exact .inl rfl
  rw [r0, dF (by omega), cond_false]
  rcases sz_ContentStore_R a.cache (left - (sz a.locl : Int)) (ok_NodeP h).2.1 (by omega) (by omega) with r1 | ⟨q1, r1⟩
  · rw [r1]; exact .inl rfl
  rw [r1, dF (by omega), cond_false]
  rcases sz_PendingInterestS_R a.pending ((left - (sz a.locl : Int)) - (sz a.cache : Int)) (ok_NodeP h).2.2.1 (by omega) (by omega) with r2 | ⟨q2, r2⟩
  · rw [r2]; exact .inl rfl
  rw [r2, dF (by omega), cond_false]
  rcases sz_SeenNonceS_R a.seen (((left - (sz a.locl : Int)) - (sz a.cache : Int)) - (sz a.pending : Int)) (ok_NodeP h).2.2.2.1 (by omega) (by omega) with r3 | ⟨q3, r3⟩
  · rw [r3]; exact .inl rfl
  rw [r3, dF (by omega), cond_false]
  rcases sz_RouteS_R a.routes ((((left - (sz a.locl : Int)) - (sz a.cache : Int)) - (sz a.pending : Int)) - (sz a.seen : Int)) (ok_NodeP h).2.2.2.2.1 (by omega) (by omega) with r4 | ⟨q4, r4⟩
  · rw [r4]; exact .inl rfl
  rw [r4, dF (by omega), cond_false]
  rcases sz_MeasurementS_R a.measurements (((((left - (sz a.locl : Int)) - (sz a.cache : Int)) - (sz a.pending : Int)) - (sz a.seen : Int)) - (sz a.routes : Int)) (ok_NodeP h).2.2.2.2.2.1 (by omega) (by omega) with r5 | ⟨q5, r5⟩
  · rw [r5]; exact .inl rfl
  rw [r5, dF (by omega), cond_false]
  exact .inr ⟨by omega, by omega⟩
theorem eqL_NodeS : ∀ (l p : (List NodeP)), laws_eqNodeS_L1 (p ++ l) l p.length = none
  | [], _ => rfl
  | e :: l, p => by
    have ih := eqL_NodeS l (p ++ [e])
    rw [mid_app, mid_len] at ih
    simp only [laws_eqNodeS_L1, mid, eq_Node e, Bool.not_true, cond_false]
    exact ih
theorem eq_NodeS (a : (List NodeP)) : laws_eqNodeS a a = true := by
  have h := eqL_NodeS a []
  simp only [List.nil_append, List.length_nil] at h
  simp only [laws_eqNodeS, bne_self_F, cond_false, h]
theorem toL_NodeS : ∀ (l p z : (List NodeP)), z.length = l.length → laws_toNodeS_L1 l p.length (p ++ z) = p ++ l
  | [], p, [], _ => rfl
  | e :: l, p, y :: z, h => by
    have ih := toL_NodeS l (p ++ [e]) z (by simpa using h)
    rw [mid_app p e l, mid_len] at ih
    simp only [laws_toNodeS_L1, mid, mid_set, to_Node e]
    exact ih
theorem to_NodeS (a : (List NodeP)) : laws_toNodeS a = a := by
  simp only [laws_toNodeS]
  exact toL_NodeS a [] _ (by simp)
theorem szL_NodeS_R : ∀ (l : (List NodeP)) (left : Int), (∀ a ∈ l, GoT.ok 10 a) → 0 ≤ left → left ≤ 1048576 → SzL (laws_szNodeS_L1 l left) left (szL l)
  | [], left, _, h0, _ => .inr ⟨by simp [szL_nil]; omega, by simp [szL_nil, laws_szNodeS_L1]⟩
  | e :: l, left, hk, h0, h1 => by
    rw [szL_cons]
    unfold laws_szNodeS_L1
    rcases sz_Node_R e left (hk e List.mem_cons_self) h0 h1 with r0 | ⟨q0, r0⟩
    · rw [r0]; exact .inl rfl
    · rw [r0, dF (by omega), cond_false]
      rcases szL_NodeS_R l (left - (sz e : Int)) (fun a ha => hk a (List.mem_cons_of_mem _ ha)) (by omega) (by omega) with r | ⟨q, r⟩
      · exact .inl r
      · exact .inr ⟨by omega, by rw [r]; congr 1; omega⟩
theorem sz_NodeS_R (a : (List NodeP)) (left : Int) (h : GoT.ok 10 a) (h0 : 0 ≤ left) (h1 : left ≤ 1048576) : SzR (laws_szNodeS a left) left (sz a) := by
  have hl : a.length ≤ 9223372036854775807 := h.1
  rw [sz_list]
  unfold laws_szNodeS
  rw [wrap_sub h0 h1 hl]
  by_cases hc : left - (a.length : Int) < 0
  · rw [dT hc, cond_true]; exact .inl rfl
  · rw [dF (by omega), cond_false]
    rcases szL_NodeS_R a (left - (a.length : Int)) h.2 (by omega) (by omega) with r | ⟨q, r⟩
    · rw [r]; exact .inl rfl
    · rw [r]; exact .inr ⟨by omega, by show left - (a.length : Int) - (szL a : Int) = _; omega⟩
theorem eqL_IntS : ∀ (l p : (List Int)), laws_eqIntS_L1 (p ++ l) l p.length = none
  | [], _ => rfl
  | e :: l, p => by
    have ih := eqL_IntS l (p ++ [e])
    rw [mid_app, mid_len] at ih
    simp only [laws_eqIntS_L1, mid, bne_self_F, nbeq_self_F, cond_false]
    exact ih
theorem eq_IntS (a : (List Int)) : laws_eqIntS a a = true := by
  have h := eqL_IntS a []
  simp only [List.nil_append, List.length_nil] at h
  simp only [laws_eqIntS, bne_self_F, cond_false, h]
theorem toL_IntS : ∀ (l p z : (List Int)), z.length = l.length → laws_toIntS_L1 l p.length (p ++ z) = p ++ l
  | [], p, [], _ => rfl
  | e :: l, p, y :: z, h => by
    have ih := toL_IntS l (p ++ [e]) z (by simpa using h)
    rw [mid_app p e l, mid_len] at ih
    simp only [laws_toIntS_L1, mid, mid_set]
    exact ih
theorem to_IntS (a : (List Int)) : laws_toIntS a = a := by
  simp only [laws_toIntS]
  exact toL_IntS a [] _ (by simp)
theorem sz_IntS_R (a : (List Int)) (left : Int) (h : GoT.ok 10 a) (h0 : 0 ≤ left) (h1 : left ≤ 1048576) : SzR (laws_szIntS a left) left (sz a) := by
  have hl : a.length ≤ 9223372036854775807 := h.1
  rw [sz_list, szL_int]
  unfold laws_szIntS
  rw [wrap_sub h0 h1 hl]
  by_cases hc : left - (a.length : Int) < 0
  · rw [dT hc, cond_true]; exact .inl rfl
  · rw [dF (by omega), cond_false]; exact .inr ⟨by omega, rfl⟩
theorem eq_Interest (a : Interest) : laws_eqInterest a a = true := by
  simp only [laws_eqInterest, bne_self_F, nbeq_self_F, cond_false, Bool.not_true, eq_Name]
theorem to_Interest (a : Interest) : laws_toInterest a = a := by
  simp only [laws_toInterest, to_Name]
theorem sz_Interest_R (a : Interest) (left : Int) (h : GoT.ok 10 a) (h0 : 0 ≤ left) (h1 : left ≤ 1048576) : SzR (laws_szInterest a left) left (sz a) := by
  rw [sz_Interest]
  unfold laws_szInterest
  rcases sz_Name_R a.name left (ok_Interest h).1 (by omega) (by omega) with r0 | ⟨q0, r0⟩
  · rw [r0]; exact .inl rfl
  rw [r0, dF (by omega), cond_false]
  exact .inr ⟨by omega, by omega⟩
theorem eq_PacketInFlight (a : PacketInFlight) : laws_eqPacketInFlight a a = true := by
  simp only [laws_eqPacketInFlight, bne_self_F, nbeq_self_F, cond_false, Bool.not_true, eq_Interest, eq_Data]
theorem to_PacketInFlight (a : PacketInFlight) : laws_toPacketInFlight a = a := by
  simp only [laws_toPacketInFlight, to_Interest, to_Data]
theorem sz_PacketInFlight_R (a : PacketInFlight) (left : Int) (h : GoT.ok 10 a) (h0 : 0 ≤ left) (h1 : left ≤ 1048576) : SzR (laws_szPacketInFlight a left) left (sz a) := by
  rw [sz_PacketInFlight]
  unfold laws_szPacketInFlight
  rcases sz_Interest_R a.interest left (ok_PacketInFlight h).2.2.2.1 (by omega) (by omega) with r0 | ⟨q0, r0⟩
  · rw [r0]; exact .inl rfl
  rw [r0, dF (by omega), cond_false]
  rcases sz_Data_R a.data (left - (sz a.interest : Int)) (ok_PacketInFlight h).2.2.2.2 (by omega) (by omega) with r1 | ⟨q1, r1⟩
  · rw [r1]; exact .inl rfl
  rw [r1, dF (by omega), cond_false]
  exact .inr ⟨by omega, by omega⟩
theorem eqL_PacketInFlightS : ∀ (l p : (List PacketInFlight)), laws_eqPacketInFlightS_L1 (p ++ l) l p.length = none
  | [], _ => rfl
  | e :: l, p => by
    have ih := eqL_PacketInFlightS l (p ++ [e])
    rw [mid_app, mid_len] at ih
    simp only [laws_eqPacketInFlightS_L1, mid, eq_PacketInFlight e, Bool.not_true, cond_false]
    exact ih
theorem eq_PacketInFlightS (a : (List PacketInFlight)) : laws_eqPacketInFlightS a a = true := by
  have h := eqL_PacketInFlightS a []
  simp only [List.nil_append, List.length_nil] at h
  simp only [laws_eqPacketInFlightS, bne_self_F, cond_false, h]
theorem toL_PacketInFlightS : ∀ (l p z : (List PacketInFlight)), z.length = l.length → laws_toPacketInFlightS_L1 l p.length (p ++ z) = p ++ l
  | [], p, [], _ => rfl
  | e :: l, p, y :: z, h => by
    have ih := toL_PacketInFlightS l (p ++ [e]) z (by simpa using h)
    rw [mid_app p e l, mid_len] at ih
    simp only [laws_toPacketInFlightS_L1, mid, mid_set, to_PacketInFlight e]
    exact ih
theorem to_PacketInFlightS (a : (List PacketInFlight)) : laws_toPacketInFlightS a = a := by
  simp only [laws_toPacketInFlightS]
  exact toL_PacketInFlightS a [] _ (by simp)
theorem szL_PacketInFlightS_R : ∀ (l : (List PacketInFlight)) (left : Int), (∀ a ∈ l, GoT.ok 10 a) → 0 ≤ left → left ≤ 1048576 → SzL (laws_szPacketInFlightS_L1 l left) left (szL l)
  | [], left, _, h0, _ => .inr ⟨by simp [szL_nil]; omega, by simp [szL_nil, laws_szPacketInFlightS_L1]⟩
  | e :: l, left, hk, h0, h1 => by
    rw [szL_cons]
    unfold laws_szPacketInFlightS_L1
    rcases sz_PacketInFlight_R e left (hk e List.mem_cons_self) h0 h1 with r0 | ⟨q0, r0⟩
    · rw [r0]; exact .inl rfl
    · rw [r0, dF (by omega), cond_false]
      rcases szL_PacketInFlightS_R l (left - (sz e : Int)) (fun a ha => hk a (List.mem_cons_of_mem _ ha)) (by omega) (by omega) with r | ⟨q, r⟩
      · exact .inl r
      · exact .inr ⟨by omega, by rw [r]; congr 1; omega⟩
theorem sz_PacketInFlightS_R (a : (List PacketInFlight)) (left : Int) (h : GoT.ok 10 a) (h0 : 0 ≤ left) (h1 : left ≤ 1048576) : SzR (laws_szPacketInFlightS a left) left (sz a) := by
  have hl : a.length ≤ 9223372036854775807 := h.1
  rw [sz_list]
  unfold laws_szPacketInFlightS
  rw [wrap_sub h0 h1 hl]
  by_cases hc : left - (a.length : Int) < 0
  · rw [dT hc, cond_true]; exact .inl rfl
  · rw [dF (by omega), cond_false]
    rcases szL_PacketInFlightS_R a (left - (a.length : Int)) h.2 (by omega) (by omega) with r | ⟨q, r⟩
    · rw [r]; exact .inl rfl
    · rw [r]; exact .inr ⟨by omega, by show left - (a.length : Int) - (szL a : Int) = _; omega⟩
theorem eqL_ConsumerS : ∀ (l p : (List Consumer)), laws_eqConsumerS_L1 (p ++ l) l p.length = none
  | [], _ => rfl
  | e :: l, p => by
    have ih := eqL_ConsumerS l (p ++ [e])
    rw [mid_app, mid_len] at ih
    simp only [laws_eqConsumerS_L1, mid, eq_Consumer e, Bool.not_true, cond_false]
    exact ih
theorem eq_ConsumerS (a : (List Consumer)) : laws_eqConsumerS a a = true := by
  have h := eqL_ConsumerS a []
  simp only [List.nil_append, List.length_nil] at h
  simp only [laws_eqConsumerS, bne_self_F, cond_false, h]
theorem toL_ConsumerS : ∀ (l p z : (List Consumer)), z.length = l.length → laws_toConsumerS_L1 l p.length (p ++ z) = p ++ l
  | [], p, [], _ => rfl
  | e :: l, p, y :: z, h => by
    have ih := toL_ConsumerS l (p ++ [e]) z (by simpa using h)
    rw [mid_app p e l, mid_len] at ih
    simp only [laws_toConsumerS_L1, mid, mid_set, to_Consumer e]
    exact ih
theorem to_ConsumerS (a : (List Consumer)) : laws_toConsumerS a = a := by
  simp only [laws_toConsumerS]
  exact toL_ConsumerS a [] _ (by simp)
theorem szL_ConsumerS_R : ∀ (l : (List Consumer)) (left : Int), (∀ a ∈ l, GoT.ok 10 a) → 0 ≤ left → left ≤ 1048576 → SzL (laws_szConsumerS_L1 l left) left (szL l)
  | [], left, _, h0, _ => .inr ⟨by simp [szL_nil]; omega, by simp [szL_nil, laws_szConsumerS_L1]⟩
  | e :: l, left, hk, h0, h1 => by
    rw [szL_cons]
    unfold laws_szConsumerS_L1
    rcases sz_Consumer_R e left (hk e List.mem_cons_self) h0 h1 with r0 | ⟨q0, r0⟩
    · rw [r0]; exact .inl rfl
    · rw [r0, dF (by omega), cond_false]
      rcases szL_ConsumerS_R l (left - (sz e : Int)) (fun a ha => hk a (List.mem_cons_of_mem _ ha)) (by omega) (by omega) with r | ⟨q, r⟩
      · exact .inl r
      · exact .inr ⟨by omega, by rw [r]; congr 1; omega⟩
theorem sz_ConsumerS_R (a : (List Consumer)) (left : Int) (h : GoT.ok 10 a) (h0 : 0 ≤ left) (h1 : left ≤ 1048576) : SzR (laws_szConsumerS a left) left (sz a) := by
  have hl : a.length ≤ 9223372036854775807 := h.1
  rw [sz_list]
  unfold laws_szConsumerS
  rw [wrap_sub h0 h1 hl]
  by_cases hc : left - (a.length : Int) < 0
  · rw [dT hc, cond_true]; exact .inl rfl
  · rw [dF (by omega), cond_false]
    rcases szL_ConsumerS_R a (left - (a.length : Int)) h.2 (by omega) (by omega) with r | ⟨q, r⟩
    · rw [r]; exact .inl rfl
    · rw [r]; exact .inr ⟨by omega, by show left - (a.length : Int) - (szL a : Int) = _; omega⟩
theorem eq_Network (a : Network) : laws_eqNetwork a a = true := by
  simp only [laws_eqNetwork, bne_self_F, nbeq_self_F, cond_false, Bool.not_true, eq_Topology, eq_TrustPolicy, eq_TableEntryS, eq_NodeS, eq_IntS, eq_PacketInFlightS, eq_ConsumerS]
theorem to_Network (a : Network) : laws_toNetwork a = a := by
  simp only [laws_toNetwork, to_Topology, to_TrustPolicy, to_TableEntryS, to_NodeS, to_IntS, to_PacketInFlightS, to_ConsumerS]
theorem sz_Network_R (a : Network) (left : Int) (h : GoT.ok 10 a) (h0 : 0 ≤ left) (h1 : left ≤ 1048576) : SzR (laws_szNetwork a left) left (sz a) := by
  rw [sz_Network]
  unfold laws_szNetwork
  rcases sz_Topology_R a.topology left (ok_Network h).1 (by omega) (by omega) with r0 | ⟨q0, r0⟩
  · rw [r0]; exact .inl rfl
  rw [r0, dF (by omega), cond_false]
  rcases sz_TrustPolicy_R a.trust (left - (sz a.topology : Int)) (ok_Network h).2.1 (by omega) (by omega) with r1 | ⟨q1, r1⟩
  · rw [r1]; exact .inl rfl
  rw [r1, dF (by omega), cond_false]
  rcases sz_TableEntryS_R a.producers ((left - (sz a.topology : Int)) - (sz a.trust : Int)) (ok_Network h).2.2.1 (by omega) (by omega) with r2 | ⟨q2, r2⟩
  · rw [r2]; exact .inl rfl
  rw [r2, dF (by omega), cond_false]
  rcases sz_NodeS_R a.nodes (((left - (sz a.topology : Int)) - (sz a.trust : Int)) - (sz a.producers : Int)) (ok_Network h).2.2.2.1 (by omega) (by omega) with r3 | ⟨q3, r3⟩
  · rw [r3]; exact .inl rfl
  rw [r3, dF (by omega), cond_false]
  rcases sz_IntS_R a.failedLinks ((((left - (sz a.topology : Int)) - (sz a.trust : Int)) - (sz a.producers : Int)) - (sz a.nodes : Int)) (ok_Network h).2.2.2.2.2.1 (by omega) (by omega) with r4 | ⟨q4, r4⟩
  · rw [r4]; exact .inl rfl
  rw [r4, dF (by omega), cond_false]
  rcases sz_PacketInFlightS_R a.inFlight (((((left - (sz a.topology : Int)) - (sz a.trust : Int)) - (sz a.producers : Int)) - (sz a.nodes : Int)) - (sz a.failedLinks : Int)) (ok_Network h).2.2.2.2.2.2.1 (by omega) (by omega) with r5 | ⟨q5, r5⟩
  · rw [r5]; exact .inl rfl
  rw [r5, dF (by omega), cond_false]
  rcases sz_ConsumerS_R a.consumers ((((((left - (sz a.topology : Int)) - (sz a.trust : Int)) - (sz a.producers : Int)) - (sz a.nodes : Int)) - (sz a.failedLinks : Int)) - (sz a.inFlight : Int)) (ok_Network h).2.2.2.2.2.2.2.1 (by omega) (by omega) with r6 | ⟨q6, r6⟩
  · rw [r6]; exact .inl rfl
  rw [r6, dF (by omega), cond_false]
  exact .inr ⟨by omega, by omega⟩
end Go.Stp

namespace Go.Stp
set_option linter.unusedVariables false
set_option linter.unusedSimpArgs false
def laws_FnExactValidNetwork (aW : Network) : Bool :=
  bif decide ((laws_szNetwork aW 1048576) < 0) then
    true
  else
    bif (!((impl_ValidNetwork (laws_toNetwork aW)) == (spec_ValidNetwork (laws_toNetwork aW)))) then
      false
    else
      bif (!(laws_eqNetwork (laws_toNetwork aW) (laws_toNetwork aW))) then
        false
      else
        true
end Go.Stp

namespace Go.Proofs.YtdimfabadjfkiaaGreat
open Go.Stp
set_option linter.unusedVariables false
set_option linter.unusedSimpArgs false
theorem f6 (w : World) (n : Nat) (hn : n + 0 ≤ 9) (aW : Network) (K0 : Option Addr) (M0 : Nat) (N0 : RdSl (hp w) K0 M0 aW.topology.links) (K1 : Option Addr) (M1 : Nat) (N1 : RdSl (hp w) K1 M1 aW.trust.keys) (K2 : Option Addr) (M2 : Nat) (N2 : RdSl (hp w) K2 M2 aW.trust.rules) (K3 : Option Addr) (M3 : Nat) (N3 : RdSl (hp w) K3 M3 aW.trust.anchors) (K4 : Option Addr) (M4 : Nat) (N4 : RdSl (hp w) K4 M4 aW.trust.certificates) (K5 : Option Addr) (M5 : Nat) (N5 : RdSl (hp w) K5 M5 aW.producers) (K6 : Option Addr) (M6 : Nat) (N6 : RdSl (hp w) K6 M6 aW.nodes) (K7 : Option Addr) (M7 : Nat) (N7 : RdSl (hp w) K7 M7 aW.failedLinks) (K8 : Option Addr) (M8 : Nat) (N8 : RdSl (hp w) K8 M8 aW.inFlight) (K9 : Option Addr) (M9 : Nat) (N9 : RdSl (hp w) K9 M9 aW.consumers) (hokaW : GoT.ok 10 aW) :
  Does Tryz.prog 6 #[.agg #[.int .i64 (aW.topology.size), .slice K0 ((aW.topology.links).length) M0, .slice K1 ((aW.trust.keys).length) M1, .slice K2 ((aW.trust.rules).length) M2, .slice K3 ((aW.trust.anchors).length) M3, .slice K4 ((aW.trust.certificates).length) M4, .slice K5 ((aW.producers).length) M5, .slice K6 ((aW.nodes).length) M6, .int .i64 (aW.downNodes), .slice K7 ((aW.failedLinks).length) M7, .slice K8 ((aW.inFlight).length) M8, .slice K9 ((aW.consumers).length) M9, .int .i64 (aW.now), .int .i64 (aW.dropped)]] w emp (fun (rv : Value) (_ : World) => rv = .bool (laws_FnExactValidNetwork aW) ∧ True) := by
 have hbP := bd_pos n
 have hbB := bd_big (n := n) (by omega)
 refine WX.enter (tt := tt) (Γ := [(0, MF.rs .stb K0 M0 aW.topology.links), (1, MF.rs .stb K1 M1 aW.trust.keys), (2, MF.rs .stb K2 M2 aW.trust.rules), (3, MF.rs .stb K3 M3 aW.trust.anchors), (4, MF.rs .stb K4 M4 aW.trust.certificates), (5, MF.rs .stb K5 M5 aW.producers), (6, MF.rs .stb K6 M6 aW.nodes), (7, MF.rs .stb K7 M7 aW.failedLinks), (8, MF.rs .stb K8 M8 aW.inFlight), (9, MF.rs .stb K9 M9 aW.consumers)]) Tryz.func6 rfl (by kernel_rfl) rfl (allS_cons rfl N0 (allS_cons rfl N1 (allS_cons rfl N2 (allS_cons rfl N3 (allS_cons rfl N4 (allS_cons rfl N5 (allS_cons rfl N6 (allS_cons rfl N7 (allS_cons rfl N8 (allS_cons rfl N9 allS_nil)))))))))) ?_
 refine R0 ?_
 refine WX.callV rfl rfl rfl rfl rfl (fun _ => rfl) rfl (fun w G bs hI hΓ => f77 w 10 aW K0 M0 (hΓ.get 0 rfl) K1 M1 (hΓ.get 1 rfl) K2 M2 (hΓ.get 2 rfl) K3 M3 (hΓ.get 3 rfl) K4 M4 (hΓ.get 4 rfl) K5 M5 (hΓ.get 5 rfl) K6 M6 (hΓ.get 6 rfl) K7 M7 (hΓ.get 7 rfl) K8 M8 (hΓ.get 8 rfl) K9 M9 (hΓ.get 9 rfl) 1048576 hokaW (show I64 1048576 from (by unfold I64; omega))) ?_
 intro hq1
 refine R0 ?_
 refine WX.cases 11 rfl (fun h1 => ?_) (fun h1 => ?_)
 ·skip
  have h1d := B.dt h1
  refine R0 ?_
  have hP1 : laws_FnExactValidNetwork aW = true := by simp only [laws_FnExactValidNetwork, h1, ct, cf]
  exact R3 hP1
 ·skip
  have h1d := B.df h1
  obtain ⟨hs1, ht1⟩ := (sz_Network_R aW 1048576 hokaW (by omega) (by omega)).pos (by omega)
  have hk1 : GoT.ok n aW := GoT.okm (Nat.zero_le n) (Sz.low hokaW (show sz aW ≤ 1048576 by omega))
  refine R0 ?_
  refine WX.callF 10 (fun _ _ h => GoT.ow_rd h) (fun _ f hf => GoT.fak f hf) rfl rfl rfl rfl rfl (fun _ => rfl) rfl (fun w G bs hI hΓ => f79 w n (by omega) aW K0 M0 (hΓ.get 0 rfl) K1 M1 (hΓ.get 1 rfl) K2 M2 (hΓ.get 2 rfl) K3 M3 (hΓ.get 3 rfl) K4 M4 (hΓ.get 4 rfl) K5 M5 (hΓ.get 5 rfl) K6 M6 (hΓ.get 6 rfl) K7 M7 (hΓ.get 7 rfl) K8 M8 (hΓ.get 8 rfl) K9 M9 (hΓ.get 9 rfl) hk1) (fun _ => rfl) (fun _ => rfl) ?_
  rintro ⟨⟨⟨⟩, ⟨p1, c1⟩⟩, ⟨⟨p2, c2⟩, ⟨p3, c3⟩, ⟨p4, c4⟩, ⟨p5, c5⟩⟩, ⟨p6, c6⟩, ⟨p7, c7⟩, ⟨⟩, ⟨p8, c8⟩, ⟨p9, c9⟩, ⟨p10, c10⟩, ⟨⟩, ⟨⟩⟩ hq2
  refine WX.callV rfl rfl rfl rfl rfl (fun _ => rfl) rfl (fun w G bs hI hΓ => f78 w n (by omega) (laws_toNetwork aW) p1 c1 (hΓ.get 10 rfl) p2 c2 (hΓ.get 11 rfl) p3 c3 (hΓ.get 12 rfl) p4 c4 (hΓ.get 13 rfl) p5 c5 (hΓ.get 14 rfl) p6 c6 (hΓ.get 15 rfl) p7 c7 (hΓ.get 16 rfl) p8 c8 (hΓ.get 17 rfl) p9 c9 (hΓ.get 18 rfl) p10 c10 (hΓ.get 19 rfl) hq2) ?_
  intro hq3
  refine R0 ?_
  refine WX.callF 30 (fun _ _ h => GoT.ow_rd h) (fun _ f hf => GoT.fak f hf) rfl rfl rfl rfl rfl (fun _ => rfl) rfl (fun w G bs hI hΓ => f79 w n (by omega) aW K0 M0 (hΓ.get 0 rfl) K1 M1 (hΓ.get 1 rfl) K2 M2 (hΓ.get 2 rfl) K3 M3 (hΓ.get 3 rfl) K4 M4 (hΓ.get 4 rfl) K5 M5 (hΓ.get 5 rfl) K6 M6 (hΓ.get 6 rfl) K7 M7 (hΓ.get 7 rfl) K8 M8 (hΓ.get 8 rfl) K9 M9 (hΓ.get 9 rfl) hk1) (fun _ => rfl) (fun _ => rfl) ?_
  rintro ⟨⟨⟨⟩, ⟨p11, c11⟩⟩, ⟨⟨p12, c12⟩, ⟨p13, c13⟩, ⟨p14, c14⟩, ⟨p15, c15⟩⟩, ⟨p16, c16⟩, ⟨p17, c17⟩, ⟨⟩, ⟨p18, c18⟩, ⟨p19, c19⟩, ⟨p20, c20⟩, ⟨⟩, ⟨⟩⟩ hq4
  refine R0 ?_
  refine WX.callV rfl rfl rfl rfl rfl (fun _ => rfl) rfl (fun w G bs hI hΓ => f80 w n (by omega) (laws_toNetwork aW) p11 c11 (hΓ.get 30 rfl) p12 c12 (hΓ.get 31 rfl) p13 c13 (hΓ.get 32 rfl) p14 c14 (hΓ.get 33 rfl) p15 c15 (hΓ.get 34 rfl) p16 c16 (hΓ.get 35 rfl) p17 c17 (hΓ.get 36 rfl) p18 c18 (hΓ.get 37 rfl) p19 c19 (hΓ.get 38 rfl) p20 c20 (hΓ.get 39 rfl) (And.intro (And.intro (ok_Topology (ok_Network hq2).1).1 (ok_Topology (ok_Network hq4).1).2) (And.intro (ok_Network hq4).2.1 (And.intro (ok_Network hq4).2.2.1 (And.intro (ok_Network hq4).2.2.2.1 (And.intro (ok_Network hq2).2.2.2.2.1 (And.intro (ok_Network hq4).2.2.2.2.2.1 (And.intro (ok_Network hq4).2.2.2.2.2.2.1 (And.intro (ok_Network hq4).2.2.2.2.2.2.2.1 (And.intro (ok_Network hq2).2.2.2.2.2.2.2.2.1 (ok_Network hq2).2.2.2.2.2.2.2.2.2)))))))))) ?_
  intro hq5
  refine R0 ?_
  refine WX.see rfl rfl rfl (fun _ hΓ => looks_beq ttOk rfl rfl rfl rfl rfl rfl) ?_
  refine R0 ?_
  refine WX.cases 21 rfl (fun h2 => ?_) (fun h2 => ?_)
  ·skip
   have h2d := (B.nt h2)
   refine R0 ?_
   have hP2 : laws_FnExactValidNetwork aW = false := by simp only [laws_FnExactValidNetwork, h1, h2, ct, cf]
   exact R3 hP2
  ·skip
   have h2d := (B.nf h2)
   refine R0 ?_
   refine WX.draw [] mixed ?_
   intro bs G0 hΓ0
   refine DX.takes (fuel := 3) ttOk [(0, false), (1, false)] (by kernel_rfl) rfl ?_
   refine DX.callF 2 50 (fun _ _ h => GoT.ow_rd h) (fun _ f hf => GoT.fak f hf) rfl (by kernel_rfl) rfl rfl rfl rfl rfl rfl (fun _ => rfl) rfl (fun w G bs hI hΓ => f79 w n (by omega) aW K0 M0 (hΓ.get 0 rfl) K1 M1 (hΓ.get 1 rfl) K2 M2 (hΓ.get 2 rfl) K3 M3 (hΓ.get 3 rfl) K4 M4 (hΓ.get 4 rfl) K5 M5 (hΓ.get 5 rfl) K6 M6 (hΓ.get 6 rfl) K7 M7 (hΓ.get 7 rfl) K8 M8 (hΓ.get 8 rfl) K9 M9 (hΓ.get 9 rfl) hk1) (fun _ => rfl) (fun _ => rfl) ?_
   rintro ⟨⟨⟨⟩, ⟨p21, c21⟩⟩, ⟨⟨p22, c22⟩, ⟨p23, c23⟩, ⟨p24, c24⟩, ⟨p25, c25⟩⟩, ⟨p26, c26⟩, ⟨p27, c27⟩, ⟨⟩, ⟨p28, c28⟩, ⟨p29, c29⟩, ⟨p30, c30⟩, ⟨⟩, ⟨⟩⟩ hq6
   refine DX.callV 3 rfl (by kernel_rfl) rfl rfl rfl rfl rfl rfl (fun _ => rfl) rfl (fun w G bs hI hΓ => f81 w n (by omega) (laws_toNetwork aW) p11 c11 (hΓ.get 30 rfl) p12 c12 (hΓ.get 31 rfl) p13 c13 (hΓ.get 32 rfl) p14 c14 (hΓ.get 33 rfl) p15 c15 (hΓ.get 34 rfl) p16 c16 (hΓ.get 35 rfl) p17 c17 (hΓ.get 36 rfl) p18 c18 (hΓ.get 37 rfl) p19 c19 (hΓ.get 38 rfl) p20 c20 (hΓ.get 39 rfl) (laws_toNetwork aW) p21 c21 (hΓ.get 50 rfl) p22 c22 (hΓ.get 51 rfl) p23 c23 (hΓ.get 52 rfl) p24 c24 (hΓ.get 53 rfl) p25 c25 (hΓ.get 54 rfl) p26 c26 (hΓ.get 55 rfl) p27 c27 (hΓ.get 56 rfl) p28 c28 (hΓ.get 57 rfl) p29 c29 (hΓ.get 58 rfl) p30 c30 (hΓ.get 59 rfl) (And.intro (And.intro (ok_Topology (ok_Network hq2).1).1 (ok_Topology (ok_Network hq4).1).2) (And.intro (ok_Network hq4).2.1 (And.intro (ok_Network hq4).2.2.1 (And.intro (ok_Network hq4).2.2.2.1 (And.intro (ok_Network hq2).2.2.2.2.1 (And.intro (ok_Network hq4).2.2.2.2.2.1 (And.intro (ok_Network hq4).2.2.2.2.2.2.1 (And.intro (ok_Network hq4).2.2.2.2.2.2.2.1 (And.intro (ok_Network hq2).2.2.2.2.2.2.2.2.1 (ok_Network hq2).2.2.2.2.2.2.2.2.2))))))))) (And.intro (And.intro (ok_Topology (ok_Network hq2).1).1 (ok_Topology (ok_Network hq6).1).2) (And.intro (ok_Network hq6).2.1 (And.intro (ok_Network hq6).2.2.1 (And.intro (ok_Network hq6).2.2.2.1 (And.intro (ok_Network hq2).2.2.2.2.1 (And.intro (ok_Network hq6).2.2.2.2.2.1 (And.intro (ok_Network hq6).2.2.2.2.2.2.1 (And.intro (ok_Network hq6).2.2.2.2.2.2.2.1 (And.intro (ok_Network hq2).2.2.2.2.2.2.2.2.1 (ok_Network hq2).2.2.2.2.2.2.2.2.2)))))))))) ?_
   intro hq7
   refine DX.takes (fuel := 0) ttOk [(4, true)] (by kernel_rfl) rfl ?_
   refine DX.tail2 [] rfl rfl (by kernel_rfl) ?_
   refine R0 ?_
   refine WX.cases 26 rfl (fun h3 => ?_) (fun h3 => ?_)
   ·skip
    have h3d := (B.nt h3)
    refine R0 ?_
    have hP3 : laws_FnExactValidNetwork aW = false := by simp only [laws_FnExactValidNetwork, h1, h2, h3, ct, cf]
    exact R3 hP3
   ·skip
    have h3d := (B.nf h3)
    refine R0 ?_
    have hP4 : laws_FnExactValidNetwork aW = true := by simp only [laws_FnExactValidNetwork, h1, h2, h3, ct, cf]
    exact R3 hP4
end Go.Proofs.YtdimfabadjfkiaaGreat

namespace Go.Stp
set_option linter.unusedVariables false
set_option linter.unusedSimpArgs false
inductive PutShape (l : List TableEntry) (n_ : Name) (v : Int) : List TableEntry → Prop
  | same : PutShape l n_ v l
  | nil : PutShape l n_ v []
  | set (i : Nat) (e : TableEntry) (h : l[i]? = some e) : PutShape l n_ v (l.set i ⟨e.name, v⟩)
  | ins (i : Nat) : PutShape l n_ v (l.take i ++ [⟨n_, v⟩] ++ l.drop i)
theorem PutShape.len {l r : List TableEntry} {n_ : Name} {v : Int} (h : PutShape l n_ v r) : r.length ≤ l.length + 1 := by
  cases h with
  | same => exact Nat.le_succ _
  | nil => exact Nat.zero_le _
  | set i e h => rw [List.length_set]; exact Nat.le_succ _
  | ins i => simp only [List.length_append, List.length_take, List.length_drop, List.length_cons, List.length_nil]; omega
end Go.Stp

namespace Go.Stp
set_option linter.unusedVariables false
set_option linter.unusedSimpArgs false
inductive ApShape (m : Member) (x_ : Publication) : Member → Prop
  | same : ApShape m x_ m
  | put (l : List TableEntry) (h : PutShape m.vector.entries x_.publisher x_.seq l) : ApShape m x_ ⟨m.name, ⟨l⟩, m.publications ++ [x_]⟩
end Go.Stp

namespace Go.Stp
set_option linter.unusedVariables false
set_option linter.unusedSimpArgs false
theorem same_In (a b c : Int) : impl_InRange a b c = spec_l1In a b c := rfl
theorem sEqL_string : ∀ (a b p : List Str), a.length = b.length → slices_Equal_string_L1 (p ++ b) a p.length = (if a.map (fun z : Str => z.toList) = b.map (fun z : Str => z.toList) then none else some false)
  | [], [], p, _ => by simp [slices_Equal_string_L1]
  | x :: a, y :: b, p, h => by
    have ih := sEqL_string a b (p ++ [y]) (by simpa using h)
    rw [mid_app, mid_len] at ih
    simp only [slices_Equal_string_L1, mid]
    by_cases hxy : x.toList = y.toList
    · simp [hxy, ih]
    · have hb : (x.toList == y.toList) = false := by simpa using hxy
      simp [hb, hxy]
theorem sEq_string (a b : List Str) : slices_Equal_string a b = decide (a.map (fun z : Str => z.toList) = b.map (fun z : Str => z.toList)) := by
  unfold slices_Equal_string
  by_cases hl : a.length = b.length
  · have h := sEqL_string a b [] hl
    simp only [List.nil_append, List.length_nil] at h
    simp only [hl, bne_self_F, cond_false, h]
    split <;> simp_all
  · have hne : a.map (fun z : Str => z.toList) ≠ b.map (fun z : Str => z.toList) := fun h => hl (by simpa using congrArg List.length h)
    have hn : ((a.length : Int) != (b.length : Int)) = true := by simp; omega
    simp [hn, hne]
theorem sEqL_byte : ∀ (a b p : List UInt8), a.length = b.length → slices_Equal_byte_L1 (p ++ b) a p.length = (if a = b then none else some false)
  | [], [], p, _ => by simp [slices_Equal_byte_L1]
  | x :: a, y :: b, p, h => by
    have ih := sEqL_byte a b (p ++ [y]) (by simpa using h)
    rw [mid_app, mid_len] at ih
    simp only [slices_Equal_byte_L1, mid]
    by_cases hxy : x = y
    · simp [hxy, ih]
    · have hn : ((x.toNat : Int) != (y.toNat : Int)) = true := by
        have : x.toNat ≠ y.toNat := fun h => hxy (UInt8.toNat_inj.mp h)
        simp; omega
      simp [hn, hxy]
theorem sEq_byte (a b : List UInt8) : slices_Equal_byte a b = decide (a = b) := by
  unfold slices_Equal_byte
  by_cases hl : a.length = b.length
  · have h := sEqL_byte a b [] hl
    simp only [List.nil_append, List.length_nil] at h
    simp only [hl, bne_self_F, cond_false, h]
    split <;> simp_all
  · have hne : a ≠ b := fun h => hl (by rw [h])
    have hn : ((a.length : Int) != (b.length : Int)) = true := by simp; omega
    simp [hn, hne]
theorem cNL : ∀ (a b p : List Str), match spec_CompareNames_L1 ⟨p ++ b⟩ a p.length with
    | some k => k ≠ 0 ∧ a.map (fun z : Str => z.toList) ≠ b.map (fun z : Str => z.toList)
    | none => a.length = b.length → a.map (fun z : Str => z.toList) = b.map (fun z : Str => z.toList)
  | [], b, p => by
    simp only [spec_CompareNames_L1]
    intro h
    cases b with
    | nil => rfl
    | cons => simp at h
  | x :: a, [], p => by simp [spec_CompareNames_L1]
  | x :: a, y :: b, p => by
    have ih := cNL a b (p ++ [y])
    rw [mid_app, mid_len] at ih
    have hlt : decide (((p.length : Nat) : Int) < (((p ++ y :: b).length : Nat) : Int)) = true := by simp; omega
    simp only [spec_CompareNames_L1, hlt, cond_true, mid]
    by_cases hk : spec_l4Cmp x y = 0
    · have e : x.toList = y.toList := (l4_zero _ _).1 hk
      rw [hk]
      simp only [bne_self_F, cond_false]
      revert ih
      cases spec_CompareNames_L1 ⟨p ++ y :: b⟩ a (p.length + 1) with
      | none => intro ih h; simp [e, ih (by simpa using h)]
      | some k => intro ih; exact ⟨ih.1, fun h => ih.2 (by simpa [e] using h)⟩
    · have hn : (spec_l4Cmp x y != 0) = true := by simpa using hk
      simp only [hn, cond_true]
      exact ⟨hk, fun h => hk ((l4_zero _ _).2 (by simp at h; exact h.1))⟩
theorem same_EqualNames (a b : Name) : impl_EqualNames a b = spec_EqualNames a b := by
  unfold impl_EqualNames spec_EqualNames spec_CompareNames
  rw [sEq_string]
  have h : match spec_CompareNames_L1 b a.parts 0 with
    | some k => k ≠ 0 ∧ a.parts.map (fun z : Str => z.toList) ≠ b.parts.map (fun z : Str => z.toList)
    | none => a.parts.length = b.parts.length → a.parts.map (fun z : Str => z.toList) = b.parts.map (fun z : Str => z.toList) := cNL a.parts b.parts []
  revert h
  cases spec_CompareNames_L1 b a.parts 0 with
  | some k => intro ⟨h1, h2⟩; simp [h1, h2]
  | none =>
    intro h
    by_cases hl : a.parts.length = b.parts.length
    · simp [h hl, hl]
    · have ne : a.parts.map (fun z : Str => z.toList) ≠ b.parts.map (fun z : Str => z.toList) := fun h => hl (by simpa using congrArg List.length h)
      rcases Nat.lt_or_gt_of_ne hl with c | c
      · simp [ne, c]
      · have c' : ¬ a.parts.length < b.parts.length := by omega
        simp [ne, c, c']
theorem same_EqualBytes (a b : List UInt8) : slices_Equal_byte a b = spec_EqualBytes a b := by
  rw [sEq_byte]
  unfold spec_EqualBytes bstr
  rw [ByteArray.toList_mk, ByteArray.toList_mk]
  by_cases e : a = b
  · simp [e]
  · have hb : (a == b) = false := by simpa using e
    simp [hb, e]
theorem same_EqualData (a b : DataP) : impl_EqualData a b = spec_EqualData a b := by
  simp only [impl_EqualData, spec_EqualData, same_EqualNames, same_EqualBytes]
theorem vPL : ∀ l : List UInt8, impl_ValidPart_L1 l = spec_ValidPart_L1 l ∧ (spec_ValidPart_L1 l = none ∨ spec_ValidPart_L1 l = some false)
  | [] => ⟨rfl, .inl rfl⟩
  | c :: l => by
    obtain ⟨h1, h2⟩ := vPL l
    simp only [impl_ValidPart_L1, spec_ValidPart_L1, h1, spec_l1In, ge_iff_le]
    cases decide ((97 : Int) ≤ (c.toNat : Int)) <;> cases decide ((c.toNat : Int) ≤ 122) <;> cases decide ((48 : Int) ≤ (c.toNat : Int)) <;> cases decide ((c.toNat : Int) ≤ 57) <;> cases hc : ((c.toNat : Int) == 45) <;> simp [bne, hc, h2]
theorem same_ValidPart (s : Str) : impl_ValidPart s = spec_ValidPart s := by
  unfold impl_ValidPart spec_ValidPart
  obtain ⟨h1, h2⟩ := vPL s.data.toList
  rw [h1, same_In]
  rcases h2 with h | h <;> rw [h] <;> cases spec_l1In (((s).size : Nat) : Int) 1 8 <;> rfl
theorem iF_string : ∀ (f : Str → Bool) (l : List Str) (i : Nat), (slices_IndexFunc_string_L1 f l i = none ∧ l.any f = false) ∨ ∃ j : Nat, slices_IndexFunc_string_L1 f l i = some (j : Int) ∧ l.any f = true
  | f, [], i => .inl ⟨rfl, rfl⟩
  | f, x :: l, i => by
    simp only [slices_IndexFunc_string_L1, List.any_cons]
    cases hx : f x
    · simpa using iF_string f l (i + 1)
    · exact .inr ⟨i, rfl, rfl⟩
theorem cF_string (l : List Str) (f : Str → Bool) : slices_ContainsFunc_string l f = l.any f := by
  unfold slices_ContainsFunc_string slices_IndexFunc_string
  rcases iF_string f l 0 with ⟨h1, h2⟩ | ⟨j, h1, h2⟩ <;> simp [h1, h2]
theorem vNL : ∀ l : List Str, spec_ValidName_L1 l = bif l.any (fun e => !(spec_ValidPart e)) then some false else none
  | [] => rfl
  | x :: l => by
    simp only [spec_ValidName_L1, List.any_cons]
    cases (!(spec_ValidPart x)) <;> simp [vNL l]
theorem same_ValidName (a : Name) : impl_ValidName a = spec_ValidName a := by
  unfold impl_ValidName spec_ValidName impl_ValidName_c1
  rw [cF_string, vNL]
  simp only [same_ValidPart]
  cases a.parts.any (fun e => !(spec_ValidPart e)) <;> cases decide ((((a.parts).length : Nat) : Int) ≤ 6) <;> rfl
theorem same_ValidData (a : DataP) : impl_ValidData a = spec_ValidData a := by
  simp only [impl_ValidData, spec_ValidData, same_ValidName, same_In]
theorem same_ValidConsumer' (a : Consumer) : impl_ValidConsumer a = spec_ValidConsumer a := by
  simp only [impl_ValidConsumer, spec_ValidConsumer, same_ValidData, same_ValidName, same_EqualData, same_EqualNames, same_In]
theorem cmp_l4 (x y : Str) : cmp_Compare_string x y = spec_l4Cmp x y := by
  simp [cmp_Compare_string, cmp_isNaN_string, spec_l4Cmp]
theorem cCL : ∀ (a b p : List Str), (slices_Compare_string_L1 (p ++ b) a p.length = spec_CompareNames_L1 ⟨p ++ b⟩ a p.length ∧ (spec_CompareNames_L1 ⟨p ++ b⟩ a p.length = none → a.length ≤ b.length)) ∨ (slices_Compare_string_L1 (p ++ b) a p.length = some 1 ∧ spec_CompareNames_L1 ⟨p ++ b⟩ a p.length = none ∧ b.length < a.length)
  | [], b, p => .inl ⟨rfl, fun _ => Nat.zero_le _⟩
  | x :: a, [], p => .inr (by simp [slices_Compare_string_L1, spec_CompareNames_L1])
  | x :: a, y :: b, p => by
    have ih := cCL a b (p ++ [y])
    rw [mid_app, mid_len] at ih
    have hlt : decide (((p.length : Nat) : Int) < (((p ++ y :: b).length : Nat) : Int)) = true := by simp; omega
    have hge : decide (((p.length : Nat) : Int) ≥ (((p ++ y :: b).length : Nat) : Int)) = false := by simp; omega
    simp only [spec_CompareNames_L1, slices_Compare_string_L1, hlt, hge, cond_true, cond_false, mid, cmp_l4, List.length_cons]
    cases (spec_l4Cmp x y != 0)
    · simp only [cond_false]
      rcases ih with ⟨h1, h2⟩ | ⟨h1, h2, h3⟩
      · exact .inl ⟨h1, fun h => by have := h2 h; omega⟩
      · exact .inr ⟨h1, h2, by omega⟩
    · exact .inl ⟨rfl, fun h => by cases h⟩
theorem same_CompareNames (a b : Name) : impl_CompareNames a b = spec_CompareNames a b := by
  unfold impl_CompareNames slices_Compare_string spec_CompareNames
  have h : (slices_Compare_string_L1 b.parts a.parts 0 = spec_CompareNames_L1 b a.parts 0 ∧ (spec_CompareNames_L1 b a.parts 0 = none → a.parts.length ≤ b.parts.length)) ∨ (slices_Compare_string_L1 b.parts a.parts 0 = some 1 ∧ spec_CompareNames_L1 b a.parts 0 = none ∧ b.parts.length < a.parts.length) := cCL a.parts b.parts []
  rcases h with ⟨h1, h2⟩ | ⟨h1, h2, h3⟩
  · rw [h1]
    cases hs : spec_CompareNames_L1 b a.parts 0 with
    | some k => rfl
    | none =>
      have := h2 hs
      have c : decide ((((a.parts).length : Nat) : Int) > (((b.parts).length : Nat) : Int)) = false := by simp; omega
      simp only [c, cond_false]
  · rw [h1, h2]
    have c : decide ((((a.parts).length : Nat) : Int) > (((b.parts).length : Nat) : Int)) = true := by simp; omega
    have d : decide ((((a.parts).length : Nat) : Int) < (((b.parts).length : Nat) : Int)) = false := by simp; omega
    simp only [c, d, cond_false, cond_true]
theorem vTL (l : List TableEntry) : ∀ (r : List TableEntry) (i : Nat), impl_ValidTable_L1 l r i = spec_ValidTable_L1 l r i
  | [], _ => rfl
  | x :: r, i => by simp only [impl_ValidTable_L1, spec_ValidTable_L1, same_ValidName, same_CompareNames, vTL l r]
theorem same_ValidTable (l : List TableEntry) : impl_ValidTable l = spec_ValidTable l := by
  unfold impl_ValidTable spec_ValidTable
  rw [vTL]
theorem iF_TableEntry : ∀ (f : TableEntry → Bool) (l : List TableEntry) (i : Nat), (slices_IndexFunc_TableEntry_L1 f l i = none ∧ l.any f = false) ∨ ∃ j : Nat, slices_IndexFunc_TableEntry_L1 f l i = some (j : Int) ∧ l.any f = true
  | f, [], i => .inl ⟨rfl, rfl⟩
  | f, x :: l, i => by
    simp only [slices_IndexFunc_TableEntry_L1, List.any_cons]
    cases hx : f x
    · simpa using iF_TableEntry f l (i + 1)
    · exact .inr ⟨i, rfl, rfl⟩
theorem cF_TableEntry (l : List TableEntry) (f : TableEntry → Bool) : slices_ContainsFunc_TableEntry l f = l.any f := by
  unfold slices_ContainsFunc_TableEntry slices_IndexFunc_TableEntry
  rcases iF_TableEntry f l 0 with ⟨h1, h2⟩ | ⟨j, h1, h2⟩ <;> simp [h1, h2]
theorem szL_append {α : Type} [GoT α] [Sz α] (a b : List α) : szL (a ++ b) = szL a + szL b := by simp [szL]
theorem szL_set {α : Type} [GoT α] [Sz α] (x y : α) (hxy : sz x = sz y) : ∀ (l : List α) (i : Nat), l[i]? = some y → szL (l.set i x) = szL l
  | [], i, h => by simp at h
  | z :: l, 0, h => by
    simp at h; subst h
    rw [List.set_cons_zero, szL_cons, szL_cons, hxy]
  | z :: l, i + 1, h => by
    rw [List.set_cons_succ, szL_cons, szL_cons, szL_set x y hxy l i (by simpa using h)]
theorem PutShape.size {l r : List TableEntry} {n_ : Name} {v : Int} (h : PutShape l n_ v r) : sz r ≤ sz l + 1 + sz n_ := by
  cases h with
  | same => omega
  | nil => simp [sz_list, szL_nil]
  | set i e h =>
    have := szL_set ⟨e.name, v⟩ e (by rw [sz_TableEntry, sz_TableEntry]) l i h
    rw [sz_list, sz_list, List.length_set, this]; omega
  | ins i =>
    have h1 := szL_append (l.take i) (l.drop i)
    rw [List.take_append_drop] at h1
    have h2 : szL [(⟨n_, v⟩ : TableEntry)] = sz n_ := by simp [szL, sz_TableEntry]
    rw [sz_list, sz_list, szL_append, szL_append, h2]
    simp only [List.length_append, List.length_take, List.length_drop, List.length_cons, List.length_nil]
    omega
end Go.Stp

namespace Go.Stp
set_option linter.unusedVariables false
set_option linter.unusedSimpArgs false
theorem any_iF {α : Type} (L : (α → Bool) → List α → Nat → Option Int) (h0 : ∀ f i, L f [] i = none) (h1 : ∀ f x l i, L f (x :: l) i = bif f x then some ((i : Nat) : Int) else L f l (i + 1)) (f : α → Bool) : ∀ (l : List α) (i : Nat), (L f l i = none ∧ l.any f = false) ∨ ∃ j : Nat, L f l i = some (j : Int) ∧ l.any f = true
  | [], i => .inl ⟨h0 f i, rfl⟩
  | x :: l, i => by
    rw [h1, List.any_cons]
    cases hx : f x
    · simpa using any_iF L h0 h1 f l (i + 1)
    · exact .inr ⟨i, rfl, rfl⟩
theorem cF_Key (l : List Key) (f : Key → Bool) : slices_ContainsFunc_Key l f = l.any f := by
  unfold slices_ContainsFunc_Key slices_IndexFunc_Key
  rcases any_iF (fun f l i => slices_IndexFunc_Key_L1 f l i) (fun _ _ => rfl) (fun _ _ _ _ => rfl) f l 0 with ⟨h1, h2⟩ | ⟨j, h1, h2⟩ <;> simp [h1, h2]
theorem cF_Rule (l : List Rule) (f : Rule → Bool) : slices_ContainsFunc_Rule l f = l.any f := by
  unfold slices_ContainsFunc_Rule slices_IndexFunc_Rule
  rcases any_iF (fun f l i => slices_IndexFunc_Rule_L1 f l i) (fun _ _ => rfl) (fun _ _ _ _ => rfl) f l 0 with ⟨h1, h2⟩ | ⟨j, h1, h2⟩ <;> simp [h1, h2]
theorem cF_Data (l : List DataP) (f : DataP → Bool) : slices_ContainsFunc_Data l f = l.any f := by
  unfold slices_ContainsFunc_Data slices_IndexFunc_Data
  rcases any_iF (fun f l i => slices_IndexFunc_Data_L1 f l i) (fun _ _ => rfl) (fun _ _ _ _ => rfl) f l 0 with ⟨h1, h2⟩ | ⟨j, h1, h2⟩ <;> simp [h1, h2]
theorem cF_CacheEntry (l : List CacheEntry) (f : CacheEntry → Bool) : slices_ContainsFunc_CacheEntry l f = l.any f := by
  unfold slices_ContainsFunc_CacheEntry slices_IndexFunc_CacheEntry
  rcases any_iF (fun f l i => slices_IndexFunc_CacheEntry_L1 f l i) (fun _ _ => rfl) (fun _ _ _ _ => rfl) f l 0 with ⟨h1, h2⟩ | ⟨j, h1, h2⟩ <;> simp [h1, h2]
theorem cF_Node (l : List NodeP) (f : NodeP → Bool) : slices_ContainsFunc_Node l f = l.any f := by
  unfold slices_ContainsFunc_Node slices_IndexFunc_Node
  rcases any_iF (fun f l i => slices_IndexFunc_Node_L1 f l i) (fun _ _ => rfl) (fun _ _ _ _ => rfl) f l 0 with ⟨h1, h2⟩ | ⟨j, h1, h2⟩ <;> simp [h1, h2]
theorem same_isVariable (s : Str) : impl_isVariable s = spec_l5Letter s := by
  simp only [impl_isVariable, spec_l5Letter, spec_l1In]
theorem wrap_len1 {n : Nat} (h : n ≤ 9223372036854775807) : IntKind.i64.wrap ((n : Int) - 1) = (n : Int) - 1 := by
  simp [IntKind.wrap, IntKind.bits, IntKind.signed]
  omega
theorem vpL (p_ : Pattern) (hp : p_.parts.length ≤ 9223372036854775807) : ∀ (l : List Str) (i : Nat), i + l.length = p_.parts.length → impl_ValidPattern_L1 p_ l i = spec_ValidPattern_L1 p_ l i
  | [], i, _ => rfl
  | x :: l, i, h => by
    rw [List.length_cons] at h
    have ih := vpL p_ hp l (i + 1) (by omega)
    have e : (((i : Nat) : Int) != IntKind.i64.wrap (((p_.parts.length : Nat) : Int) - 1)) = decide (((i : Nat) : Int) < IntKind.i64.wrap (((p_.parts.length : Nat) : Int) - 1)) := by
      rw [wrap_len1 hp]
      by_cases hc : ((i : Nat) : Int) < ((p_.parts.length : Nat) : Int) - 1
      · rw [decide_eq_true hc]; simp only [bne, beq_eq_false_iff_ne.2 (show ((i : Nat) : Int) ≠ ((p_.parts.length : Nat) : Int) - 1 by omega), Bool.not_false]
      · rw [decide_eq_false hc, show ((i : Nat) : Int) = ((p_.parts.length : Nat) : Int) - 1 by omega, bne_self_eq_false]
    simp only [impl_ValidPattern_L1, spec_ValidPattern_L1, same_ValidPart, same_isVariable, ih, e]
theorem same_ValidPattern (p_ : Pattern) (hp : p_.parts.length ≤ 9223372036854775807) : impl_ValidPattern p_ = spec_ValidPattern p_ := by
  simp only [impl_ValidPattern, spec_ValidPattern, vpL p_ hp p_.parts 0 (Nat.zero_add _)]
theorem ixsL (v : Str) : ∀ (l : List Str) (i : Nat), (slices_Index_string_L1 v l i = none ∧ spec_l10Has_L1 v l = none) ∨ (∃ j : Nat, slices_Index_string_L1 v l i = some (j : Int)) ∧ spec_l10Has_L1 v l = some true
  | [], i => .inl ⟨rfl, rfl⟩
  | x :: l, i => by
    simp only [slices_Index_string_L1, spec_l10Has_L1]
    have e : (v.toList == x.toList) = (x.toList == v.toList) := BEq.comm
    rw [e]
    cases x.toList == v.toList
    · exact ixsL v l (i + 1)
    · exact .inr ⟨⟨i, rfl⟩, rfl⟩
theorem same_l10Has (p_ : Pattern) (v : Str) : slices_Contains_string p_.parts v = spec_l10Has p_ v := by
  unfold slices_Contains_string slices_Index_string spec_l10Has
  rcases ixsL v p_.parts 0 with ⟨h1, h2⟩ | ⟨⟨j, h1⟩, h2⟩
  · rw [h1, h2]; rfl
  · rw [h1, h2]
    exact decide_eq_true (show ((j : Nat) : Int) ≥ 0 by omega)
theorem vrL (r : Rule) : ∀ (l : List Str), impl_ValidRule_L1 r l = spec_ValidRule_L1 r l
  | [] => rfl
  | x :: l => by
    simp only [impl_ValidRule_L1, spec_ValidRule_L1, same_isVariable, same_l10Has, vrL r l]
theorem same_ValidRule (r : Rule) (h : GoT.ok 10 r) : impl_ValidRule r = spec_ValidRule r := by
  have h1 : r.dataPattern.parts.length ≤ 9223372036854775807 := (okl (ok_Pattern (ok_Rule h).1)).1
  have h2 : r.keyPattern.parts.length ≤ 9223372036854775807 := (okl (ok_Pattern (ok_Rule h).2)).1
  simp only [impl_ValidRule, spec_ValidRule, same_ValidPattern _ h1, same_ValidPattern _ h2, vrL]
def ofB (b : Bool) : Option Bool := bif b then some false else none
theorem vrsL : ∀ (l : List Rule), spec_ValidRules_L1 l = ofB (l.any fun r => !(spec_ValidRule r))
  | [] => rfl
  | x :: l => by
    simp only [spec_ValidRules_L1, List.any_cons, vrsL l]
    cases spec_ValidRule x <;> rfl
theorem any_congr' {α : Type} {f g : α → Bool} : ∀ {l : List α}, (∀ a ∈ l, f a = g a) → l.any f = l.any g
  | [], _ => rfl
  | x :: l, h => by rw [List.any_cons, List.any_cons, h x List.mem_cons_self, any_congr' fun a ha => h a (List.mem_cons_of_mem _ ha)]
theorem same_ValidRules (l : List Rule) (h : ∀ r ∈ l, GoT.ok 10 r) : impl_ValidRules l = spec_ValidRules l := by
  unfold impl_ValidRules spec_ValidRules
  rw [cF_Rule, vrsL, any_congr' (g := fun r => !(spec_ValidRule r)) fun r hr => by simp only [impl_ValidRules_c1, same_ValidRule r (h r hr)]]
  cases l.any (fun r => !(spec_ValidRule r)) <;> cases decide ((((l).length : Nat) : Int) ≤ 8) <;> rfl
theorem any_orB {α : Type} (f g : α → Bool) : ∀ (l : List α), (l.any fun x => f x || g x) = (l.any f || l.any g)
  | [] => rfl
  | x :: l => by
    simp only [List.any_cons, any_orB f g l]
    cases f x <;> cases g x <;> cases l.any f <;> cases l.any g <;> rfl
theorem vk2I (e1 : Key) : ∀ (t : List Key), impl_ValidKeys_L2 e1 t = ofB (t.any fun e2 => spec_EqualNames e2.name e1.name || e2.secret == e1.secret)
  | [] => rfl
  | x :: t => by
    simp only [impl_ValidKeys_L2, List.any_cons, vk2I e1 t, same_EqualNames]
    cases spec_EqualNames x.name e1.name <;> cases (x.secret == e1.secret) <;> rfl
theorem vk2S (l : List Key) (e1 : Key) : ∀ (m j : Nat), j + m ≤ l.length → spec_ValidKeys_L2 l e1 m j = ofB (((l.drop j).take m).any fun e2 => e2.secret == e1.secret)
  | 0, j, _ => by simp [spec_ValidKeys_L2, ofB]
  | m + 1, j, h => by
    obtain ⟨x, hx⟩ : ∃ x, l[j]? = some x := ⟨_, List.getElem?_eq_getElem (by omega)⟩
    simp only [spec_ValidKeys_L2, hx, drop_get hx, List.take_succ_cons, List.any_cons, vk2S l e1 m (j + 1) (by omega)]
    cases (x.secret == e1.secret) <;> rfl
theorem l9A (t : List Key) (n_ : Name) : decide (spec_l9Find t n_ ≥ 0) = t.any fun e => spec_EqualNames e.name n_ := by
  unfold spec_l9Find
  rcases any_iF (fun f l i => slices_IndexFunc_Key_L1 f l i) (fun _ _ => rfl) (fun _ _ _ _ => rfl) (fun e => spec_EqualNames e.name n_) t 0 with ⟨h1, h2⟩ | ⟨j, h1, h2⟩
  · have e : ∀ (l : List Key) (i : Nat), spec_l9Find_L1 n_ l i = slices_IndexFunc_Key_L1 (fun e => spec_EqualNames e.name n_) l i := fun l => by
      induction l with
      | nil => intro i; rfl
      | cons x l ih => intro i; simp only [spec_l9Find_L1, slices_IndexFunc_Key_L1, ih]
    rw [e, h1, h2]; rfl
  · have e : ∀ (l : List Key) (i : Nat), spec_l9Find_L1 n_ l i = slices_IndexFunc_Key_L1 (fun e => spec_EqualNames e.name n_) l i := fun l => by
      induction l with
      | nil => intro i; rfl
      | cons x l ih => intro i; simp only [spec_l9Find_L1, slices_IndexFunc_Key_L1, ih]
    rw [e, h1, h2]
    exact decide_eq_true (show ((j : Nat) : Int) ≥ 0 by omega)
theorem vkL (l : List Key) : ∀ (r : List Key) (i : Nat), i + r.length = l.length → impl_ValidKeys_L1 l r i = spec_ValidKeys_L1 l r i
  | [], i, _ => rfl
  | x :: r, i, h => by
    rw [List.length_cons] at h
    have ih := vkL l r (i + 1) (by omega)
    simp only [impl_ValidKeys_L1, spec_ValidKeys_L1, same_ValidName, impl_ValidSecret, spec_ValidSecret, same_In, vk2I, vk2S l x i 0 (by omega), l9A, List.drop_zero, any_orB, ih]
    cases (List.take i l).any (fun e => spec_EqualNames e.name x.name) <;> cases (List.take i l).any (fun e2 => e2.secret == x.secret) <;> rfl
theorem same_ValidKeys (l : List Key) : impl_ValidKeys l = spec_ValidKeys l := by
  simp only [impl_ValidKeys, spec_ValidKeys, vkL l l 0 (Nat.zero_add _)]
theorem lt_not (x : Int) : decide (x < 0) = !(decide (x ≥ 0)) := by
  by_cases h : x < 0
  · rw [decide_eq_true h, decide_eq_false (show ¬ x ≥ 0 by omega)]; rfl
  · rw [decide_eq_false h, decide_eq_true (show x ≥ 0 by omega)]; rfl
theorem gt_not (x y : Int) : decide (x > y) = !(decide (x ≤ y)) := by
  by_cases h : x > y
  · rw [decide_eq_true h, decide_eq_false (show ¬ x ≤ y by omega)]; rfl
  · rw [decide_eq_false h, decide_eq_true (show x ≤ y by omega)]; rfl
theorem vt1 (t : TrustPolicy) : ∀ (l : List Name), impl_ValidTrust_L1 t l = spec_ValidTrust_L1 t l
  | [] => rfl
  | x :: l => by
    simp only [impl_ValidTrust_L1, spec_ValidTrust_L1, vt1 t l, cF_Key, lt_not, l9A, impl_ValidTrust_c1, same_EqualNames]
theorem vt1N (t : TrustPolicy) : ∀ (l : List Name), NT (spec_ValidTrust_L1 t l)
  | [] => .no
  | x :: l => by
    simp only [spec_ValidTrust_L1]
    exact ntc .sf (vt1N t l)
theorem vt2 : ∀ (l : List DataP), spec_ValidTrust_L2 l = ofB (l.any fun x => !(spec_ValidData x))
  | [] => rfl
  | x :: l => by
    simp only [spec_ValidTrust_L2, List.any_cons, vt2 l]
    cases spec_ValidData x <;> rfl
theorem same_ValidTrust (t : TrustPolicy) (h : GoT.ok 10 t) : impl_ValidTrust t = spec_ValidTrust t := by
  have hr : ∀ r ∈ t.rules, GoT.ok 10 r := (okl (ok_TrustPolicy h).2.1).2
  unfold impl_ValidTrust spec_ValidTrust
  rw [vt1, vt2, same_ValidKeys, same_ValidRules _ hr, cF_Data, any_congr' (g := fun x => !(spec_ValidData x)) fun x _ => by simp only [impl_ValidTrust_c2, same_ValidData], gt_not, gt_not]
  rcases vt1N t t.anchors with h1 | h1 <;> rw [h1] <;> cases spec_ValidKeys t.keys <;> cases spec_ValidRules t.rules <;> cases decide ((((t.anchors).length : Nat) : Int) ≤ 8) <;> cases decide ((((t.certificates).length : Nat) : Int) ≤ 8) <;> cases t.certificates.any (fun x => !(spec_ValidData x)) <;> rfl
theorem inR' {n a b : Int} (h : spec_l1In n a b = true) : a ≤ n ∧ n ≤ b := by
  unfold spec_l1In at h
  cases hd : decide (n ≥ a)
  · rw [hd] at h; cases h
  · rw [hd] at h
    exact ⟨of_decide_eq_true hd, of_decide_eq_true h⟩
theorem cmpLt {x y : Int} (h : x < y) : cmp_Compare_int x y = -1 := by
  have n : ∀ z : Int, cmp_isNaN_int z = false := fun z => by simp [cmp_isNaN_int]
  simp only [cmp_Compare_int, n, cond_false, decide_eq_true h, cond_true]
theorem cmpGt {x y : Int} (h : x > y) : cmp_Compare_int x y = 1 := by
  have n : ∀ z : Int, cmp_isNaN_int z = false := fun z => by simp [cmp_isNaN_int]
  simp only [cmp_Compare_int, n, cond_false, decide_eq_true h, decide_eq_false (show ¬ x < y by omega), cond_true]
theorem cmpEq {x y : Int} (h : x = y) : cmp_Compare_int x y = 0 := by
  have n : ∀ z : Int, cmp_isNaN_int z = false := fun z => by simp [cmp_isNaN_int]
  simp only [cmp_Compare_int, n, cond_false, decide_eq_false (show ¬ x > y by omega), decide_eq_false (show ¬ x < y by omega)]
theorem same_pair (a b : Link) : decide (impl_compareLinks a b ≥ 0) = !(spec_l19Pair a b) := by
  unfold impl_compareLinks spec_l19Pair
  rcases Int.lt_trichotomy a.a b.a with h | h | h
  · rw [cmpLt h, decide_eq_true h]; rfl
  · rw [cmpEq h, decide_eq_false (show ¬ a.a < b.a by omega), beq_iff_eq.2 h]
    rcases Int.lt_trichotomy a.b b.b with k | k | k
    · rw [cmpLt k, decide_eq_true k]; rfl
    · rw [cmpEq k, decide_eq_false (show ¬ a.b < b.b by omega)]; rfl
    · rw [cmpGt k, decide_eq_false (show ¬ a.b < b.b by omega)]; rfl
  · rw [cmpGt h, decide_eq_false (show ¬ a.a < b.a by omega), beq_eq_false_iff_ne.2 (show a.a ≠ b.a by omega)]; rfl
theorem vtL (n_ : Topology) (hs : 1 ≤ n_.size ∧ n_.size ≤ 6) : ∀ (l : List Link) (i : Nat), impl_ValidTopology_L1 n_ l i = spec_ValidTopology_L1 n_ l i
  | [], i => rfl
  | x :: l, i => by
    have ih := vtL n_ hs l (i + 1)
    have w1 : IntKind.i64.wrap (n_.size - 1) = n_.size - 1 := by simp [IntKind.wrap, IntKind.bits, IntKind.signed]; omega
    simp only [impl_ValidTopology_L1, spec_ValidTopology_L1, same_In, same_pair, ih, w1]
    cases ha : spec_l1In x.a 0 (n_.size - 1)
    · rfl
    · have ha' : 0 ≤ x.a ∧ x.a ≤ n_.size - 1 := inR' ha
      have w2 : IntKind.i64.wrap (x.a + 1) = x.a + 1 := by simp [IntKind.wrap, IntKind.bits, IntKind.signed]; omega
      rw [w2]
      have e : spec_l1In x.b (x.a + 1) (n_.size - 1) = (spec_l1In x.b 0 (n_.size - 1) && !(decide (x.a ≥ x.b))) := by
        unfold spec_l1In
        by_cases h1 : x.b ≥ x.a + 1
        · rw [decide_eq_true h1, decide_eq_true (show x.b ≥ 0 by omega), decide_eq_false (show ¬ x.a ≥ x.b by omega)]
          cases decide (x.b ≤ n_.size - 1) <;> rfl
        · rw [decide_eq_false h1, decide_eq_true (show x.a ≥ x.b by omega)]
          cases decide (x.b ≥ 0) <;> cases decide (x.b ≤ n_.size - 1) <;> rfl
      rw [e]
      cases spec_l1In x.b 0 (n_.size - 1) <;> cases decide (x.a ≥ x.b) <;> rfl
theorem vtI (n_ : Topology) : ∀ (l : List Link) (i : Nat), NT (impl_ValidTopology_L1 n_ l i)
  | [], i => .no
  | x :: l, i => by
    have ih := vtI n_ l (i + 1)
    simp only [impl_ValidTopology_L1]
    refine ntc .sf (ntc .sf (ntc ?_ ih))
    cases (n_.links)[(((i : Nat) : Int) - 1).toNat]? with
    | none => exact .no
    | some e2 => exact ntc .sf ih
theorem same_ValidTopology (n_ : Topology) : impl_ValidTopology n_ = spec_ValidTopology n_ := by
  unfold impl_ValidTopology spec_ValidTopology
  cases hs : spec_l1In n_.size 1 6
  · rw [same_In, hs]
    rcases vtI n_ n_.links 0 with h1 | h1 <;> rcases vtN n_ n_.links 0 with h2 | h2 <;> rw [h1, h2]
  · have hs' : 1 ≤ n_.size ∧ n_.size ≤ 6 := inR' hs
    rw [vtL n_ hs', same_In, hs]
theorem lr (size : Int) : ∀ (l : List TableEntry), spec_l32Rows_L1 size l = ofB (l.any fun e => !(spec_l1In e.value 0 (IntKind.i64.wrap (size - 1))))
  | [] => rfl
  | x :: l => by
    simp only [spec_l32Rows_L1, List.any_cons, lr size l]
    cases spec_l1In x.value 0 (IntKind.i64.wrap (size - 1)) <;> rfl
theorem same_areProducers (l : List TableEntry) (size : Int) : impl_areProducers l size = spec_l32Rows l size := by
  unfold impl_areProducers spec_l32Rows
  rw [lr, cF_TableEntry, same_ValidTable, any_congr' (g := fun e => !(spec_l1In e.value 0 (IntKind.i64.wrap (size - 1)))) fun x _ => by simp only [impl_areProducers_c1, same_In]]
  cases l.any (fun e => !(spec_l1In e.value 0 (IntKind.i64.wrap (size - 1)))) <;> cases spec_ValidTable l <;> rfl
theorem liL (a b : Int) : ∀ (l : List Link) (i : Nat), slices_IndexFunc_Link_L1 (fun e0_ => (impl_LinkIndex_c1 a b e0_)) l i = spec_LinkIndex_L1 a b l i
  | [], i => rfl
  | x :: l, i => by
    have ih := liL a b l (i + 1)
    simp only [slices_IndexFunc_Link_L1, spec_LinkIndex_L1]
    rw [ih]
    simp only [impl_LinkIndex_c1]
    cases (x.a == a) <;> cases (x.b == b) <;> cases (x.a == b) <;> cases (x.b == a) <;> rfl
theorem same_LinkIndex (n_ : Topology) (a b : Int) : impl_LinkIndex n_ a b = spec_LinkIndex n_ a b := by
  unfold impl_LinkIndex slices_IndexFunc_Link spec_LinkIndex
  rw [liL] <;> (cases spec_LinkIndex_L1 a b n_.links 0 <;> rfl)
theorem nbL (n_ : Topology) (a : Int) : ∀ (m i : Nat) (o : List Int), i ≤ 6 → impl_NeighborsOf_L1 n_ a (min m (6 - i)) i o = spec_NeighborsOf_L1 n_ a m i o
  | 0, i, o, _ => by rw [Nat.zero_min]; rfl
  | m + 1, i, o, h => by
    by_cases hi : i < 6
    · rw [show min (m + 1) (6 - i) = min m (6 - (i + 1)) + 1 by omega]
      have d : decide (((i : Nat) : Int) < 6) = true := decide_eq_true (by omega)
      simp only [impl_NeighborsOf_L1, spec_NeighborsOf_L1, same_LinkIndex, d, cond_true, nbL n_ a m (i + 1) _ (by omega)]
    · rw [show min (m + 1) (6 - i) = 0 by omega]
      have d : decide (((i : Nat) : Int) < 6) = false := decide_eq_false (by omega)
      simp only [impl_NeighborsOf_L1, spec_NeighborsOf_L1, d, cond_false]
theorem same_NeighborsOf (n_ : Topology) (a : Int) : impl_NeighborsOf n_ a = spec_NeighborsOf n_ a := by
  have h := nbL n_ a n_.size.toNat 0 [] (by omega)
  rw [show min n_.size.toNat (6 - 0) = (max 0 (min n_.size 6)).toNat by omega] at h
  simp only [impl_NeighborsOf, spec_NeighborsOf, h]
theorem l12A (t : List CacheEntry) (n_ : Name) : decide (spec_l12Find t n_ ≥ 0) = t.any fun e => spec_EqualNames e.data.name n_ := by
  unfold spec_l12Find
  have e : ∀ (l : List CacheEntry) (i : Nat), spec_l12Find_L1 n_ l i = slices_IndexFunc_CacheEntry_L1 (fun e => spec_EqualNames e.data.name n_) l i := fun l => by
    induction l with
    | nil => intro i; rfl
    | cons x l ih => intro i; simp only [spec_l12Find_L1, slices_IndexFunc_CacheEntry_L1, ih]
  rcases any_iF (fun f l i => slices_IndexFunc_CacheEntry_L1 f l i) (fun _ _ => rfl) (fun _ _ _ _ => rfl) (fun e => spec_EqualNames e.data.name n_) t 0 with ⟨h1, h2⟩ | ⟨j, h1, h2⟩
  · rw [e, h1, h2]; rfl
  · rw [e, h1, h2]
    exact decide_eq_true (show ((j : Nat) : Int) ≥ 0 by omega)
theorem csL (c_ : ContentStore) : ∀ (l : List CacheEntry) (i : Nat), impl_ValidContentStore_L1 c_ l i = spec_ValidContentStore_L1 c_ l i
  | [], i => rfl
  | x :: l, i => by
    simp only [impl_ValidContentStore_L1, spec_ValidContentStore_L1, same_ValidData, cF_CacheEntry, l12A, impl_ValidContentStore_c1, same_EqualNames, csL c_ l]
theorem csN (c_ : ContentStore) : ∀ (l : List CacheEntry) (i : Nat), NT (spec_ValidContentStore_L1 c_ l i)
  | [], i => .no
  | x :: l, i => by
    simp only [spec_ValidContentStore_L1]
    exact ntc .sf (ntc .sf (csN c_ l (i + 1)))
theorem same_ValidContentStore (c_ : ContentStore) : impl_ValidContentStore c_ = spec_ValidContentStore c_ := by
  unfold impl_ValidContentStore spec_ValidContentStore
  rw [csL, same_In, gt_not]
  rcases csN c_ c_.entries 0 with h | h <;> rw [h] <;> cases spec_l1In c_.capacity 0 8 <;> cases decide ((((c_.entries).length : Nat) : Int) ≤ c_.capacity) <;> rfl
theorem paL (n_ : Name) : ∀ (l : List PendingInterest) (i : Nat), slices_IndexFunc_PendingInterest_L1 (fun e0_ => (impl_pendingAt_c1 n_ e0_)) l i = spec_l13Find_L1 n_ l i
  | [], i => rfl
  | x :: l, i => by
    have ih := paL n_ l (i + 1)
    simp only [slices_IndexFunc_PendingInterest_L1, spec_l13Find_L1]
    rw [ih]
    simp only [impl_pendingAt_c1, same_EqualNames]
theorem same_pendingAt (l : List PendingInterest) (n_ : Name) : impl_pendingAt l n_ = spec_l13Find l n_ := by
  unfold impl_pendingAt slices_IndexFunc_PendingInterest spec_l13Find
  rw [paL] <;> (cases spec_l13Find_L1 n_ l 0 <;> rfl)
theorem askL (e1 : PendingInterest) : ∀ (l : List Requester) (i : Nat), impl_ValidPending_L2 e1 l i = spec_l13Askers_L1 e1.requesters l i
  | [], i => rfl
  | x :: l, i => by
    simp only [impl_ValidPending_L2, spec_l13Askers_L1, same_In, askL e1 l]
theorem askN (q : List Requester) : ∀ (l : List Requester) (i : Nat), NT (spec_l13Askers_L1 q l i)
  | [], i => .no
  | x :: l, i => by
    have ih := askN q l (i + 1)
    simp only [spec_l13Askers_L1]
    refine ntc .sf (ntc .sf (ntc ?_ ih))
    cases q[(((i : Nat) : Int) - 1).toNat]? with
    | none => exact .no
    | some e2 => exact ntc .sf ih
theorem len0 (n : Nat) : decide (((n : Nat) : Int) > 0) = !(((n : Nat) : Int) == 0) := by
  cases n with
  | zero => rfl
  | succ n => rw [decide_eq_true (by omega), beq_eq_false_iff_ne.2 (by omega)]; rfl
theorem pendL (l : List PendingInterest) : ∀ (r : List PendingInterest) (i : Nat), impl_ValidPending_L1 l r i = spec_ValidPending_L1 l r i
  | [], i => rfl
  | x :: r, i => by
    simp only [impl_ValidPending_L1, spec_ValidPending_L1, same_ValidName, same_In, same_pendingAt, askL, spec_l13Askers, len0, pendL l r]
    rcases askN x.requesters x.requesters 0 with h | h <;> rw [h] <;> cases ((((x.requesters).length : Nat) : Int) == 0) <;> cases spec_l1In x.lastSent 0 100000 <;> cases decide ((spec_l13Find (List.take i l) x.name) ≥ 0) <;> rfl
theorem same_ValidPending (l : List PendingInterest) : impl_ValidPending l = spec_ValidPending l := by
  simp only [impl_ValidPending, spec_ValidPending, pendL]
theorem rtL (n_ : Name) (s : Int) : ∀ (l : List Route) (i : Nat), slices_IndexFunc_Route_L1 (fun e0_ => (impl_routeAt_c1 s n_ e0_)) l i = spec_l14Find_L1 n_ s l i
  | [], i => rfl
  | x :: l, i => by
    have ih := rtL n_ s l (i + 1)
    simp only [slices_IndexFunc_Route_L1, spec_l14Find_L1]
    rw [ih]
    simp only [impl_routeAt_c1, same_EqualNames]
    cases (x.face == s) <;> cases spec_EqualNames x.pfx n_ <;> rfl
theorem same_routeAt (l : List Route) (n_ : Name) (s : Int) : impl_routeAt l n_ s = spec_l14Find l n_ s := by
  unfold impl_routeAt slices_IndexFunc_Route spec_l14Find
  rw [rtL] <;> (cases spec_l14Find_L1 n_ s l 0 <;> rfl)
theorem roL (l : List Route) : ∀ (r : List Route) (i : Nat), impl_ValidRoutes_L1 l r i = spec_ValidRoutes_L1 l r i
  | [], i => rfl
  | x :: r, i => by
    simp only [impl_ValidRoutes_L1, spec_ValidRoutes_L1, same_ValidName, same_In, same_routeAt, roL l r]
theorem same_ValidRoutes (l : List Route) : impl_ValidRoutes l = spec_ValidRoutes l := by
  simp only [impl_ValidRoutes, spec_ValidRoutes, roL]
theorem meL (n_ : Name) (s : Int) : ∀ (l : List Measurement) (i : Nat), slices_IndexFunc_Measurement_L1 (fun e0_ => (impl_measuredAt_c1 s n_ e0_)) l i = spec_l15Find_L1 n_ s l i
  | [], i => rfl
  | x :: l, i => by
    have ih := meL n_ s l (i + 1)
    simp only [slices_IndexFunc_Measurement_L1, spec_l15Find_L1]
    rw [ih]
    simp only [impl_measuredAt_c1, same_EqualNames]
    cases (x.face == s) <;> cases spec_EqualNames x.pfx n_ <;> rfl
theorem same_measuredAt (l : List Measurement) (n_ : Name) (s : Int) : impl_measuredAt l n_ s = spec_l15Find l n_ s := by
  unfold impl_measuredAt slices_IndexFunc_Measurement spec_l15Find
  rw [meL] <;> (cases spec_l15Find_L1 n_ s l 0 <;> rfl)
theorem vmeL (l : List Measurement) : ∀ (r : List Measurement) (i : Nat), impl_ValidMeasurements_L1 l r i = spec_ValidMeasurements_L1 l r i
  | [], i => rfl
  | x :: r, i => by
    simp only [impl_ValidMeasurements_L1, spec_ValidMeasurements_L1, same_ValidName, same_In, same_measuredAt, vmeL l r]
theorem same_ValidMeasurements (l : List Measurement) : impl_ValidMeasurements l = spec_ValidMeasurements l := by
  simp only [impl_ValidMeasurements, spec_ValidMeasurements, vmeL]
theorem loL (n_ : Name) : ∀ (l : List DataP) (i : Nat), slices_IndexFunc_Data_L1 (fun e0_ => (impl_localAt_c1 n_ e0_)) l i = spec_l16Find_L1 n_ l i
  | [], i => rfl
  | x :: l, i => by
    have ih := loL n_ l (i + 1)
    simp only [slices_IndexFunc_Data_L1, spec_l16Find_L1]
    rw [ih]
    simp only [impl_localAt_c1, same_EqualNames]
theorem same_localAt (l : List DataP) (n_ : Name) : impl_localAt l n_ = spec_l16Find l n_ := by
  unfold impl_localAt slices_IndexFunc_Data spec_l16Find
  rw [loL] <;> (cases spec_l16Find_L1 n_ l 0 <;> rfl)
theorem vnL (x_ : NodeP) : ∀ (l : List DataP) (i : Nat), impl_ValidNode_L1 x_ l i = spec_ValidNode_L1 x_ l i
  | [], i => rfl
  | x :: l, i => by
    simp only [impl_ValidNode_L1, spec_ValidNode_L1, same_ValidData, same_localAt, vnL x_ l]
theorem same_ValidNode (x_ : NodeP) : impl_ValidNode x_ = spec_ValidNode x_ := by
  simp only [impl_ValidNode, spec_ValidNode, vnL, same_ValidContentStore, same_ValidPending, same_ValidRoutes, same_ValidMeasurements]
theorem nw1 (w_ : Network) : ∀ (l : List Int) (i : Nat), impl_ValidNetwork_L1 w_ l i = spec_l32Dead_L1 w_ l i
  | [], i => rfl
  | x :: l, i => by
    simp only [impl_ValidNetwork_L1, spec_l32Dead_L1, same_In, nw1 w_ l]
theorem nw1N (w_ : Network) : ∀ (l : List Int) (i : Nat), NT (spec_l32Dead_L1 w_ l i)
  | [], i => .no
  | x :: l, i => by
    have ih := nw1N w_ l (i + 1)
    simp only [spec_l32Dead_L1]
    refine ntc .sf (ntc ?_ ih)
    cases (w_.failedLinks)[(((i : Nat) : Int) - 1).toNat]? with
    | none => exact .no
    | some e2 => exact ntc .sf ih
theorem nw2 (w_ : Network) : ∀ (l : List PacketInFlight), impl_ValidNetwork_L2 w_ l = spec_ValidNetwork_L2 w_ l
  | [] => rfl
  | x :: l => by
    simp only [impl_ValidNetwork_L2, spec_ValidNetwork_L2, same_In, same_NeighborsOf, nw2 w_ l]
theorem nw2N (w_ : Network) : ∀ (l : List PacketInFlight), NT (spec_ValidNetwork_L2 w_ l)
  | [] => .no
  | x :: l => by
    simp only [spec_ValidNetwork_L2]
    exact ntc .sf (ntc .sf (nw2N w_ l))
theorem nw3 (w_ : Network) : ∀ (l : List Consumer) (i : Nat), impl_ValidNetwork_L3 w_ l i = spec_ValidNetwork_L3 w_ l i
  | [], i => rfl
  | x :: l, i => by
    simp only [impl_ValidNetwork_L3, spec_ValidNetwork_L3, same_ValidConsumer', nw3 w_ l]
    cases (x.index != ((i : Nat) : Int)) <;> cases decide (x.node ≥ w_.topology.size) <;> rfl
theorem nw3N (w_ : Network) : ∀ (l : List Consumer) (i : Nat), NT (spec_ValidNetwork_L3 w_ l i)
  | [], i => .no
  | x :: l, i => by
    simp only [spec_ValidNetwork_L3]
    exact ntc .sf (ntc .sf (ntc .sf (nw3N w_ l (i + 1))))
theorem nw0 : ∀ (l : List NodeP), spec_ValidNetwork_L1 l = ofB (l.any fun x => !(spec_ValidNode x))
  | [] => rfl
  | x :: l => by
    simp only [spec_ValidNetwork_L1, List.any_cons, nw0 l]
    cases spec_ValidNode x <;> rfl
theorem lt0 (x : Int) : decide (x < 0) = !(decide (x ≥ 0)) := lt_not x
theorem same_ValidNetwork' (w_ : Network) (h : GoT.ok 10 w_) : impl_ValidNetwork w_ = spec_ValidNetwork w_ := by
  have ht : GoT.ok 10 w_.trust := (ok_Network h).2.1
  unfold impl_ValidNetwork spec_ValidNetwork spec_l32Dead
  rw [same_ValidTopology, same_ValidTrust _ ht, same_areProducers, nw1, nw2, nw3, nw0, cF_Node, any_congr' (g := fun x => !(spec_ValidNode x)) fun x _ => by simp only [impl_ValidNetwork_c1, same_ValidNode], gt_not, gt_not, lt0, same_In, same_In]
  generalize IntKind.i64.wrap ((IntKind.i64.wrap (1 * 2 ^ (min (Int.toNat w_.topology.size) 64))) - 1) = z
  rcases nw1N w_ w_.failedLinks 0 with h1 | h1 <;> rcases nw2N w_ w_.inFlight with h2 | h2 <;> rcases nw3N w_ w_.consumers 0 with h3 | h3 <;> rw [h1, h2, h3] <;> cases w_.nodes.any (fun x => !(spec_ValidNode x)) <;> simp only [ofB, cond_true, cond_false, Bool.cond_false_left, Bool.cond_false_right, Bool.not_not, bne, Bool.and_true, Bool.true_and, Bool.and_false, Bool.false_and, Bool.not_true, Bool.not_false] <;> (first | rfl | ac_rfl | (simp; done) | (simp [Bool.and_comm, Bool.and_assoc, Bool.and_left_comm]; done))
end Go.Stp

namespace Go.Stp
open Go.RowKit (Below)
open GoT (X k ok sh fa oa)
def Opens (P : Program) (T : TypeId) (α : Type) [GoT α] : Prop :=
  P.cellsOf T = k α ∧ ∀ {H : Type} {enc : TypeId × Value → H} {w : World} {spare : Nat → Bool} {held : Bool} {fuel : Nat} {cs : List Value} {x : DataW H × List MemPlace}, DataW.trod enc P w 0 spare held fuel T cs = some x →
    ∃ (a : α) (y : X α), cs = sh a y ∧ ok 10 a ∧ All (hp w) (fa .der a y)
theorem opens_int {P : Program} {T : TypeId} (h : P.underlying T = some (.int .i64)) (hc : P.cellsOf T = 1) : Opens P T Int := ⟨hc, fun h' => by
  obtain ⟨n, rfl, _, hw⟩ := DataW.trod_int h h'
  exact ⟨n, (), rfl, by simpa [Lit.wf, IntKind.min, IntKind.max, IntKind.signed, IntKind.bits, ok, I64] using hw, (fun _ h_ => by cases h_)⟩⟩
theorem opens_bool {P : Program} {T : TypeId} (h : P.underlying T = some .bool) (hc : P.cellsOf T = 1) : Opens P T Bool := ⟨hc, fun h' => by
  obtain ⟨n, rfl, _⟩ := DataW.trod_bool h h'
  exact ⟨n, (), rfl, trivial, (fun _ h_ => by cases h_)⟩⟩
theorem opens_str {P : Program} {T : TypeId} (h : P.underlying T = some .string) (hc : P.cellsOf T = 1) : Opens P T ByteArray := ⟨hc, fun h' => by
  obtain ⟨n, rfl, _, hw⟩ := DataW.trod_string h h'
  exact ⟨n, (), rfl, (by simp only [maxLen] at hw; omega : n.size ≤ 9223372036854775807), (fun _ h_ => by cases h_)⟩⟩
theorem opens_byte {P : Program} {T : TypeId} (h : P.underlying T = some (.int .u8)) (hc : P.cellsOf T = 1) : Opens P T UInt8 := ⟨hc, fun h' => by
  obtain ⟨n, rfl, _, hw⟩ := DataW.trod_int h h'
  have hn : 0 ≤ n ∧ n ≤ 255 := by simpa [Lit.wf, IntKind.min, IntKind.max, IntKind.signed, IntKind.bits] using hw
  refine ⟨UInt8.ofNat n.toNat, (), ?_, trivial, (fun _ h_ => by cases h_)⟩
  have : ((UInt8.ofNat n.toNat).toNat : Int) = n := by
    rw [UInt8.toNat_ofNat', Nat.mod_eq_of_lt (by omega)]; omega
  simp only [sh]
  rw [this]⟩
theorem cells?_each {w : World} {a : Addr} {n : Nat} {cs : List Value} (h : w.cells? 0 a n = some cs) : ∀ j u, cs[j]? = some u → w.cell? (a.add j) = some u := by
  intro j u hj
  obtain ⟨_, h1, h2⟩ := World.cells?_some h
  rw [h2 j (by rw [← h1]; exact (List.getElem?_eq_some_iff.1 hj).1)]; exact hj
theorem opens_slice {P : Program} {T E : TypeId} {α : Type} [GoT α] (h : P.underlying T = some (.slice E)) (hc : P.cellsOf T = 1) (he : Opens P E α) : Opens P T (List α) := ⟨hc, fun {H enc w spare held fuel cs x} h' => by
  rcases DataW.trod_slice h h' with ⟨rfl, _⟩ | ⟨a, len, cap, elems, rest, n, _, rfl, _, _, hl, hm, hlen, hel, _, _⟩
  · exact ⟨[], (none, 0), rfl, ⟨Nat.zero_le _, fun _ h_ => by cases h_⟩, fun f hf => by
      obtain rfl := List.mem_singleton.1 hf
      exact ⟨Nat.zero_le _, Nat.zero_le _, [], fun j u h => by simp at h, rfl⟩⟩
  · have key : ∀ m, m ≤ len → ∃ (l : List α) (xs : List Value), l.length = m ∧ xs.length = m * k α ∧ RdL (hp w) xs l ∧ (∀ b ∈ l, ok 10 b) ∧ CellsAt (hp w) (some a) xs := by
      intro m
      induction m with
      | zero => exact fun _ => ⟨[], [], rfl, by simp, rfl, by simp, fun j u h => by simp at h⟩
      | succ m ih =>
        intro hmle
        obtain ⟨l, xs, h1, h2, h3, h4, h5⟩ := ih (by omega)
        have hm' := hel m (by omega)
        rw [he.1] at hm'
        obtain ⟨y, hy⟩ : ∃ y, elems[m]? = some y := ⟨_, List.getElem?_eq_getElem (by omega)⟩
        rw [hy, Option.bind_eq_some_iff] at hm'
        obtain ⟨cs', hcs, htr⟩ := hm'
        obtain ⟨b, yb, rfl, hok, hfa⟩ := he.2 htr
        refine ⟨l ++ [b], xs ++ sh b yb, by simp [h1], by rw [List.length_append, h2, GoT.len, Nat.add_mul]; omega, h3.snoc hfa, ?_, ?_⟩
        · intro c hc
          rcases List.mem_append.1 hc with hc | hc
          · exact h4 c hc
          · simp at hc; subst hc; exact hok
        · intro j u hj
          refine ⟨a, rfl, ?_⟩
          by_cases hlt : j < xs.length
          · rw [List.getElem?_append_left hlt] at hj
            obtain ⟨a', ha', hg⟩ := h5 j u hj
            simp at ha'; subst ha'; exact hg
          · rw [List.getElem?_append_right (by omega)] at hj
            have := cells?_each hcs _ _ hj
            rw [addr_add_add, h2, show m * k α + (j - m * k α) = j by omega] at this
            exact this
    obtain ⟨l, xs, h1, h2, h3, h4, h5⟩ := key len (Nat.le_refl _)
    have hm' : len ≤ 9223372036854775807 := by simp only [maxLen] at hm; omega
    refine ⟨l, (some a, cap), by simp [sh, h1], ⟨by show l.length ≤ 9223372036854775807; omega, h4⟩, fun f hf => ?_⟩
    obtain rfl := List.mem_singleton.1 hf
    exact ⟨by omega, by omega, xs, h5, h3⟩⟩
def OpensF (P : Program) (fs : List Field) (off : Nat) (β : Type) [GoT β] : Prop :=
  ∀ {H : Type} {enc : TypeId × Value → H} {w : World} {spare : Nat → Bool} {held : Bool} {n : Nat} {cs : List Value},
    (∀ (i : Nat) (f : Field), fs[i]? = some f → ∃ y, DataW.trod enc P w 0 spare held n f.type ((cs.drop f.offset).take (P.cellsOf f.type)) = some y) →
    ∃ (b : β) (y : X β), (cs.drop off).take (k β) = sh b y ∧ ok 10 b ∧ All (hp w) (fa .der b y)
theorem opensF_one {P : Program} {f : Field} {off : Nat} {α : Type} [GoT α] (ho : f.offset = off) (hf : Opens P f.type α) : OpensF P [f] off α := fun {H enc w spare held n cs} h => by
  obtain ⟨y, hy⟩ := h 0 f rfl
  obtain ⟨a, ya, h1, h2, h3⟩ := hf.2 hy
  rw [hf.1, ho] at h1
  exact ⟨a, ya, h1, h2, h3⟩
theorem opensF_cons {P : Program} {f : Field} {fs : List Field} {off : Nat} {α β : Type} [GoT α] [GoT β] (ho : f.offset = off) (hf : Opens P f.type α) (hr : OpensF P fs (off + k α) β) : OpensF P (f :: fs) off (α × β) := fun {H enc w spare held n cs} h => by
  obtain ⟨y, hy⟩ := h 0 f rfl
  obtain ⟨a, ya, h1, h2, h3⟩ := hf.2 hy
  obtain ⟨b, yb, k1, k2, k3⟩ := hr (cs := cs) (fun i g hg => h (i + 1) g (by simpa using hg))
  rw [hf.1, ho] at h1
  refine ⟨(a, b), (ya, yb), ?_, ⟨h2, k2⟩, All.append h3 k3⟩
  show (cs.drop off).take (k α + k β) = sh a ya ++ sh b yb
  rw [← h1, ← k1, List.take_add, List.drop_drop]
theorem opens_struct {P : Program} {T : TypeId} {fs : Array Field} {α β : Type} [GoT β] (e : α → β) (mk : β → α) (hm : ∀ b, e (mk b) = b) (h : P.underlying T = some (.struct fs)) (hc : P.cellsOf T = k β) (hf : OpensF P fs.toList 0 β) :
    @Opens P T α (GoT.via e) := by
  letI : GoT α := GoT.via e
  refine ⟨hc, fun {H enc w spare held fuel cs x} h' => ?_⟩
  obtain ⟨xs, n, _, _, hcl, hxl, hall⟩ := DataW.trod_struct h h'
  obtain ⟨b, y, h1, h2, h3⟩ := hf (cs := cs) (fun i f hi => by
    have hi' : fs[i]? = some f := by simpa using hi
    have := hall i f hi'
    obtain ⟨z, hz⟩ : ∃ z, xs[i]? = some z := ⟨_, List.getElem?_eq_getElem (by rw [hxl]; exact (Array.getElem?_eq_some_iff.1 hi').1)⟩
    exact ⟨z, by rw [this, hz]⟩)
  rw [List.drop_zero, List.take_of_length_le (by rw [hcl, hc]; exact Nat.le_refl _)] at h1
  refine ⟨mk b, y, ?_, ?_, ?_⟩
  · show cs = sh (e (mk b)) y; rw [hm]; exact h1
  · show ok 10 (e (mk b)); rw [hm]; exact h2
  · show All (hp w) (fa .der (e (mk b)) y); rw [hm]; exact h3

def Arg (P : Program) (T : TypeId) (α : Type) [GoT α] (mk : List Value → Value) : Prop :=
  ∀ {H : Type} {enc : TypeId × Value → H} {W : World} {b0 : Nat} {spare : Nat → Bool} {held : Bool} {v : Value} {d : DataW H} {ps : List MemPlace}, Value.okWide P W .any b0 T v → DataW.Trod enc P W 0 spare held T v d ps →
    ∃ (a : α) (y : X α), v = mk (sh a y) ∧ ok 10 a ∧ All (hp W) (fa .der a y)
theorem arg_struct {P : Program} {T : TypeId} {α : Type} [GoT α] {fs : Array Field} (h : P.underlying T = some (.struct fs)) (ho : Opens P T α) : Arg P T α (fun cs => .agg ⟨cs⟩) := by
  intro H enc W b0 spare held v d ps hval ⟨fuel, hf⟩
  simp only [Value.okWide, h] at hval
  obtain ⟨cs, rfl, _⟩ := hval
  obtain ⟨a, y, h1, h2, h3⟩ := ho.2 hf
  refine ⟨a, y, ?_, h2, h3⟩
  have : cs.toList = sh a y := by simpa [Value.cells] using h1
  rw [← this]
theorem trodAll_stays {H : Type} {enc : TypeId × Value → H} {P : Program} (hl : laidOutB P = true) {W W' : World} {sp : Nat → Bool} : ∀ {ts : List TypeId} {vs : List Value} {ds : List (DataW H)} {ps : List MemPlace},
    ts.all (fun t => P.readableRec t && decide (t < P.types.size)) = true → DataW.TrodAll enc P W 0 (fun _ => true) true ts vs ds ps → (∀ p ∈ ps, W.sameAt W' p) → (∀ p ∈ ps, sp p.block = true) → DataW.TrodAll enc P W' 0 sp true ts vs ds ps
  | [], [], [], _, _, h, _, _ => h
  | t :: ts, v :: vs, d :: ds, ps, ha, ⟨p, q, h1, h2, e⟩, hs, hsp => by
    simp only [List.all_cons, Bool.and_eq_true, decide_eq_true_eq] at ha
    subst e
    exact ⟨p, q, WideElems.Trod_stays hl ha.1.1 ha.1.2 h1 (fun x hx => hs x (List.mem_append_left _ hx)) (fun x hx => hsp x (List.mem_append_left _ hx)),
      trodAll_stays hl ha.2 h2 (fun x hx => hs x (List.mem_append_right _ hx)) (fun x hx => hsp x (List.mem_append_right _ hx)), rfl⟩
theorem trodAll_len {H : Type} {enc : TypeId × Value → H} {P : Program} {W : World} {b : Nat} {sp : Nat → Bool} {hd : Bool} : ∀ {ts : List TypeId} {vs : List Value} {ds : List (DataW H)} {ps : List MemPlace}, DataW.TrodAll enc P W b sp hd ts vs ds ps → ds.length = ts.length
  | [], [], [], _, _ => rfl
  | _ :: _, _ :: _, _ :: _, _, ⟨_, _, _, h2, _⟩ => by simp [trodAll_len h2]
theorem law_post {H : Type} {enc : TypeId × Value → H} {P : Program} {f : Func} {s : ChangeSpec} {W W' : World} {args : Array Value} {ds gs : List (DataW H)} {before : List MemPlace} {B : TypeId}
    (hl : laidOutB P = true) (hpar : f.params.toList.all (fun t => P.readableRec t && decide (t < P.types.size)) = true) (hvars : s.vars = []) (hB : f.resultTypes = #[B]) (hu : P.underlying B = some .bool)
    (hfn : ∀ ds : List (DataW H), ds.length = f.params.size → s.fn H ds = { results := [.lit (.bool true)], args := ds })
    (hW : DataW.Whole enc P f.params.toList s.vars false W args.toList ds gs before) (hb : Below W.heap.size W W') : s.post enc P f false true false false W args (.bool true) W' := by
  have hW' := hW
  have hlt : ∀ p ∈ before, p.block < W.heap.size := fun p hp => hW.lt p hp
  obtain ⟨p, q, hA, hV, rfl, hfz, hnd⟩ := hW'
  rw [hvars] at hV
  obtain ⟨rfl, rfl⟩ := ChangeShapes.trodVars_none hV
  have hlen : ds.length = f.params.size := by simpa using trodAll_len hA
  have hdd : s.fn H (ds ++ []) = { results := [.lit (.bool true)], args := ds } := by rw [List.append_nil]; exact hfn ds hlen
  have hres : ∀ (b : Nat) (sp : Nat → Bool) (hd : Bool), DataW.TrodAll enc P W' b sp hd f.resultTypes.toList ((Value.bool true).resultList f.resultTypes.size) (s.fn H (ds ++ [])).results [] := by
    intro b sp hd
    rw [hdd, hB]
    exact trodAll_cons_mk (RowKit.shut_bool hu _) ChangeShapes.trodAll_mk0
  have hargs : ∀ sp : Nat → Bool, (∀ x ∈ p ++ [], sp x.block = true) → DataW.TrodAll enc P W' 0 sp true f.params.toList args.toList (s.fn H (ds ++ [])).args p := by
    intro sp hsp
    rw [hdd]
    exact trodAll_stays hl hpar hA (fun x hx => hb.same (hlt x (by simpa using hx))) (fun x hx => hsp x (by simpa using hx))
  have hvars' : ∀ sp : Nat → Bool, DataW.TrodVars enc P W' sp s.vars (s.fn H (ds ++ [])).vars [] := by
    intro sp; rw [hvars, hdd]; rfl
  have hold : ∀ x ∈ p ++ [], (fun b => decide (b < W.heap.size)) x.block = true := fun x hx => by simpa using hlt x hx
  refine ⟨ds, [], p ++ [], [], p, [], hW, hres _ _ _, hargs _ hold, hvars' _, World.keptBut_mono (fun x hx => ⟨hx, Or.inr (by simpa using hx)⟩) (hb.frame (· ∈ p ++ [])), fun h => (by cases h)⟩
end Go.Stp

namespace Go.Proofs.YtdimfabadjfkiaaGreat.Facts
set_option maxRecDepth 100000
theorem laid : laidOutB Tryz.prog = true := by kernel_rfl
theorem rowed : mapsRowed Tryz.prog = true := by kernel_rfl
end Go.Proofs.YtdimfabadjfkiaaGreat.Facts

