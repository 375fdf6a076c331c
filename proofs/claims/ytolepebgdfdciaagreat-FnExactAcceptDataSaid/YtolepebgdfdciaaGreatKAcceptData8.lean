/-
  What the proof of one law needs: rules of the program logic, functions as Lean functions, contracts. No condition but what each says. Written by a program (pack.py) out of my own texts.
-/
import Derived.Test.YtolepebgdfdciaaGreatKAcceptData7
namespace Go.Proofs.YtolepebgdfdciaaGreat
open Go.Stp
set_option linter.unusedVariables false
set_option linter.unusedSimpArgs false
theorem f249 (w : World) (n : Nat) (hn : n + 0 ≤ 9) (l : (List Key)) (pl : Option Addr) (cl : Nat) (N0 : RdSl (hp w) pl cl l) (n_ : Name) (K1 : Option Addr) (M1 : Nat) (N1 : RdSl (hp w) K1 M1 n_.parts) (hokl : GoT.ok n l) (hokn_ : GoT.ok n n_) :
  Does Tryz.prog 249 #[.slice pl ((l).length) cl, .agg #[.slice K1 ((n_.parts).length) M1]] w emp (fun (rv : Value) (_ : World) => rv = .int .i64 ((spec_SecretOf l n_)) ∧ GoT.ok n ((spec_SecretOf l n_) : Int)) := by
 have hbP := bd_pos n
 have hbB := bd_big (n := n) (by omega)
 refine WX.enter (tt := tt) (Γ := [(0, MF.rs .stb pl cl l), (1, MF.rs .stb K1 M1 n_.parts)]) Tryz.func249 rfl (by kernel_rfl) rfl (allS_cons rfl N0 (allS_cons rfl N1 allS_nil)) ?_
 refine R0 ?_
 refine WX.callV rfl rfl rfl rfl rfl (fun _ => rfl) rfl (fun w G bs hI hΓ => f266 w n (by omega) l pl cl (hΓ.get 0 rfl) n_ K1 M1 (hΓ.get 1 rfl) hokl hokn_) ?_
 intro hq1
 have q1 := l9F_lt l n_
 refine R0 ?_
 refine WX.cases 10 rfl (fun h1 => ?_) (fun h1 => ?_)
 ·skip
  have h1d := B.dt h1
  refine R0 ?_
  have hP1 : spec_SecretOf l n_ = 0 := by simp only [spec_SecretOf, h1, ct, cf]
  refine R1 ?_
  intro w1 G bs hI hΓ
  rw [hP1]
  exact ⟨rfl, (show I64 0 from (by unfold I64; omega))⟩
 ·skip
  have h1d := B.df h1
  refine R0 ?_
  have r1 : (l).length ≤ bd n := (okl hokl).1
  have r2 : -9223372036854775808 ≤ (spec_l9Find l n_) ∧ (spec_l9Find l n_) ≤ 9223372036854775807 := hq1
  refine WX.slot 12 (y := .v (.int .i64 ((((spec_l9Find l n_)).toNat : Nat) : Int))) rfl (fun _ => congrArg (Value.int .i64) (show (spec_l9Find l n_) = ((((spec_l9Find l n_)).toNat : Nat) : Int) from by omega)) ?_
  have e1i : ((spec_l9Find l n_)).toNat < (l).length := (by first | assumption | omega)
  obtain ⟨e1, e1h⟩ : ∃ e1, (l)[((spec_l9Find l n_)).toNat]? = some e1 := ⟨_, List.getElem?_eq_getElem e1i⟩
  have ok1 : GoT.ok n e1 := (okl hokl).2 _ (List.mem_of_getElem? e1h)
  refine WX.idx 0 (((spec_l9Find l n_)).toNat) ttOk rfl rfl rfl rfl rfl rfl rfl rfl rfl rfl e1i ?_
  rintro ad1 rfl
  refine R0 ?_
  refine WX.ldE 0 2 e1 ttOk rfl rfl rfl rfl rfl rfl rfl rfl e1h (fun _ => rfl) (fun _ => rfl) ?_
  rintro ⟨⟨p1, c1⟩, ⟨⟩⟩
  refine R0 ?_
  have hP2 : spec_SecretOf l n_ = e1.secret := by simp only [spec_SecretOf, h1, e1h, ct, cf]
  refine R1 ?_
  intro w1 G bs hI hΓ
  rw [hP2]
  exact ⟨rfl, (ok_Key ok1).2⟩
theorem f248 (w : World) (n : Nat) (hn : n + 7 ≤ 9) (secret : Int) (x_ : DataP) (K0 : Option Addr) (M0 : Nat) (N0 : RdSl (hp w) K0 M0 x_.name.parts) (K1 : Option Addr) (M1 : Nat) (N1 : RdSl (hp w) K1 M1 x_.content) (K2 : Option Addr) (M2 : Nat) (N2 : RdSl (hp w) K2 M2 x_.keyName.parts) (hoksecret : GoT.ok n secret) (hokx_ : GoT.ok n x_) :
  Does Tryz.prog 248 #[.int .i64 (secret), .agg #[.slice K0 ((x_.name.parts).length) M0, .slice K1 ((x_.content).length) M1, .slice K2 ((x_.keyName.parts).length) M2, .int .i64 (x_.freshUntil), .int .i64 (x_.signature)]] w emp (fun (rv : Value) (_ : World) => rv = .bool (spec_VerifyData secret x_) ∧ True) := by
 have hbP := bd_pos n
 have hbS0 : bd (n + 1) = 4 * bd (n) := bd_succ (n := n) (by omega)
 have hbS1 : bd (n + 2) = 4 * bd (n + 1) := bd_succ (n := n + 1) (by omega)
 have hbS2 : bd (n + 3) = 4 * bd (n + 2) := bd_succ (n := n + 2) (by omega)
 have hbS3 : bd (n + 4) = 4 * bd (n + 3) := bd_succ (n := n + 3) (by omega)
 have hbS4 : bd (n + 5) = 4 * bd (n + 4) := bd_succ (n := n + 4) (by omega)
 have hbS5 : bd (n + 6) = 4 * bd (n + 5) := bd_succ (n := n + 5) (by omega)
 have hbS6 : bd (n + 7) = 4 * bd (n + 6) := bd_succ (n := n + 6) (by omega)
 have hbB := bd_big (n := (n + 7)) (by omega)
 have hbM := bd_mono (show n ≤ n + 7 by omega)
 refine WX.enter (tt := tt) (Γ := [(0, MF.rs .stb K0 M0 x_.name.parts), (1, MF.rs .stb K1 M1 x_.content), (2, MF.rs .stb K2 M2 x_.keyName.parts)]) Tryz.func248 rfl (by kernel_rfl) rfl (allS_cons rfl N0 (allS_cons rfl N1 (allS_cons rfl N2 allS_nil))) ?_
 refine R0 ?_
 refine WX.draw [] mixed ?_
 intro bs G0 hΓ0
 refine DX.takes (fuel := 11) ttOk [(0, true)] (by kernel_rfl) rfl ?_
 refine DX.callV 1 rfl (by kernel_rfl) rfl rfl rfl rfl rfl rfl (fun _ => rfl) rfl (fun w G bs hI hΓ => f265 w n (by omega) secret hoksecret) ?_
 intro hq1
 refine DX.takes (fuel := 9) ttOk [(2, true)] (by kernel_rfl) rfl ?_
 refine DX.cases 7 rfl (fun h1 => ?_) (fun h1 => ?_)
 ·skip
  refine DX.takes (fuel := 5) ttOk [(3, true), (4, false), (5, true), (6, false)] (by kernel_rfl) rfl ?_
  refine DX.callF 7 3 (fun _ _ h => GoT.ow_rd h) (fun _ f hf => GoT.fak f hf) rfl (by kernel_rfl) rfl rfl rfl rfl rfl rfl (fun _ => rfl) rfl (fun w G bs hI hΓ => f262 w n (by omega) x_ K0 M0 (hΓ.get 0 rfl) K1 M1 (hΓ.get 1 rfl) K2 M2 (hΓ.get 2 rfl) hokx_) (fun _ => rfl) (fun _ => rfl) ?_
  rintro ⟨p1, c1⟩ hq2
  refine DX.callV 8 rfl (by kernel_rfl) rfl rfl rfl rfl rfl rfl (fun _ => rfl) rfl (fun w G bs hI hΓ => f261 w (n + 5) (by omega) secret (spec_SignedPortion x_) p1 c1 (hΓ.get 3 rfl) hoksecret hq2) ?_
  intro hq3
  refine DX.takes (fuel := 0) ttOk [(9, true), (10, true), (11, true)] (by kernel_rfl) rfl ?_
  refine DX.tail2 [] rfl rfl (by kernel_rfl) ?_
  refine R0 ?_
  have hP1 : spec_VerifyData secret x_ = (x_.signature == (spec_ComputeMAC secret (spec_SignedPortion x_))) := by simp only [spec_VerifyData, h1, ct, cf]
  exact R3 hP1
 ·skip
  refine DX.takes (fuel := 0) ttOk [(3, true), (4, true), (5, true), (6, true), (7, true), (8, true), (9, true), (10, true), (11, true)] (by kernel_rfl) rfl ?_
  refine DX.tail2 [] rfl rfl (by kernel_rfl) ?_
  refine R0 ?_
  have hP2 : spec_VerifyData secret x_ = false := by simp only [spec_VerifyData, h1, ct, cf]
  exact R3 hP2
theorem f233 (w : World) (n : Nat) (hn : n + 7 ≤ 9) (l : (List Key)) (pl : Option Addr) (cl : Nat) (N0 : RdSl (hp w) pl cl l) (x_ : DataP) (K1 : Option Addr) (M1 : Nat) (N1 : RdSl (hp w) K1 M1 x_.name.parts) (K2 : Option Addr) (M2 : Nat) (N2 : RdSl (hp w) K2 M2 x_.content) (K3 : Option Addr) (M3 : Nat) (N3 : RdSl (hp w) K3 M3 x_.keyName.parts) (hokl : GoT.ok n l) (hokx_ : GoT.ok n x_) :
  Does Tryz.prog 233 #[.slice pl ((l).length) cl, .agg #[.slice K1 ((x_.name.parts).length) M1, .slice K2 ((x_.content).length) M2, .slice K3 ((x_.keyName.parts).length) M3, .int .i64 (x_.freshUntil), .int .i64 (x_.signature)]] w emp (fun (rv : Value) (_ : World) => rv = .bool (spec_VerifySignature l x_) ∧ True) := by
 have hbP := bd_pos n
 have hbS0 : bd (n + 1) = 4 * bd (n) := bd_succ (n := n) (by omega)
 have hbS1 : bd (n + 2) = 4 * bd (n + 1) := bd_succ (n := n + 1) (by omega)
 have hbS2 : bd (n + 3) = 4 * bd (n + 2) := bd_succ (n := n + 2) (by omega)
 have hbS3 : bd (n + 4) = 4 * bd (n + 3) := bd_succ (n := n + 3) (by omega)
 have hbS4 : bd (n + 5) = 4 * bd (n + 4) := bd_succ (n := n + 4) (by omega)
 have hbS5 : bd (n + 6) = 4 * bd (n + 5) := bd_succ (n := n + 5) (by omega)
 have hbS6 : bd (n + 7) = 4 * bd (n + 6) := bd_succ (n := n + 6) (by omega)
 have hbB := bd_big (n := (n + 7)) (by omega)
 have hbM := bd_mono (show n ≤ n + 7 by omega)
 refine WX.enter (tt := tt) (Γ := [(0, MF.rs .stb pl cl l), (1, MF.rs .stb K1 M1 x_.name.parts), (2, MF.rs .stb K2 M2 x_.content), (3, MF.rs .stb K3 M3 x_.keyName.parts)]) Tryz.func233 rfl (by kernel_rfl) rfl (allS_cons rfl N0 (allS_cons rfl N1 (allS_cons rfl N2 (allS_cons rfl N3 allS_nil)))) ?_
 refine R0 ?_
 refine WX.draw [] mixed ?_
 intro bs G0 hΓ0
 refine DX.takes (fuel := 3) ttOk [(0, true), (1, true), (2, false), (4, false)] (by kernel_rfl) rfl ?_
 refine DX.callV 3 rfl (by kernel_rfl) rfl rfl rfl rfl rfl rfl (fun _ => rfl) rfl (fun w G bs hI hΓ => f249 w n (by omega) l pl cl (hΓ.get 0 rfl) x_.keyName K3 M3 (hΓ.get 3 rfl) hokl ((ok_DataP hokx_).2.2.1)) ?_
 intro hq1
 refine DX.callV 5 rfl (by kernel_rfl) rfl rfl rfl rfl rfl rfl (fun _ => rfl) rfl (fun w G bs hI hΓ => f248 w n (by omega) (spec_SecretOf l x_.keyName) x_ K1 M1 (hΓ.get 1 rfl) K2 M2 (hΓ.get 2 rfl) K3 M3 (hΓ.get 3 rfl) hq1 hokx_) ?_
 intro hq2
 refine DX.takes (fuel := 0) ttOk [(6, true)] (by kernel_rfl) rfl ?_
 refine DX.tail2 [] rfl rfl (by kernel_rfl) ?_
 refine R0 ?_
 have hP1 : spec_VerifySignature l x_ = (spec_VerifyData (spec_SecretOf l x_.keyName) x_) := by simp only [spec_VerifySignature, ct, cf]
 exact R3 hP1
theorem f254 (w : World) (n : Nat) (hn : n + 0 ≤ 9) (l : (List Key)) (pl : Option Addr) (cl : Nat) (N0 : RdSl (hp w) pl cl l) (n_ : Name) (K1 : Option Addr) (M1 : Nat) (N1 : RdSl (hp w) K1 M1 n_.parts) (hokl : GoT.ok n l) (hokn_ : GoT.ok n n_) :
  Does Tryz.prog 254 #[.slice pl ((l).length) cl, .agg #[.slice K1 ((n_.parts).length) M1]] w emp (fun (rv : Value) (_ : World) => rv = .int .i64 ((impl_SecretOf l n_)) ∧ GoT.ok n ((impl_SecretOf l n_) : Int)) := by
 have hbP := bd_pos n
 have hbB := bd_big (n := n) (by omega)
 refine WX.enter (tt := tt) (Γ := [(0, MF.rs .stb pl cl l), (1, MF.rs .stb K1 M1 n_.parts)]) Tryz.func254 rfl (by kernel_rfl) rfl (allS_cons rfl N0 (allS_cons rfl N1 allS_nil)) ?_
 refine R0 ?_
 have r1 : (l).length ≤ bd n := (okl hokl).1
 refine WX.loop (ι := Nat) ⟨fun i => (i ≤ (l).length) ∧ (impl_SecretOf_L1 n_ l = impl_SecretOf_L1 n_ ((l).drop i)), fun i => (l).length - i, fun i => [(9, .v (.int .i64 (((i : Nat) : Int)))), (8, .v (.int .i64 ((((l).length : Nat) : Int)))), (7, .v (.slice pl ((l).length) cl)), (3, .p 3 0)], fun i => [(3, ⟨30, [.slice K1 ((n_.parts).length) M1]⟩)], fun i => [], fun i => [(0, MF.rs .stb pl cl l), (1, MF.rs .stb K1 M1 n_.parts)]⟩ 0 ⟨(Nat.zero_le _), rfl⟩
  (.cons rfl (.cons rfl (.cons rfl (.cons rfl (.nil))))) (.cons rfl (.nil)) .nil [0, 1] rfl ?_
 rintro i hpre
 have hpre_ : (i ≤ (l).length) ∧ (impl_SecretOf_L1 n_ l = impl_SecretOf_L1 n_ ((l).drop i)) := hpre
 clear hpre
 obtain ⟨v1, v2⟩ := hpre_
 refine R0 ?_
 refine WX.cases 10 rfl (fun h1 => ?_) (fun h1 => ?_)
 ·skip
  have h1d := B.dt h1
  have e1i : i < (l).length := (by omega)
  obtain ⟨e1, e1h⟩ : ∃ e1, (l)[i]? = some e1 := ⟨_, List.getElem?_eq_getElem e1i⟩
  have ok1 : GoT.ok n e1 := (okl hokl).2 _ (List.mem_of_getElem? e1h)
  refine R0 ?_
  refine WX.idx 0 i ttOk rfl rfl rfl rfl rfl rfl rfl rfl rfl rfl e1i ?_
  rintro ad1 rfl
  refine WX.ldE 0 2 e1 ttOk rfl rfl rfl rfl rfl rfl rfl rfl e1h (fun _ => rfl) (fun _ => rfl) ?_
  rintro ⟨⟨p1, c1⟩, ⟨⟩⟩
  refine R0 ?_
  refine WX.callV rfl rfl rfl rfl rfl (fun _ => rfl) rfl (fun w G bs hI hΓ => f94 w n (by omega) e1.name p1 c1 (hΓ.get 2 rfl) n_ K1 M1 (hΓ.get 1 rfl) ((ok_Key ok1).1) hokn_) ?_
  intro hq1
  refine R0 ?_
  refine WX.cases 16 rfl (fun h2 => ?_) (fun h2 => ?_)
  ·skip
   refine R0 ?_
   have hP1 : impl_SecretOf_L1 n_ l = (some e1.secret) := by rw [v2, drop_get e1h]; simp only [impl_SecretOf_L1, h2, ct, cf]
   have hP2 : impl_SecretOf l n_ = e1.secret := by simp only [impl_SecretOf, hP1, ct, cf]
   refine R1 ?_
   intro w1 G bs hI hΓ
   rw [hP2]
   exact ⟨rfl, (ok_Key ok1).2⟩
  ·skip
   refine R0 ?_
   refine WX.see rfl rfl rfl (fun _ hΓ => looks_arith rfl rfl rfl rfl (by unfold I64; first | omega | (simp only [List.length_take] at *; omega))) ?_
   refine R0 ?_
   exact WX.iter (i + 1) ⟨(by omega), (by rw [v2, drop_get e1h]; simp only [impl_SecretOf_L1, h2, ct, cf])⟩ (by first | (dsimp only; omega) | omega) (.cons rfl (.cons rfl (.cons rfl (.cons rfl (.nil))))) (.cons rfl (.nil)) .nil [0, 1] rfl
 ·skip
  have h1d := B.df h1
  refine R0 ?_
  have hX1 : impl_SecretOf_L1 n_ l = none := by rw [v2, List.drop_eq_nil_of_le (show (l).length ≤ i by omega)]; simp only [impl_SecretOf_L1, ct, cf]
  have hP3 : impl_SecretOf l n_ = 0 := by simp only [impl_SecretOf, hX1, ct, cf]
  refine R1 ?_
  intro w1 G bs hI hΓ
  rw [hP3]
  exact ⟨rfl, (show I64 0 from (by unfold I64; omega))⟩
theorem f253 (w : World) (n : Nat) (hn : n + 6 ≤ 9) (secret : Int) (x_ : DataP) (K0 : Option Addr) (M0 : Nat) (N0 : RdSl (hp w) K0 M0 x_.name.parts) (K1 : Option Addr) (M1 : Nat) (N1 : RdSl (hp w) K1 M1 x_.content) (K2 : Option Addr) (M2 : Nat) (N2 : RdSl (hp w) K2 M2 x_.keyName.parts) (hoksecret : GoT.ok n secret) (hokx_ : GoT.ok n x_) :
  Does Tryz.prog 253 #[.int .i64 (secret), .agg #[.slice K0 ((x_.name.parts).length) M0, .slice K1 ((x_.content).length) M1, .slice K2 ((x_.keyName.parts).length) M2, .int .i64 (x_.freshUntil), .int .i64 (x_.signature)]] w emp (fun (rv : Value) (_ : World) => rv = .bool (impl_VerifyData secret x_) ∧ True) := by
 have hbP := bd_pos n
 have hbS0 : bd (n + 1) = 4 * bd (n) := bd_succ (n := n) (by omega)
 have hbS1 : bd (n + 2) = 4 * bd (n + 1) := bd_succ (n := n + 1) (by omega)
 have hbS2 : bd (n + 3) = 4 * bd (n + 2) := bd_succ (n := n + 2) (by omega)
 have hbS3 : bd (n + 4) = 4 * bd (n + 3) := bd_succ (n := n + 3) (by omega)
 have hbS4 : bd (n + 5) = 4 * bd (n + 4) := bd_succ (n := n + 4) (by omega)
 have hbS5 : bd (n + 6) = 4 * bd (n + 5) := bd_succ (n := n + 5) (by omega)
 have hbB := bd_big (n := (n + 6)) (by omega)
 have hbM := bd_mono (show n ≤ n + 6 by omega)
 refine WX.enter (tt := tt) (Γ := [(0, MF.rs .stb K0 M0 x_.name.parts), (1, MF.rs .stb K1 M1 x_.content), (2, MF.rs .stb K2 M2 x_.keyName.parts)]) Tryz.func253 rfl (by kernel_rfl) rfl (allS_cons rfl N0 (allS_cons rfl N1 (allS_cons rfl N2 allS_nil))) ?_
 refine R0 ?_
 refine WX.draw [] mixed ?_
 intro bs G0 hΓ0
 refine DX.takes (fuel := 11) ttOk [(0, true)] (by kernel_rfl) rfl ?_
 refine DX.callV 1 rfl (by kernel_rfl) rfl rfl rfl rfl rfl rfl (fun _ => rfl) rfl (fun w G bs hI hΓ => f270 w n (by omega) secret hoksecret) ?_
 intro hq1
 refine DX.takes (fuel := 9) ttOk [(2, true)] (by kernel_rfl) rfl ?_
 refine DX.cases 7 rfl (fun h1 => ?_) (fun h1 => ?_)
 ·skip
  refine DX.takes (fuel := 5) ttOk [(3, true), (4, false), (5, true), (6, false)] (by kernel_rfl) rfl ?_
  refine DX.callF 7 3 (fun _ _ h => GoT.ow_rd h) (fun _ f hf => GoT.fak f hf) rfl (by kernel_rfl) rfl rfl rfl rfl rfl rfl (fun _ => rfl) rfl (fun w G bs hI hΓ => f272 w n (by omega) x_ K0 M0 (hΓ.get 0 rfl) K1 M1 (hΓ.get 1 rfl) K2 M2 (hΓ.get 2 rfl) hokx_) (fun _ => rfl) (fun _ => rfl) ?_
  rintro ⟨p1, c1⟩ hq2
  refine DX.callV 8 rfl (by kernel_rfl) rfl rfl rfl rfl rfl rfl (fun _ => rfl) rfl (fun w G bs hI hΓ => f271 w (n + 5) (by omega) secret (impl_SignedPortion x_) p1 c1 (hΓ.get 3 rfl) hoksecret hq2) ?_
  intro hq3
  refine DX.takes (fuel := 0) ttOk [(9, true), (10, true), (11, true)] (by kernel_rfl) rfl ?_
  refine DX.tail2 [] rfl rfl (by kernel_rfl) ?_
  refine R0 ?_
  have hP1 : impl_VerifyData secret x_ = (x_.signature == (impl_ComputeMAC secret (impl_SignedPortion x_))) := by simp only [impl_VerifyData, h1, ct, cf]
  exact R3 hP1
 ·skip
  refine DX.takes (fuel := 0) ttOk [(3, true), (4, true), (5, true), (6, true), (7, true), (8, true), (9, true), (10, true), (11, true)] (by kernel_rfl) rfl ?_
  refine DX.tail2 [] rfl rfl (by kernel_rfl) ?_
  refine R0 ?_
  have hP2 : impl_VerifyData secret x_ = false := by simp only [impl_VerifyData, h1, ct, cf]
  exact R3 hP2
theorem f238 (w : World) (n : Nat) (hn : n + 6 ≤ 9) (l : (List Key)) (pl : Option Addr) (cl : Nat) (N0 : RdSl (hp w) pl cl l) (x_ : DataP) (K1 : Option Addr) (M1 : Nat) (N1 : RdSl (hp w) K1 M1 x_.name.parts) (K2 : Option Addr) (M2 : Nat) (N2 : RdSl (hp w) K2 M2 x_.content) (K3 : Option Addr) (M3 : Nat) (N3 : RdSl (hp w) K3 M3 x_.keyName.parts) (hokl : GoT.ok n l) (hokx_ : GoT.ok n x_) :
  Does Tryz.prog 238 #[.slice pl ((l).length) cl, .agg #[.slice K1 ((x_.name.parts).length) M1, .slice K2 ((x_.content).length) M2, .slice K3 ((x_.keyName.parts).length) M3, .int .i64 (x_.freshUntil), .int .i64 (x_.signature)]] w emp (fun (rv : Value) (_ : World) => rv = .bool (impl_VerifySignature l x_) ∧ True) := by
 have hbP := bd_pos n
 have hbS0 : bd (n + 1) = 4 * bd (n) := bd_succ (n := n) (by omega)
 have hbS1 : bd (n + 2) = 4 * bd (n + 1) := bd_succ (n := n + 1) (by omega)
 have hbS2 : bd (n + 3) = 4 * bd (n + 2) := bd_succ (n := n + 2) (by omega)
 have hbS3 : bd (n + 4) = 4 * bd (n + 3) := bd_succ (n := n + 3) (by omega)
 have hbS4 : bd (n + 5) = 4 * bd (n + 4) := bd_succ (n := n + 4) (by omega)
 have hbS5 : bd (n + 6) = 4 * bd (n + 5) := bd_succ (n := n + 5) (by omega)
 have hbB := bd_big (n := (n + 6)) (by omega)
 have hbM := bd_mono (show n ≤ n + 6 by omega)
 refine WX.enter (tt := tt) (Γ := [(0, MF.rs .stb pl cl l), (1, MF.rs .stb K1 M1 x_.name.parts), (2, MF.rs .stb K2 M2 x_.content), (3, MF.rs .stb K3 M3 x_.keyName.parts)]) Tryz.func238 rfl (by kernel_rfl) rfl (allS_cons rfl N0 (allS_cons rfl N1 (allS_cons rfl N2 (allS_cons rfl N3 allS_nil)))) ?_
 refine R0 ?_
 refine WX.draw [] mixed ?_
 intro bs G0 hΓ0
 refine DX.takes (fuel := 3) ttOk [(0, true), (1, true), (2, false), (4, false)] (by kernel_rfl) rfl ?_
 refine DX.callV 3 rfl (by kernel_rfl) rfl rfl rfl rfl rfl rfl (fun _ => rfl) rfl (fun w G bs hI hΓ => f254 w n (by omega) l pl cl (hΓ.get 0 rfl) x_.keyName K3 M3 (hΓ.get 3 rfl) hokl ((ok_DataP hokx_).2.2.1)) ?_
 intro hq1
 refine DX.callV 5 rfl (by kernel_rfl) rfl rfl rfl rfl rfl rfl (fun _ => rfl) rfl (fun w G bs hI hΓ => f253 w n (by omega) (impl_SecretOf l x_.keyName) x_ K1 M1 (hΓ.get 1 rfl) K2 M2 (hΓ.get 2 rfl) K3 M3 (hΓ.get 3 rfl) hq1 hokx_) ?_
 intro hq2
 refine DX.takes (fuel := 0) ttOk [(6, true)] (by kernel_rfl) rfl ?_
 refine DX.tail2 [] rfl rfl (by kernel_rfl) ?_
 refine R0 ?_
 have hP1 : impl_VerifySignature l x_ = (impl_VerifyData (impl_SecretOf l x_.keyName) x_) := by simp only [impl_VerifySignature, ct, cf]
 exact R3 hP1
theorem f293 (w : World) (n : Nat) (hn : n + 0 ≤ 9) (l : (List Binding)) (pl : Option Addr) (cl : Nat) (N0 : RdSl (hp w) pl cl l) (k : Str) (hokl : GoT.ok n l) (hokk : GoT.ok n k) :
  Does Tryz.prog 293 #[.slice pl ((l).length) cl, .string k] w emp (fun (rv : Value) (_ : World) => rv = .int .i64 ((spec_l5Find l k)) ∧ GoT.ok n ((spec_l5Find l k) : Int)) := by
 have hbP := bd_pos n
 have hbB := bd_big (n := n) (by omega)
 refine WX.enter (tt := tt) (Γ := [(0, MF.rs .stb pl cl l)]) Tryz.func293 rfl (by kernel_rfl) rfl (allS_cons rfl N0 allS_nil) ?_
 refine R0 ?_
 have r1 : (l).length ≤ bd n := (okl hokl).1
 refine WX.loop (ι := Nat) ⟨fun i => (i ≤ (l).length) ∧ (spec_l5Find_L1 k l 0 = spec_l5Find_L1 k ((l).drop i) i), fun i => (l).length - i, fun i => [(5, .v (.int .i64 (((i : Nat) : Int)))), (0, .v (.slice pl ((l).length) cl)), (1, .v (.string k))], fun i => [], fun i => [], fun i => [(0, MF.rs .stb pl cl l)]⟩ 0 ⟨(Nat.zero_le _), rfl⟩
  (.cons rfl (.cons rfl (.cons rfl (.nil)))) .nil .nil [0] rfl ?_
 rintro i hpre
 have hpre_ : (i ≤ (l).length) ∧ (spec_l5Find_L1 k l 0 = spec_l5Find_L1 k ((l).drop i) i) := hpre
 clear hpre
 obtain ⟨v1, v2⟩ := hpre_
 refine R0 ?_
 refine WX.cases 9 rfl (fun h1 => ?_) (fun h1 => ?_)
 ·skip
  have h1d := B.dt h1
  have e1i : i < (l).length := (by omega)
  obtain ⟨e1, e1h⟩ : ∃ e1, (l)[i]? = some e1 := ⟨_, List.getElem?_eq_getElem e1i⟩
  have ok1 : GoT.ok n e1 := (okl hokl).2 _ (List.mem_of_getElem? e1h)
  refine R0 ?_
  refine WX.idx 0 i ttOk rfl rfl rfl rfl rfl rfl rfl rfl rfl rfl e1i ?_
  rintro ad1 rfl
  refine R0 ?_
  refine WX.ldE 0 1 e1 ttOk rfl rfl rfl rfl rfl rfl rfl rfl e1h (fun _ => rfl) (fun _ => rfl) ?_
  rintro ⟨⟨⟩, ⟨⟩⟩
  refine R0 ?_
  refine WX.cases 18 rfl (fun h2 => ?_) (fun h2 => ?_)
  ·skip
   have h2d := B.et h2
   refine R0 ?_
   have hP1 : spec_l5Find_L1 k l 0 = (some ((i : Nat) : Int)) := by rw [v2, drop_get e1h]; simp only [spec_l5Find_L1, h2, ct, cf]
   have hP2 : spec_l5Find l k = ((i : Nat) : Int) := by simp only [spec_l5Find, hP1, ct, cf]
   refine R1 ?_
   intro w1 G bs hI hΓ
   rw [hP2]
   exact ⟨rfl, (show I64 ((i : Nat) : Int) from (by unfold I64; omega))⟩
  ·skip
   have h2d := B.ef h2
   refine R0 ?_
   refine WX.see rfl rfl rfl (fun _ hΓ => looks_arith rfl rfl rfl rfl (by unfold I64; first | omega | (simp only [List.length_take] at *; omega))) ?_
   refine R0 ?_
   exact WX.iter (i + 1) ⟨(by omega), (by rw [v2, drop_get e1h]; simp only [spec_l5Find_L1, h2, ct, cf])⟩ (by first | (dsimp only; omega) | omega) (.cons rfl (.cons rfl (.cons rfl (.nil)))) .nil .nil [0] rfl
 ·skip
  have h1d := B.df h1
  refine R0 ?_
  have hX1 : spec_l5Find_L1 k l 0 = none := by rw [v2, List.drop_eq_nil_of_le (show (l).length ≤ i by omega)]; simp only [spec_l5Find_L1, ct, cf]
  have hP3 : spec_l5Find l k = (-1) := by simp only [spec_l5Find, hX1, ct, cf]
  refine R1 ?_
  intro w1 G bs hI hΓ
  rw [hP3]
  exact ⟨rfl, (show I64 (-1) from (by unfold I64; omega))⟩
theorem f281 (w : World) (n : Nat) (hn : n + 1 ≤ 9) (p_ : Pattern) (K0 : Option Addr) (M0 : Nat) (N0 : RdSl (hp w) K0 M0 p_.parts) (n_ : Name) (K1 : Option Addr) (M1 : Nat) (N1 : RdSl (hp w) K1 M1 n_.parts) (l : (List Binding)) (pl : Option Addr) (cl : Nat) (N2 : RdSl (hp w) pl cl l) (hokp_ : GoT.ok n p_) (hokn_ : GoT.ok n n_) (hokl : GoT.ok n l) :
  Does Tryz.prog 281 #[.agg #[.slice K0 ((p_.parts).length) M0], .agg #[.slice K1 ((n_.parts).length) M1], .slice pl ((l).length) cl] w emp (Post w emp (fun x : GoT.X ((List Binding)) => .tuple #[(GoT.sh ((spec_Match p_ n_ l).1 : (List Binding)) x).headD undef, .bool ((spec_Match p_ n_ l).2)]) (fun x => GoT.oa ((spec_Match p_ n_ l).1 : (List Binding)) x) (GoT.ok (n + 1) ((spec_Match p_ n_ l).1 : (List Binding)))) := by
 have hbP := bd_pos n
 have hbS0 : bd (n + 1) = 4 * bd (n) := bd_succ (n := n) (by omega)
 have hbB := bd_big (n := (n + 1)) (by omega)
 have hbM := bd_mono (show n ≤ n + 1 by omega)
 refine WX.enter (tt := tt) (Γ := [(0, MF.rs .stb K0 M0 p_.parts), (1, MF.rs .stb K1 M1 n_.parts), (2, MF.rs .stb pl cl l)]) Tryz.func281 rfl (by kernel_rfl) rfl (allS_cons rfl N0 (allS_cons rfl N1 (allS_cons rfl N2 allS_nil))) ?_
 refine R0 ?_
 refine WX.bld ttOk rfl rfl rfl rfl rfl rfl rfl ?_
 intro p1
 refine R0 ?_
 refine WX.free 3 (MF.ol [] ([] : List Binding)) rfl ?_
 have r1 : (l).length ≤ bd n := (okl hokl).1
 refine WX.appG1 13 2 4 (l : List Binding).length ttOk rfl rfl rfl rfl rfl rfl rfl rfl rfl rfl rfl rfl rfl (by first | (simp; done) | (simp; omega)) (by omega) (by omega) (fun _ _ _ => rfl) ?_
 intro ys1 p2 c1
 refine WX.know (fun G hΓ => (hΓ.get 4 rfl : RdL _ _ _).flat) ?_
 intro hf1
 refine WX.turn [3] 5 rfl (fun h hs => ol_flat hs hf1) (gs := [MF.ol ([] ++ ys1) (l : List Binding)]) rfl ?_
 refine R0 ?_
 refine WX.callV rfl rfl rfl rfl rfl (fun _ => rfl) rfl (fun w G bs hI hΓ => f291 w n (by omega) p_ K0 M0 (hΓ.get 0 rfl) hokp_) ?_
 intro hq1
 refine R0 ?_
 refine WX.cases 19 rfl (fun h1 => ?_) (fun h1 => ?_)
 ·skip
  have h1d := (B.nt h1)
  refine R0 ?_
  refine WX.seal 13 5 6 rfl rfl rfl rfl rfl ?_
  have hP1 : spec_Match p_ n_ l = (l, false) := by simp only [spec_Match, h1, ct, cf]
  refine R1 ?_
  intro w1 G bs hI hΓ
  rw [hP1]
  exact Post.of [7] (p2, c1) hI hΓ rfl rfl rfl (okl_mk (by omega) (fun a ha => GoT.okm (by omega) ((okl hokl).2 a ha)) : GoT.ok (n + 1) (l : List Binding))
 ·skip
  have h1d := (B.nf h1)
  refine R0 ?_
  refine WX.callV rfl rfl rfl rfl rfl (fun _ => rfl) rfl (fun w G bs hI hΓ => f100 w n (by omega) n_ K1 M1 (hΓ.get 1 rfl) hokn_) ?_
  intro hq2
  refine R0 ?_
  refine WX.cases 23 rfl (fun h2 => ?_) (fun h2 => ?_)
  ·skip
   have h2d := (B.nt h2)
   refine R0 ?_
   refine WX.seal 13 5 8 rfl rfl rfl rfl rfl ?_
   have hP2 : spec_Match p_ n_ l = (l, false) := by simp only [spec_Match, h1, h2, ct, cf]
   refine R1 ?_
   intro w1 G bs hI hΓ
   rw [hP2]
   exact Post.of [9] (p2, c1) hI hΓ rfl rfl rfl (okl_mk (by omega) (fun a ha => GoT.okm (by omega) ((okl hokl).2 a ha)) : GoT.ok (n + 1) (l : List Binding))
  ·skip
   have h2d := (B.nf h2)
   refine R0 ?_
   refine WX.bld ttOk rfl rfl rfl rfl rfl rfl rfl ?_
   intro p3
   refine R0 ?_
   refine WX.free 10 (MF.ol [] ([] : List Binding)) rfl ?_
   refine WX.appG1 25 2 11 (l : List Binding).length ttOk rfl rfl rfl rfl rfl rfl rfl rfl rfl rfl rfl rfl rfl (by first | (simp; done) | (simp; omega)) (by omega) (by omega) (fun _ _ _ => rfl) ?_
   intro ys2 p4 c2
   refine WX.know (fun G hΓ => (hΓ.get 11 rfl : RdL _ _ _).flat) ?_
   intro hf2
   refine WX.turn [10] 12 rfl (fun h hs => ol_flat hs hf2) (gs := [MF.ol ([] ++ ys2) (l : List Binding)]) rfl ?_
   refine R0 ?_
   refine WX.seal 25 12 13 rfl rfl rfl rfl rfl ?_
   have r2 : (p_.parts).length ≤ bd n := (okl (ok_Pattern hokp_)).1
   refine WX.loop (ι := (Option Addr) × Nat × (List Binding) × Nat) ⟨fun | (pout, cout, out, i) => (i ≤ (p_.parts).length) ∧ (out.length ≤ bd (n + 1) ∧ ∀ z_ ∈ out, GoT.ok (n + 1) z_) ∧ (out.length ≤ i + (l).length) ∧ (spec_Match_L1 n_ l p_.parts 0 (l : List Binding) = spec_Match_L1 n_ l ((p_.parts).drop i) i out), fun | (pout, cout, out, i) => (p_.parts).length - i, fun | (pout, cout, out, i) => [(9, .v (.slice pout ((out).length) cout)), (10, .v (.int .i64 (((i : Nat) : Int)))), (8, .v (.slice p2 ((l).length) c1)), (4, .p 4 0), (3, .p 3 0)], fun | (pout, cout, out, i) => [(4, ⟨30, [.slice K1 ((n_.parts).length) M1]⟩), (3, ⟨219, [.slice K0 ((p_.parts).length) M0]⟩)], fun | (pout, cout, out, i) => [(13, ⟨2, p2, (l).length, c1, ([] ++ ys1)⟩)], fun | (pout, cout, out, i) => [(0, MF.rs .stb K0 M0 p_.parts), (1, MF.rs .stb K1 M1 n_.parts), (2, MF.rs .stb pl cl l), (5, MF.ol ([] ++ ys1) (l : List Binding)), (14, MF.os pout cout out)]⟩ (p4, c2, (l : List Binding), 0) ⟨(Nat.zero_le _), (okl_mk (by omega) (fun a ha => GoT.okm (by omega) ((okl hokl).2 a ha)) : GoT.ok (n + 1) (l : List Binding)), (by simp), rfl⟩
    (.cons rfl (.cons rfl (.cons rfl (.cons rfl (.cons rfl (.nil)))))) (.cons rfl (.cons rfl (.nil))) (.cons rfl (.nil)) [0, 1, 2, 5, 14] rfl ?_
   rintro ⟨pout, cout, out, i⟩ hpre
   have hpre_ : (i ≤ (p_.parts).length) ∧ (out.length ≤ bd (n + 1) ∧ ∀ z_ ∈ out, GoT.ok (n + 1) z_) ∧ (out.length ≤ i + (l).length) ∧ (spec_Match_L1 n_ l p_.parts 0 (l : List Binding) = spec_Match_L1 n_ l ((p_.parts).drop i) i out) := hpre
   clear hpre
   obtain ⟨v1, v2, v3, v4⟩ := hpre_
   have v2L := v2.1
   refine R0 ?_
   refine WX.cases 32 rfl (fun h3 => ?_) (fun h3 => ?_)
   ·skip
    have h3d := B.dt h3
    have e1i : i < (p_.parts).length := (by omega)
    obtain ⟨e1, e1h⟩ : ∃ e1, (p_.parts)[i]? = some e1 := ⟨_, List.getElem?_eq_getElem e1i⟩
    have ok1 : GoT.ok n e1 := (okl (ok_Pattern hokp_)).2 _ (List.mem_of_getElem? e1h)
    refine R0 ?_
    refine WX.idx 0 i ttOk rfl rfl rfl rfl rfl rfl rfl rfl rfl rfl e1i ?_
    rintro ad1 rfl
    refine WX.ldE 0 15 e1 ttOk rfl rfl rfl rfl rfl rfl rfl rfl e1h (fun _ => rfl) (fun _ => rfl) ?_
    rintro ⟨⟩
    refine R0 ?_
    refine WX.cases 41 rfl (fun h4 => ?_) (fun h4 => ?_)
    ·skip
     have h4d := B.et h4
     refine R0 ?_
     have hP3 : spec_Match_L1 n_ l p_.parts 0 (l : List Binding) = (Ctl.ret (out, true)) := by rw [v4, drop_get e1h]; simp only [spec_Match_L1, h4, ct, cf]
     have hP4 : spec_Match p_ n_ l = (out, true) := by simp only [spec_Match, h1, h2, hP3, ct, cf]
     refine R1 ?_
     intro w1 G bs hI hΓ
     rw [hP4]
     exact Post.of [14] (pout, cout) hI hΓ rfl rfl rfl (okl_of v2)
    ·skip
     have h4d := B.ef h4
     refine R0 ?_
     refine WX.cases 47 rfl (fun h5 => ?_) (fun h5 => ?_)
     ·skip
      have h5d := B.dt h5
      refine R0 ?_
      refine WX.seal 13 5 15 rfl rfl rfl rfl rfl ?_
      have hP5 : spec_Match_L1 n_ l p_.parts 0 (l : List Binding) = (Ctl.ret (l, false)) := by rw [v4, drop_get e1h]; simp only [spec_Match_L1, h4, h5, ct, cf]
      have hP6 : spec_Match p_ n_ l = (l, false) := by simp only [spec_Match, h1, h2, hP5, ct, cf]
      refine R1 ?_
      intro w1 G bs hI hΓ
      rw [hP6]
      exact Post.of [16] (p2, c1) hI hΓ rfl rfl rfl (okl_mk (by omega) (fun a ha => GoT.okm (by omega) ((okl hokl).2 a ha)) : GoT.ok (n + 1) (l : List Binding))
     ·skip
      have h5d := B.df h5
      refine R0 ?_
      refine WX.cases 49 rfl (fun h6 => ?_) (fun h6 => ?_)
      ·skip
       have h6d := B.et h6
       refine R0 ?_
       refine WX.see rfl rfl rfl (fun _ hΓ => looks_arith rfl rfl rfl rfl (by unfold I64; first | omega | (simp only [List.length_take] at *; omega))) ?_
       refine R0 ?_
       exact WX.iter (pout, cout, out, i + 1) ⟨(by omega), (okl_of v2), (by first | assumption | omega | (simp; omega)), (by rw [v4, drop_get e1h]; simp only [spec_Match_L1, h4, h5, h6, ct, cf])⟩ (by first | (dsimp only; omega) | omega) (.cons rfl (.cons rfl (.cons rfl (.cons rfl (.cons rfl (.nil)))))) (.cons rfl (.cons rfl (.nil))) (.cons rfl (.nil)) [0, 1, 2, 5, 14] rfl
      ·skip
       have h6d := B.ef h6
       refine R0 ?_
       refine WX.callV rfl rfl rfl rfl rfl (fun _ => rfl) rfl (fun w G bs hI hΓ => f292 w n (by omega) e1 ok1) ?_
       intro hq3
       refine R0 ?_
       refine WX.cases 52 rfl (fun h7 => ?_) (fun h7 => ?_)
       ·skip
        refine R0 ?_
        refine WX.der 17 (MF.rs .der pout cout out) rfl (fun _ hΓ => (hΓ.get 14 rfl : OwSl _ _ _ _).rd) ?_
        refine WX.callV rfl rfl rfl rfl rfl (fun _ => rfl) rfl (fun w G bs hI hΓ => f293 w (n + 1) (by omega) out pout cout (hΓ.get 17 rfl) e1 (okl_of v2) (GoT.okm (α := Str) (by omega) ok1)) ?_
        intro hq4
        have q1 := l5F_lt out e1
        refine R0 ?_
        refine WX.cases 59 rfl (fun h8 => ?_) (fun h8 => ?_)
        ·skip
         have h8d := B.dt h8
         refine R0 ?_
         have e2i : i < (n_.parts).length := (by first | assumption | omega)
         obtain ⟨e2, e2h⟩ : ∃ e2, (n_.parts)[i]? = some e2 := ⟨_, List.getElem?_eq_getElem e2i⟩
         have ok2 : GoT.ok n e2 := (okl (ok_Name hokn_)).2 _ (List.mem_of_getElem? e2h)
         refine WX.idx 1 i ttOk rfl rfl rfl rfl rfl rfl rfl rfl rfl rfl e2i ?_
         rintro ad2 rfl
         refine WX.ldE 1 18 e2 ttOk rfl rfl rfl rfl rfl rfl rfl rfl e2h (fun _ => rfl) (fun _ => rfl) ?_
         rintro ⟨⟩
         refine R0 ?_
         refine WX.bld ttOk rfl rfl rfl rfl rfl rfl rfl ?_
         intro p5
         refine WX.opn (kk := 2) 501 14 18 rfl rfl rfl ?_
         intro xs1 hx1
         refine WX.turn [] 19 rfl (fun h hs => ol_one (α := Binding) (a := (Binding.mk e1 e2)) (x := ((), ())) hs) (gs := [MF.ol [.string e1, .string e2] ([(Binding.mk e1 e2)] : List Binding)]) rfl ?_
         have r3 : (e1).size ≤ bd n := ok1
         have r4 : (e2).size ≤ bd n := ok2
         refine WX.know (fun G hΓ => (hΓ.get 19 rfl : OwL _ _ _).rd.one) ?_
         intro ho1
         refine WX.appR1 501 68 ((out ++ [(Binding.mk e1 e2)]) : List Binding).length ttOk rfl rfl rfl rfl rfl rfl rfl rfl rfl rfl rfl rfl rfl ho1 (by simp) (by simp; omega) (by simp; omega) (fun _ _ => rfl) ?_
         intro p6 c3
         refine WX.turn [18, 19] 20 rfl (fun h hs => ol_app hs) (gs := [MF.ol (xs1 ++ [.string e1, .string e2]) ((out ++ [(Binding.mk e1 e2)]) : List Binding)]) rfl ?_
         refine R0 ?_
         refine WX.see rfl rfl rfl (fun _ hΓ => looks_arith rfl rfl rfl rfl (by unfold I64; first | omega | (simp only [List.length_take] at *; omega))) ?_
         refine R0 ?_
         refine WX.seal 501 20 21 rfl rfl rfl rfl rfl ?_
         refine WX.turn [22] 14 rfl (fun _ h => h) rfl ?_
         exact WX.iter (p6, c3, (out ++ [(Binding.mk e1 e2)]), i + 1) ⟨(by omega), (okl_mk (by simp; omega) (all_app v2.2 (fun a ha => GoT.okm (by omega) ((all_cons (α := Binding) (And.intro ok1 ok2) (fun a ha => by cases ha)) a ha))) : GoT.ok (n + 1) ((out ++ [(Binding.mk e1 e2)]) : List Binding)), (by first | assumption | omega | (simp; omega)), (by rw [v4, drop_get e1h]; simp only [spec_Match_L1, h4, h5, h6, h7, h8, e2h, ct, cf])⟩ (by first | (dsimp only; omega) | omega) (.cons rfl (.cons rfl (.cons rfl (.cons rfl (.cons rfl (.nil)))))) (.cons rfl (.cons rfl (.nil))) (.cons rfl (.nil)) [0, 1, 2, 5, 14] rfl
        ·skip
         have h8d := B.df h8
         refine R0 ?_
         refine WX.draw [] mixed ?_
         intro bs G0 hΓ0
         refine DX.takes (fuel := 9) ttOk [(0, true), (1, true)] (by kernel_rfl) rfl ?_
         have r5 : (e1).size ≤ bd n := ok1
         have r6 : -9223372036854775808 ≤ (spec_l5Find out e1) ∧ (spec_l5Find out e1) ≤ 9223372036854775807 := hq4
         refine DX.slot 71 (y := .v (.int .i64 ((((spec_l5Find out e1)).toNat : Nat) : Int))) rfl (fun _ => congrArg (Value.int .i64) (show (spec_l5Find out e1) = ((((spec_l5Find out e1)).toNat : Nat) : Int) from by omega)) ?_
         have e3i : ((spec_l5Find out e1)).toNat < (out).length := (by first | assumption | omega)
         obtain ⟨e3, e3h⟩ : ∃ e3, (out)[((spec_l5Find out e1)).toNat]? = some e3 := ⟨_, List.getElem?_eq_getElem e3i⟩
         have ok3 : GoT.ok (n + 1) e3 := v2.2 _ (List.mem_of_getElem? e3h)
         refine DX.idx 2 17 (((spec_l5Find out e1)).toNat) ttOk hΓ0 (by kernel_rfl) rfl rfl rfl rfl rfl rfl rfl rfl rfl rfl rfl e3i ?_
         rintro ad3 rfl
         refine DX.takes (fuel := 7) ttOk [(3, true)] (by kernel_rfl) rfl ?_
         refine DX.ldE 4 17 23 e3 ttOk hΓ0 (by kernel_rfl) rfl rfl rfl rfl rfl rfl rfl rfl e3h (fun _ => rfl) (fun _ => rfl) ?_
         rintro ⟨⟨⟩, ⟨⟩⟩
         refine DX.takes (fuel := 3) ttOk [(5, true), (6, false), (7, true)] (by kernel_rfl) rfl ?_
         have e4i : i < (n_.parts).length := (by first | assumption | omega)
         obtain ⟨e4, e4h⟩ : ∃ e4, (n_.parts)[i]? = some e4 := ⟨_, List.getElem?_eq_getElem e4i⟩
         have ok4 : GoT.ok n e4 := (okl (ok_Name hokn_)).2 _ (List.mem_of_getElem? e4h)
         refine DX.idx 8 1 i ttOk hΓ0 (by kernel_rfl) rfl rfl rfl rfl rfl rfl rfl rfl rfl rfl rfl e4i ?_
         rintro ad4 rfl
         refine DX.ldE 9 1 23 e4 ttOk hΓ0 (by kernel_rfl) rfl rfl rfl rfl rfl rfl rfl rfl e4h (fun _ => rfl) (fun _ => rfl) ?_
         rintro ⟨⟩
         refine DX.takes (fuel := 0) ttOk [(10, true)] (by kernel_rfl) rfl ?_
         refine DX.tail2 [] rfl rfl (by kernel_rfl) ?_
         refine R0 ?_
         refine WX.cases 80 rfl (fun h9 => ?_) (fun h9 => ?_)
         ·skip
          have h9d := B.ef (B.nt h9)
          refine R0 ?_
          refine WX.seal 13 5 23 rfl rfl rfl rfl rfl ?_
          have hP7 : spec_Match_L1 n_ l p_.parts 0 (l : List Binding) = (Ctl.ret (l, false)) := by rw [v4, drop_get e1h]; simp only [spec_Match_L1, h4, h5, h6, h7, h8, e3h, e4h, h9, ct, cf]
          have hP8 : spec_Match p_ n_ l = (l, false) := by simp only [spec_Match, h1, h2, hP7, ct, cf]
          refine R1 ?_
          intro w1 G bs hI hΓ
          rw [hP8]
          exact Post.of [24] (p2, c1) hI hΓ rfl rfl rfl (okl_mk (by omega) (fun a ha => GoT.okm (by omega) ((okl hokl).2 a ha)) : GoT.ok (n + 1) (l : List Binding))
         ·skip
          have h9d := B.et (B.nf h9)
          refine R0 ?_
          refine WX.see rfl rfl rfl (fun _ hΓ => looks_arith rfl rfl rfl rfl (by unfold I64; first | omega | (simp only [List.length_take] at *; omega))) ?_
          refine R0 ?_
          exact WX.iter ((some ad3), cout, out, i + 1) ⟨(by omega), (okl_of v2), (by first | assumption | omega | (simp; omega)), (by rw [v4, drop_get e1h]; simp only [spec_Match_L1, h4, h5, h6, h7, h8, e3h, e4h, h9, ct, cf])⟩ (by first | (dsimp only; omega) | omega) (.cons rfl (.cons rfl (.cons rfl (.cons rfl (.cons rfl (.nil)))))) (.cons rfl (.cons rfl (.nil))) (.cons rfl (.nil)) [0, 1, 2, 5, 14] rfl
       ·skip
        refine R0 ?_
        have e5i : i < (n_.parts).length := (by first | assumption | omega)
        obtain ⟨e5, e5h⟩ : ∃ e5, (n_.parts)[i]? = some e5 := ⟨_, List.getElem?_eq_getElem e5i⟩
        have ok5 : GoT.ok n e5 := (okl (ok_Name hokn_)).2 _ (List.mem_of_getElem? e5h)
        refine WX.idx 1 i ttOk rfl rfl rfl rfl rfl rfl rfl rfl rfl rfl e5i ?_
        rintro ad5 rfl
        refine WX.ldE 1 25 e5 ttOk rfl rfl rfl rfl rfl rfl rfl rfl e5h (fun _ => rfl) (fun _ => rfl) ?_
        rintro ⟨⟩
        refine R0 ?_
        refine WX.cases 82 rfl (fun h10 => ?_) (fun h10 => ?_)
        ·skip
         have h10d := B.ef (B.nt h10)
         refine R0 ?_
         refine WX.seal 13 5 25 rfl rfl rfl rfl rfl ?_
         have hP9 : spec_Match_L1 n_ l p_.parts 0 (l : List Binding) = (Ctl.ret (l, false)) := by rw [v4, drop_get e1h]; simp only [spec_Match_L1, h4, h5, h6, h7, e5h, h10, ct, cf]
         have hP10 : spec_Match p_ n_ l = (l, false) := by simp only [spec_Match, h1, h2, hP9, ct, cf]
         refine R1 ?_
         intro w1 G bs hI hΓ
         rw [hP10]
         exact Post.of [26] (p2, c1) hI hΓ rfl rfl rfl (okl_mk (by omega) (fun a ha => GoT.okm (by omega) ((okl hokl).2 a ha)) : GoT.ok (n + 1) (l : List Binding))
        ·skip
         have h10d := B.et (B.nf h10)
         refine R0 ?_
         refine WX.see rfl rfl rfl (fun _ hΓ => looks_arith rfl rfl rfl rfl (by unfold I64; first | omega | (simp only [List.length_take] at *; omega))) ?_
         refine R0 ?_
         exact WX.iter (pout, cout, out, i + 1) ⟨(by omega), (okl_of v2), (by first | assumption | omega | (simp; omega)), (by rw [v4, drop_get e1h]; simp only [spec_Match_L1, h4, h5, h6, h7, e5h, h10, ct, cf])⟩ (by first | (dsimp only; omega) | omega) (.cons rfl (.cons rfl (.cons rfl (.cons rfl (.cons rfl (.nil)))))) (.cons rfl (.cons rfl (.nil))) (.cons rfl (.nil)) [0, 1, 2, 5, 14] rfl
   ·skip
    have h3d := B.df h3
    refine R0 ?_
    have hX1 : spec_Match_L1 n_ l p_.parts 0 (l : List Binding) = (Ctl.nxt ((out) : List Binding)) := by rw [v4, List.drop_eq_nil_of_le (show (p_.parts).length ≤ i by omega)]; simp only [spec_Match_L1, ct, cf]
    refine WX.cases 97 rfl (fun h11 => ?_) (fun h11 => ?_)
    ·skip
     have h11d := B.nt' h11
     refine R0 ?_
     refine WX.seal 13 5 27 rfl rfl rfl rfl rfl ?_
     have hP11 : spec_Match p_ n_ l = (l, false) := by simp only [spec_Match, h1, h2, hX1, h11, ct, cf]
     refine R1 ?_
     intro w1 G bs hI hΓ
     rw [hP11]
     exact Post.of [28] (p2, c1) hI hΓ rfl rfl rfl (okl_mk (by omega) (fun a ha => GoT.okm (by omega) ((okl hokl).2 a ha)) : GoT.ok (n + 1) (l : List Binding))
    ·skip
     have h11d := B.nf' h11
     refine R0 ?_
     have hP12 : spec_Match p_ n_ l = (out, true) := by simp only [spec_Match, h1, h2, hX1, h11, ct, cf]
     refine R1 ?_
     intro w1 G bs hI hΓ
     rw [hP12]
     exact Post.of [14] (pout, cout) hI hΓ rfl rfl rfl (okl_of v2)
theorem f297 (w : World) (n : Nat) (hn : n + 0 ≤ 9) (s : (List Binding)) (ps : Option Addr) (cs : Nat) (N0 : RdSl (hp w) ps cs s) (hoks : GoT.ok n s) :
  Does Tryz.prog 297 #[.slice ps ((s).length) cs] w emp (Post w emp (fun x : GoT.X ((List Binding)) => (GoT.sh (s : (List Binding)) x).headD undef) (fun x => GoT.oa (s : (List Binding)) x) (GoT.ok n (s : (List Binding)))) := by
 have hbP := bd_pos n
 have hbB := bd_big (n := n) (by omega)
 refine WX.enter (tt := tt) (Γ := [(0, MF.rs .stb ps cs s)]) Tryz.func297 rfl (by kernel_rfl) rfl (allS_cons rfl N0 allS_nil) ?_
 refine R0 ?_
 refine WX.see rfl rfl rfl (fun _ hΓ => looks_nil ttOk rfl rfl rfl rfl) ?_
 refine WX.cases 4 rfl (fun hp1 => ?_) (fun hp1 => ?_)
 ·skip
  obtain rfl : ps = none := by simpa using hp1
  refine WX.know (fun G hΓ => rdSl_none (hΓ.get 0 rfl)) ?_
  intro ln1
  refine R0 ?_
  subst ln1
  refine WX.free 1 (MF.os none 0 ([] : List Binding)) (owSl_nil _ _) ?_
  refine R1 ?_
  intro w1 G bs hI hΓ
  exact Post.of [1] (none, 0) hI hΓ rfl rfl rfl (by assumption)
 ·skip
  refine R0 ?_
  refine WX.bld ttOk rfl rfl rfl rfl rfl rfl rfl ?_
  intro p1
  refine R0 ?_
  refine WX.free 2 (MF.ol [] ([] : List Binding)) rfl ?_
  have r1 : (s).length ≤ bd n := (okl hoks).1
  refine WX.appG1 5 0 3 (s : List Binding).length ttOk rfl rfl rfl rfl rfl rfl rfl rfl rfl rfl rfl rfl rfl (by first | (simp; done) | (simp; omega)) (by omega) (by omega) (fun _ _ _ => rfl) ?_
  intro ys1 p2 c1
  refine WX.know (fun G hΓ => (hΓ.get 3 rfl : RdL _ _ _).flat) ?_
  intro hf1
  refine WX.turn [2] 4 rfl (fun h hs => ol_flat hs hf1) (gs := [MF.ol ([] ++ ys1) (s : List Binding)]) rfl ?_
  refine R0 ?_
  refine WX.seal 5 4 5 rfl rfl rfl rfl rfl ?_
  refine R1 ?_
  intro w1 G bs hI hΓ
  exact Post.of [6] (p2, c1) hI hΓ rfl rfl rfl (by assumption)
theorem f299 (w : World) (n : Nat) (hn : n + 0 ≤ 9) (s : (List Binding)) (ps : Option Addr) (cs : Nat) (N0 : RdSl (hp w) ps cs s) (fg : FuncId) (fc : List Value) (fq : Binding → Bool) (ff : ∀ w1, Kp emp w w1 → ∀ (e0 : Binding) (x0 : GoT.X Binding), GoT.ok n e0 → All (hp w1) (GoT.fa .der e0 x0) → Does Tryz.prog fg ([Value.agg ⟨GoT.sh e0 x0⟩] ++ fc).toArray w1 emp (fun rv _ => rv = .bool (fq e0) ∧ True)) (hoks : GoT.ok n s) :
  Does Tryz.prog 299 #[.slice ps ((s).length) cs, .func (.func fg) #[] fc.toArray] w emp (fun (rv : Value) (_ : World) => rv = .int .i64 ((slices_IndexFunc_Binding s fq)) ∧ GoT.ok n ((slices_IndexFunc_Binding s fq) : Int)) := by
 have hbP := bd_pos n
 have hbB := bd_big (n := n) (by omega)
 refine WX.enter (tt := tt) (Γ := [(0, MF.rs .stb ps cs s)]) Tryz.func299 rfl (by kernel_rfl) rfl (allS_cons rfl N0 allS_nil) ?_
 refine R0 ?_
 have r1 : (s).length ≤ bd n := (okl hoks).1
 refine WX.loop (ι := Nat) ⟨fun i => (i ≤ (s).length) ∧ (slices_IndexFunc_Binding_L1 fq s 0 = slices_IndexFunc_Binding_L1 fq ((s).drop i) i), fun i => (s).length - i, fun i => [(8, .v (.int .i64 (((i : Nat) : Int)))), (7, .v (.int .i64 ((((s).length : Nat) : Int)))), (0, .v (.slice ps ((s).length) cs)), (1, .v (.func (.func fg) #[] fc.toArray))], fun i => [], fun i => [], fun i => [(0, MF.rs .stb ps cs s)]⟩ 0 ⟨(Nat.zero_le _), rfl⟩
  (.cons rfl (.cons rfl (.cons rfl (.cons rfl (.nil))))) .nil .nil [0] rfl ?_
 rintro i hpre
 have hpre_ : (i ≤ (s).length) ∧ (slices_IndexFunc_Binding_L1 fq s 0 = slices_IndexFunc_Binding_L1 fq ((s).drop i) i) := hpre
 clear hpre
 obtain ⟨v1, v2⟩ := hpre_
 refine R0 ?_
 refine WX.cases 9 rfl (fun h1 => ?_) (fun h1 => ?_)
 ·skip
  have h1d := B.dt h1
  have e1i : i < (s).length := (by omega)
  obtain ⟨e1, e1h⟩ : ∃ e1, (s)[i]? = some e1 := ⟨_, List.getElem?_eq_getElem e1i⟩
  have ok1 : GoT.ok n e1 := (okl hoks).2 _ (List.mem_of_getElem? e1h)
  refine R0 ?_
  refine WX.idx 0 i ttOk rfl rfl rfl rfl rfl rfl rfl rfl rfl rfl e1i ?_
  rintro ad1 rfl
  refine WX.ldE 0 1 e1 ttOk rfl rfl rfl rfl rfl rfl rfl rfl e1h (fun _ => rfl) (fun _ => rfl) ?_
  rintro ⟨⟨⟩, ⟨⟩⟩
  refine WX.callV rfl rfl rfl rfl rfl (fun _ => rfl) rfl (fun w G bs hI hΓ => ff w hI.keep e1 ((), ()) ok1 All.nil) ?_
  intro hq1
  refine R0 ?_
  refine WX.cases 16 rfl (fun h2 => ?_) (fun h2 => ?_)
  ·skip
   refine R0 ?_
   have hP1 : slices_IndexFunc_Binding_L1 fq s 0 = (some ((i : Nat) : Int)) := by rw [v2, drop_get e1h]; simp only [slices_IndexFunc_Binding_L1, h2, ct, cf]
   have hP2 : slices_IndexFunc_Binding s fq = ((i : Nat) : Int) := by simp only [slices_IndexFunc_Binding, hP1, ct, cf]
   refine R1 ?_
   intro w1 G bs hI hΓ
   rw [hP2]
   exact ⟨rfl, (show I64 ((i : Nat) : Int) from (by unfold I64; omega))⟩
  ·skip
   refine R0 ?_
   refine WX.see rfl rfl rfl (fun _ hΓ => looks_arith rfl rfl rfl rfl (by unfold I64; first | omega | (simp only [List.length_take] at *; omega))) ?_
   refine R0 ?_
   exact WX.iter (i + 1) ⟨(by omega), (by rw [v2, drop_get e1h]; simp only [slices_IndexFunc_Binding_L1, h2, ct, cf])⟩ (by first | (dsimp only; omega) | omega) (.cons rfl (.cons rfl (.cons rfl (.cons rfl (.nil))))) .nil .nil [0] rfl
 ·skip
  have h1d := B.df h1
  refine R0 ?_
  have hX1 : slices_IndexFunc_Binding_L1 fq s 0 = none := by rw [v2, List.drop_eq_nil_of_le (show (s).length ≤ i by omega)]; simp only [slices_IndexFunc_Binding_L1, ct, cf]
  have hP3 : slices_IndexFunc_Binding s fq = (-1) := by simp only [slices_IndexFunc_Binding, hX1, ct, cf]
  refine R1 ?_
  intro w1 G bs hI hΓ
  rw [hP3]
  exact ⟨rfl, (show I64 (-1) from (by unfold I64; omega))⟩
theorem ltL_slices_IndexFunc_Binding : ∀ (f : Binding → Bool) (l : List Binding) (i : Nat) (j : Int), slices_IndexFunc_Binding_L1 f l i = some j → j < ((i + l.length : Nat) : Int)
  | f, [], i, j, h => by cases h
  | f, x :: l, i, j, h => by
    simp only [slices_IndexFunc_Binding_L1] at h
    cases hx : f x
    · rw [hx, cond_false] at h
      have := ltL_slices_IndexFunc_Binding f l (i + 1) j h
      simp only [List.length_cons]; omega
    · rw [hx, cond_true] at h
      cases h
      simp only [List.length_cons]; omega
theorem ltI_slices_IndexFunc_Binding (l : List Binding) (f : Binding → Bool) : slices_IndexFunc_Binding l f < ((l.length : Nat) : Int) := by
  unfold slices_IndexFunc_Binding
  cases h : slices_IndexFunc_Binding_L1 f l 0 with
  | none => show (-1 : Int) < _; omega
  | some j => have := ltL_slices_IndexFunc_Binding f l 0 j h; show j < _; omega
theorem f300 (w : World) (n : Nat) (hn : n + 0 ≤ 9) (b : Binding) (part : Str) (bpart : Addr) (hpart : RdSl (hp w) (some bpart) 1 [part]) (hokb : GoT.ok n b) (hokpart : GoT.ok n part) :
  Does Tryz.prog 300 #[.agg #[.string b.letter, .string b.value], .pointer (some bpart)] w emp (fun (rv : Value) (_ : World) => rv = .bool (impl_Match_c1 part b) ∧ True) := by
 refine WX.enter (tt := tt) (Γ := [(0, MF.rs .stb (some bpart) 1 ([part]))]) Tryz.func300 rfl (by kernel_rfl) rfl (allS_cons rfl hpart allS_nil) ?_
 have parth : ([part] : List Str)[0]? = some part := rfl
 refine WX.slot 1 (y := .e (some bpart) 0 1 0) rfl (fun _ => cap_eq) ?_
 refine R0 ?_
 refine WX.ldE 0 1 part ttOk rfl rfl rfl rfl rfl rfl rfl rfl parth (fun _ => rfl) (fun _ => rfl) ?_
 rintro ⟨⟩
 refine R0 ?_
 have hP1 : impl_Match_c1 part b = ((b.letter).toList == (part).toList) := by simp only [impl_Match_c1, ct, cf]
 exact R3 hP1
theorem f287 (w : World) (n : Nat) (hn : n + 1 ≤ 9) (p_ : Pattern) (K0 : Option Addr) (M0 : Nat) (N0 : RdSl (hp w) K0 M0 p_.parts) (n_ : Name) (K1 : Option Addr) (M1 : Nat) (N1 : RdSl (hp w) K1 M1 n_.parts) (l : (List Binding)) (pl : Option Addr) (cl : Nat) (N2 : RdSl (hp w) pl cl l) (hokp_ : GoT.ok n p_) (hokn_ : GoT.ok n n_) (hokl : GoT.ok n l) :
  Does Tryz.prog 287 #[.agg #[.slice K0 ((p_.parts).length) M0], .agg #[.slice K1 ((n_.parts).length) M1], .slice pl ((l).length) cl] w emp (Post w emp (fun x : GoT.X ((List Binding)) => .tuple #[(GoT.sh ((impl_Match p_ n_ l).1 : (List Binding)) x).headD undef, .bool ((impl_Match p_ n_ l).2)]) (fun x => GoT.oa ((impl_Match p_ n_ l).1 : (List Binding)) x) (GoT.ok (n + 1) ((impl_Match p_ n_ l).1 : (List Binding)))) := by
 have hbP := bd_pos n
 have hbS0 : bd (n + 1) = 4 * bd (n) := bd_succ (n := n) (by omega)
 have hbB := bd_big (n := (n + 1)) (by omega)
 have hbM := bd_mono (show n ≤ n + 1 by omega)
 refine WX.enter (tt := tt) (Γ := [(0, MF.rs .stb K0 M0 p_.parts), (1, MF.rs .stb K1 M1 n_.parts), (2, MF.rs .stb pl cl l)]) Tryz.func287 rfl (by kernel_rfl) rfl (allS_cons rfl N0 (allS_cons rfl N1 (allS_cons rfl N2 allS_nil))) ?_
 refine R0 ?_
 refine WX.callF 3 (fun _ _ h => GoT.ow_rd h) (fun _ f hf => GoT.fak f hf) rfl rfl rfl rfl rfl (fun _ => rfl) rfl (fun w G bs hI hΓ => f297 w n (by omega) l pl cl (hΓ.get 2 rfl) hokl) (fun _ => rfl) (fun _ => rfl) ?_
 rintro ⟨p1, c1⟩ hq1
 refine R0 ?_
 refine WX.callV rfl rfl rfl rfl rfl (fun _ => rfl) rfl (fun w G bs hI hΓ => f298 w n (by omega) p_ K0 M0 (hΓ.get 0 rfl) hokp_) ?_
 intro hq2
 refine R0 ?_
 refine WX.cases 18 rfl (fun h1 => ?_) (fun h1 => ?_)
 ·skip
  have h1d := (B.nt h1)
  refine R0 ?_
  have hP1 : impl_Match p_ n_ l = (l, false) := by simp only [impl_Match, h1, ct, cf]
  refine R1 ?_
  intro w1 G bs hI hΓ
  rw [hP1]
  exact Post.of [4] (p1, c1) hI hΓ rfl rfl rfl (GoT.okm (α := List Binding) (by omega) hq1)
 ·skip
  have h1d := (B.nf h1)
  refine R0 ?_
  refine WX.callV rfl rfl rfl rfl rfl (fun _ => rfl) rfl (fun w G bs hI hΓ => f97 w n (by omega) n_ K1 M1 (hΓ.get 1 rfl) hokn_) ?_
  intro hq3
  refine R0 ?_
  refine WX.cases 22 rfl (fun h2 => ?_) (fun h2 => ?_)
  ·skip
   have h2d := (B.nt h2)
   refine R0 ?_
   have hP2 : impl_Match p_ n_ l = (l, false) := by simp only [impl_Match, h1, h2, ct, cf]
   refine R1 ?_
   intro w1 G bs hI hΓ
   rw [hP2]
   exact Post.of [4] (p1, c1) hI hΓ rfl rfl rfl (GoT.okm (α := List Binding) (by omega) hq1)
  ·skip
   have h2d := (B.nf h2)
   refine R0 ?_
   have r1 : (p_.parts).length ≤ bd n := (okl (ok_Pattern hokp_)).1
   have hl0 : l.length ≤ bd n := (okl hokl).1
   refine WX.loop (ι := (Option Addr) × Nat × (List Binding) × Nat) ⟨fun | (pout, cout, out, i) => (i ≤ (p_.parts).length) ∧ (out.length ≤ bd (n + 1) ∧ ∀ z_ ∈ out, GoT.ok (n + 1) z_) ∧ (out.length ≤ i + (l).length) ∧ (impl_Match_L1 n_ l p_.parts 0 (l : List Binding) = impl_Match_L1 n_ l ((p_.parts).drop i) i out), fun | (pout, cout, out, i) => (p_.parts).length - i, fun | (pout, cout, out, i) => [(8, .v (.slice pout ((out).length) cout)), (27, .v (.int .i64 (((i : Nat) : Int)))), (26, .v (.int .i64 ((((p_.parts).length : Nat) : Int)))), (25, .v (.slice K0 ((p_.parts).length) M0)), (4, .p 4 0), (3, .p 3 0), (2, .v (.slice pl ((l).length) cl))], fun | (pout, cout, out, i) => [(4, ⟨30, [.slice K1 ((n_.parts).length) M1]⟩), (3, ⟨219, [.slice K0 ((p_.parts).length) M0]⟩)], fun | (pout, cout, out, i) => [], fun | (pout, cout, out, i) => [(0, MF.rs .stb K0 M0 p_.parts), (1, MF.rs .stb K1 M1 n_.parts), (2, MF.rs .stb pl cl l), (4, MF.os pout cout out)]⟩ (p1, c1, (l : List Binding), 0) ⟨(Nat.zero_le _), (GoT.okm (α := List Binding) (by omega) hq1), (by simp), rfl⟩
    (.cons rfl (.cons rfl (.cons rfl (.cons rfl (.cons rfl (.cons rfl (.cons rfl (.nil)))))))) (.cons rfl (.cons rfl (.nil))) .nil [0, 1, 2, 4] rfl ?_
   rintro ⟨pout, cout, out, i⟩ hpre
   have hpre_ : (i ≤ (p_.parts).length) ∧ (out.length ≤ bd (n + 1) ∧ ∀ z_ ∈ out, GoT.ok (n + 1) z_) ∧ (out.length ≤ i + (l).length) ∧ (impl_Match_L1 n_ l p_.parts 0 (l : List Binding) = impl_Match_L1 n_ l ((p_.parts).drop i) i out) := hpre
   clear hpre
   obtain ⟨v1, v2, v3, v4⟩ := hpre_
   have v2L := v2.1
   refine R0 ?_
   refine WX.cases 28 rfl (fun h3 => ?_) (fun h3 => ?_)
   ·skip
    have h3d := B.dt h3
    have e1i : i < (p_.parts).length := (by omega)
    obtain ⟨e1, e1h⟩ : ∃ e1, (p_.parts)[i]? = some e1 := ⟨_, List.getElem?_eq_getElem e1i⟩
    have ok1 : GoT.ok n e1 := (okl (ok_Pattern hokp_)).2 _ (List.mem_of_getElem? e1h)
    refine R0 ?_
    refine WX.idx 0 i ttOk rfl rfl rfl rfl rfl rfl rfl rfl rfl rfl e1i ?_
    rintro ad1 rfl
    refine WX.ldE 0 5 e1 ttOk rfl rfl rfl rfl rfl rfl rfl rfl e1h (fun _ => rfl) (fun _ => rfl) ?_
    rintro ⟨⟩
    refine R0 ?_
    refine WX.cases 33 rfl (fun h4 => ?_) (fun h4 => ?_)
    ·skip
     have h4d := B.et h4
     refine R0 ?_
     have hP3 : impl_Match_L1 n_ l p_.parts 0 (l : List Binding) = (Ctl.ret (out, true)) := by rw [v4, drop_get e1h]; simp only [impl_Match_L1, h4, ct, cf]
     have hP4 : impl_Match p_ n_ l = (out, true) := by simp only [impl_Match, h1, h2, hP3, ct, cf]
     refine R1 ?_
     intro w1 G bs hI hΓ
     rw [hP4]
     exact Post.of [4] (pout, cout) hI hΓ rfl rfl rfl (okl_of v2)
    ·skip
     have h4d := B.ef h4
     refine R0 ?_
     refine WX.cases 39 rfl (fun h5 => ?_) (fun h5 => ?_)
     ·skip
      have h5d := B.dt h5
      refine R0 ?_
      refine WX.callF 5 (fun _ _ h => GoT.ow_rd h) (fun _ f hf => GoT.fak f hf) rfl rfl rfl rfl rfl (fun _ => rfl) rfl (fun w G bs hI hΓ => f297 w n (by omega) l pl cl (hΓ.get 2 rfl) hokl) (fun _ => rfl) (fun _ => rfl) ?_
      rintro ⟨p2, c2⟩ hq4
      refine R0 ?_
      have hP5 : impl_Match_L1 n_ l p_.parts 0 (l : List Binding) = (Ctl.ret (l, false)) := by rw [v4, drop_get e1h]; simp only [impl_Match_L1, h4, h5, ct, cf]
      have hP6 : impl_Match p_ n_ l = (l, false) := by simp only [impl_Match, h1, h2, hP5, ct, cf]
      refine R1 ?_
      intro w1 G bs hI hΓ
      rw [hP6]
      exact Post.of [6] (p2, c2) hI hΓ rfl rfl rfl (GoT.okm (α := List Binding) (by omega) hq4)
     ·skip
      have h5d := B.df h5
      refine R0 ?_
      have e2i : i < (n_.parts).length := (by first | assumption | omega)
      obtain ⟨e2, e2h⟩ : ∃ e2, (n_.parts)[i]? = some e2 := ⟨_, List.getElem?_eq_getElem e2i⟩
      have ok2 : GoT.ok n e2 := (okl (ok_Name hokn_)).2 _ (List.mem_of_getElem? e2h)
      refine WX.idx 1 i ttOk rfl rfl rfl rfl rfl rfl rfl rfl rfl rfl e2i ?_
      rintro ad2 rfl
      refine WX.ldE 1 7 e2 ttOk rfl rfl rfl rfl rfl rfl rfl rfl e2h (fun _ => rfl) (fun _ => rfl) ?_
      rintro ⟨⟩
      refine R0 ?_
      refine WX.der 7 (MF.rs .der pout cout out) rfl (fun _ hΓ => (hΓ.get 4 rfl : OwSl _ _ _ _).rd) ?_
      refine WX.callV rfl rfl rfl rfl rfl (fun _ => rfl) rfl (fun w G bs hI hΓ => f299 w (n + 1) (by omega) out pout cout (hΓ.get 7 rfl) 300 [Value.pointer (some ⟨bs 10, 0, none⟩)] (fun e0_ => (impl_Match_c1 e1 e0_)) (fun w1_ hb_ e0_ x0_ hk0_ hx0_ => f300 w1_ (n + 1) (by omega) e0_ e1 ⟨bs 10, 0, none⟩ ((rd_box (α := Str) (a := e1) (x := ()) (hI.loc 10 _ rfl).1 All.nil).mono (kp_le hb_)) hk0_ (GoT.okm (α := Str) (by omega) ok1)) (okl_of v2)) ?_
      intro hq5
      have q1 := ltI_slices_IndexFunc_Binding out (fun e0_ => (impl_Match_c1 e1 e0_))
      refine R0 ?_
      refine WX.cases 50 rfl (fun h6 => ?_) (fun h6 => ?_)
      ·skip
       have h6d := B.et h6
       refine R0 ?_
       refine WX.see rfl rfl rfl (fun _ hΓ => looks_arith rfl rfl rfl rfl (by unfold I64; first | omega | (simp only [List.length_take] at *; omega))) ?_
       refine R0 ?_
       exact WX.iter (pout, cout, out, i + 1) ⟨(by omega), (okl_of v2), (by first | assumption | omega | (simp; omega)), (by rw [v4, drop_get e1h]; simp only [impl_Match_L1, h4, h5, e2h, h6, ct, cf])⟩ (by first | (dsimp only; omega) | omega) (.cons rfl (.cons rfl (.cons rfl (.cons rfl (.cons rfl (.cons rfl (.cons rfl (.nil)))))))) (.cons rfl (.cons rfl (.nil))) .nil [0, 1, 2, 4] rfl
      ·skip
       have h6d := B.ef h6
       refine R0 ?_
       refine WX.callV rfl rfl rfl rfl rfl (fun _ => rfl) rfl (fun w G bs hI hΓ => f301 w n (by omega) e1 ok1) ?_
       intro hq6
       refine R0 ?_
       refine WX.cases 53 rfl (fun h7 => ?_) (fun h7 => ?_)
       ·skip
        have h7d := (B.nt h7)
        refine R0 ?_
        refine WX.cases 59 rfl (fun h8 => ?_) (fun h8 => ?_)
        ·skip
         have h8d := B.ef (B.nt h8)
         refine R0 ?_
         refine WX.callF 8 (fun _ _ h => GoT.ow_rd h) (fun _ f hf => GoT.fak f hf) rfl rfl rfl rfl rfl (fun _ => rfl) rfl (fun w G bs hI hΓ => f297 w n (by omega) l pl cl (hΓ.get 2 rfl) hokl) (fun _ => rfl) (fun _ => rfl) ?_
         rintro ⟨p3, c3⟩ hq7
         refine R0 ?_
         have hP7 : impl_Match_L1 n_ l p_.parts 0 (l : List Binding) = (Ctl.ret (l, false)) := by rw [v4, drop_get e1h]; simp only [impl_Match_L1, h4, h5, e2h, h6, h7, h8, ct, cf]
         have hP8 : impl_Match p_ n_ l = (l, false) := by simp only [impl_Match, h1, h2, hP7, ct, cf]
         refine R1 ?_
         intro w1 G bs hI hΓ
         rw [hP8]
         exact Post.of [9] (p3, c3) hI hΓ rfl rfl rfl (GoT.okm (α := List Binding) (by omega) hq7)
        ·skip
         have h8d := B.et (B.nf h8)
         refine R0 ?_
         refine WX.see rfl rfl rfl (fun _ hΓ => looks_arith rfl rfl rfl rfl (by unfold I64; first | omega | (simp only [List.length_take] at *; omega))) ?_
         refine R0 ?_
         exact WX.iter (pout, cout, out, i + 1) ⟨(by omega), (okl_of v2), (by first | assumption | omega | (simp; omega)), (by rw [v4, drop_get e1h]; simp only [impl_Match_L1, h4, h5, e2h, h6, h7, h8, ct, cf])⟩ (by first | (dsimp only; omega) | omega) (.cons rfl (.cons rfl (.cons rfl (.cons rfl (.cons rfl (.cons rfl (.cons rfl (.nil)))))))) (.cons rfl (.cons rfl (.nil))) .nil [0, 1, 2, 4] rfl
       ·skip
        have h7d := (B.nf h7)
        refine R0 ?_
        refine WX.cases 62 rfl (fun h9 => ?_) (fun h9 => ?_)
        ·skip
         have h9d := B.dt h9
         refine R0 ?_
         refine WX.bld ttOk rfl rfl rfl rfl rfl rfl rfl ?_
         intro p4
         refine WX.opn (kk := 2) 501 4 10 rfl rfl rfl ?_
         intro xs1 hx1
         refine WX.turn [] 11 rfl (fun h hs => ol_one (α := Binding) (a := (Binding.mk e1 e2)) (x := ((), ())) hs) (gs := [MF.ol [.string e1, .string e2] ([(Binding.mk e1 e2)] : List Binding)]) rfl ?_
         have r2 : (e1).size ≤ bd n := ok1
         have r3 : (e2).size ≤ bd n := ok2
         refine WX.know (fun G hΓ => (hΓ.get 11 rfl : OwL _ _ _).rd.one) ?_
         intro ho1
         refine WX.appR1 501 69 ((out ++ [(Binding.mk e1 e2)]) : List Binding).length ttOk rfl rfl rfl rfl rfl rfl rfl rfl rfl rfl rfl rfl rfl ho1 (by simp) (by simp; omega) (by simp; omega) (fun _ _ => rfl) ?_
         intro p5 c4
         refine WX.turn [10, 11] 12 rfl (fun h hs => ol_app hs) (gs := [MF.ol (xs1 ++ [.string e1, .string e2]) ((out ++ [(Binding.mk e1 e2)]) : List Binding)]) rfl ?_
         refine R0 ?_
         refine WX.see rfl rfl rfl (fun _ hΓ => looks_arith rfl rfl rfl rfl (by unfold I64; first | omega | (simp only [List.length_take] at *; omega))) ?_
         refine R0 ?_
         refine WX.seal 501 12 13 rfl rfl rfl rfl rfl ?_
         refine WX.turn [14] 4 rfl (fun _ h => h) rfl ?_
         exact WX.iter (p5, c4, (out ++ [(Binding.mk e1 e2)]), i + 1) ⟨(by omega), (okl_mk (by simp; omega) (all_app v2.2 (fun a ha => GoT.okm (by omega) ((all_cons (α := Binding) (And.intro ok1 ok2) (fun a ha => by cases ha)) a ha))) : GoT.ok (n + 1) ((out ++ [(Binding.mk e1 e2)]) : List Binding)), (by first | assumption | omega | (simp; omega)), (by rw [v4, drop_get e1h]; simp only [impl_Match_L1, h4, h5, e2h, h6, h7, h9, ct, cf])⟩ (by first | (dsimp only; omega) | omega) (.cons rfl (.cons rfl (.cons rfl (.cons rfl (.cons rfl (.cons rfl (.cons rfl (.nil)))))))) (.cons rfl (.cons rfl (.nil))) .nil [0, 1, 2, 4] rfl
        ·skip
         have h9d := B.df h9
         refine R0 ?_
         have r4 : (e1).size ≤ bd n := ok1
         have r5 : -9223372036854775808 ≤ (slices_IndexFunc_Binding out (fun e0_ => (impl_Match_c1 e1 e0_))) ∧ (slices_IndexFunc_Binding out (fun e0_ => (impl_Match_c1 e1 e0_))) ≤ 9223372036854775807 := hq5
         refine WX.slot 73 (y := .v (.int .i64 ((((slices_IndexFunc_Binding out (fun e0_ => (impl_Match_c1 e1 e0_)))).toNat : Nat) : Int))) rfl (fun _ => congrArg (Value.int .i64) (show (slices_IndexFunc_Binding out (fun e0_ => (impl_Match_c1 e1 e0_))) = ((((slices_IndexFunc_Binding out (fun e0_ => (impl_Match_c1 e1 e0_)))).toNat : Nat) : Int) from by omega)) ?_
         have e3i : ((slices_IndexFunc_Binding out (fun e0_ => (impl_Match_c1 e1 e0_)))).toNat < (out).length := (by first | assumption | omega)
         obtain ⟨e3, e3h⟩ : ∃ e3, (out)[((slices_IndexFunc_Binding out (fun e0_ => (impl_Match_c1 e1 e0_)))).toNat]? = some e3 := ⟨_, List.getElem?_eq_getElem e3i⟩
         have ok3 : GoT.ok (n + 1) e3 := v2.2 _ (List.mem_of_getElem? e3h)
         refine WX.idx 7 (((slices_IndexFunc_Binding out (fun e0_ => (impl_Match_c1 e1 e0_)))).toNat) ttOk rfl rfl rfl rfl rfl rfl rfl rfl rfl rfl e3i ?_
         rintro ad3 rfl
         refine R0 ?_
         refine WX.ldE 7 15 e3 ttOk rfl rfl rfl rfl rfl rfl rfl rfl e3h (fun _ => rfl) (fun _ => rfl) ?_
         rintro ⟨⟨⟩, ⟨⟩⟩
         refine R0 ?_
         refine WX.cases 71 rfl (fun h10 => ?_) (fun h10 => ?_)
         ·skip
          have h10d := B.ef (B.nt h10)
          refine R0 ?_
          refine WX.callF 15 (fun _ _ h => GoT.ow_rd h) (fun _ f hf => GoT.fak f hf) rfl rfl rfl rfl rfl (fun _ => rfl) rfl (fun w G bs hI hΓ => f297 w n (by omega) l pl cl (hΓ.get 2 rfl) hokl) (fun _ => rfl) (fun _ => rfl) ?_
          rintro ⟨p6, c5⟩ hq8
          refine R0 ?_
          have hP9 : impl_Match_L1 n_ l p_.parts 0 (l : List Binding) = (Ctl.ret (l, false)) := by rw [v4, drop_get e1h]; simp only [impl_Match_L1, h4, h5, e2h, h6, h7, h9, e3h, h10, ct, cf]
          have hP10 : impl_Match p_ n_ l = (l, false) := by simp only [impl_Match, h1, h2, hP9, ct, cf]
          refine R1 ?_
          intro w1 G bs hI hΓ
          rw [hP10]
          exact Post.of [16] (p6, c5) hI hΓ rfl rfl rfl (GoT.okm (α := List Binding) (by omega) hq8)
         ·skip
          have h10d := B.et (B.nf h10)
          refine R0 ?_
          refine WX.see rfl rfl rfl (fun _ hΓ => looks_arith rfl rfl rfl rfl (by unfold I64; first | omega | (simp only [List.length_take] at *; omega))) ?_
          refine R0 ?_
          exact WX.iter ((some ad3), cout, out, i + 1) ⟨(by omega), (okl_of v2), (by first | assumption | omega | (simp; omega)), (by rw [v4, drop_get e1h]; simp only [impl_Match_L1, h4, h5, e2h, h6, h7, h9, e3h, h10, ct, cf])⟩ (by first | (dsimp only; omega) | omega) (.cons rfl (.cons rfl (.cons rfl (.cons rfl (.cons rfl (.cons rfl (.cons rfl (.nil)))))))) (.cons rfl (.cons rfl (.nil))) .nil [0, 1, 2, 4] rfl
   ·skip
    have h3d := B.df h3
    refine R0 ?_
    have hX1 : impl_Match_L1 n_ l p_.parts 0 (l : List Binding) = (Ctl.nxt ((out) : List Binding)) := by rw [v4, List.drop_eq_nil_of_le (show (p_.parts).length ≤ i by omega)]; simp only [impl_Match_L1, ct, cf]
    refine WX.cases 88 rfl (fun h11 => ?_) (fun h11 => ?_)
    ·skip
     have h11d := B.dt h11
     refine R0 ?_
     refine WX.callF 17 (fun _ _ h => GoT.ow_rd h) (fun _ f hf => GoT.fak f hf) rfl rfl rfl rfl rfl (fun _ => rfl) rfl (fun w G bs hI hΓ => f297 w n (by omega) l pl cl (hΓ.get 2 rfl) hokl) (fun _ => rfl) (fun _ => rfl) ?_
     rintro ⟨p7, c6⟩ hq9
     refine R0 ?_
     have hP11 : impl_Match p_ n_ l = (l, false) := by simp only [impl_Match, h1, h2, hX1, h11, ct, cf]
     refine R1 ?_
     intro w1 G bs hI hΓ
     rw [hP11]
     exact Post.of [18] (p7, c6) hI hΓ rfl rfl rfl (GoT.okm (α := List Binding) (by omega) hq9)
    ·skip
     have h11d := B.df h11
     refine R0 ?_
     have hP12 : impl_Match p_ n_ l = (out, true) := by simp only [impl_Match, h1, h2, hX1, h11, ct, cf]
     refine R1 ?_
     intro w1 G bs hI hΓ
     rw [hP12]
     exact Post.of [4] (pout, cout) hI hΓ rfl rfl rfl (okl_of v2)
theorem f267 (w : World) (n : Nat) (hn : n + 2 ≤ 9) (r : Rule) (K0 : Option Addr) (M0 : Nat) (N0 : RdSl (hp w) K0 M0 r.dataPattern.parts) (K1 : Option Addr) (M1 : Nat) (N1 : RdSl (hp w) K1 M1 r.keyPattern.parts) (n_ : Name) (K2 : Option Addr) (M2 : Nat) (N2 : RdSl (hp w) K2 M2 n_.parts) (by_ : Name) (K3 : Option Addr) (M3 : Nat) (N3 : RdSl (hp w) K3 M3 by_.parts) (hokr : GoT.ok n r) (hokn_ : GoT.ok n n_) (hokby_ : GoT.ok n by_) :
  Does Tryz.prog 267 #[.agg #[.slice K0 ((r.dataPattern.parts).length) M0, .slice K1 ((r.keyPattern.parts).length) M1], .agg #[.slice K2 ((n_.parts).length) M2], .agg #[.slice K3 ((by_.parts).length) M3]] w emp (fun (rv : Value) (_ : World) => rv = .bool (spec_RuleAllows r n_ by_) ∧ True) := by
 have hbP := bd_pos n
 have hbS0 : bd (n + 1) = 4 * bd (n) := bd_succ (n := n) (by omega)
 have hbS1 : bd (n + 2) = 4 * bd (n + 1) := bd_succ (n := n + 1) (by omega)
 have hbB := bd_big (n := (n + 2)) (by omega)
 have hbM := bd_mono (show n ≤ n + 2 by omega)
 refine WX.enter (tt := tt) (Γ := [(0, MF.rs .stb K0 M0 r.dataPattern.parts), (1, MF.rs .stb K1 M1 r.keyPattern.parts), (2, MF.rs .stb K2 M2 n_.parts), (3, MF.rs .stb K3 M3 by_.parts)]) Tryz.func267 rfl (by kernel_rfl) rfl (allS_cons rfl N0 (allS_cons rfl N1 (allS_cons rfl N2 (allS_cons rfl N3 allS_nil)))) ?_
 refine R0 ?_
 refine WX.bld ttOk rfl rfl rfl rfl rfl rfl rfl ?_
 intro p1
 refine WX.free 4 (MF.ol [] ([] : List Binding)) rfl ?_
 refine WX.seal 15 4 5 rfl rfl rfl rfl rfl ?_
 refine WX.callF 7 (fun _ _ h => GoT.ow_rd h) (fun _ f hf => GoT.fak f hf) rfl rfl rfl rfl rfl (fun _ => rfl) rfl (fun w G bs hI hΓ => f281 w n (by omega) r.dataPattern K0 M0 (hΓ.get 0 rfl) n_ K2 M2 (hΓ.get 2 rfl) ([]) p1 0 (hΓ.get 5 rfl) ((ok_Rule hokr).1) hokn_ (okl_mk (Nat.zero_le _) (fun a ha => by cases ha) : GoT.ok n ([] : List Binding))) (fun _ => rfl) (fun _ => rfl) ?_
 rintro ⟨p2, c1⟩ hq1
 refine R0 ?_
 refine WX.callF 9 (fun _ _ h => GoT.ow_rd h) (fun _ f hf => GoT.fak f hf) rfl rfl rfl rfl rfl (fun _ => rfl) rfl (fun w G bs hI hΓ => f281 w (n + 1) (by omega) r.keyPattern K1 M1 (hΓ.get 1 rfl) by_ K3 M3 (hΓ.get 3 rfl) ((spec_Match r.dataPattern n_ ([])).1) p2 c1 (hΓ.get 7 rfl) (GoT.okm (α := List Str) (by omega) (ok_Pattern (ok_Rule hokr).2)) (GoT.okm (α := List Str) (by omega) (ok_Name hokby_)) hq1) (fun _ => rfl) (fun _ => rfl) ?_
 rintro ⟨p3, c2⟩ hq2
 refine R0 ?_
 refine WX.callV rfl rfl rfl rfl rfl (fun _ => rfl) rfl (fun w G bs hI hΓ => f282 w n (by omega) r K0 M0 (hΓ.get 0 rfl) K1 M1 (hΓ.get 1 rfl) hokr) ?_
 intro hq3
 refine R0 ?_
 refine WX.cases 29 rfl (fun h1 => ?_) (fun h1 => ?_)
 ·skip
  refine R0 ?_
  refine WX.cases 32 rfl (fun h2 => ?_) (fun h2 => ?_)
  ·skip
   refine R0 ?_
   have hP1 : spec_RuleAllows r n_ by_ = ((spec_Match r.keyPattern by_ ((spec_Match r.dataPattern n_ ([])).1)).2) := by simp only [spec_RuleAllows, h1, h2, ct, cf]
   exact R3 hP1
  ·skip
   refine R0 ?_
   have hP2 : spec_RuleAllows r n_ by_ = false := by simp only [spec_RuleAllows, h1, h2, ct, cf]
   exact R3 hP2
 ·skip
  refine R0 ?_
  have hP3 : spec_RuleAllows r n_ by_ = false := by simp only [spec_RuleAllows, h1, ct, cf]
  exact R3 hP3
theorem f275 (w : World) (n : Nat) (hn : n + 2 ≤ 9) (r : Rule) (K0 : Option Addr) (M0 : Nat) (N0 : RdSl (hp w) K0 M0 r.dataPattern.parts) (K1 : Option Addr) (M1 : Nat) (N1 : RdSl (hp w) K1 M1 r.keyPattern.parts) (n_ : Name) (K2 : Option Addr) (M2 : Nat) (N2 : RdSl (hp w) K2 M2 n_.parts) (key : Name) (K3 : Option Addr) (M3 : Nat) (N3 : RdSl (hp w) K3 M3 key.parts) (hokr : GoT.ok n r) (hokn_ : GoT.ok n n_) (hokkey : GoT.ok n key) :
  Does Tryz.prog 275 #[.agg #[.slice K0 ((r.dataPattern.parts).length) M0, .slice K1 ((r.keyPattern.parts).length) M1], .agg #[.slice K2 ((n_.parts).length) M2], .agg #[.slice K3 ((key.parts).length) M3]] w emp (fun (rv : Value) (_ : World) => rv = .bool (impl_RuleAllows r n_ key) ∧ True) := by
 have hbP := bd_pos n
 have hbS0 : bd (n + 1) = 4 * bd (n) := bd_succ (n := n) (by omega)
 have hbS1 : bd (n + 2) = 4 * bd (n + 1) := bd_succ (n := n + 1) (by omega)
 have hbB := bd_big (n := (n + 2)) (by omega)
 have hbM := bd_mono (show n ≤ n + 2 by omega)
 refine WX.enter (tt := tt) (Γ := [(0, MF.rs .stb K0 M0 r.dataPattern.parts), (1, MF.rs .stb K1 M1 r.keyPattern.parts), (2, MF.rs .stb K2 M2 n_.parts), (3, MF.rs .stb K3 M3 key.parts)]) Tryz.func275 rfl (by kernel_rfl) rfl (allS_cons rfl N0 (allS_cons rfl N1 (allS_cons rfl N2 (allS_cons rfl N3 allS_nil)))) ?_
 refine R0 ?_
 refine WX.callF 4 (fun _ _ h => GoT.ow_rd h) (fun _ f hf => GoT.fak f hf) rfl rfl rfl rfl rfl (fun _ => rfl) rfl (fun w G bs hI hΓ => f287 w n (by omega) r.dataPattern K0 M0 (hΓ.get 0 rfl) n_ K2 M2 (hΓ.get 2 rfl) ([] : List Binding) none 0 (rdSl_nil _ _ _) ((ok_Rule hokr).1) hokn_ (ok_nil (α := Binding))) (fun _ => rfl) (fun _ => rfl) ?_
 rintro ⟨p1, c1⟩ hq1
 refine R0 ?_
 refine WX.callF 6 (fun _ _ h => GoT.ow_rd h) (fun _ f hf => GoT.fak f hf) rfl rfl rfl rfl rfl (fun _ => rfl) rfl (fun w G bs hI hΓ => f287 w (n + 1) (by omega) r.keyPattern K1 M1 (hΓ.get 1 rfl) key K3 M3 (hΓ.get 3 rfl) ((impl_Match r.dataPattern n_ ([] : List Binding)).1) p1 c1 (hΓ.get 4 rfl) (GoT.okm (α := List Str) (by omega) (ok_Pattern (ok_Rule hokr).2)) (GoT.okm (α := List Str) (by omega) (ok_Name hokkey)) hq1) (fun _ => rfl) (fun _ => rfl) ?_
 rintro ⟨p2, c2⟩ hq2
 refine R0 ?_
 refine WX.callV rfl rfl rfl rfl rfl (fun _ => rfl) rfl (fun w G bs hI hΓ => f288 w n (by omega) r K0 M0 (hΓ.get 0 rfl) K1 M1 (hΓ.get 1 rfl) hokr) ?_
 intro hq3
 refine R0 ?_
 refine WX.cases 28 rfl (fun h1 => ?_) (fun h1 => ?_)
 ·skip
  refine R0 ?_
  refine WX.cases 31 rfl (fun h2 => ?_) (fun h2 => ?_)
  ·skip
   refine R0 ?_
   have hP1 : impl_RuleAllows r n_ key = ((impl_Match r.keyPattern key ((impl_Match r.dataPattern n_ ([] : List Binding)).1)).2) := by simp only [impl_RuleAllows, h1, h2, ct, cf]
   exact R3 hP1
  ·skip
   refine R0 ?_
   have hP2 : impl_RuleAllows r n_ key = false := by simp only [impl_RuleAllows, h1, h2, ct, cf]
   exact R3 hP2
 ·skip
  refine R0 ?_
  have hP3 : impl_RuleAllows r n_ key = false := by simp only [impl_RuleAllows, h1, ct, cf]
  exact R3 hP3
theorem f250 (w : World) (n : Nat) (hn : n + 2 ≤ 9) (l : (List Rule)) (pl : Option Addr) (cl : Nat) (N0 : RdSl (hp w) pl cl l) (n_ : Name) (K1 : Option Addr) (M1 : Nat) (N1 : RdSl (hp w) K1 M1 n_.parts) (by_ : Name) (K2 : Option Addr) (M2 : Nat) (N2 : RdSl (hp w) K2 M2 by_.parts) (hokl : GoT.ok n l) (hokn_ : GoT.ok n n_) (hokby_ : GoT.ok n by_) :
  Does Tryz.prog 250 #[.slice pl ((l).length) cl, .agg #[.slice K1 ((n_.parts).length) M1], .agg #[.slice K2 ((by_.parts).length) M2]] w emp (fun (rv : Value) (_ : World) => rv = .int .i64 ((spec_FirstAllowingRule l n_ by_)) ∧ GoT.ok n ((spec_FirstAllowingRule l n_ by_) : Int)) := by
 have hbP := bd_pos n
 have hbS0 : bd (n + 1) = 4 * bd (n) := bd_succ (n := n) (by omega)
 have hbS1 : bd (n + 2) = 4 * bd (n + 1) := bd_succ (n := n + 1) (by omega)
 have hbB := bd_big (n := (n + 2)) (by omega)
 have hbM := bd_mono (show n ≤ n + 2 by omega)
 refine WX.enter (tt := tt) (Γ := [(0, MF.rs .stb pl cl l), (1, MF.rs .stb K1 M1 n_.parts), (2, MF.rs .stb K2 M2 by_.parts)]) Tryz.func250 rfl (by kernel_rfl) rfl (allS_cons rfl N0 (allS_cons rfl N1 (allS_cons rfl N2 allS_nil))) ?_
 refine R0 ?_
 have r1 : (l).length ≤ bd n := (okl hokl).1
 refine WX.loop (ι := Nat) ⟨fun i => (i ≤ (l).length) ∧ (spec_FirstAllowingRule_L1 n_ by_ l 0 = spec_FirstAllowingRule_L1 n_ by_ ((l).drop i) i), fun i => (l).length - i, fun i => [(7, .v (.int .i64 (((i : Nat) : Int)))), (5, .p 5 0), (4, .p 4 0), (0, .v (.slice pl ((l).length) cl))], fun i => [(5, ⟨30, [.slice K2 ((by_.parts).length) M2]⟩), (4, ⟨30, [.slice K1 ((n_.parts).length) M1]⟩)], fun i => [], fun i => [(0, MF.rs .stb pl cl l), (1, MF.rs .stb K1 M1 n_.parts), (2, MF.rs .stb K2 M2 by_.parts)]⟩ 0 ⟨(Nat.zero_le _), rfl⟩
  (.cons rfl (.cons rfl (.cons rfl (.cons rfl (.nil))))) (.cons rfl (.cons rfl (.nil))) .nil [0, 1, 2] rfl ?_
 rintro i hpre
 have hpre_ : (i ≤ (l).length) ∧ (spec_FirstAllowingRule_L1 n_ by_ l 0 = spec_FirstAllowingRule_L1 n_ by_ ((l).drop i) i) := hpre
 clear hpre
 obtain ⟨v1, v2⟩ := hpre_
 refine R0 ?_
 refine WX.cases 11 rfl (fun h1 => ?_) (fun h1 => ?_)
 ·skip
  have h1d := B.dt h1
  have e1i : i < (l).length := (by omega)
  obtain ⟨e1, e1h⟩ : ∃ e1, (l)[i]? = some e1 := ⟨_, List.getElem?_eq_getElem e1i⟩
  have ok1 : GoT.ok n e1 := (okl hokl).2 _ (List.mem_of_getElem? e1h)
  refine R0 ?_
  refine WX.draw [] mixed ?_
  intro bs G0 hΓ0
  refine DX.takes (fuel := 5) ttOk [(0, true), (1, true)] (by kernel_rfl) rfl ?_
  refine DX.idx 2 0 i ttOk hΓ0 (by kernel_rfl) rfl rfl rfl rfl rfl rfl rfl rfl rfl rfl rfl e1i ?_
  rintro ad1 rfl
  refine DX.ldE 3 0 3 e1 ttOk hΓ0 (by kernel_rfl) rfl rfl rfl rfl rfl rfl rfl rfl e1h (fun _ => rfl) (fun _ => rfl) ?_
  rintro ⟨⟨p1, c1⟩, ⟨p2, c2⟩⟩
  refine DX.takes (fuel := 1) ttOk [(4, false), (5, false)] (by kernel_rfl) rfl ?_
  refine DX.callV 6 rfl (by kernel_rfl) rfl rfl rfl rfl rfl rfl (fun _ => rfl) rfl (fun w G bs hI hΓ => f267 w n (by omega) e1 p1 c1 (hΓ.get 3 rfl) p2 c2 (hΓ.get 4 rfl) n_ K1 M1 (hΓ.get 1 rfl) by_ K2 M2 (hΓ.get 2 rfl) ok1 hokn_ hokby_) ?_
  intro hq1
  refine DX.tail2 [] rfl rfl (by kernel_rfl) ?_
  refine R0 ?_
  refine WX.cases 20 rfl (fun h2 => ?_) (fun h2 => ?_)
  ·skip
   refine R0 ?_
   have hP1 : spec_FirstAllowingRule_L1 n_ by_ l 0 = (some ((i : Nat) : Int)) := by rw [v2, drop_get e1h]; simp only [spec_FirstAllowingRule_L1, h2, ct, cf]
   have hP2 : spec_FirstAllowingRule l n_ by_ = ((i : Nat) : Int) := by simp only [spec_FirstAllowingRule, hP1, ct, cf]
   refine R1 ?_
   intro w1 G bs hI hΓ
   rw [hP2]
   exact ⟨rfl, (show I64 ((i : Nat) : Int) from (by unfold I64; omega))⟩
  ·skip
   refine R0 ?_
   refine WX.see rfl rfl rfl (fun _ hΓ => looks_arith rfl rfl rfl rfl (by unfold I64; first | omega | (simp only [List.length_take] at *; omega))) ?_
   refine R0 ?_
   exact WX.iter (i + 1) ⟨(by omega), (by rw [v2, drop_get e1h]; simp only [spec_FirstAllowingRule_L1, h2, ct, cf])⟩ (by first | (dsimp only; omega) | omega) (.cons rfl (.cons rfl (.cons rfl (.cons rfl (.nil))))) (.cons rfl (.cons rfl (.nil))) .nil [0, 1, 2] rfl
 ·skip
  have h1d := B.df h1
  refine R0 ?_
  have hX1 : spec_FirstAllowingRule_L1 n_ by_ l 0 = none := by rw [v2, List.drop_eq_nil_of_le (show (l).length ≤ i by omega)]; simp only [spec_FirstAllowingRule_L1, ct, cf]
  have hP3 : spec_FirstAllowingRule l n_ by_ = (-1) := by simp only [spec_FirstAllowingRule, hX1, ct, cf]
  refine R1 ?_
  intro w1 G bs hI hΓ
  rw [hP3]
  exact ⟨rfl, (show I64 (-1) from (by unfold I64; omega))⟩
theorem f274 (w : World) (n : Nat) (hn : n + 2 ≤ 9) (r : Rule) (K0 : Option Addr) (M0 : Nat) (N0 : RdSl (hp w) K0 M0 r.dataPattern.parts) (K1 : Option Addr) (M1 : Nat) (N1 : RdSl (hp w) K1 M1 r.keyPattern.parts) (key : Name) (bkey : Addr) (hkey : RdSl (hp w) (some bkey) 1 [key]) (n_ : Name) (bn_ : Addr) (hn_ : RdSl (hp w) (some bn_) 1 [n_]) (hokr : GoT.ok n r) (hokkey : GoT.ok n key) (hokn_ : GoT.ok n n_) :
  Does Tryz.prog 274 #[.agg #[.slice K0 ((r.dataPattern.parts).length) M0, .slice K1 ((r.keyPattern.parts).length) M1], .pointer (some bkey), .pointer (some bn_)] w emp (fun (rv : Value) (_ : World) => rv = .bool (impl_FirstAllowingRule_c1 key n_ r) ∧ True) := by
 have hbP := bd_pos n
 have hbS0 : bd (n + 1) = 4 * bd (n) := bd_succ (n := n) (by omega)
 have hbS1 : bd (n + 2) = 4 * bd (n + 1) := bd_succ (n := n + 1) (by omega)
 have hbB := bd_big (n := (n + 2)) (by omega)
 have hbM := bd_mono (show n ≤ n + 2 by omega)
 refine WX.enter (tt := tt) (Γ := [(0, MF.rs .stb K0 M0 r.dataPattern.parts), (1, MF.rs .stb K1 M1 r.keyPattern.parts), (2, MF.rs .stb (some bkey) 1 ([key])), (3, MF.rs .stb (some bn_) 1 ([n_]))]) Tryz.func274 rfl (by kernel_rfl) rfl (allS_cons rfl N0 (allS_cons rfl N1 (allS_cons rfl hkey (allS_cons rfl hn_ allS_nil)))) ?_
 have keyh : ([key] : List Name)[0]? = some key := rfl
 refine WX.slot 1 (y := .e (some bkey) 0 1 0) rfl (fun _ => cap_eq) ?_
 have n_h : ([n_] : List Name)[0]? = some n_ := rfl
 refine WX.slot 2 (y := .e (some bn_) 0 1 0) rfl (fun _ => cap_eq) ?_
 refine R0 ?_
 refine WX.ldE 2 4 key ttOk rfl rfl rfl rfl rfl rfl rfl rfl keyh (fun _ => rfl) (fun _ => rfl) ?_
 rintro ⟨p1, c1⟩
 refine WX.ldE 3 5 n_ ttOk rfl rfl rfl rfl rfl rfl rfl rfl n_h (fun _ => rfl) (fun _ => rfl) ?_
 rintro ⟨p2, c2⟩
 refine WX.callV rfl rfl rfl rfl rfl (fun _ => rfl) rfl (fun w G bs hI hΓ => f275 w n (by omega) r K0 M0 (hΓ.get 0 rfl) K1 M1 (hΓ.get 1 rfl) key p1 c1 (hΓ.get 4 rfl) n_ p2 c2 (hΓ.get 5 rfl) hokr hokkey hokn_) ?_
 intro hq1
 refine R0 ?_
 have hP1 : impl_FirstAllowingRule_c1 key n_ r = (impl_RuleAllows r key n_) := by simp only [impl_FirstAllowingRule_c1, ct, cf]
 exact R3 hP1
theorem f255 (w : World) (n : Nat) (hn : n + 2 ≤ 9) (l : (List Rule)) (pl : Option Addr) (cl : Nat) (N0 : RdSl (hp w) pl cl l) (n_ : Name) (K1 : Option Addr) (M1 : Nat) (N1 : RdSl (hp w) K1 M1 n_.parts) (key : Name) (K2 : Option Addr) (M2 : Nat) (N2 : RdSl (hp w) K2 M2 key.parts) (hokl : GoT.ok n l) (hokn_ : GoT.ok n n_) (hokkey : GoT.ok n key) :
  Does Tryz.prog 255 #[.slice pl ((l).length) cl, .agg #[.slice K1 ((n_.parts).length) M1], .agg #[.slice K2 ((key.parts).length) M2]] w emp (fun (rv : Value) (_ : World) => rv = .int .i64 ((impl_FirstAllowingRule l n_ key)) ∧ GoT.ok n ((impl_FirstAllowingRule l n_ key) : Int)) := by
 have hbP := bd_pos n
 have hbS0 : bd (n + 1) = 4 * bd (n) := bd_succ (n := n) (by omega)
 have hbS1 : bd (n + 2) = 4 * bd (n + 1) := bd_succ (n := n + 1) (by omega)
 have hbB := bd_big (n := (n + 2)) (by omega)
 have hbM := bd_mono (show n ≤ n + 2 by omega)
 refine WX.enter (tt := tt) (Γ := [(0, MF.rs .stb pl cl l), (1, MF.rs .stb K1 M1 n_.parts), (2, MF.rs .stb K2 M2 key.parts)]) Tryz.func255 rfl (by kernel_rfl) rfl (allS_cons rfl N0 (allS_cons rfl N1 (allS_cons rfl N2 allS_nil))) ?_
 refine R0 ?_
 refine WX.callV rfl rfl rfl rfl rfl (fun _ => rfl) rfl (fun w G bs hI hΓ => f273 w n (by omega) l pl cl (hΓ.get 0 rfl) 274 [Value.pointer (some ⟨bs 4, 0, none⟩), Value.pointer (some ⟨bs 5, 0, none⟩)] (fun e0_ => (impl_FirstAllowingRule_c1 n_ key e0_)) (fun w1_ hb_ e0_ x0_ hk0_ hx0_ => f274 w1_ n (by omega) e0_ x0_.1.1 x0_.1.2 (hx0_ _ List.mem_cons_self) x0_.2.1 x0_.2.2 (hx0_ (MF.rs .der x0_.2.1 x0_.2.2 e0_.keyPattern.parts) (by simp [GoT.fa])) n_ ⟨bs 4, 0, none⟩ ((rd_box (α := Name) (a := n_) (x := (K1, M1)) (hI.loc 4 _ rfl).1 (All.cons (hΓ.get 1 rfl : RdSl _ _ _ _) All.nil)).mono (kp_le hb_)) key ⟨bs 5, 0, none⟩ ((rd_box (α := Name) (a := key) (x := (K2, M2)) (hI.loc 5 _ rfl).1 (All.cons (hΓ.get 2 rfl : RdSl _ _ _ _) All.nil)).mono (kp_le hb_)) hk0_ hokn_ hokkey) hokl) ?_
 intro hq1
 have q1 := ltI_slices_IndexFunc_Rule l (fun e0_ => (impl_FirstAllowingRule_c1 n_ key e0_))
 refine R0 ?_
 have hP1 : impl_FirstAllowingRule l n_ key = (slices_IndexFunc_Rule l (fun e0_ => (impl_FirstAllowingRule_c1 n_ key e0_))) := by simp only [impl_FirstAllowingRule, ct, cf]
 refine R1 ?_
 intro w1 G bs hI hΓ
 rw [hP1]
 exact ⟨rfl, hq1⟩
theorem f234 (w : World) (n : Nat) (hn : n + 2 ≤ 9) (l : (List Rule)) (pl : Option Addr) (cl : Nat) (N0 : RdSl (hp w) pl cl l) (n_ : Name) (K1 : Option Addr) (M1 : Nat) (N1 : RdSl (hp w) K1 M1 n_.parts) (by_ : Name) (K2 : Option Addr) (M2 : Nat) (N2 : RdSl (hp w) K2 M2 by_.parts) (hokl : GoT.ok n l) (hokn_ : GoT.ok n n_) (hokby_ : GoT.ok n by_) :
  Does Tryz.prog 234 #[.slice pl ((l).length) cl, .agg #[.slice K1 ((n_.parts).length) M1], .agg #[.slice K2 ((by_.parts).length) M2]] w emp (fun (rv : Value) (_ : World) => rv = .bool (spec_Allowed l n_ by_) ∧ True) := by
 have hbP := bd_pos n
 have hbS0 : bd (n + 1) = 4 * bd (n) := bd_succ (n := n) (by omega)
 have hbS1 : bd (n + 2) = 4 * bd (n + 1) := bd_succ (n := n + 1) (by omega)
 have hbB := bd_big (n := (n + 2)) (by omega)
 have hbM := bd_mono (show n ≤ n + 2 by omega)
 refine WX.enter (tt := tt) (Γ := [(0, MF.rs .stb pl cl l), (1, MF.rs .stb K1 M1 n_.parts), (2, MF.rs .stb K2 M2 by_.parts)]) Tryz.func234 rfl (by kernel_rfl) rfl (allS_cons rfl N0 (allS_cons rfl N1 (allS_cons rfl N2 allS_nil))) ?_
 refine R0 ?_
 refine WX.callV rfl rfl rfl rfl rfl (fun _ => rfl) rfl (fun w G bs hI hΓ => f250 w n (by omega) l pl cl (hΓ.get 0 rfl) n_ K1 M1 (hΓ.get 1 rfl) by_ K2 M2 (hΓ.get 2 rfl) hokl hokn_ hokby_) ?_
 intro hq1
 refine R0 ?_
 have hP1 : spec_Allowed l n_ by_ = (decide ((spec_FirstAllowingRule l n_ by_) ≥ 0)) := by simp only [spec_Allowed, ct, cf]
 exact R3 hP1
theorem f239 (w : World) (n : Nat) (hn : n + 2 ≤ 9) (l : (List Rule)) (pl : Option Addr) (cl : Nat) (N0 : RdSl (hp w) pl cl l) (n_ : Name) (K1 : Option Addr) (M1 : Nat) (N1 : RdSl (hp w) K1 M1 n_.parts) (key : Name) (K2 : Option Addr) (M2 : Nat) (N2 : RdSl (hp w) K2 M2 key.parts) (hokl : GoT.ok n l) (hokn_ : GoT.ok n n_) (hokkey : GoT.ok n key) :
  Does Tryz.prog 239 #[.slice pl ((l).length) cl, .agg #[.slice K1 ((n_.parts).length) M1], .agg #[.slice K2 ((key.parts).length) M2]] w emp (fun (rv : Value) (_ : World) => rv = .bool (impl_Allowed l n_ key) ∧ True) := by
 have hbP := bd_pos n
 have hbS0 : bd (n + 1) = 4 * bd (n) := bd_succ (n := n) (by omega)
 have hbS1 : bd (n + 2) = 4 * bd (n + 1) := bd_succ (n := n + 1) (by omega)
 have hbB := bd_big (n := (n + 2)) (by omega)
 have hbM := bd_mono (show n ≤ n + 2 by omega)
 refine WX.enter (tt := tt) (Γ := [(0, MF.rs .stb pl cl l), (1, MF.rs .stb K1 M1 n_.parts), (2, MF.rs .stb K2 M2 key.parts)]) Tryz.func239 rfl (by kernel_rfl) rfl (allS_cons rfl N0 (allS_cons rfl N1 (allS_cons rfl N2 allS_nil))) ?_
 refine R0 ?_
 refine WX.callV rfl rfl rfl rfl rfl (fun _ => rfl) rfl (fun w G bs hI hΓ => f255 w n (by omega) l pl cl (hΓ.get 0 rfl) n_ K1 M1 (hΓ.get 1 rfl) key K2 M2 (hΓ.get 2 rfl) hokl hokn_ hokkey) ?_
 intro hq1
 refine R0 ?_
 have hP1 : impl_Allowed l n_ key = (decide ((impl_FirstAllowingRule l n_ key) ≥ 0)) := by simp only [impl_Allowed, ct, cf]
 exact R3 hP1
theorem f235 (w : World) (n : Nat) (hn : n + 0 ≤ 9) (t : TrustPolicy) (K0 : Option Addr) (M0 : Nat) (N0 : RdSl (hp w) K0 M0 t.keys) (K1 : Option Addr) (M1 : Nat) (N1 : RdSl (hp w) K1 M1 t.rules) (K2 : Option Addr) (M2 : Nat) (N2 : RdSl (hp w) K2 M2 t.anchors) (K3 : Option Addr) (M3 : Nat) (N3 : RdSl (hp w) K3 M3 t.certificates) (n_ : Name) (K4 : Option Addr) (M4 : Nat) (N4 : RdSl (hp w) K4 M4 n_.parts) (hokt : GoT.ok n t) (hokn_ : GoT.ok n n_) :
  Does Tryz.prog 235 #[.agg #[.slice K0 ((t.keys).length) M0, .slice K1 ((t.rules).length) M1, .slice K2 ((t.anchors).length) M2, .slice K3 ((t.certificates).length) M3], .agg #[.slice K4 ((n_.parts).length) M4]] w emp (fun (rv : Value) (_ : World) => rv = .bool (spec_IsAnchor t n_) ∧ True) := by
 have hbP := bd_pos n
 have hbB := bd_big (n := n) (by omega)
 refine WX.enter (tt := tt) (Γ := [(0, MF.rs .stb K0 M0 t.keys), (1, MF.rs .stb K1 M1 t.rules), (2, MF.rs .stb K2 M2 t.anchors), (3, MF.rs .stb K3 M3 t.certificates), (4, MF.rs .stb K4 M4 n_.parts)]) Tryz.func235 rfl (by kernel_rfl) rfl (allS_cons rfl N0 (allS_cons rfl N1 (allS_cons rfl N2 (allS_cons rfl N3 (allS_cons rfl N4 allS_nil))))) ?_
 refine R0 ?_
 have r1 : (t.anchors).length ≤ bd n := (okl (ok_TrustPolicy hokt).2.2.1).1
 refine WX.loop (ι := Nat) ⟨fun i => (i ≤ (t.anchors).length) ∧ (spec_IsAnchor_L1 n_ t.anchors = spec_IsAnchor_L1 n_ ((t.anchors).drop i)), fun i => (t.anchors).length - i, fun i => [(5, .v (.int .i64 (((i : Nat) : Int)))), (3, .p 3 0), (2, .p 2 0)], fun i => [(3, ⟨30, [.slice K4 ((n_.parts).length) M4]⟩), (2, ⟨110, [.slice K0 ((t.keys).length) M0, .slice K1 ((t.rules).length) M1, .slice K2 ((t.anchors).length) M2, .slice K3 ((t.certificates).length) M3]⟩)], fun i => [], fun i => [(0, MF.rs .stb K0 M0 t.keys), (1, MF.rs .stb K1 M1 t.rules), (2, MF.rs .stb K2 M2 t.anchors), (3, MF.rs .stb K3 M3 t.certificates), (4, MF.rs .stb K4 M4 n_.parts)]⟩ 0 ⟨(Nat.zero_le _), rfl⟩
  (.cons rfl (.cons rfl (.cons rfl (.nil)))) (.cons rfl (.cons rfl (.nil))) .nil [0, 1, 2, 3, 4] rfl ?_
 rintro i hpre
 have hpre_ : (i ≤ (t.anchors).length) ∧ (spec_IsAnchor_L1 n_ t.anchors = spec_IsAnchor_L1 n_ ((t.anchors).drop i)) := hpre
 clear hpre
 obtain ⟨v1, v2⟩ := hpre_
 refine R0 ?_
 refine WX.cases 10 rfl (fun h1 => ?_) (fun h1 => ?_)
 ·skip
  have h1d := B.dt h1
  have e1i : i < (t.anchors).length := (by omega)
  obtain ⟨e1, e1h⟩ : ∃ e1, (t.anchors)[i]? = some e1 := ⟨_, List.getElem?_eq_getElem e1i⟩
  have ok1 : GoT.ok n e1 := (okl (ok_TrustPolicy hokt).2.2.1).2 _ (List.mem_of_getElem? e1h)
  refine R0 ?_
  refine WX.draw [] mixed ?_
  intro bs G0 hΓ0
  refine DX.takes (fuel := 4) ttOk [(0, true), (1, false), (2, true)] (by kernel_rfl) rfl ?_
  refine DX.idx 3 2 i ttOk hΓ0 (by kernel_rfl) rfl rfl rfl rfl rfl rfl rfl rfl rfl rfl rfl e1i ?_
  rintro ad1 rfl
  refine DX.ldE 4 2 5 e1 ttOk hΓ0 (by kernel_rfl) rfl rfl rfl rfl rfl rfl rfl rfl e1h (fun _ => rfl) (fun _ => rfl) ?_
  rintro ⟨p1, c1⟩
  refine DX.takes (fuel := 1) ttOk [(5, false)] (by kernel_rfl) rfl ?_
  refine DX.callV 6 rfl (by kernel_rfl) rfl rfl rfl rfl rfl rfl (fun _ => rfl) rfl (fun w G bs hI hΓ => f146 w n (by omega) e1 p1 c1 (hΓ.get 5 rfl) n_ K4 M4 (hΓ.get 4 rfl) ok1 hokn_) ?_
  intro hq1
  refine DX.tail2 [] rfl rfl (by kernel_rfl) ?_
  refine R0 ?_
  refine WX.cases 19 rfl (fun h2 => ?_) (fun h2 => ?_)
  ·skip
   refine R0 ?_
   have hP1 : spec_IsAnchor_L1 n_ t.anchors = (some true) := by rw [v2, drop_get e1h]; simp only [spec_IsAnchor_L1, h2, ct, cf]
   have hP2 : spec_IsAnchor t n_ = true := by simp only [spec_IsAnchor, hP1, ct, cf]
   exact R3 hP2
  ·skip
   refine R0 ?_
   refine WX.see rfl rfl rfl (fun _ hΓ => looks_arith rfl rfl rfl rfl (by unfold I64; first | omega | (simp only [List.length_take] at *; omega))) ?_
   refine R0 ?_
   exact WX.iter (i + 1) ⟨(by omega), (by rw [v2, drop_get e1h]; simp only [spec_IsAnchor_L1, h2, ct, cf])⟩ (by first | (dsimp only; omega) | omega) (.cons rfl (.cons rfl (.cons rfl (.nil)))) (.cons rfl (.cons rfl (.nil))) .nil [0, 1, 2, 3, 4] rfl
 ·skip
  have h1d := B.df h1
  refine R0 ?_
  have hX1 : spec_IsAnchor_L1 n_ t.anchors = none := by rw [v2, List.drop_eq_nil_of_le (show (t.anchors).length ≤ i by omega)]; simp only [spec_IsAnchor_L1, ct, cf]
  have hP3 : spec_IsAnchor t n_ = false := by simp only [spec_IsAnchor, hX1, ct, cf]
  exact R3 hP3
theorem f276 (w : World) (n : Nat) (hn : n + 0 ≤ 9) (s : (List Name)) (ps : Option Addr) (cs : Nat) (N0 : RdSl (hp w) ps cs s) (fg : FuncId) (fc : List Value) (fq : Name → Bool) (ff : ∀ w1, Kp emp w w1 → ∀ (e0 : Name) (x0 : GoT.X Name), GoT.ok n e0 → All (hp w1) (GoT.fa .der e0 x0) → Does Tryz.prog fg ([Value.agg ⟨GoT.sh e0 x0⟩] ++ fc).toArray w1 emp (fun rv _ => rv = .bool (fq e0) ∧ True)) (hoks : GoT.ok n s) :
  Does Tryz.prog 276 #[.slice ps ((s).length) cs, .func (.func fg) #[] fc.toArray] w emp (fun (rv : Value) (_ : World) => rv = .int .i64 ((slices_IndexFunc_Name s fq)) ∧ GoT.ok n ((slices_IndexFunc_Name s fq) : Int)) := by
 have hbP := bd_pos n
 have hbB := bd_big (n := n) (by omega)
 refine WX.enter (tt := tt) (Γ := [(0, MF.rs .stb ps cs s)]) Tryz.func276 rfl (by kernel_rfl) rfl (allS_cons rfl N0 allS_nil) ?_
 refine R0 ?_
 have r1 : (s).length ≤ bd n := (okl hoks).1
 refine WX.loop (ι := Nat) ⟨fun i => (i ≤ (s).length) ∧ (slices_IndexFunc_Name_L1 fq s 0 = slices_IndexFunc_Name_L1 fq ((s).drop i) i), fun i => (s).length - i, fun i => [(8, .v (.int .i64 (((i : Nat) : Int)))), (7, .v (.int .i64 ((((s).length : Nat) : Int)))), (0, .v (.slice ps ((s).length) cs)), (1, .v (.func (.func fg) #[] fc.toArray))], fun i => [], fun i => [], fun i => [(0, MF.rs .stb ps cs s)]⟩ 0 ⟨(Nat.zero_le _), rfl⟩
  (.cons rfl (.cons rfl (.cons rfl (.cons rfl (.nil))))) .nil .nil [0] rfl ?_
 rintro i hpre
 have hpre_ : (i ≤ (s).length) ∧ (slices_IndexFunc_Name_L1 fq s 0 = slices_IndexFunc_Name_L1 fq ((s).drop i) i) := hpre
 clear hpre
 obtain ⟨v1, v2⟩ := hpre_
 refine R0 ?_
 refine WX.cases 9 rfl (fun h1 => ?_) (fun h1 => ?_)
 ·skip
  have h1d := B.dt h1
  have e1i : i < (s).length := (by omega)
  obtain ⟨e1, e1h⟩ : ∃ e1, (s)[i]? = some e1 := ⟨_, List.getElem?_eq_getElem e1i⟩
  have ok1 : GoT.ok n e1 := (okl hoks).2 _ (List.mem_of_getElem? e1h)
  refine R0 ?_
  refine WX.idx 0 i ttOk rfl rfl rfl rfl rfl rfl rfl rfl rfl rfl e1i ?_
  rintro ad1 rfl
  refine WX.ldE 0 1 e1 ttOk rfl rfl rfl rfl rfl rfl rfl rfl e1h (fun _ => rfl) (fun _ => rfl) ?_
  rintro ⟨p1, c1⟩
  refine WX.callV rfl rfl rfl rfl rfl (fun _ => rfl) rfl (fun w G bs hI hΓ => ff w hI.keep e1 (p1, c1) ok1 (All.cons (hΓ.get 1 rfl : RdSl _ _ _ _) All.nil)) ?_
  intro hq1
  refine R0 ?_
  refine WX.cases 16 rfl (fun h2 => ?_) (fun h2 => ?_)
  ·skip
   refine R0 ?_
   have hP1 : slices_IndexFunc_Name_L1 fq s 0 = (some ((i : Nat) : Int)) := by rw [v2, drop_get e1h]; simp only [slices_IndexFunc_Name_L1, h2, ct, cf]
   have hP2 : slices_IndexFunc_Name s fq = ((i : Nat) : Int) := by simp only [slices_IndexFunc_Name, hP1, ct, cf]
   refine R1 ?_
   intro w1 G bs hI hΓ
   rw [hP2]
   exact ⟨rfl, (show I64 ((i : Nat) : Int) from (by unfold I64; omega))⟩
  ·skip
   refine R0 ?_
   refine WX.see rfl rfl rfl (fun _ hΓ => looks_arith rfl rfl rfl rfl (by unfold I64; first | omega | (simp only [List.length_take] at *; omega))) ?_
   refine R0 ?_
   exact WX.iter (i + 1) ⟨(by omega), (by rw [v2, drop_get e1h]; simp only [slices_IndexFunc_Name_L1, h2, ct, cf])⟩ (by first | (dsimp only; omega) | omega) (.cons rfl (.cons rfl (.cons rfl (.cons rfl (.nil))))) .nil .nil [0] rfl
 ·skip
  have h1d := B.df h1
  refine R0 ?_
  have hX1 : slices_IndexFunc_Name_L1 fq s 0 = none := by rw [v2, List.drop_eq_nil_of_le (show (s).length ≤ i by omega)]; simp only [slices_IndexFunc_Name_L1, ct, cf]
  have hP3 : slices_IndexFunc_Name s fq = (-1) := by simp only [slices_IndexFunc_Name, hX1, ct, cf]
  refine R1 ?_
  intro w1 G bs hI hΓ
  rw [hP3]
  exact ⟨rfl, (show I64 (-1) from (by unfold I64; omega))⟩
theorem ltL_slices_IndexFunc_Name : ∀ (f : Name → Bool) (l : List Name) (i : Nat) (j : Int), slices_IndexFunc_Name_L1 f l i = some j → j < ((i + l.length : Nat) : Int)
  | f, [], i, j, h => by cases h
  | f, x :: l, i, j, h => by
    simp only [slices_IndexFunc_Name_L1] at h
    cases hx : f x
    · rw [hx, cond_false] at h
      have := ltL_slices_IndexFunc_Name f l (i + 1) j h
      simp only [List.length_cons]; omega
    · rw [hx, cond_true] at h
      cases h
      simp only [List.length_cons]; omega
theorem ltI_slices_IndexFunc_Name (l : List Name) (f : Name → Bool) : slices_IndexFunc_Name l f < ((l.length : Nat) : Int) := by
  unfold slices_IndexFunc_Name
  cases h : slices_IndexFunc_Name_L1 f l 0 with
  | none => show (-1 : Int) < _; omega
  | some j => have := ltL_slices_IndexFunc_Name f l 0 j h; show j < _; omega
theorem f256 (w : World) (n : Nat) (hn : n + 0 ≤ 9) (s : (List Name)) (ps : Option Addr) (cs : Nat) (N0 : RdSl (hp w) ps cs s) (fg : FuncId) (fc : List Value) (fq : Name → Bool) (ff : ∀ w1, Kp emp w w1 → ∀ (e0 : Name) (x0 : GoT.X Name), GoT.ok n e0 → All (hp w1) (GoT.fa .der e0 x0) → Does Tryz.prog fg ([Value.agg ⟨GoT.sh e0 x0⟩] ++ fc).toArray w1 emp (fun rv _ => rv = .bool (fq e0) ∧ True)) (hoks : GoT.ok n s) :
  Does Tryz.prog 256 #[.slice ps ((s).length) cs, .func (.func fg) #[] fc.toArray] w emp (fun (rv : Value) (_ : World) => rv = .bool (slices_ContainsFunc_Name s fq) ∧ True) := by
 have hbP := bd_pos n
 have hbB := bd_big (n := n) (by omega)
 refine WX.enter (tt := tt) (Γ := [(0, MF.rs .stb ps cs s)]) Tryz.func256 rfl (by kernel_rfl) rfl (allS_cons rfl N0 allS_nil) ?_
 refine R0 ?_
 refine WX.callV rfl rfl rfl rfl rfl (fun _ => rfl) rfl (fun w G bs hI hΓ => f276 w n (by omega) s ps cs (hΓ.get 0 rfl) fg fc fq (fun w1_ hb_ => ff w1_ (hI.keep.trans hb_)) hoks) ?_
 intro hq1
 have q1 := ltI_slices_IndexFunc_Name s fq
 refine R0 ?_
 have hP1 : slices_ContainsFunc_Name s fq = (decide ((slices_IndexFunc_Name s fq) ≥ 0)) := by simp only [slices_ContainsFunc_Name, ct, cf]
 exact R3 hP1
theorem f257 (w : World) (n : Nat) (hn : n + 0 ≤ 9) (a : Name) (pa : Option Addr) (ca : Nat) (N0 : RdSl (hp w) pa ca a.parts) (n_ : Name) (bn_ : Addr) (hn_ : RdSl (hp w) (some bn_) 1 [n_]) (hoka : GoT.ok n a) (hokn_ : GoT.ok n n_) :
  Does Tryz.prog 257 #[.agg #[.slice pa ((a.parts).length) ca], .pointer (some bn_)] w emp (fun (rv : Value) (_ : World) => rv = .bool (impl_IsAnchor_c1 n_ a) ∧ True) := by
 have hbP := bd_pos n
 have hbB := bd_big (n := n) (by omega)
 refine WX.enter (tt := tt) (Γ := [(0, MF.rs .stb pa ca a.parts), (1, MF.rs .stb (some bn_) 1 ([n_]))]) Tryz.func257 rfl (by kernel_rfl) rfl (allS_cons rfl N0 (allS_cons rfl hn_ allS_nil)) ?_
 have n_h : ([n_] : List Name)[0]? = some n_ := rfl
 refine WX.slot 1 (y := .e (some bn_) 0 1 0) rfl (fun _ => cap_eq) ?_
 refine R0 ?_
 refine WX.ldE 1 2 n_ ttOk rfl rfl rfl rfl rfl rfl rfl rfl n_h (fun _ => rfl) (fun _ => rfl) ?_
 rintro ⟨p1, c1⟩
 refine WX.callV rfl rfl rfl rfl rfl (fun _ => rfl) rfl (fun w G bs hI hΓ => f94 w n (by omega) a pa ca (hΓ.get 0 rfl) n_ p1 c1 (hΓ.get 2 rfl) hoka hokn_) ?_
 intro hq1
 refine R0 ?_
 have hP1 : impl_IsAnchor_c1 n_ a = (impl_EqualNames a n_) := by simp only [impl_IsAnchor_c1, ct, cf]
 exact R3 hP1
theorem f240 (w : World) (n : Nat) (hn : n + 0 ≤ 9) (t : TrustPolicy) (K0 : Option Addr) (M0 : Nat) (N0 : RdSl (hp w) K0 M0 t.keys) (K1 : Option Addr) (M1 : Nat) (N1 : RdSl (hp w) K1 M1 t.rules) (K2 : Option Addr) (M2 : Nat) (N2 : RdSl (hp w) K2 M2 t.anchors) (K3 : Option Addr) (M3 : Nat) (N3 : RdSl (hp w) K3 M3 t.certificates) (n_ : Name) (K4 : Option Addr) (M4 : Nat) (N4 : RdSl (hp w) K4 M4 n_.parts) (hokt : GoT.ok n t) (hokn_ : GoT.ok n n_) :
  Does Tryz.prog 240 #[.agg #[.slice K0 ((t.keys).length) M0, .slice K1 ((t.rules).length) M1, .slice K2 ((t.anchors).length) M2, .slice K3 ((t.certificates).length) M3], .agg #[.slice K4 ((n_.parts).length) M4]] w emp (fun (rv : Value) (_ : World) => rv = .bool (impl_IsAnchor t n_) ∧ True) := by
 have hbP := bd_pos n
 have hbB := bd_big (n := n) (by omega)
 refine WX.enter (tt := tt) (Γ := [(0, MF.rs .stb K0 M0 t.keys), (1, MF.rs .stb K1 M1 t.rules), (2, MF.rs .stb K2 M2 t.anchors), (3, MF.rs .stb K3 M3 t.certificates), (4, MF.rs .stb K4 M4 n_.parts)]) Tryz.func240 rfl (by kernel_rfl) rfl (allS_cons rfl N0 (allS_cons rfl N1 (allS_cons rfl N2 (allS_cons rfl N3 (allS_cons rfl N4 allS_nil))))) ?_
 refine R0 ?_
 refine WX.callV rfl rfl rfl rfl rfl (fun _ => rfl) rfl (fun w G bs hI hΓ => f256 w n (by omega) t.anchors K2 M2 (hΓ.get 2 rfl) 257 [Value.pointer (some ⟨bs 3, 0, none⟩)] (fun e0_ => (impl_IsAnchor_c1 n_ e0_)) (fun w1_ hb_ e0_ x0_ hk0_ hx0_ => f257 w1_ n (by omega) e0_ x0_.1 x0_.2 (hx0_ _ List.mem_cons_self) n_ ⟨bs 3, 0, none⟩ ((rd_box (α := Name) (a := n_) (x := (K4, M4)) (hI.loc 3 _ rfl).1 (All.cons (hΓ.get 4 rfl : RdSl _ _ _ _) All.nil)).mono (kp_le hb_)) hk0_ hokn_) ((ok_TrustPolicy hokt).2.2.1)) ?_
 intro hq1
 refine R0 ?_
 have hP1 : impl_IsAnchor t n_ = (slices_ContainsFunc_Name t.anchors (fun e0_ => (impl_IsAnchor_c1 n_ e0_))) := by simp only [impl_IsAnchor, ct, cf]
 exact R3 hP1
theorem f251 (w : World) (n : Nat) (hn : n + 0 ≤ 9) (x_ : DataP) (K0 : Option Addr) (M0 : Nat) (N0 : RdSl (hp w) K0 M0 x_.name.parts) (K1 : Option Addr) (M1 : Nat) (N1 : RdSl (hp w) K1 M1 x_.content) (K2 : Option Addr) (M2 : Nat) (N2 : RdSl (hp w) K2 M2 x_.keyName.parts) (now : Int) (hokx_ : GoT.ok n x_) (hoknow : GoT.ok n now) :
  Does Tryz.prog 251 #[.agg #[.slice K0 ((x_.name.parts).length) M0, .slice K1 ((x_.content).length) M1, .slice K2 ((x_.keyName.parts).length) M2, .int .i64 (x_.freshUntil), .int .i64 (x_.signature)], .int .i64 (now)] w emp (fun (rv : Value) (_ : World) => rv = .bool (spec_FreshAt x_ now) ∧ True) := by
 refine WX.enter (tt := tt) (Γ := [(0, MF.rs .stb K0 M0 x_.name.parts), (1, MF.rs .stb K1 M1 x_.content), (2, MF.rs .stb K2 M2 x_.keyName.parts)]) Tryz.func251 rfl (by kernel_rfl) rfl (allS_cons rfl N0 (allS_cons rfl N1 (allS_cons rfl N2 allS_nil))) ?_
 refine R0 ?_
 have hP1 : spec_FreshAt x_ now = (decide (now ≤ x_.freshUntil)) := by simp only [spec_FreshAt, ct, cf]
 exact R3 hP1
theorem f259 (w : World) (n : Nat) (hn : n + 0 ≤ 9) (x_ : DataP) (K0 : Option Addr) (M0 : Nat) (N0 : RdSl (hp w) K0 M0 x_.name.parts) (K1 : Option Addr) (M1 : Nat) (N1 : RdSl (hp w) K1 M1 x_.content) (K2 : Option Addr) (M2 : Nat) (N2 : RdSl (hp w) K2 M2 x_.keyName.parts) (now : Int) (hokx_ : GoT.ok n x_) (hoknow : GoT.ok n now) :
  Does Tryz.prog 259 #[.agg #[.slice K0 ((x_.name.parts).length) M0, .slice K1 ((x_.content).length) M1, .slice K2 ((x_.keyName.parts).length) M2, .int .i64 (x_.freshUntil), .int .i64 (x_.signature)], .int .i64 (now)] w emp (fun (rv : Value) (_ : World) => rv = .bool (impl_FreshAt x_ now) ∧ True) := by
 refine WX.enter (tt := tt) (Γ := [(0, MF.rs .stb K0 M0 x_.name.parts), (1, MF.rs .stb K1 M1 x_.content), (2, MF.rs .stb K2 M2 x_.keyName.parts)]) Tryz.func259 rfl (by kernel_rfl) rfl (allS_cons rfl N0 (allS_cons rfl N1 (allS_cons rfl N2 allS_nil))) ?_
 refine R0 ?_
 have hP1 : impl_FreshAt x_ now = (decide (now ≤ x_.freshUntil)) := by simp only [impl_FreshAt, ct, cf]
 exact R3 hP1
theorem f252 (w : World) (n : Nat) (hn : n + 1 ≤ 9) (l : (List Key)) (pl : Option Addr) (cl : Nat) (N0 : RdSl (hp w) pl cl l) (n_ : Name) (K1 : Option Addr) (M1 : Nat) (N1 : RdSl (hp w) K1 M1 n_.parts) (hokl : GoT.ok n l) (hokn_ : GoT.ok n n_) :
  Does Tryz.prog 252 #[.slice pl ((l).length) cl, .agg #[.slice K1 ((n_.parts).length) M1]] w emp (Post w emp (fun x : GoT.X ((List UInt8)) => (GoT.sh ((spec_KeyDigest l n_) : (List UInt8)) x).headD undef) (fun x => GoT.oa ((spec_KeyDigest l n_) : (List UInt8)) x) (GoT.ok (n + 1) ((spec_KeyDigest l n_) : (List UInt8)))) := by
 have hbP := bd_pos n
 have hbS0 : bd (n + 1) = 4 * bd (n) := bd_succ (n := n) (by omega)
 have hbB := bd_big (n := (n + 1)) (by omega)
 have hbM := bd_mono (show n ≤ n + 1 by omega)
 refine WX.enter (tt := tt) (Γ := [(0, MF.rs .stb pl cl l), (1, MF.rs .stb K1 M1 n_.parts)]) Tryz.func252 rfl (by kernel_rfl) rfl (allS_cons rfl N0 (allS_cons rfl N1 allS_nil)) ?_
 refine R0 ?_
 refine WX.callV rfl rfl rfl rfl rfl (fun _ => rfl) rfl (fun w G bs hI hΓ => f249 w n (by omega) l pl cl (hΓ.get 0 rfl) n_ K1 M1 (hΓ.get 1 rfl) hokl hokn_) ?_
 intro hq1
 refine R0 ?_
 refine WX.cases 10 rfl (fun h1 => ?_) (fun h1 => ?_)
 ·skip
  have h1d := B.et h1
  refine R0 ?_
  refine WX.bld ttOk rfl rfl rfl rfl rfl rfl rfl ?_
  intro p1
  refine R0 ?_
  refine WX.free 2 (MF.ol [] ([] : List UInt8)) rfl ?_
  refine WX.seal 11 2 3 rfl rfl rfl rfl rfl ?_
  have hP1 : spec_KeyDigest l n_ = ([]) := by simp only [spec_KeyDigest, h1, ct, cf]
  refine R1 ?_
  intro w1 G bs hI hΓ
  rw [hP1]
  exact Post.of [4] (p1, 0) hI hΓ rfl rfl rfl (okl_mk (Nat.zero_le _) (fun _ _ => trivial) : GoT.ok (n + 1) ([] : List UInt8))
 ·skip
  have h1d := B.ef h1
  refine R0 ?_
  refine WX.bld ttOk rfl rfl rfl rfl rfl rfl rfl ?_
  intro p2
  refine R0 ?_
  refine WX.bld ttOk rfl rfl rfl rfl rfl rfl rfl ?_
  intro p3
  refine WX.turn [] 5 rfl (fun h hs => ol_one (α := Int) (a := (spec_SecretOf l n_)) (x := ()) hs) (gs := [MF.ol [.int .i64 ((spec_SecretOf l n_))] ([(spec_SecretOf l n_)] : List Int)]) rfl ?_
  refine WX.seal 14 5 6 rfl rfl rfl rfl rfl ?_
  have r1 : (l).length ≤ bd n := (okl hokl).1
  have r2 : -9223372036854775808 ≤ (spec_SecretOf l n_) ∧ (spec_SecretOf l n_) ≤ 9223372036854775807 := hq1
  refine WX.callV rfl rfl rfl rfl rfl (fun _ => rfl) rfl (fun w G bs hI hΓ => f269 w n (by omega) ([(spec_SecretOf l n_)]) p3 1 (hΓ.get 6 rfl) (okl_mk (by simp; omega) (all_cons (α := Int) hq1 (fun a ha => by cases ha)) : GoT.ok n ([(spec_SecretOf l n_)] : List Int))) ?_
  intro hq2
  refine WX.free 8 (MF.ol [] ([] : List UInt8)) rfl ?_
  refine WX.seal 12 8 9 rfl rfl rfl rfl rfl ?_
  refine WX.callF 11 (fun _ _ h => GoT.ow_rd h) (fun _ f hf => GoT.fak f hf) rfl rfl rfl rfl rfl (fun _ => rfl) rfl (fun w G bs hI hΓ => f268 w n (by omega) ([]) p2 0 (hΓ.get 9 rfl) (spec_Digest ([(spec_SecretOf l n_)])) (okl_mk (Nat.zero_le _) (fun _ _ => trivial) : GoT.ok n ([] : List UInt8)) hq2) (fun _ => rfl) (fun _ => rfl) ?_
  rintro ⟨p4, c1⟩ hq3
  have q1 := len_specAV ([]) (spec_Digest ([(spec_SecretOf l n_)]))
  refine R0 ?_
  have hP2 : spec_KeyDigest l n_ = (spec_AppendVarint ([]) (spec_Digest ([(spec_SecretOf l n_)]))) := by simp only [spec_KeyDigest, h1, ct, cf]
  refine R1 ?_
  intro w1 G bs hI hΓ
  rw [hP2]
  exact Post.of [12] (p4, c1) hI hΓ rfl rfl rfl hq3
theorem f260 (w : World) (n : Nat) (hn : n + 1 ≤ 9) (l : (List Key)) (pl : Option Addr) (cl : Nat) (N0 : RdSl (hp w) pl cl l) (n_ : Name) (K1 : Option Addr) (M1 : Nat) (N1 : RdSl (hp w) K1 M1 n_.parts) (hokl : GoT.ok n l) (hokn_ : GoT.ok n n_) :
  Does Tryz.prog 260 #[.slice pl ((l).length) cl, .agg #[.slice K1 ((n_.parts).length) M1]] w emp (Post w emp (fun x : GoT.X ((List UInt8)) => (GoT.sh ((impl_KeyDigest l n_) : (List UInt8)) x).headD undef) (fun x => GoT.oa ((impl_KeyDigest l n_) : (List UInt8)) x) (GoT.ok (n + 1) ((impl_KeyDigest l n_) : (List UInt8)))) := by
 have hbP := bd_pos n
 have hbS0 : bd (n + 1) = 4 * bd (n) := bd_succ (n := n) (by omega)
 have hbB := bd_big (n := (n + 1)) (by omega)
 have hbM := bd_mono (show n ≤ n + 1 by omega)
 refine WX.enter (tt := tt) (Γ := [(0, MF.rs .stb pl cl l), (1, MF.rs .stb K1 M1 n_.parts)]) Tryz.func260 rfl (by kernel_rfl) rfl (allS_cons rfl N0 (allS_cons rfl N1 allS_nil)) ?_
 refine R0 ?_
 refine WX.callV rfl rfl rfl rfl rfl (fun _ => rfl) rfl (fun w G bs hI hΓ => f254 w n (by omega) l pl cl (hΓ.get 0 rfl) n_ K1 M1 (hΓ.get 1 rfl) hokl hokn_) ?_
 intro hq1
 refine R0 ?_
 refine WX.cases 10 rfl (fun h1 => ?_) (fun h1 => ?_)
 ·skip
  have h1d := B.et h1
  refine R0 ?_
  refine WX.free 2 (MF.os none 0 ([] : List UInt8)) (owSl_nil _ _) ?_
  have hP1 : impl_KeyDigest l n_ = ([] : List UInt8) := by simp only [impl_KeyDigest, h1, ct, cf]
  refine R1 ?_
  intro w1 G bs hI hΓ
  rw [hP1]
  exact Post.of [2] (none, 0) hI hΓ rfl rfl rfl (ok_nil (α := UInt8))
 ·skip
  have h1d := B.ef h1
  refine R0 ?_
  refine WX.bld ttOk rfl rfl rfl rfl rfl rfl rfl ?_
  intro p1
  refine WX.turn [] 3 rfl (fun h hs => ol_one (α := Int) (a := (impl_SecretOf l n_)) (x := ()) hs) (gs := [MF.ol [.int .i64 ((impl_SecretOf l n_))] ([(impl_SecretOf l n_)] : List Int)]) rfl ?_
  refine WX.seal 12 3 4 rfl rfl rfl rfl rfl ?_
  have r1 : (l).length ≤ bd n := (okl hokl).1
  have r2 : -9223372036854775808 ≤ (impl_SecretOf l n_) ∧ (impl_SecretOf l n_) ≤ 9223372036854775807 := hq1
  refine WX.callV rfl rfl rfl rfl rfl (fun _ => rfl) rfl (fun w G bs hI hΓ => f278 w n (by omega) ([(impl_SecretOf l n_)]) p1 1 (hΓ.get 4 rfl) (okl_mk (by simp; omega) (all_cons (α := Int) hq1 (fun a ha => by cases ha)) : GoT.ok n ([(impl_SecretOf l n_)] : List Int))) ?_
  intro hq2
  refine WX.callF 6 (fun _ _ h => GoT.ow_rd h) (fun _ f hf => GoT.fak f hf) rfl rfl rfl rfl rfl (fun _ => rfl) rfl (fun w G bs hI hΓ => f277 w n (by omega) ([] : List UInt8) none 0 (rdSl_nil _ _ _) (impl_Digest ([(impl_SecretOf l n_)])) (ok_nil (α := UInt8)) hq2) (fun _ => rfl) (fun _ => rfl) ?_
  rintro ⟨p2, c1⟩ hq3
  have q1 := len_implAV ([] : List UInt8) (impl_Digest ([(impl_SecretOf l n_)]))
  refine R0 ?_
  have hP2 : impl_KeyDigest l n_ = (impl_AppendVarint ([] : List UInt8) (impl_Digest ([(impl_SecretOf l n_)]))) := by simp only [impl_KeyDigest, h1, ct, cf]
  refine R1 ?_
  intro w1 G bs hI hΓ
  rw [hP2]
  exact Post.of [7] (p2, c1) hI hΓ rfl rfl rfl hq3
theorem f236 (w : World) (n : Nat) (hn : n + 7 ≤ 9) (t : TrustPolicy) (K0 : Option Addr) (M0 : Nat) (N0 : RdSl (hp w) K0 M0 t.keys) (K1 : Option Addr) (M1 : Nat) (N1 : RdSl (hp w) K1 M1 t.rules) (K2 : Option Addr) (M2 : Nat) (N2 : RdSl (hp w) K2 M2 t.anchors) (K3 : Option Addr) (M3 : Nat) (N3 : RdSl (hp w) K3 M3 t.certificates) (n_ : Name) (K4 : Option Addr) (M4 : Nat) (N4 : RdSl (hp w) K4 M4 n_.parts) (now : Int) (hokt : GoT.ok n t) (hokn_ : GoT.ok n n_) (hoknow : GoT.ok n now) :
  Does Tryz.prog 236 #[.agg #[.slice K0 ((t.keys).length) M0, .slice K1 ((t.rules).length) M1, .slice K2 ((t.anchors).length) M2, .slice K3 ((t.certificates).length) M3], .agg #[.slice K4 ((n_.parts).length) M4], .int .i64 (now)] w emp (fun (rv : Value) (_ : World) => rv = .int .i64 ((spec_FindCertificate t n_ now)) ∧ GoT.ok n ((spec_FindCertificate t n_ now) : Int)) := by
 have hbP := bd_pos n
 have hbS0 : bd (n + 1) = 4 * bd (n) := bd_succ (n := n) (by omega)
 have hbS1 : bd (n + 2) = 4 * bd (n + 1) := bd_succ (n := n + 1) (by omega)
 have hbS2 : bd (n + 3) = 4 * bd (n + 2) := bd_succ (n := n + 2) (by omega)
 have hbS3 : bd (n + 4) = 4 * bd (n + 3) := bd_succ (n := n + 3) (by omega)
 have hbS4 : bd (n + 5) = 4 * bd (n + 4) := bd_succ (n := n + 4) (by omega)
 have hbS5 : bd (n + 6) = 4 * bd (n + 5) := bd_succ (n := n + 5) (by omega)
 have hbS6 : bd (n + 7) = 4 * bd (n + 6) := bd_succ (n := n + 6) (by omega)
 have hbB := bd_big (n := (n + 7)) (by omega)
 have hbM := bd_mono (show n ≤ n + 7 by omega)
 refine WX.enter (tt := tt) (Γ := [(0, MF.rs .stb K0 M0 t.keys), (1, MF.rs .stb K1 M1 t.rules), (2, MF.rs .stb K2 M2 t.anchors), (3, MF.rs .stb K3 M3 t.certificates), (4, MF.rs .stb K4 M4 n_.parts)]) Tryz.func236 rfl (by kernel_rfl) rfl (allS_cons rfl N0 (allS_cons rfl N1 (allS_cons rfl N2 (allS_cons rfl N3 (allS_cons rfl N4 allS_nil))))) ?_
 refine R0 ?_
 refine WX.callV rfl rfl rfl rfl rfl (fun _ => rfl) rfl (fun w G bs hI hΓ => f249 w n (by omega) t.keys K0 M0 (hΓ.get 0 rfl) n_ K4 M4 (hΓ.get 4 rfl) ((ok_TrustPolicy hokt).1) hokn_) ?_
 intro hq1
 refine R0 ?_
 refine WX.cases 13 rfl (fun h1 => ?_) (fun h1 => ?_)
 ·skip
  have h1d := B.et h1
  refine R0 ?_
  have hP1 : spec_FindCertificate t n_ now = (-1) := by simp only [spec_FindCertificate, h1, ct, cf]
  refine R1 ?_
  intro w1 G bs hI hΓ
  rw [hP1]
  exact ⟨rfl, (show I64 (-1) from (by unfold I64; omega))⟩
 ·skip
  have h1d := B.ef h1
  refine R0 ?_
  have r1 : (t.certificates).length ≤ bd n := (okl (ok_TrustPolicy hokt).2.2.2).1
  refine WX.loop (ι := Nat) ⟨fun i => (i ≤ (t.certificates).length) ∧ (spec_FindCertificate_L1 t n_ now t.certificates 0 = spec_FindCertificate_L1 t n_ now ((t.certificates).drop i) i), fun i => (t.certificates).length - i, fun i => [(7, .v (.int .i64 (((i : Nat) : Int)))), (4, .p 4 0), (3, .p 3 0), (2, .v (.int .i64 (now)))], fun i => [(4, ⟨30, [.slice K4 ((n_.parts).length) M4]⟩), (3, ⟨110, [.slice K0 ((t.keys).length) M0, .slice K1 ((t.rules).length) M1, .slice K2 ((t.anchors).length) M2, .slice K3 ((t.certificates).length) M3]⟩)], fun i => [], fun i => [(0, MF.rs .stb K0 M0 t.keys), (1, MF.rs .stb K1 M1 t.rules), (2, MF.rs .stb K2 M2 t.anchors), (3, MF.rs .stb K3 M3 t.certificates), (4, MF.rs .stb K4 M4 n_.parts)]⟩ 0 ⟨(Nat.zero_le _), rfl⟩
   (.cons rfl (.cons rfl (.cons rfl (.cons rfl (.nil))))) (.cons rfl (.cons rfl (.nil))) .nil [0, 1, 2, 3, 4] rfl ?_
  rintro i hpre
  have hpre_ : (i ≤ (t.certificates).length) ∧ (spec_FindCertificate_L1 t n_ now t.certificates 0 = spec_FindCertificate_L1 t n_ now ((t.certificates).drop i) i) := hpre
  clear hpre
  obtain ⟨v1, v2⟩ := hpre_
  refine R0 ?_
  refine WX.cases 18 rfl (fun h2 => ?_) (fun h2 => ?_)
  ·skip
   have h2d := B.dt h2
   have e1i : i < (t.certificates).length := (by omega)
   obtain ⟨e1, e1h⟩ : ∃ e1, (t.certificates)[i]? = some e1 := ⟨_, List.getElem?_eq_getElem e1i⟩
   have ok1 : GoT.ok n e1 := (okl (ok_TrustPolicy hokt).2.2.2).2 _ (List.mem_of_getElem? e1h)
   refine R0 ?_
   refine WX.idx 3 i ttOk rfl rfl rfl rfl rfl rfl rfl rfl rfl rfl e1i ?_
   rintro ad1 rfl
   refine WX.ldE 3 5 e1 ttOk rfl rfl rfl rfl rfl rfl rfl rfl e1h (fun _ => rfl) (fun _ => rfl) ?_
   rintro ⟨⟨p1, c1⟩, ⟨p2, c2⟩, ⟨p3, c3⟩, ⟨⟩, ⟨⟩⟩
   refine R0 ?_
   refine WX.draw [] mixed ?_
   intro bs G0 hΓ0
   refine DX.takes (fuel := 21) ttOk [(0, true), (1, false), (2, false)] (by kernel_rfl) rfl ?_
   refine DX.callV 3 rfl (by kernel_rfl) rfl rfl rfl rfl rfl rfl (fun _ => rfl) rfl (fun w G bs hI hΓ => f146 w n (by omega) e1.name p1 c1 (hΓ.get 5 rfl) n_ K4 M4 (hΓ.get 4 rfl) ((ok_DataP ok1).1) hokn_) ?_
   intro hq2
   refine DX.takes (fuel := 19) ttOk [(4, true)] (by kernel_rfl) rfl ?_
   refine DX.cases 30 rfl (fun h3 => ?_) (fun h3 => ?_)
   ·skip
    refine DX.takes (fuel := 17) ttOk [(5, false), (6, true)] (by kernel_rfl) rfl ?_
    refine DX.callV 7 rfl (by kernel_rfl) rfl rfl rfl rfl rfl rfl (fun _ => rfl) rfl (fun w G bs hI hΓ => f251 w n (by omega) e1 p1 c1 (hΓ.get 5 rfl) p2 c2 (hΓ.get 6 rfl) p3 c3 (hΓ.get 7 rfl) now ok1 hoknow) ?_
    intro hq3
    refine DX.takes (fuel := 14) ttOk [(8, true), (9, true)] (by kernel_rfl) rfl ?_
    refine DX.cases 35 rfl (fun h4 => ?_) (fun h4 => ?_)
    ·skip
     refine DX.takes (fuel := 11) ttOk [(10, true), (11, false), (12, false)] (by kernel_rfl) rfl ?_
     refine DX.callV 13 rfl (by kernel_rfl) rfl rfl rfl rfl rfl rfl (fun _ => rfl) rfl (fun w G bs hI hΓ => f233 w n (by omega) t.keys K0 M0 (hΓ.get 0 rfl) e1 p1 c1 (hΓ.get 5 rfl) p2 c2 (hΓ.get 6 rfl) p3 c3 (hΓ.get 7 rfl) ((ok_TrustPolicy hokt).1) ok1) ?_
     intro hq4
     refine DX.takes (fuel := 8) ttOk [(14, true), (15, true)] (by kernel_rfl) rfl ?_
     refine DX.cases 41 rfl (fun h5 => ?_) (fun h5 => ?_)
     ·skip
      refine DX.takes (fuel := 3) ttOk [(16, true), (17, false), (18, true), (19, false), (20, false)] (by kernel_rfl) rfl ?_
      refine DX.callF 21 8 (fun _ _ h => GoT.ow_rd h) (fun _ f hf => GoT.fak f hf) rfl (by kernel_rfl) rfl rfl rfl rfl rfl rfl (fun _ => rfl) rfl (fun w G bs hI hΓ => f252 w n (by omega) t.keys K0 M0 (hΓ.get 0 rfl) n_ K4 M4 (hΓ.get 4 rfl) ((ok_TrustPolicy hokt).1) hokn_) (fun _ => rfl) (fun _ => rfl) ?_
      rintro ⟨p4, c4⟩ hq5
      refine DX.callV 22 rfl (by kernel_rfl) rfl rfl rfl rfl rfl rfl (fun _ => rfl) rfl (fun w G bs hI hΓ => f180 w (n + 1) (by omega) e1.content p2 c2 (hΓ.get 6 rfl) (spec_KeyDigest t.keys n_) p4 c4 (hΓ.get 8 rfl) (GoT.okm (α := List UInt8) (by omega) (ok_DataP ok1).2.1) hq5) ?_
      intro hq6
      refine DX.takes (fuel := 0) ttOk [(23, true)] (by kernel_rfl) rfl ?_
      refine DX.tail2 [] rfl rfl (by kernel_rfl) ?_
      refine R0 ?_
      refine WX.cases 49 rfl (fun h6 => ?_) (fun h6 => ?_)
      ·skip
       refine R0 ?_
       have hP2 : spec_FindCertificate_L1 t n_ now t.certificates 0 = (some ((i : Nat) : Int)) := by rw [v2, drop_get e1h]; simp only [spec_FindCertificate_L1, h3, h4, h5, h6, ct, cf]
       have hP3 : spec_FindCertificate t n_ now = ((i : Nat) : Int) := by simp only [spec_FindCertificate, h1, hP2, ct, cf]
       refine R1 ?_
       intro w1 G bs hI hΓ
       rw [hP3]
       exact ⟨rfl, (show I64 ((i : Nat) : Int) from (by unfold I64; omega))⟩
      ·skip
       refine R0 ?_
       refine WX.see rfl rfl rfl (fun _ hΓ => looks_arith rfl rfl rfl rfl (by unfold I64; first | omega | (simp only [List.length_take] at *; omega))) ?_
       refine R0 ?_
       exact WX.iter (i + 1) ⟨(by omega), (by rw [v2, drop_get e1h]; simp only [spec_FindCertificate_L1, h3, h4, h5, h6, ct, cf])⟩ (by first | (dsimp only; omega) | omega) (.cons rfl (.cons rfl (.cons rfl (.cons rfl (.nil))))) (.cons rfl (.cons rfl (.nil))) .nil [0, 1, 2, 3, 4] rfl
     ·skip
      refine DX.takes (fuel := 0) ttOk [(16, true), (17, true), (18, true), (19, true), (20, true), (21, true), (22, true), (23, true)] (by kernel_rfl) rfl ?_
      refine DX.tail2 [] rfl rfl (by kernel_rfl) ?_
      refine R0 ?_
      refine WX.see rfl rfl rfl (fun _ hΓ => looks_arith rfl rfl rfl rfl (by unfold I64; first | omega | (simp only [List.length_take] at *; omega))) ?_
      refine R0 ?_
      exact WX.iter (i + 1) ⟨(by omega), (by rw [v2, drop_get e1h]; simp only [spec_FindCertificate_L1, h3, h4, h5, ct, cf])⟩ (by first | (dsimp only; omega) | omega) (.cons rfl (.cons rfl (.cons rfl (.cons rfl (.nil))))) (.cons rfl (.cons rfl (.nil))) .nil [0, 1, 2, 3, 4] rfl
    ·skip
     refine DX.takes (fuel := 0) ttOk [(10, true), (11, true), (12, true), (13, true), (14, true), (15, true), (16, true), (17, true), (18, true), (19, true), (20, true), (21, true), (22, true), (23, true)] (by kernel_rfl) rfl ?_
     refine DX.tail2 [] rfl rfl (by kernel_rfl) ?_
     refine R0 ?_
     refine WX.see rfl rfl rfl (fun _ hΓ => looks_arith rfl rfl rfl rfl (by unfold I64; first | omega | (simp only [List.length_take] at *; omega))) ?_
     refine R0 ?_
     exact WX.iter (i + 1) ⟨(by omega), (by rw [v2, drop_get e1h]; simp only [spec_FindCertificate_L1, h3, h4, ct, cf])⟩ (by first | (dsimp only; omega) | omega) (.cons rfl (.cons rfl (.cons rfl (.cons rfl (.nil))))) (.cons rfl (.cons rfl (.nil))) .nil [0, 1, 2, 3, 4] rfl
   ·skip
    refine DX.takes (fuel := 0) ttOk [(5, true), (6, true), (7, true), (8, true), (9, true), (10, true), (11, true), (12, true), (13, true), (14, true), (15, true), (16, true), (17, true), (18, true), (19, true), (20, true), (21, true), (22, true), (23, true)] (by kernel_rfl) rfl ?_
    refine DX.tail2 [] rfl rfl (by kernel_rfl) ?_
    refine R0 ?_
    refine WX.see rfl rfl rfl (fun _ hΓ => looks_arith rfl rfl rfl rfl (by unfold I64; first | omega | (simp only [List.length_take] at *; omega))) ?_
    refine R0 ?_
    exact WX.iter (i + 1) ⟨(by omega), (by rw [v2, drop_get e1h]; simp only [spec_FindCertificate_L1, h3, ct, cf])⟩ (by first | (dsimp only; omega) | omega) (.cons rfl (.cons rfl (.cons rfl (.cons rfl (.nil))))) (.cons rfl (.cons rfl (.nil))) .nil [0, 1, 2, 3, 4] rfl
  ·skip
   have h2d := B.df h2
   refine R0 ?_
   have hX1 : spec_FindCertificate_L1 t n_ now t.certificates 0 = none := by rw [v2, List.drop_eq_nil_of_le (show (t.certificates).length ≤ i by omega)]; simp only [spec_FindCertificate_L1, ct, cf]
   have hP4 : spec_FindCertificate t n_ now = (-1) := by simp only [spec_FindCertificate, h1, hX1, ct, cf]
   refine R1 ?_
   intro w1 G bs hI hΓ
   rw [hP4]
   exact ⟨rfl, (show I64 (-1) from (by unfold I64; omega))⟩
theorem f258 (w : World) (n : Nat) (hn : n + 6 ≤ 9) (x_ : DataP) (K0 : Option Addr) (M0 : Nat) (N0 : RdSl (hp w) K0 M0 x_.name.parts) (K1 : Option Addr) (M1 : Nat) (N1 : RdSl (hp w) K1 M1 x_.content) (K2 : Option Addr) (M2 : Nat) (N2 : RdSl (hp w) K2 M2 x_.keyName.parts) (n_ : Name) (bn_ : Addr) (hn_ : RdSl (hp w) (some bn_) 1 [n_]) (now : Int) (bnow : Addr) (hnow : RdSl (hp w) (some bnow) 1 [now]) (t : TrustPolicy) (bt : Addr) (ht : RdSl (hp w) (some bt) 1 [t]) (hokx_ : GoT.ok n x_) (hokn_ : GoT.ok n n_) (hoknow : GoT.ok n now) (hokt : GoT.ok n t) :
  Does Tryz.prog 258 #[.agg #[.slice K0 ((x_.name.parts).length) M0, .slice K1 ((x_.content).length) M1, .slice K2 ((x_.keyName.parts).length) M2, .int .i64 (x_.freshUntil), .int .i64 (x_.signature)], .pointer (some bn_), .pointer (some bnow), .pointer (some bt)] w emp (fun (rv : Value) (_ : World) => rv = .bool (impl_FindCertificate_c1 n_ now t x_) ∧ True) := by
 have hbP := bd_pos n
 have hbS0 : bd (n + 1) = 4 * bd (n) := bd_succ (n := n) (by omega)
 have hbS1 : bd (n + 2) = 4 * bd (n + 1) := bd_succ (n := n + 1) (by omega)
 have hbS2 : bd (n + 3) = 4 * bd (n + 2) := bd_succ (n := n + 2) (by omega)
 have hbS3 : bd (n + 4) = 4 * bd (n + 3) := bd_succ (n := n + 3) (by omega)
 have hbS4 : bd (n + 5) = 4 * bd (n + 4) := bd_succ (n := n + 4) (by omega)
 have hbS5 : bd (n + 6) = 4 * bd (n + 5) := bd_succ (n := n + 5) (by omega)
 have hbB := bd_big (n := (n + 6)) (by omega)
 have hbM := bd_mono (show n ≤ n + 6 by omega)
 refine WX.enter (tt := tt) (Γ := [(0, MF.rs .stb K0 M0 x_.name.parts), (1, MF.rs .stb K1 M1 x_.content), (2, MF.rs .stb K2 M2 x_.keyName.parts), (3, MF.rs .stb (some bn_) 1 ([n_])), (4, MF.rs .stb (some bnow) 1 ([now])), (5, MF.rs .stb (some bt) 1 ([t]))]) Tryz.func258 rfl (by kernel_rfl) rfl (allS_cons rfl N0 (allS_cons rfl N1 (allS_cons rfl N2 (allS_cons rfl hn_ (allS_cons rfl hnow (allS_cons rfl ht allS_nil)))))) ?_
 have n_h : ([n_] : List Name)[0]? = some n_ := rfl
 refine WX.slot 1 (y := .e (some bn_) 0 1 0) rfl (fun _ => cap_eq) ?_
 have nowh : ([now] : List Int)[0]? = some now := rfl
 refine WX.slot 2 (y := .e (some bnow) 0 1 0) rfl (fun _ => cap_eq) ?_
 have th : ([t] : List TrustPolicy)[0]? = some t := rfl
 refine WX.slot 3 (y := .e (some bt) 0 4 0) rfl (fun _ => cap_eq) ?_
 refine R0 ?_
 refine WX.draw [] mixed ?_
 intro bs G0 hΓ0
 refine DX.takes (fuel := 23) ttOk [(0, true), (1, false)] (by kernel_rfl) rfl ?_
 refine DX.ldE 2 3 6 n_ ttOk hΓ0 (by kernel_rfl) rfl rfl rfl rfl rfl rfl rfl rfl n_h (fun _ => rfl) (fun _ => rfl) ?_
 rintro ⟨p1, c1⟩
 refine DX.callV 3 rfl (by kernel_rfl) rfl rfl rfl rfl rfl rfl (fun _ => rfl) rfl (fun w G bs hI hΓ => f94 w n (by omega) x_.name K0 M0 (hΓ.get 0 rfl) n_ p1 c1 (hΓ.get 6 rfl) ((ok_DataP hokx_).1) hokn_) ?_
 intro hq1
 refine DX.takes (fuel := 20) ttOk [(4, true)] (by kernel_rfl) rfl ?_
 refine DX.cases 10 rfl (fun h1 => ?_) (fun h1 => ?_)
 ·skip
  refine DX.takes (fuel := 19) ttOk [(5, false)] (by kernel_rfl) rfl ?_
  refine DX.ldE 6 4 7 now ttOk hΓ0 (by kernel_rfl) rfl rfl rfl rfl rfl rfl rfl rfl nowh (fun _ => rfl) (fun _ => rfl) ?_
  rintro ⟨⟩
  refine DX.callV 7 rfl (by kernel_rfl) rfl rfl rfl rfl rfl rfl (fun _ => rfl) rfl (fun w G bs hI hΓ => f259 w n (by omega) x_ K0 M0 (hΓ.get 0 rfl) K1 M1 (hΓ.get 1 rfl) K2 M2 (hΓ.get 2 rfl) now hokx_ hoknow) ?_
  intro hq2
  refine DX.takes (fuel := 15) ttOk [(8, true), (9, true)] (by kernel_rfl) rfl ?_
  refine DX.cases 15 rfl (fun h2 => ?_) (fun h2 => ?_)
  ·skip
   refine DX.takes (fuel := 14) ttOk [(10, true)] (by kernel_rfl) rfl ?_
   refine DX.ldE 11 5 7 t ttOk hΓ0 (by kernel_rfl) rfl rfl rfl rfl rfl rfl rfl rfl th (fun _ => rfl) (fun _ => rfl) ?_
   rintro ⟨⟨p2, c2⟩, ⟨p3, c3⟩, ⟨p4, c4⟩, ⟨p5, c5⟩⟩
   refine DX.takes (fuel := 12) ttOk [(12, false)] (by kernel_rfl) rfl ?_
   refine DX.callV 13 rfl (by kernel_rfl) rfl rfl rfl rfl rfl rfl (fun _ => rfl) rfl (fun w G bs hI hΓ => f238 w n (by omega) t.keys p2 c2 (hΓ.get 7 rfl) x_ K0 M0 (hΓ.get 0 rfl) K1 M1 (hΓ.get 1 rfl) K2 M2 (hΓ.get 2 rfl) ((ok_TrustPolicy hokt).1) hokx_) ?_
   intro hq3
   refine DX.takes (fuel := 9) ttOk [(14, true), (15, true)] (by kernel_rfl) rfl ?_
   refine DX.cases 21 rfl (fun h3 => ?_) (fun h3 => ?_)
   ·skip
    refine DX.takes (fuel := 6) ttOk [(16, true), (17, false), (18, true)] (by kernel_rfl) rfl ?_
    refine DX.ldE 19 5 11 t ttOk hΓ0 (by kernel_rfl) rfl rfl rfl rfl rfl rfl rfl rfl th (fun _ => rfl) (fun _ => rfl) ?_
    rintro ⟨⟨p6, c6⟩, ⟨p7, c7⟩, ⟨p8, c8⟩, ⟨p9, c9⟩⟩
    refine DX.ldE 20 3 15 n_ ttOk hΓ0 (by kernel_rfl) rfl rfl rfl rfl rfl rfl rfl rfl n_h (fun _ => rfl) (fun _ => rfl) ?_
    rintro ⟨p10, c10⟩
    refine DX.callF 21 16 (fun _ _ h => GoT.ow_rd h) (fun _ f hf => GoT.fak f hf) rfl (by kernel_rfl) rfl rfl rfl rfl rfl rfl (fun _ => rfl) rfl (fun w G bs hI hΓ => f260 w n (by omega) t.keys p6 c6 (hΓ.get 11 rfl) n_ p10 c10 (hΓ.get 15 rfl) ((ok_TrustPolicy hokt).1) hokn_) (fun _ => rfl) (fun _ => rfl) ?_
    rintro ⟨p11, c11⟩ hq4
    refine DX.callV 22 rfl (by kernel_rfl) rfl rfl rfl rfl rfl rfl (fun _ => rfl) rfl (fun w G bs hI hΓ => f178 w (n + 1) (by omega) x_.content K1 M1 (hΓ.get 1 rfl) (impl_KeyDigest t.keys n_) p11 c11 (hΓ.get 16 rfl) (GoT.okm (α := List UInt8) (by omega) (ok_DataP hokx_).2.1) hq4) ?_
    intro hq5
    refine DX.takes (fuel := 0) ttOk [(23, true), (24, true)] (by kernel_rfl) rfl ?_
    refine DX.tail2 [] rfl rfl (by kernel_rfl) ?_
    refine R0 ?_
    have hP1 : impl_FindCertificate_c1 n_ now t x_ = (slices_Equal_byte x_.content (impl_KeyDigest t.keys n_)) := by simp only [impl_FindCertificate_c1, h1, h2, h3, ct, cf]
    exact R3 hP1
   ·skip
    refine DX.takes (fuel := 0) ttOk [(16, true), (17, true), (18, true), (19, true), (20, true), (21, true), (22, true), (23, true), (24, true)] (by kernel_rfl) rfl ?_
    refine DX.tail2 [] rfl rfl (by kernel_rfl) ?_
    refine R0 ?_
    have hP2 : impl_FindCertificate_c1 n_ now t x_ = false := by simp only [impl_FindCertificate_c1, h1, h2, h3, ct, cf]
    exact R3 hP2
  ·skip
   refine DX.takes (fuel := 0) ttOk [(10, true), (11, true), (12, true), (13, true), (14, true), (15, true), (16, true), (17, true), (18, true), (19, true), (20, true), (21, true), (22, true), (23, true), (24, true)] (by kernel_rfl) rfl ?_
   refine DX.tail2 [] rfl rfl (by kernel_rfl) ?_
   refine R0 ?_
   have hP3 : impl_FindCertificate_c1 n_ now t x_ = false := by simp only [impl_FindCertificate_c1, h1, h2, ct, cf]
   exact R3 hP3
 ·skip
  refine DX.takes (fuel := 0) ttOk [(5, true), (6, true), (7, true), (8, true), (9, true), (10, true), (11, true), (12, true), (13, true), (14, true), (15, true), (16, true), (17, true), (18, true), (19, true), (20, true), (21, true), (22, true), (23, true), (24, true)] (by kernel_rfl) rfl ?_
  refine DX.tail2 [] rfl rfl (by kernel_rfl) ?_
  refine R0 ?_
  have hP4 : impl_FindCertificate_c1 n_ now t x_ = false := by simp only [impl_FindCertificate_c1, h1, ct, cf]
  exact R3 hP4
theorem f241 (w : World) (n : Nat) (hn : n + 6 ≤ 9) (t : TrustPolicy) (K0 : Option Addr) (M0 : Nat) (N0 : RdSl (hp w) K0 M0 t.keys) (K1 : Option Addr) (M1 : Nat) (N1 : RdSl (hp w) K1 M1 t.rules) (K2 : Option Addr) (M2 : Nat) (N2 : RdSl (hp w) K2 M2 t.anchors) (K3 : Option Addr) (M3 : Nat) (N3 : RdSl (hp w) K3 M3 t.certificates) (n_ : Name) (K4 : Option Addr) (M4 : Nat) (N4 : RdSl (hp w) K4 M4 n_.parts) (now : Int) (hokt : GoT.ok n t) (hokn_ : GoT.ok n n_) (hoknow : GoT.ok n now) :
  Does Tryz.prog 241 #[.agg #[.slice K0 ((t.keys).length) M0, .slice K1 ((t.rules).length) M1, .slice K2 ((t.anchors).length) M2, .slice K3 ((t.certificates).length) M3], .agg #[.slice K4 ((n_.parts).length) M4], .int .i64 (now)] w emp (fun (rv : Value) (_ : World) => rv = .int .i64 ((impl_FindCertificate t n_ now)) ∧ GoT.ok n ((impl_FindCertificate t n_ now) : Int)) := by
 have hbP := bd_pos n
 have hbS0 : bd (n + 1) = 4 * bd (n) := bd_succ (n := n) (by omega)
 have hbS1 : bd (n + 2) = 4 * bd (n + 1) := bd_succ (n := n + 1) (by omega)
 have hbS2 : bd (n + 3) = 4 * bd (n + 2) := bd_succ (n := n + 2) (by omega)
 have hbS3 : bd (n + 4) = 4 * bd (n + 3) := bd_succ (n := n + 3) (by omega)
 have hbS4 : bd (n + 5) = 4 * bd (n + 4) := bd_succ (n := n + 4) (by omega)
 have hbS5 : bd (n + 6) = 4 * bd (n + 5) := bd_succ (n := n + 5) (by omega)
 have hbB := bd_big (n := (n + 6)) (by omega)
 have hbM := bd_mono (show n ≤ n + 6 by omega)
 refine WX.enter (tt := tt) (Γ := [(0, MF.rs .stb K0 M0 t.keys), (1, MF.rs .stb K1 M1 t.rules), (2, MF.rs .stb K2 M2 t.anchors), (3, MF.rs .stb K3 M3 t.certificates), (4, MF.rs .stb K4 M4 n_.parts)]) Tryz.func241 rfl (by kernel_rfl) rfl (allS_cons rfl N0 (allS_cons rfl N1 (allS_cons rfl N2 (allS_cons rfl N3 (allS_cons rfl N4 allS_nil))))) ?_
 refine R0 ?_
 refine WX.callV rfl rfl rfl rfl rfl (fun _ => rfl) rfl (fun w G bs hI hΓ => f254 w n (by omega) t.keys K0 M0 (hΓ.get 0 rfl) n_ K4 M4 (hΓ.get 4 rfl) ((ok_TrustPolicy hokt).1) hokn_) ?_
 intro hq1
 refine R0 ?_
 refine WX.cases 11 rfl (fun h1 => ?_) (fun h1 => ?_)
 ·skip
  have h1d := B.et h1
  refine R0 ?_
  have hP1 : impl_FindCertificate t n_ now = (-1) := by simp only [impl_FindCertificate, h1, ct, cf]
  refine R1 ?_
  intro w1 G bs hI hΓ
  rw [hP1]
  exact ⟨rfl, (show I64 (-1) from (by unfold I64; omega))⟩
 ·skip
  have h1d := B.ef h1
  refine R0 ?_
  refine WX.callV rfl rfl rfl rfl rfl (fun _ => rfl) rfl (fun w G bs hI hΓ => f173 w n (by omega) t.certificates K3 M3 (hΓ.get 3 rfl) 258 [Value.pointer (some ⟨bs 4, 0, none⟩), Value.pointer (some ⟨bs 5, 0, none⟩), Value.pointer (some ⟨bs 3, 0, none⟩)] (fun e0_ => (impl_FindCertificate_c1 n_ now t e0_)) (fun w1_ hb_ e0_ x0_ hk0_ hx0_ => f258 w1_ n (by omega) e0_ x0_.1.1 x0_.1.2 (hx0_ _ List.mem_cons_self) x0_.2.1.1 x0_.2.1.2 (hx0_ (MF.rs .der x0_.2.1.1 x0_.2.1.2 e0_.content) (by simp [GoT.fa])) x0_.2.2.1.1 x0_.2.2.1.2 (hx0_ (MF.rs .der x0_.2.2.1.1 x0_.2.2.1.2 e0_.keyName.parts) (by simp [GoT.fa])) n_ ⟨bs 4, 0, none⟩ ((rd_box (α := Name) (a := n_) (x := (K4, M4)) (hI.loc 4 _ rfl).1 (All.cons (hΓ.get 4 rfl : RdSl _ _ _ _) All.nil)).mono (kp_le hb_)) now ⟨bs 5, 0, none⟩ ((rd_box (α := Int) (a := now) (x := ()) (hI.loc 5 _ rfl).1 All.nil).mono (kp_le hb_)) t ⟨bs 3, 0, none⟩ ((rd_box (α := TrustPolicy) (a := t) (x := ((K0, M0), (K1, M1), (K2, M2), (K3, M3))) (hI.loc 3 _ rfl).1 (All.cons (hΓ.get 0 rfl : RdSl _ _ _ _) (All.cons (hΓ.get 1 rfl : RdSl _ _ _ _) (All.cons (hΓ.get 2 rfl : RdSl _ _ _ _) (All.cons (hΓ.get 3 rfl : RdSl _ _ _ _) All.nil))))).mono (kp_le hb_)) hk0_ hokn_ hoknow hokt) ((ok_TrustPolicy hokt).2.2.2)) ?_
  intro hq2
  refine R0 ?_
  have hP2 : impl_FindCertificate t n_ now = (slices_IndexFunc_Data t.certificates (fun e0_ => (impl_FindCertificate_c1 n_ now t e0_))) := by simp only [impl_FindCertificate, h1, ct, cf]
  refine R1 ?_
  intro w1 G bs hI hΓ
  rw [hP2]
  exact ⟨rfl, hq2⟩
theorem f211 (w : World) (n : Nat) (hn : n + 7 ≤ 9) (t : TrustPolicy) (K0 : Option Addr) (M0 : Nat) (N0 : RdSl (hp w) K0 M0 t.keys) (K1 : Option Addr) (M1 : Nat) (N1 : RdSl (hp w) K1 M1 t.rules) (K2 : Option Addr) (M2 : Nat) (N2 : RdSl (hp w) K2 M2 t.anchors) (K3 : Option Addr) (M3 : Nat) (N3 : RdSl (hp w) K3 M3 t.certificates) (x_ : DataP) (K4 : Option Addr) (M4 : Nat) (N4 : RdSl (hp w) K4 M4 x_.name.parts) (K5 : Option Addr) (M5 : Nat) (N5 : RdSl (hp w) K5 M5 x_.content) (K6 : Option Addr) (M6 : Nat) (N6 : RdSl (hp w) K6 M6 x_.keyName.parts) (now : Int) (hokt : GoT.ok n t) (hokx_ : GoT.ok n x_) (hoknow : GoT.ok n now) :
  Does Tryz.prog 211 #[.agg #[.slice K0 ((t.keys).length) M0, .slice K1 ((t.rules).length) M1, .slice K2 ((t.anchors).length) M2, .slice K3 ((t.certificates).length) M3], .agg #[.slice K4 ((x_.name.parts).length) M4, .slice K5 ((x_.content).length) M5, .slice K6 ((x_.keyName.parts).length) M6, .int .i64 (x_.freshUntil), .int .i64 (x_.signature)], .int .i64 (now)] w emp (Post w emp (fun x : GoT.X ((List Name)) => .tuple #[(GoT.sh ((spec_TrustChain t x_ now).1 : (List Name)) x).headD undef, .bool ((spec_TrustChain t x_ now).2)]) (fun x => GoT.oa ((spec_TrustChain t x_ now).1 : (List Name)) x) (GoT.ok n ((spec_TrustChain t x_ now).1 : (List Name)))) := by
 have hbP := bd_pos n
 have hbS0 : bd (n + 1) = 4 * bd (n) := bd_succ (n := n) (by omega)
 have hbS1 : bd (n + 2) = 4 * bd (n + 1) := bd_succ (n := n + 1) (by omega)
 have hbS2 : bd (n + 3) = 4 * bd (n + 2) := bd_succ (n := n + 2) (by omega)
 have hbS3 : bd (n + 4) = 4 * bd (n + 3) := bd_succ (n := n + 3) (by omega)
 have hbS4 : bd (n + 5) = 4 * bd (n + 4) := bd_succ (n := n + 4) (by omega)
 have hbS5 : bd (n + 6) = 4 * bd (n + 5) := bd_succ (n := n + 5) (by omega)
 have hbS6 : bd (n + 7) = 4 * bd (n + 6) := bd_succ (n := n + 6) (by omega)
 have hbB := bd_big (n := (n + 7)) (by omega)
 have hbM := bd_mono (show n ≤ n + 7 by omega)
 refine WX.enter (tt := tt) (Γ := [(0, MF.rs .stb K0 M0 t.keys), (1, MF.rs .stb K1 M1 t.rules), (2, MF.rs .stb K2 M2 t.anchors), (3, MF.rs .stb K3 M3 t.certificates), (4, MF.rs .stb K4 M4 x_.name.parts), (5, MF.rs .stb K5 M5 x_.content), (6, MF.rs .stb K6 M6 x_.keyName.parts)]) Tryz.func211 rfl (by kernel_rfl) rfl (allS_cons rfl N0 (allS_cons rfl N1 (allS_cons rfl N2 (allS_cons rfl N3 (allS_cons rfl N4 (allS_cons rfl N5 (allS_cons rfl N6 allS_nil))))))) ?_
 refine R0 ?_
 refine WX.bld ttOk rfl rfl rfl rfl rfl rfl rfl ?_
 intro p1
 refine R0 ?_
 refine WX.free 7 (MF.ol [] ([] : List Name)) rfl ?_
 refine WX.loop (ι := (Option Addr) × Nat × (List Value) × (List Name) × (Option Addr) × Nat × (List Str) × (Option Addr) × Nat × (List UInt8) × (Option Addr) × Nat × (List Str) × Int × Int) ⟨fun | (pout, cout, xsout, out, pxName, cxName, xName, pxContent, cxContent, xContent, pxKeyName, cxKeyName, xKeyName, xFreshUntil, xSignature) => (∀ z_ ∈ out, GoT.ok n z_) ∧ (xName.length ≤ bd n ∧ ∀ z_ ∈ xName, GoT.ok n z_) ∧ (xContent.length ≤ bd n ∧ ∀ z_ ∈ xContent, GoT.ok n z_) ∧ (xKeyName.length ≤ bd n ∧ ∀ z_ ∈ xKeyName, GoT.ok n z_) ∧ (-9223372036854775808 ≤ xFreshUntil ∧ xFreshUntil ≤ 9223372036854775807) ∧ (-9223372036854775808 ≤ xSignature ∧ xSignature ≤ 9223372036854775807) ∧ (out.length ≤ 4) ∧ (spec_TrustChain_L1 t now ([] : List Name) (x_.name.parts : List Str) (x_.content : List UInt8) (x_.keyName.parts : List Str) x_.freshUntil x_.signature = spec_TrustChain_L1 t now out xName xContent xKeyName xFreshUntil xSignature), fun | (pout, cout, xsout, out, pxName, cxName, xName, pxContent, cxContent, xContent, pxKeyName, cxKeyName, xKeyName, xFreshUntil, xSignature) => 4 - out.length, fun | (pout, cout, xsout, out, pxName, cxName, xName, pxContent, cxContent, xContent, pxKeyName, cxKeyName, xKeyName, xFreshUntil, xSignature) => [(8, .v (.slice pout ((out).length) cout)), (4, .p 4 0), (3, .p 3 0), (2, .v (.int .i64 (now)))], fun | (pout, cout, xsout, out, pxName, cxName, xName, pxContent, cxContent, xContent, pxKeyName, cxKeyName, xKeyName, xFreshUntil, xSignature) => [(4, ⟨32, [.slice pxName ((xName).length) cxName, .slice pxContent ((xContent).length) cxContent, .slice pxKeyName ((xKeyName).length) cxKeyName, .int .i64 (xFreshUntil), .int .i64 (xSignature)]⟩), (3, ⟨110, [.slice K0 ((t.keys).length) M0, .slice K1 ((t.rules).length) M1, .slice K2 ((t.anchors).length) M2, .slice K3 ((t.certificates).length) M3]⟩)], fun | (pout, cout, xsout, out, pxName, cxName, xName, pxContent, cxContent, xContent, pxKeyName, cxKeyName, xKeyName, xFreshUntil, xSignature) => [(11, ⟨1, pout, (out).length, cout, xsout⟩)], fun | (pout, cout, xsout, out, pxName, cxName, xName, pxContent, cxContent, xContent, pxKeyName, cxKeyName, xKeyName, xFreshUntil, xSignature) => [(0, MF.rs .stb K0 M0 t.keys), (1, MF.rs .stb K1 M1 t.rules), (2, MF.rs .stb K2 M2 t.anchors), (3, MF.rs .stb K3 M3 t.certificates), (4, MF.rs .stb pxName cxName xName), (5, MF.rs .stb pxContent cxContent xContent), (6, MF.rs .stb pxKeyName cxKeyName xKeyName), (7, MF.ol xsout (out : List Name))]⟩ (p1, 0, [], ([] : List Name), K4, M4, (x_.name.parts : List Str), K5, M5, (x_.content : List UInt8), K6, M6, (x_.keyName.parts : List Str), x_.freshUntil, x_.signature) ⟨(fun a ha => by cases ha), (ok_Name (ok_DataP hokx_).1), (ok_DataP hokx_).2.1, (ok_Name (ok_DataP hokx_).2.2.1), (ok_DataP hokx_).2.2.2.1, (ok_DataP hokx_).2.2.2.2, (by simp), rfl⟩
  (.cons rfl (.cons rfl (.cons rfl (.cons rfl (.nil))))) (.cons rfl (.cons rfl (.nil))) (.cons rfl (.nil)) [0, 1, 2, 3, 4, 5, 6, 7] rfl ?_
 rintro ⟨pout, cout, xsout, out, pxName, cxName, xName, pxContent, cxContent, xContent, pxKeyName, cxKeyName, xKeyName, xFreshUntil, xSignature⟩ hpre
 have hpre_ : (∀ z_ ∈ out, GoT.ok n z_) ∧ (xName.length ≤ bd n ∧ ∀ z_ ∈ xName, GoT.ok n z_) ∧ (xContent.length ≤ bd n ∧ ∀ z_ ∈ xContent, GoT.ok n z_) ∧ (xKeyName.length ≤ bd n ∧ ∀ z_ ∈ xKeyName, GoT.ok n z_) ∧ (-9223372036854775808 ≤ xFreshUntil ∧ xFreshUntil ≤ 9223372036854775807) ∧ (-9223372036854775808 ≤ xSignature ∧ xSignature ≤ 9223372036854775807) ∧ (out.length ≤ 4) ∧ (spec_TrustChain_L1 t now ([] : List Name) (x_.name.parts : List Str) (x_.content : List UInt8) (x_.keyName.parts : List Str) x_.freshUntil x_.signature = spec_TrustChain_L1 t now out xName xContent xKeyName xFreshUntil xSignature) := hpre
 clear hpre
 obtain ⟨v1, v2, v3, v4, v5, v6, v7, v8⟩ := hpre_
 have v2L := v2.1
 have v3L := v3.1
 have v4L := v4.1
 refine R0 ?_
 refine WX.cases 14 rfl (fun h1 => ?_) (fun h1 => ?_)
 ·skip
  have h1d := B.dt h1
  refine R0 ?_
  refine WX.callV rfl rfl rfl rfl rfl (fun _ => rfl) rfl (fun w G bs hI hΓ => f233 w n (by omega) t.keys K0 M0 (hΓ.get 0 rfl) (DataP.mk (Name.mk xName) xContent (Name.mk xKeyName) xFreshUntil xSignature) pxName cxName (hΓ.get 4 rfl) pxContent cxContent (hΓ.get 5 rfl) pxKeyName cxKeyName (hΓ.get 6 rfl) ((ok_TrustPolicy hokt).1) (And.intro (okl_of v2) (And.intro (okl_of v3) (And.intro (okl_of v4) (And.intro v5 v6))))) ?_
  intro hq1
  refine R0 ?_
  refine WX.cases 20 rfl (fun h2 => ?_) (fun h2 => ?_)
  ·skip
   have h2d := (B.nt h2)
   refine R0 ?_
   refine WX.bld ttOk rfl rfl rfl rfl rfl rfl rfl ?_
   intro p2
   refine R0 ?_
   refine WX.free 8 (MF.ol [] ([] : List Name)) rfl ?_
   refine WX.seal 30 8 9 rfl rfl rfl rfl rfl ?_
   have hP1 : spec_TrustChain_L1 t now ([] : List Name) (x_.name.parts : List Str) (x_.content : List UInt8) (x_.keyName.parts : List Str) x_.freshUntil x_.signature = (Ctl.ret (([]), false)) := by rw [v8]; rw [spec_TrustChain_L1]; simp only [h1, h1d, h2, ct, cf, ↓reduceIte, Bool.false_eq_true]
   have hP2 : spec_TrustChain t x_ now = (([]), false) := by simp only [spec_TrustChain, hP1, ct, cf]
   refine R1 ?_
   intro w1 G bs hI hΓ
   rw [hP2]
   exact Post.of [10] (p2, 0) hI hΓ rfl rfl rfl (okl_mk (Nat.zero_le _) (fun a ha => by cases ha) : GoT.ok n ([] : List Name))
  ·skip
   have h2d := (B.nf h2)
   refine R0 ?_
   refine WX.callV rfl rfl rfl rfl rfl (fun _ => rfl) rfl (fun w G bs hI hΓ => f234 w n (by omega) t.rules K1 M1 (hΓ.get 1 rfl) (Name.mk xName) pxName cxName (hΓ.get 4 rfl) (Name.mk xKeyName) pxKeyName cxKeyName (hΓ.get 6 rfl) ((ok_TrustPolicy hokt).2.1) (okl_of v2) (okl_of v4)) ?_
   intro hq2
   refine R0 ?_
   refine WX.cases 29 rfl (fun h3 => ?_) (fun h3 => ?_)
   ·skip
    have h3d := (B.nt h3)
    refine R0 ?_
    refine WX.bld ttOk rfl rfl rfl rfl rfl rfl rfl ?_
    intro p3
    refine R0 ?_
    refine WX.free 11 (MF.ol [] ([] : List Name)) rfl ?_
    refine WX.seal 30 11 12 rfl rfl rfl rfl rfl ?_
    have hP3 : spec_TrustChain_L1 t now ([] : List Name) (x_.name.parts : List Str) (x_.content : List UInt8) (x_.keyName.parts : List Str) x_.freshUntil x_.signature = (Ctl.ret (([]), false)) := by rw [v8]; rw [spec_TrustChain_L1]; simp only [h1, h1d, h2, h3, ct, cf, ↓reduceIte, Bool.false_eq_true]
    have hP4 : spec_TrustChain t x_ now = (([]), false) := by simp only [spec_TrustChain, hP3, ct, cf]
    refine R1 ?_
    intro w1 G bs hI hΓ
    rw [hP4]
    exact Post.of [13] (p3, 0) hI hΓ rfl rfl rfl (okl_mk (Nat.zero_le _) (fun a ha => by cases ha) : GoT.ok n ([] : List Name))
   ·skip
    have h3d := (B.nf h3)
    refine R0 ?_
    refine WX.callF 14 (fun _ _ h => GoT.ow_rd h) (fun _ f hf => GoT.fak f hf) rfl rfl rfl rfl rfl (fun _ => rfl) rfl (fun w G bs hI hΓ => f118 w n (by omega) (Name.mk xKeyName) pxKeyName cxKeyName (hΓ.get 6 rfl) (okl_of v4)) (fun _ => rfl) (fun _ => rfl) ?_
    rintro ⟨p4, c1⟩ hq3
    refine R0 ?_
    refine WX.bld ttOk rfl rfl rfl rfl rfl rfl rfl ?_
    intro p5
    refine WX.turn [15] 16 rfl (fun h hs => ol_one (α := Name) (a := (spec_l4Copy (Name.mk xKeyName))) (x := (p4, c1)) hs) (gs := [MF.ol [.slice p4 (((spec_l4Copy (Name.mk xKeyName)).parts).length) c1] ([(spec_l4Copy (Name.mk xKeyName))] : List Name)]) rfl ?_
    refine WX.know (fun G hΓ => (hΓ.get 16 rfl : OwL _ _ _).rd.one) ?_
    intro ho1
    refine WX.appR1 11 36 ((out ++ [(spec_l4Copy (Name.mk xKeyName))]) : List Name).length ttOk rfl rfl rfl rfl rfl rfl rfl rfl rfl rfl rfl rfl rfl ho1 (by simp) (by simp; omega) (by simp; omega) (fun _ _ => rfl) ?_
    intro p6 c2
    refine WX.turn [7, 16] 17 rfl (fun h hs => ol_app hs) (gs := [MF.ol (xsout ++ [.slice p4 (((spec_l4Copy (Name.mk xKeyName)).parts).length) c1]) ((out ++ [(spec_l4Copy (Name.mk xKeyName))]) : List Name)]) rfl ?_
    refine R0 ?_
    refine WX.der 18 (MF.rs .der p4 c1 ((spec_l4Copy (Name.mk xKeyName)).parts)) rfl (fun _ hΓ => der_last (a := (spec_l4Copy (Name.mk xKeyName))) (b := (spec_l4Copy (Name.mk xKeyName)).parts) (xs := xsout) (l := out) rfl (fun x => ⟨x, rfl, rfl⟩) ((hΓ.get 17 rfl : OwL _ ((xsout ++ [.slice p4 (((spec_l4Copy (Name.mk xKeyName)).parts).length) c1])) ((out ++ [(spec_l4Copy (Name.mk xKeyName))]) : List Name)).rd)) ?_
    refine WX.callV rfl rfl rfl rfl rfl (fun _ => rfl) rfl (fun w G bs hI hΓ => f235 w n (by omega) t K0 M0 (hΓ.get 0 rfl) K1 M1 (hΓ.get 1 rfl) K2 M2 (hΓ.get 2 rfl) K3 M3 (hΓ.get 3 rfl) (spec_l4Copy (Name.mk xKeyName)) p4 c1 (hΓ.get 18 rfl) hokt hq3) ?_
    intro hq4
    refine R0 ?_
    refine WX.cases 40 rfl (fun h4 => ?_) (fun h4 => ?_)
    ·skip
     refine R0 ?_
     refine WX.seal 11 17 19 rfl rfl rfl rfl rfl ?_
     have hP5 : spec_TrustChain_L1 t now ([] : List Name) (x_.name.parts : List Str) (x_.content : List UInt8) (x_.keyName.parts : List Str) x_.freshUntil x_.signature = (Ctl.ret (out ++ [(spec_l4Copy (Name.mk xKeyName))], true)) := by rw [v8]; rw [spec_TrustChain_L1]; simp only [h1, h1d, h2, h3, h4, ct, cf, ↓reduceIte, Bool.false_eq_true]
     have hP6 : spec_TrustChain t x_ now = (out ++ [(spec_l4Copy (Name.mk xKeyName))], true) := by simp only [spec_TrustChain, hP5, ct, cf]
     refine R1 ?_
     intro w1 G bs hI hΓ
     rw [hP6]
     exact Post.of [20] (p6, c2) hI hΓ rfl rfl rfl (okl_mk (by simp; omega) (all_app v1 (all_cons (α := Name) hq3 (fun a ha => by cases ha))) : GoT.ok n ((out ++ [(spec_l4Copy (Name.mk xKeyName))]) : List Name))
    ·skip
     refine R0 ?_
     refine WX.callV rfl rfl rfl rfl rfl (fun _ => rfl) rfl (fun w G bs hI hΓ => f236 w n (by omega) t K0 M0 (hΓ.get 0 rfl) K1 M1 (hΓ.get 1 rfl) K2 M2 (hΓ.get 2 rfl) K3 M3 (hΓ.get 3 rfl) (spec_l4Copy (Name.mk xKeyName)) p4 c1 (hΓ.get 18 rfl) now hokt hq3 hoknow) ?_
     intro hq5
     have q1 := fcS_lt t (spec_l4Copy (Name.mk xKeyName)) now
     refine R0 ?_
     refine WX.cases 47 rfl (fun h5 => ?_) (fun h5 => ?_)
     ·skip
      have h5d := B.dt h5
      refine R0 ?_
      refine WX.bld ttOk rfl rfl rfl rfl rfl rfl rfl ?_
      intro p7
      refine R0 ?_
      refine WX.free 21 (MF.ol [] ([] : List Name)) rfl ?_
      refine WX.seal 48 21 22 rfl rfl rfl rfl rfl ?_
      have hP7 : spec_TrustChain_L1 t now ([] : List Name) (x_.name.parts : List Str) (x_.content : List UInt8) (x_.keyName.parts : List Str) x_.freshUntil x_.signature = (Ctl.ret (([]), false)) := by rw [v8]; rw [spec_TrustChain_L1]; simp only [h1, h1d, h2, h3, h4, h5, h5d, ct, cf, ↓reduceIte, Bool.false_eq_true]
      have hP8 : spec_TrustChain t x_ now = (([]), false) := by simp only [spec_TrustChain, hP7, ct, cf]
      refine R1 ?_
      intro w1 G bs hI hΓ
      rw [hP8]
      exact Post.of [23] (p7, 0) hI hΓ rfl rfl rfl (okl_mk (Nat.zero_le _) (fun a ha => by cases ha) : GoT.ok n ([] : List Name))
     ·skip
      have h5d := B.df h5
      refine R0 ?_
      have r1 : -9223372036854775808 ≤ now ∧ now ≤ 9223372036854775807 := hoknow
      have r2 : -9223372036854775808 ≤ (spec_FindCertificate t (spec_l4Copy (Name.mk xKeyName)) now) ∧ (spec_FindCertificate t (spec_l4Copy (Name.mk xKeyName)) now) ≤ 9223372036854775807 := hq5
      refine WX.slot 51 (y := .v (.int .i64 ((((spec_FindCertificate t (spec_l4Copy (Name.mk xKeyName)) now)).toNat : Nat) : Int))) rfl (fun _ => congrArg (Value.int .i64) (show (spec_FindCertificate t (spec_l4Copy (Name.mk xKeyName)) now) = ((((spec_FindCertificate t (spec_l4Copy (Name.mk xKeyName)) now)).toNat : Nat) : Int) from by omega)) ?_
      have e1i : ((spec_FindCertificate t (spec_l4Copy (Name.mk xKeyName)) now)).toNat < (t.certificates).length := (by first | assumption | omega)
      obtain ⟨e1, e1h⟩ : ∃ e1, (t.certificates)[((spec_FindCertificate t (spec_l4Copy (Name.mk xKeyName)) now)).toNat]? = some e1 := ⟨_, List.getElem?_eq_getElem e1i⟩
      have ok1 : GoT.ok n e1 := (okl (ok_TrustPolicy hokt).2.2.2).2 _ (List.mem_of_getElem? e1h)
      refine WX.idx 3 (((spec_FindCertificate t (spec_l4Copy (Name.mk xKeyName)) now)).toNat) ttOk rfl rfl rfl rfl rfl rfl rfl rfl rfl rfl e1i ?_
      rintro ad1 rfl
      refine WX.ldE 3 24 e1 ttOk rfl rfl rfl rfl rfl rfl rfl rfl e1h (fun _ => rfl) (fun _ => rfl) ?_
      rintro ⟨⟨p8, c3⟩, ⟨p9, c4⟩, ⟨p10, c5⟩, ⟨⟩, ⟨⟩⟩
      refine R0 ?_
      refine WX.stb 4 (MF.rs .stb p8 c3 e1.name.parts) rfl 24 rfl rfl (fun _ h => h) ?_
      refine WX.stb 5 (MF.rs .stb p9 c4 e1.content) rfl 25 rfl rfl (fun _ h => h) ?_
      refine WX.stb 6 (MF.rs .stb p10 c5 e1.keyName.parts) rfl 26 rfl rfl (fun _ h => h) ?_
      refine WX.turn [17] 7 rfl (fun _ h => h) rfl ?_
      exact WX.iter (p6, c2, (xsout ++ [.slice p4 (((spec_l4Copy (Name.mk xKeyName)).parts).length) c1]), ((out ++ [(spec_l4Copy (Name.mk xKeyName))]) : List Name), p8, c3, e1.name.parts, p9, c4, e1.content, p10, c5, e1.keyName.parts, e1.freshUntil, e1.signature) ⟨(all_app v1 (all_cons (α := Name) hq3 (fun a ha => by cases ha))), (ok_Name (ok_DataP ok1).1), (ok_DataP ok1).2.1, (ok_Name (ok_DataP ok1).2.2.1), (ok_DataP ok1).2.2.2.1, (ok_DataP ok1).2.2.2.2, (by first | assumption | omega | (simp; omega)), (by rw [v8]; rw [spec_TrustChain_L1]; simp only [h1, h1d, h2, h3, h4, h5, h5d, e1h, ct, cf, ↓reduceIte, Bool.false_eq_true])⟩ (by dsimp only; simp only [List.length_append, List.length_cons, List.length_nil]; omega) (.cons rfl (.cons rfl (.cons rfl (.cons rfl (.nil))))) (.cons rfl (.cons rfl (.nil))) (.cons rfl (.nil)) [0, 1, 2, 3, 4, 5, 6, 7] rfl
 ·skip
  have h1d := B.df h1
  refine R0 ?_
  have hX1 : spec_TrustChain_L1 t now ([] : List Name) (x_.name.parts : List Str) (x_.content : List UInt8) (x_.keyName.parts : List Str) x_.freshUntil x_.signature = (Ctl.nxt (((out) : List Name), ((xName) : List Str), ((xContent) : List UInt8), ((xKeyName) : List Str), xFreshUntil, xSignature)) := by rw [v8]; rw [spec_TrustChain_L1]; simp only [h1, h1d, ct, cf, ↓reduceIte, Bool.false_eq_true]
  refine WX.bld ttOk rfl rfl rfl rfl rfl rfl rfl ?_
  intro p11
  refine R0 ?_
  refine WX.free 27 (MF.ol [] ([] : List Name)) rfl ?_
  refine WX.seal 54 27 28 rfl rfl rfl rfl rfl ?_
  have hP9 : spec_TrustChain t x_ now = (([]), false) := by simp only [spec_TrustChain, hX1, ct, cf]
  refine R1 ?_
  intro w1 G bs hI hΓ
  rw [hP9]
  exact Post.of [29] (p11, 0) hI hΓ rfl rfl rfl (okl_mk (Nat.zero_le _) (fun a ha => by cases ha) : GoT.ok n ([] : List Name))
theorem f215 (w : World) (n : Nat) (hn : n + 6 ≤ 9) (t : TrustPolicy) (K0 : Option Addr) (M0 : Nat) (N0 : RdSl (hp w) K0 M0 t.keys) (K1 : Option Addr) (M1 : Nat) (N1 : RdSl (hp w) K1 M1 t.rules) (K2 : Option Addr) (M2 : Nat) (N2 : RdSl (hp w) K2 M2 t.anchors) (K3 : Option Addr) (M3 : Nat) (N3 : RdSl (hp w) K3 M3 t.certificates) (x_ : DataP) (K4 : Option Addr) (M4 : Nat) (N4 : RdSl (hp w) K4 M4 x_.name.parts) (K5 : Option Addr) (M5 : Nat) (N5 : RdSl (hp w) K5 M5 x_.content) (K6 : Option Addr) (M6 : Nat) (N6 : RdSl (hp w) K6 M6 x_.keyName.parts) (now : Int) (hokt : GoT.ok n t) (hokx_ : GoT.ok n x_) (hoknow : GoT.ok n now) :
  Does Tryz.prog 215 #[.agg #[.slice K0 ((t.keys).length) M0, .slice K1 ((t.rules).length) M1, .slice K2 ((t.anchors).length) M2, .slice K3 ((t.certificates).length) M3], .agg #[.slice K4 ((x_.name.parts).length) M4, .slice K5 ((x_.content).length) M5, .slice K6 ((x_.keyName.parts).length) M6, .int .i64 (x_.freshUntil), .int .i64 (x_.signature)], .int .i64 (now)] w emp (Post w emp (fun x : GoT.X ((List Name)) => .tuple #[(GoT.sh ((impl_TrustChain t x_ now).1 : (List Name)) x).headD undef, .bool ((impl_TrustChain t x_ now).2)]) (fun x => GoT.oa ((impl_TrustChain t x_ now).1 : (List Name)) x) (GoT.ok n ((impl_TrustChain t x_ now).1 : (List Name)))) := by
 have hbP := bd_pos n
 have hbS0 : bd (n + 1) = 4 * bd (n) := bd_succ (n := n) (by omega)
 have hbS1 : bd (n + 2) = 4 * bd (n + 1) := bd_succ (n := n + 1) (by omega)
 have hbS2 : bd (n + 3) = 4 * bd (n + 2) := bd_succ (n := n + 2) (by omega)
 have hbS3 : bd (n + 4) = 4 * bd (n + 3) := bd_succ (n := n + 3) (by omega)
 have hbS4 : bd (n + 5) = 4 * bd (n + 4) := bd_succ (n := n + 4) (by omega)
 have hbS5 : bd (n + 6) = 4 * bd (n + 5) := bd_succ (n := n + 5) (by omega)
 have hbB := bd_big (n := (n + 6)) (by omega)
 have hbM := bd_mono (show n ≤ n + 6 by omega)
 refine WX.enter (tt := tt) (Γ := [(0, MF.rs .stb K0 M0 t.keys), (1, MF.rs .stb K1 M1 t.rules), (2, MF.rs .stb K2 M2 t.anchors), (3, MF.rs .stb K3 M3 t.certificates), (4, MF.rs .stb K4 M4 x_.name.parts), (5, MF.rs .stb K5 M5 x_.content), (6, MF.rs .stb K6 M6 x_.keyName.parts)]) Tryz.func215 rfl (by kernel_rfl) rfl (allS_cons rfl N0 (allS_cons rfl N1 (allS_cons rfl N2 (allS_cons rfl N3 (allS_cons rfl N4 (allS_cons rfl N5 (allS_cons rfl N6 allS_nil))))))) ?_
 refine R0 ?_
 refine WX.bld ttOk rfl rfl rfl rfl rfl rfl rfl ?_
 intro p1
 refine R0 ?_
 refine WX.free 7 (MF.ol [] ([] : List Name)) rfl ?_
 refine WX.loop (ι := (Option Addr) × Nat × (List Value) × (List Name) × (Option Addr) × Nat × (List Str) × (Option Addr) × Nat × (List UInt8) × (Option Addr) × Nat × (List Str) × Int × Int) ⟨fun | (pchain, cchain, xschain, chain, pxName, cxName, xName, pxContent, cxContent, xContent, pxKeyName, cxKeyName, xKeyName, xFreshUntil, xSignature) => (∀ z_ ∈ chain, GoT.ok n z_) ∧ (xName.length ≤ bd n ∧ ∀ z_ ∈ xName, GoT.ok n z_) ∧ (xContent.length ≤ bd n ∧ ∀ z_ ∈ xContent, GoT.ok n z_) ∧ (xKeyName.length ≤ bd n ∧ ∀ z_ ∈ xKeyName, GoT.ok n z_) ∧ (-9223372036854775808 ≤ xFreshUntil ∧ xFreshUntil ≤ 9223372036854775807) ∧ (-9223372036854775808 ≤ xSignature ∧ xSignature ≤ 9223372036854775807) ∧ (chain.length ≤ 4) ∧ (impl_TrustChain_L1 t now ([] : List Name) (x_.name.parts : List Str) (x_.content : List UInt8) (x_.keyName.parts : List Str) x_.freshUntil x_.signature = impl_TrustChain_L1 t now chain xName xContent xKeyName xFreshUntil xSignature), fun | (pchain, cchain, xschain, chain, pxName, cxName, xName, pxContent, cxContent, xContent, pxKeyName, cxKeyName, xKeyName, xFreshUntil, xSignature) => 4 - chain.length, fun | (pchain, cchain, xschain, chain, pxName, cxName, xName, pxContent, cxContent, xContent, pxKeyName, cxKeyName, xKeyName, xFreshUntil, xSignature) => [(8, .v (.slice pchain ((chain).length) cchain)), (4, .p 4 0), (3, .p 3 0), (2, .v (.int .i64 (now)))], fun | (pchain, cchain, xschain, chain, pxName, cxName, xName, pxContent, cxContent, xContent, pxKeyName, cxKeyName, xKeyName, xFreshUntil, xSignature) => [(4, ⟨32, [.slice pxName ((xName).length) cxName, .slice pxContent ((xContent).length) cxContent, .slice pxKeyName ((xKeyName).length) cxKeyName, .int .i64 (xFreshUntil), .int .i64 (xSignature)]⟩), (3, ⟨110, [.slice K0 ((t.keys).length) M0, .slice K1 ((t.rules).length) M1, .slice K2 ((t.anchors).length) M2, .slice K3 ((t.certificates).length) M3]⟩)], fun | (pchain, cchain, xschain, chain, pxName, cxName, xName, pxContent, cxContent, xContent, pxKeyName, cxKeyName, xKeyName, xFreshUntil, xSignature) => [(10, ⟨1, pchain, (chain).length, cchain, xschain⟩)], fun | (pchain, cchain, xschain, chain, pxName, cxName, xName, pxContent, cxContent, xContent, pxKeyName, cxKeyName, xKeyName, xFreshUntil, xSignature) => [(0, MF.rs .stb K0 M0 t.keys), (1, MF.rs .stb K1 M1 t.rules), (2, MF.rs .stb K2 M2 t.anchors), (3, MF.rs .stb K3 M3 t.certificates), (4, MF.rs .stb pxName cxName xName), (5, MF.rs .stb pxContent cxContent xContent), (6, MF.rs .stb pxKeyName cxKeyName xKeyName), (7, MF.ol xschain (chain : List Name))]⟩ (p1, 0, [], ([] : List Name), K4, M4, (x_.name.parts : List Str), K5, M5, (x_.content : List UInt8), K6, M6, (x_.keyName.parts : List Str), x_.freshUntil, x_.signature) ⟨(fun a ha => by cases ha), (ok_Name (ok_DataP hokx_).1), (ok_DataP hokx_).2.1, (ok_Name (ok_DataP hokx_).2.2.1), (ok_DataP hokx_).2.2.2.1, (ok_DataP hokx_).2.2.2.2, (by simp), rfl⟩
  (.cons rfl (.cons rfl (.cons rfl (.cons rfl (.nil))))) (.cons rfl (.cons rfl (.nil))) (.cons rfl (.nil)) [0, 1, 2, 3, 4, 5, 6, 7] rfl ?_
 rintro ⟨pchain, cchain, xschain, chain, pxName, cxName, xName, pxContent, cxContent, xContent, pxKeyName, cxKeyName, xKeyName, xFreshUntil, xSignature⟩ hpre
 have hpre_ : (∀ z_ ∈ chain, GoT.ok n z_) ∧ (xName.length ≤ bd n ∧ ∀ z_ ∈ xName, GoT.ok n z_) ∧ (xContent.length ≤ bd n ∧ ∀ z_ ∈ xContent, GoT.ok n z_) ∧ (xKeyName.length ≤ bd n ∧ ∀ z_ ∈ xKeyName, GoT.ok n z_) ∧ (-9223372036854775808 ≤ xFreshUntil ∧ xFreshUntil ≤ 9223372036854775807) ∧ (-9223372036854775808 ≤ xSignature ∧ xSignature ≤ 9223372036854775807) ∧ (chain.length ≤ 4) ∧ (impl_TrustChain_L1 t now ([] : List Name) (x_.name.parts : List Str) (x_.content : List UInt8) (x_.keyName.parts : List Str) x_.freshUntil x_.signature = impl_TrustChain_L1 t now chain xName xContent xKeyName xFreshUntil xSignature) := hpre
 clear hpre
 obtain ⟨v1, v2, v3, v4, v5, v6, v7, v8⟩ := hpre_
 have v2L := v2.1
 have v3L := v3.1
 have v4L := v4.1
 refine R0 ?_
 refine WX.callV rfl rfl rfl rfl rfl (fun _ => rfl) rfl (fun w G bs hI hΓ => f238 w n (by omega) t.keys K0 M0 (hΓ.get 0 rfl) (DataP.mk (Name.mk xName) xContent (Name.mk xKeyName) xFreshUntil xSignature) pxName cxName (hΓ.get 4 rfl) pxContent cxContent (hΓ.get 5 rfl) pxKeyName cxKeyName (hΓ.get 6 rfl) ((ok_TrustPolicy hokt).1) (And.intro (okl_of v2) (And.intro (okl_of v3) (And.intro (okl_of v4) (And.intro v5 v6))))) ?_
 intro hq1
 refine R0 ?_
 refine WX.cases 16 rfl (fun h1 => ?_) (fun h1 => ?_)
 ·skip
  have h1d := (B.nt h1)
  refine R0 ?_
  refine WX.free 8 (MF.os none 0 ([] : List Name)) (owSl_nil _ _) ?_
  have hP1 : impl_TrustChain_L1 t now ([] : List Name) (x_.name.parts : List Str) (x_.content : List UInt8) (x_.keyName.parts : List Str) x_.freshUntil x_.signature = (Ctl.ret (([] : List Name), false)) := by rw [v8]; rw [impl_TrustChain_L1]; simp only [(show chain.length ≤ 4 by omega), h1, ct, cf, ↓reduceIte, Bool.false_eq_true]
  have hP2 : impl_TrustChain t x_ now = (([] : List Name), false) := by simp only [impl_TrustChain, hP1, ct, cf]
  refine R1 ?_
  intro w1 G bs hI hΓ
  rw [hP2]
  exact Post.of [8] (none, 0) hI hΓ rfl rfl rfl (ok_nil (α := Name))
 ·skip
  have h1d := (B.nf h1)
  refine R0 ?_
  refine WX.callV rfl rfl rfl rfl rfl (fun _ => rfl) rfl (fun w G bs hI hΓ => f239 w n (by omega) t.rules K1 M1 (hΓ.get 1 rfl) (Name.mk xName) pxName cxName (hΓ.get 4 rfl) (Name.mk xKeyName) pxKeyName cxKeyName (hΓ.get 6 rfl) ((ok_TrustPolicy hokt).2.1) (okl_of v2) (okl_of v4)) ?_
  intro hq2
  refine R0 ?_
  refine WX.cases 26 rfl (fun h2 => ?_) (fun h2 => ?_)
  ·skip
   have h2d := (B.nt h2)
   refine R0 ?_
   refine WX.free 9 (MF.os none 0 ([] : List Name)) (owSl_nil _ _) ?_
   have hP3 : impl_TrustChain_L1 t now ([] : List Name) (x_.name.parts : List Str) (x_.content : List UInt8) (x_.keyName.parts : List Str) x_.freshUntil x_.signature = (Ctl.ret (([] : List Name), false)) := by rw [v8]; rw [impl_TrustChain_L1]; simp only [(show chain.length ≤ 4 by omega), h1, h2, ct, cf, ↓reduceIte, Bool.false_eq_true]
   have hP4 : impl_TrustChain t x_ now = (([] : List Name), false) := by simp only [impl_TrustChain, hP3, ct, cf]
   refine R1 ?_
   intro w1 G bs hI hΓ
   rw [hP4]
   exact Post.of [9] (none, 0) hI hΓ rfl rfl rfl (ok_nil (α := Name))
  ·skip
   have h2d := (B.nf h2)
   refine R0 ?_
   refine WX.cases 30 rfl (fun h3 => ?_) (fun h3 => ?_)
   ·skip
    have h3d := B.et h3
    refine R0 ?_
    refine WX.free 10 (MF.os none 0 ([] : List Name)) (owSl_nil _ _) ?_
    have hP5 : impl_TrustChain_L1 t now ([] : List Name) (x_.name.parts : List Str) (x_.content : List UInt8) (x_.keyName.parts : List Str) x_.freshUntil x_.signature = (Ctl.ret (([] : List Name), false)) := by rw [v8]; rw [impl_TrustChain_L1]; simp only [(show chain.length ≤ 4 by omega), h1, h2, h3, ct, cf, ↓reduceIte, Bool.false_eq_true]
    have hP6 : impl_TrustChain t x_ now = (([] : List Name), false) := by simp only [impl_TrustChain, hP5, ct, cf]
    refine R1 ?_
    intro w1 G bs hI hΓ
    rw [hP6]
    exact Post.of [10] (none, 0) hI hΓ rfl rfl rfl (ok_nil (α := Name))
   ·skip
    have h3d := B.ef h3
    refine R0 ?_
    refine WX.callF 11 (fun _ _ h => GoT.ow_rd h) (fun _ f hf => GoT.fak f hf) rfl rfl rfl rfl rfl (fun _ => rfl) rfl (fun w G bs hI hΓ => f113 w n (by omega) (Name.mk xKeyName) pxKeyName cxKeyName (hΓ.get 6 rfl) (okl_of v4)) (fun _ => rfl) (fun _ => rfl) ?_
    rintro ⟨p2, c1⟩ hq3
    refine WX.bld ttOk rfl rfl rfl rfl rfl rfl rfl ?_
    intro p3
    refine WX.turn [12] 13 rfl (fun h hs => ol_one (α := Name) (a := (impl_copyName (Name.mk xKeyName))) (x := (p2, c1)) hs) (gs := [MF.ol [.slice p2 (((impl_copyName (Name.mk xKeyName)).parts).length) c1] ([(impl_copyName (Name.mk xKeyName))] : List Name)]) rfl ?_
    refine WX.know (fun G hΓ => (hΓ.get 13 rfl : OwL _ _ _).rd.one) ?_
    intro ho1
    refine WX.appR1 10 35 ((chain ++ [(impl_copyName (Name.mk xKeyName))]) : List Name).length ttOk rfl rfl rfl rfl rfl rfl rfl rfl rfl rfl rfl rfl rfl ho1 (by simp) (by simp; omega) (by simp; omega) (fun _ _ => rfl) ?_
    intro p4 c2
    refine WX.turn [7, 13] 14 rfl (fun h hs => ol_app hs) (gs := [MF.ol (xschain ++ [.slice p2 (((impl_copyName (Name.mk xKeyName)).parts).length) c1]) ((chain ++ [(impl_copyName (Name.mk xKeyName))]) : List Name)]) rfl ?_
    refine R0 ?_
    refine WX.callV rfl rfl rfl rfl rfl (fun _ => rfl) rfl (fun w G bs hI hΓ => f240 w n (by omega) t K0 M0 (hΓ.get 0 rfl) K1 M1 (hΓ.get 1 rfl) K2 M2 (hΓ.get 2 rfl) K3 M3 (hΓ.get 3 rfl) (Name.mk xKeyName) pxKeyName cxKeyName (hΓ.get 6 rfl) hokt (okl_of v4)) ?_
    intro hq4
    refine R0 ?_
    refine WX.cases 40 rfl (fun h4 => ?_) (fun h4 => ?_)
    ·skip
     refine R0 ?_
     refine WX.seal 10 14 15 rfl rfl rfl rfl rfl ?_
     have hP7 : impl_TrustChain_L1 t now ([] : List Name) (x_.name.parts : List Str) (x_.content : List UInt8) (x_.keyName.parts : List Str) x_.freshUntil x_.signature = (Ctl.ret (chain ++ [(impl_copyName (Name.mk xKeyName))], true)) := by rw [v8]; rw [impl_TrustChain_L1]; simp only [(show chain.length ≤ 4 by omega), h1, h2, h3, h4, ct, cf, ↓reduceIte, Bool.false_eq_true]
     have hP8 : impl_TrustChain t x_ now = (chain ++ [(impl_copyName (Name.mk xKeyName))], true) := by simp only [impl_TrustChain, hP7, ct, cf]
     refine R1 ?_
     intro w1 G bs hI hΓ
     rw [hP8]
     exact Post.of [16] (p4, c2) hI hΓ rfl rfl rfl (okl_mk (by simp; omega) (all_app v1 (all_cons (α := Name) hq3 (fun a ha => by cases ha))) : GoT.ok n ((chain ++ [(impl_copyName (Name.mk xKeyName))]) : List Name))
    ·skip
     refine R0 ?_
     refine WX.callV rfl rfl rfl rfl rfl (fun _ => rfl) rfl (fun w G bs hI hΓ => f241 w n (by omega) t K0 M0 (hΓ.get 0 rfl) K1 M1 (hΓ.get 1 rfl) K2 M2 (hΓ.get 2 rfl) K3 M3 (hΓ.get 3 rfl) (Name.mk xKeyName) pxKeyName cxKeyName (hΓ.get 6 rfl) now hokt (okl_of v4) hoknow) ?_
     intro hq5
     have q1 := fcI_lt t (Name.mk xKeyName) now
     refine R0 ?_
     refine WX.cases 48 rfl (fun h5 => ?_) (fun h5 => ?_)
     ·skip
      have h5d := B.dt h5
      refine R0 ?_
      refine WX.free 17 (MF.os none 0 ([] : List Name)) (owSl_nil _ _) ?_
      have hP9 : impl_TrustChain_L1 t now ([] : List Name) (x_.name.parts : List Str) (x_.content : List UInt8) (x_.keyName.parts : List Str) x_.freshUntil x_.signature = (Ctl.ret (([] : List Name), false)) := by rw [v8]; rw [impl_TrustChain_L1]; simp only [(show chain.length ≤ 4 by omega), h1, h2, h3, h4, h5, h5d, ct, cf, ↓reduceIte, Bool.false_eq_true]
      have hP10 : impl_TrustChain t x_ now = (([] : List Name), false) := by simp only [impl_TrustChain, hP9, ct, cf]
      refine R1 ?_
      intro w1 G bs hI hΓ
      rw [hP10]
      exact Post.of [17] (none, 0) hI hΓ rfl rfl rfl (ok_nil (α := Name))
     ·skip
      have h5d := B.df h5
      refine R0 ?_
      have r1 : -9223372036854775808 ≤ now ∧ now ≤ 9223372036854775807 := hoknow
      have r2 : -9223372036854775808 ≤ (impl_FindCertificate t (Name.mk xKeyName) now) ∧ (impl_FindCertificate t (Name.mk xKeyName) now) ≤ 9223372036854775807 := hq5
      refine WX.slot 51 (y := .v (.int .i64 ((((impl_FindCertificate t (Name.mk xKeyName) now)).toNat : Nat) : Int))) rfl (fun _ => congrArg (Value.int .i64) (show (impl_FindCertificate t (Name.mk xKeyName) now) = ((((impl_FindCertificate t (Name.mk xKeyName) now)).toNat : Nat) : Int) from by omega)) ?_
      have e1i : ((impl_FindCertificate t (Name.mk xKeyName) now)).toNat < (t.certificates).length := (by first | assumption | omega)
      obtain ⟨e1, e1h⟩ : ∃ e1, (t.certificates)[((impl_FindCertificate t (Name.mk xKeyName) now)).toNat]? = some e1 := ⟨_, List.getElem?_eq_getElem e1i⟩
      have ok1 : GoT.ok n e1 := (okl (ok_TrustPolicy hokt).2.2.2).2 _ (List.mem_of_getElem? e1h)
      refine WX.idx 3 (((impl_FindCertificate t (Name.mk xKeyName) now)).toNat) ttOk rfl rfl rfl rfl rfl rfl rfl rfl rfl rfl e1i ?_
      rintro ad1 rfl
      refine WX.ldE 3 18 e1 ttOk rfl rfl rfl rfl rfl rfl rfl rfl e1h (fun _ => rfl) (fun _ => rfl) ?_
      rintro ⟨⟨p5, c3⟩, ⟨p6, c4⟩, ⟨p7, c5⟩, ⟨⟩, ⟨⟩⟩
      refine R0 ?_
      refine WX.stb 4 (MF.rs .stb p5 c3 e1.name.parts) rfl 18 rfl rfl (fun _ h => h) ?_
      refine WX.stb 5 (MF.rs .stb p6 c4 e1.content) rfl 19 rfl rfl (fun _ h => h) ?_
      refine WX.stb 6 (MF.rs .stb p7 c5 e1.keyName.parts) rfl 20 rfl rfl (fun _ h => h) ?_
      refine WX.turn [14] 7 rfl (fun _ h => h) rfl ?_
      exact WX.iter (p4, c2, (xschain ++ [.slice p2 (((impl_copyName (Name.mk xKeyName)).parts).length) c1]), ((chain ++ [(impl_copyName (Name.mk xKeyName))]) : List Name), p5, c3, e1.name.parts, p6, c4, e1.content, p7, c5, e1.keyName.parts, e1.freshUntil, e1.signature) ⟨(all_app v1 (all_cons (α := Name) hq3 (fun a ha => by cases ha))), (ok_Name (ok_DataP ok1).1), (ok_DataP ok1).2.1, (ok_Name (ok_DataP ok1).2.2.1), (ok_DataP ok1).2.2.2.1, (ok_DataP ok1).2.2.2.2, (by first | assumption | omega | (simp; omega)), (by rw [v8]; rw [impl_TrustChain_L1]; simp only [(show chain.length ≤ 4 by omega), h1, h2, h3, h4, h5, h5d, e1h, ct, cf, ↓reduceIte, Bool.false_eq_true])⟩ (by dsimp only; simp only [List.length_append, List.length_cons, List.length_nil]; omega) (.cons rfl (.cons rfl (.cons rfl (.cons rfl (.nil))))) (.cons rfl (.cons rfl (.nil))) (.cons rfl (.nil)) [0, 1, 2, 3, 4, 5, 6, 7] rfl
theorem f147 (w : World) (n : Nat) (hn : n + 7 ≤ 9) (t : TrustPolicy) (K0 : Option Addr) (M0 : Nat) (N0 : RdSl (hp w) K0 M0 t.keys) (K1 : Option Addr) (M1 : Nat) (N1 : RdSl (hp w) K1 M1 t.rules) (K2 : Option Addr) (M2 : Nat) (N2 : RdSl (hp w) K2 M2 t.anchors) (K3 : Option Addr) (M3 : Nat) (N3 : RdSl (hp w) K3 M3 t.certificates) (x_ : DataP) (K4 : Option Addr) (M4 : Nat) (N4 : RdSl (hp w) K4 M4 x_.name.parts) (K5 : Option Addr) (M5 : Nat) (N5 : RdSl (hp w) K5 M5 x_.content) (K6 : Option Addr) (M6 : Nat) (N6 : RdSl (hp w) K6 M6 x_.keyName.parts) (now : Int) (hokt : GoT.ok n t) (hokx_ : GoT.ok n x_) (hoknow : GoT.ok n now) :
  Does Tryz.prog 147 #[.agg #[.slice K0 ((t.keys).length) M0, .slice K1 ((t.rules).length) M1, .slice K2 ((t.anchors).length) M2, .slice K3 ((t.certificates).length) M3], .agg #[.slice K4 ((x_.name.parts).length) M4, .slice K5 ((x_.content).length) M5, .slice K6 ((x_.keyName.parts).length) M6, .int .i64 (x_.freshUntil), .int .i64 (x_.signature)], .int .i64 (now)] w emp (fun (rv : Value) (_ : World) => rv = .bool (spec_IsTrusted t x_ now) ∧ True) := by
 have hbP := bd_pos n
 have hbS0 : bd (n + 1) = 4 * bd (n) := bd_succ (n := n) (by omega)
 have hbS1 : bd (n + 2) = 4 * bd (n + 1) := bd_succ (n := n + 1) (by omega)
 have hbS2 : bd (n + 3) = 4 * bd (n + 2) := bd_succ (n := n + 2) (by omega)
 have hbS3 : bd (n + 4) = 4 * bd (n + 3) := bd_succ (n := n + 3) (by omega)
 have hbS4 : bd (n + 5) = 4 * bd (n + 4) := bd_succ (n := n + 4) (by omega)
 have hbS5 : bd (n + 6) = 4 * bd (n + 5) := bd_succ (n := n + 5) (by omega)
 have hbS6 : bd (n + 7) = 4 * bd (n + 6) := bd_succ (n := n + 6) (by omega)
 have hbB := bd_big (n := (n + 7)) (by omega)
 have hbM := bd_mono (show n ≤ n + 7 by omega)
 refine WX.enter (tt := tt) (Γ := [(0, MF.rs .stb K0 M0 t.keys), (1, MF.rs .stb K1 M1 t.rules), (2, MF.rs .stb K2 M2 t.anchors), (3, MF.rs .stb K3 M3 t.certificates), (4, MF.rs .stb K4 M4 x_.name.parts), (5, MF.rs .stb K5 M5 x_.content), (6, MF.rs .stb K6 M6 x_.keyName.parts)]) Tryz.func147 rfl (by kernel_rfl) rfl (allS_cons rfl N0 (allS_cons rfl N1 (allS_cons rfl N2 (allS_cons rfl N3 (allS_cons rfl N4 (allS_cons rfl N5 (allS_cons rfl N6 allS_nil))))))) ?_
 refine R0 ?_
 refine WX.callF 7 (fun _ _ h => GoT.ow_rd h) (fun _ f hf => GoT.fak f hf) rfl rfl rfl rfl rfl (fun _ => rfl) rfl (fun w G bs hI hΓ => f211 w n (by omega) t K0 M0 (hΓ.get 0 rfl) K1 M1 (hΓ.get 1 rfl) K2 M2 (hΓ.get 2 rfl) K3 M3 (hΓ.get 3 rfl) x_ K4 M4 (hΓ.get 4 rfl) K5 M5 (hΓ.get 5 rfl) K6 M6 (hΓ.get 6 rfl) now hokt hokx_ hoknow) (fun _ => rfl) (fun _ => rfl) ?_
 rintro ⟨p1, c1⟩ hq1
 refine R0 ?_
 refine WX.callV rfl rfl rfl rfl rfl (fun _ => rfl) rfl (fun w G bs hI hΓ => f99 w n (by omega) x_ K4 M4 (hΓ.get 4 rfl) K5 M5 (hΓ.get 5 rfl) K6 M6 (hΓ.get 6 rfl) hokx_) ?_
 intro hq2
 refine R0 ?_
 refine WX.cases 18 rfl (fun h1 => ?_) (fun h1 => ?_)
 ·skip
  refine R0 ?_
  have hP1 : spec_IsTrusted t x_ now = ((spec_TrustChain t x_ now).2) := by simp only [spec_IsTrusted, h1, ct, cf]
  exact R3 hP1
 ·skip
  refine R0 ?_
  have hP2 : spec_IsTrusted t x_ now = false := by simp only [spec_IsTrusted, h1, ct, cf]
  exact R3 hP2
theorem f155 (w : World) (n : Nat) (hn : n + 6 ≤ 9) (t : TrustPolicy) (K0 : Option Addr) (M0 : Nat) (N0 : RdSl (hp w) K0 M0 t.keys) (K1 : Option Addr) (M1 : Nat) (N1 : RdSl (hp w) K1 M1 t.rules) (K2 : Option Addr) (M2 : Nat) (N2 : RdSl (hp w) K2 M2 t.anchors) (K3 : Option Addr) (M3 : Nat) (N3 : RdSl (hp w) K3 M3 t.certificates) (x_ : DataP) (K4 : Option Addr) (M4 : Nat) (N4 : RdSl (hp w) K4 M4 x_.name.parts) (K5 : Option Addr) (M5 : Nat) (N5 : RdSl (hp w) K5 M5 x_.content) (K6 : Option Addr) (M6 : Nat) (N6 : RdSl (hp w) K6 M6 x_.keyName.parts) (now : Int) (hokt : GoT.ok n t) (hokx_ : GoT.ok n x_) (hoknow : GoT.ok n now) :
  Does Tryz.prog 155 #[.agg #[.slice K0 ((t.keys).length) M0, .slice K1 ((t.rules).length) M1, .slice K2 ((t.anchors).length) M2, .slice K3 ((t.certificates).length) M3], .agg #[.slice K4 ((x_.name.parts).length) M4, .slice K5 ((x_.content).length) M5, .slice K6 ((x_.keyName.parts).length) M6, .int .i64 (x_.freshUntil), .int .i64 (x_.signature)], .int .i64 (now)] w emp (fun (rv : Value) (_ : World) => rv = .bool (impl_IsTrusted t x_ now) ∧ True) := by
 have hbP := bd_pos n
 have hbS0 : bd (n + 1) = 4 * bd (n) := bd_succ (n := n) (by omega)
 have hbS1 : bd (n + 2) = 4 * bd (n + 1) := bd_succ (n := n + 1) (by omega)
 have hbS2 : bd (n + 3) = 4 * bd (n + 2) := bd_succ (n := n + 2) (by omega)
 have hbS3 : bd (n + 4) = 4 * bd (n + 3) := bd_succ (n := n + 3) (by omega)
 have hbS4 : bd (n + 5) = 4 * bd (n + 4) := bd_succ (n := n + 4) (by omega)
 have hbS5 : bd (n + 6) = 4 * bd (n + 5) := bd_succ (n := n + 5) (by omega)
 have hbB := bd_big (n := (n + 6)) (by omega)
 have hbM := bd_mono (show n ≤ n + 6 by omega)
 refine WX.enter (tt := tt) (Γ := [(0, MF.rs .stb K0 M0 t.keys), (1, MF.rs .stb K1 M1 t.rules), (2, MF.rs .stb K2 M2 t.anchors), (3, MF.rs .stb K3 M3 t.certificates), (4, MF.rs .stb K4 M4 x_.name.parts), (5, MF.rs .stb K5 M5 x_.content), (6, MF.rs .stb K6 M6 x_.keyName.parts)]) Tryz.func155 rfl (by kernel_rfl) rfl (allS_cons rfl N0 (allS_cons rfl N1 (allS_cons rfl N2 (allS_cons rfl N3 (allS_cons rfl N4 (allS_cons rfl N5 (allS_cons rfl N6 allS_nil))))))) ?_
 refine R0 ?_
 refine WX.callF 7 (fun _ _ h => GoT.ow_rd h) (fun _ f hf => GoT.fak f hf) rfl rfl rfl rfl rfl (fun _ => rfl) rfl (fun w G bs hI hΓ => f215 w n (by omega) t K0 M0 (hΓ.get 0 rfl) K1 M1 (hΓ.get 1 rfl) K2 M2 (hΓ.get 2 rfl) K3 M3 (hΓ.get 3 rfl) x_ K4 M4 (hΓ.get 4 rfl) K5 M5 (hΓ.get 5 rfl) K6 M6 (hΓ.get 6 rfl) now hokt hokx_ hoknow) (fun _ => rfl) (fun _ => rfl) ?_
 rintro ⟨p1, c1⟩ hq1
 refine R0 ?_
 refine WX.cases 17 rfl (fun h1 => ?_) (fun h1 => ?_)
 ·skip
  refine R0 ?_
  refine WX.callV rfl rfl rfl rfl rfl (fun _ => rfl) rfl (fun w G bs hI hΓ => f96 w n (by omega) x_ K4 M4 (hΓ.get 4 rfl) K5 M5 (hΓ.get 5 rfl) K6 M6 (hΓ.get 6 rfl) hokx_) ?_
  intro hq2
  refine R0 ?_
  have hP1 : impl_IsTrusted t x_ now = (impl_ValidData x_) := by simp only [impl_IsTrusted, h1, ct, cf]
  exact R3 hP1
 ·skip
  refine R0 ?_
  have hP2 : impl_IsTrusted t x_ now = false := by simp only [impl_IsTrusted, h1, ct, cf]
  exact R3 hP2
theorem f64 (w : World) (n : Nat) (hn : n + 7 ≤ 9) (a : Consumer) (K0 : Option Addr) (M0 : Nat) (N0 : RdSl (hp w) K0 M0 a.name.parts) (K1 : Option Addr) (M1 : Nat) (N1 : RdSl (hp w) K1 M1 a.data.name.parts) (K2 : Option Addr) (M2 : Nat) (N2 : RdSl (hp w) K2 M2 a.data.content) (K3 : Option Addr) (M3 : Nat) (N3 : RdSl (hp w) K3 M3 a.data.keyName.parts) (t : TrustPolicy) (K4 : Option Addr) (M4 : Nat) (N4 : RdSl (hp w) K4 M4 t.keys) (K5 : Option Addr) (M5 : Nat) (N5 : RdSl (hp w) K5 M5 t.rules) (K6 : Option Addr) (M6 : Nat) (N6 : RdSl (hp w) K6 M6 t.anchors) (K7 : Option Addr) (M7 : Nat) (N7 : RdSl (hp w) K7 M7 t.certificates) (x_ : DataP) (K8 : Option Addr) (M8 : Nat) (N8 : RdSl (hp w) K8 M8 x_.name.parts) (K9 : Option Addr) (M9 : Nat) (N9 : RdSl (hp w) K9 M9 x_.content) (K10 : Option Addr) (M10 : Nat) (N10 : RdSl (hp w) K10 M10 x_.keyName.parts) (now : Int) (hoka : GoT.ok n a) (hokt : GoT.ok n t) (hokx_ : GoT.ok n x_) (hoknow : GoT.ok n now) :
  Does Tryz.prog 64 #[.agg #[.int .i64 (a.node), .int .i64 (a.index), .slice K0 ((a.name.parts).length) M0, .int .i64 (a.attempts), .int .i64 (a.wait), .bool a.satisfied, .slice K1 ((a.data.name.parts).length) M1, .slice K2 ((a.data.content).length) M2, .slice K3 ((a.data.keyName.parts).length) M3, .int .i64 (a.data.freshUntil), .int .i64 (a.data.signature)], .agg #[.slice K4 ((t.keys).length) M4, .slice K5 ((t.rules).length) M5, .slice K6 ((t.anchors).length) M6, .slice K7 ((t.certificates).length) M7], .agg #[.slice K8 ((x_.name.parts).length) M8, .slice K9 ((x_.content).length) M9, .slice K10 ((x_.keyName.parts).length) M10, .int .i64 (x_.freshUntil), .int .i64 (x_.signature)], .int .i64 (now)] w emp (Post w emp (fun x : GoT.X (Consumer) => .agg ⟨GoT.sh ((spec_AcceptData a t x_ now) : Consumer) x⟩) (fun x => GoT.oa ((spec_AcceptData a t x_ now) : Consumer) x) (GoT.ok n ((spec_AcceptData a t x_ now) : Consumer))) := by
 have hbP := bd_pos n
 have hbS0 : bd (n + 1) = 4 * bd (n) := bd_succ (n := n) (by omega)
 have hbS1 : bd (n + 2) = 4 * bd (n + 1) := bd_succ (n := n + 1) (by omega)
 have hbS2 : bd (n + 3) = 4 * bd (n + 2) := bd_succ (n := n + 2) (by omega)
 have hbS3 : bd (n + 4) = 4 * bd (n + 3) := bd_succ (n := n + 3) (by omega)
 have hbS4 : bd (n + 5) = 4 * bd (n + 4) := bd_succ (n := n + 4) (by omega)
 have hbS5 : bd (n + 6) = 4 * bd (n + 5) := bd_succ (n := n + 5) (by omega)
 have hbS6 : bd (n + 7) = 4 * bd (n + 6) := bd_succ (n := n + 6) (by omega)
 have hbB := bd_big (n := (n + 7)) (by omega)
 have hbM := bd_mono (show n ≤ n + 7 by omega)
 refine WX.enter (tt := tt) (Γ := [(0, MF.rs .stb K0 M0 a.name.parts), (1, MF.rs .stb K1 M1 a.data.name.parts), (2, MF.rs .stb K2 M2 a.data.content), (3, MF.rs .stb K3 M3 a.data.keyName.parts), (4, MF.rs .stb K4 M4 t.keys), (5, MF.rs .stb K5 M5 t.rules), (6, MF.rs .stb K6 M6 t.anchors), (7, MF.rs .stb K7 M7 t.certificates), (8, MF.rs .stb K8 M8 x_.name.parts), (9, MF.rs .stb K9 M9 x_.content), (10, MF.rs .stb K10 M10 x_.keyName.parts)]) Tryz.func64 rfl (by kernel_rfl) rfl (allS_cons rfl N0 (allS_cons rfl N1 (allS_cons rfl N2 (allS_cons rfl N3 (allS_cons rfl N4 (allS_cons rfl N5 (allS_cons rfl N6 (allS_cons rfl N7 (allS_cons rfl N8 (allS_cons rfl N9 (allS_cons rfl N10 allS_nil))))))))))) ?_
 refine R0 ?_
 refine WX.callF 11 (fun _ _ h => GoT.ow_rd h) (fun _ f hf => GoT.fak f hf) rfl rfl rfl rfl rfl (fun _ => rfl) rfl (fun w G bs hI hΓ => f145 w n (by omega) a K0 M0 (hΓ.get 0 rfl) K1 M1 (hΓ.get 1 rfl) K2 M2 (hΓ.get 2 rfl) K3 M3 (hΓ.get 3 rfl) hoka) (fun _ => rfl) (fun _ => rfl) ?_
 rintro ⟨⟨⟩, ⟨⟩, ⟨p1, c1⟩, ⟨⟩, ⟨⟩, ⟨⟩, ⟨⟨p2, c2⟩, ⟨p3, c3⟩, ⟨p4, c4⟩, ⟨⟩, ⟨⟩⟩⟩ hq1
 refine R0 ?_
 refine WX.cases 15 rfl (fun h1 => ?_) (fun h1 => ?_)
 ·skip
  have h1d := (B.nt h1)
  refine R0 ?_
  refine WX.callV rfl rfl rfl rfl rfl (fun _ => rfl) rfl (fun w G bs hI hΓ => f146 w n (by omega) x_.name K8 M8 (hΓ.get 8 rfl) a.name K0 M0 (hΓ.get 0 rfl) ((ok_DataP hokx_).1) ((ok_Consumer hoka).2.2.1)) ?_
  intro hq2
  refine R0 ?_
  refine WX.cases 22 rfl (fun h2 => ?_) (fun h2 => ?_)
  ·skip
   refine R0 ?_
   refine WX.callV rfl rfl rfl rfl rfl (fun _ => rfl) rfl (fun w G bs hI hΓ => f147 w n (by omega) t K4 M4 (hΓ.get 4 rfl) K5 M5 (hΓ.get 5 rfl) K6 M6 (hΓ.get 6 rfl) K7 M7 (hΓ.get 7 rfl) x_ K8 M8 (hΓ.get 8 rfl) K9 M9 (hΓ.get 9 rfl) K10 M10 (hΓ.get 10 rfl) now hokt hokx_ hoknow) ?_
   intro hq3
   refine R0 ?_
   refine WX.cases 27 rfl (fun h3 => ?_) (fun h3 => ?_)
   ·skip
    refine R0 ?_
    refine WX.callF 19 (fun _ _ h => GoT.ow_rd h) (fun _ f hf => GoT.fak f hf) rfl rfl rfl rfl rfl (fun _ => rfl) rfl (fun w G bs hI hΓ => f83 w n (by omega) x_ K8 M8 (hΓ.get 8 rfl) K9 M9 (hΓ.get 9 rfl) K10 M10 (hΓ.get 10 rfl) hokx_) (fun _ => rfl) (fun _ => rfl) ?_
    rintro ⟨⟨p5, c5⟩, ⟨p6, c6⟩, ⟨p7, c7⟩, ⟨⟩, ⟨⟩⟩ hq4
    refine R0 ?_
    have hP1 : spec_AcceptData a t x_ now = (Consumer.mk ((spec_l31Copy a).node) ((spec_l31Copy a).index) ((spec_l31Copy a).name) ((spec_l31Copy a).attempts) ((spec_l31Copy a).wait) true (spec_l8Copy x_)) := by simp only [spec_AcceptData, h1, h2, h3, ct, cf]
    refine R1 ?_
    intro w1 G bs hI hΓ
    rw [hP1]
    exact Post.of [15, 22, 23, 24] ((), (), (p1, c1), (), (), (), ((p5, c5), (p6, c6), (p7, c7), (), ())) hI hΓ rfl rfl rfl (And.intro (ok_Consumer hq1).1 (And.intro (ok_Consumer hq1).2.1 (And.intro (ok_Consumer hq1).2.2.1 (And.intro (ok_Consumer hq1).2.2.2.1 (And.intro (ok_Consumer hq1).2.2.2.2.1 (And.intro trivial hq4))))))
   ·skip
    refine R0 ?_
    have hP2 : spec_AcceptData a t x_ now = (spec_l31Copy a) := by simp only [spec_AcceptData, h1, h2, h3, ct, cf]
    refine R1 ?_
    intro w1 G bs hI hΓ
    rw [hP2]
    exact Post.of [15, 16, 17, 18] ((), (), (p1, c1), (), (), (), ((p2, c2), (p3, c3), (p4, c4), (), ())) hI hΓ rfl rfl rfl hq1
  ·skip
   refine R0 ?_
   have hP3 : spec_AcceptData a t x_ now = (spec_l31Copy a) := by simp only [spec_AcceptData, h1, h2, ct, cf]
   refine R1 ?_
   intro w1 G bs hI hΓ
   rw [hP3]
   exact Post.of [15, 16, 17, 18] ((), (), (p1, c1), (), (), (), ((p2, c2), (p3, c3), (p4, c4), (), ())) hI hΓ rfl rfl rfl hq1
 ·skip
  have h1d := (B.nf h1)
  refine R0 ?_
  have hP4 : spec_AcceptData a t x_ now = (spec_l31Copy a) := by simp only [spec_AcceptData, h1, ct, cf]
  refine R1 ?_
  intro w1 G bs hI hΓ
  rw [hP4]
  exact Post.of [15, 16, 17, 18] ((), (), (p1, c1), (), (), (), ((p2, c2), (p3, c3), (p4, c4), (), ())) hI hΓ rfl rfl rfl hq1
theorem f68 (w : World) (n : Nat) (hn : n + 6 ≤ 9) (a : Consumer) (K0 : Option Addr) (M0 : Nat) (N0 : RdSl (hp w) K0 M0 a.name.parts) (K1 : Option Addr) (M1 : Nat) (N1 : RdSl (hp w) K1 M1 a.data.name.parts) (K2 : Option Addr) (M2 : Nat) (N2 : RdSl (hp w) K2 M2 a.data.content) (K3 : Option Addr) (M3 : Nat) (N3 : RdSl (hp w) K3 M3 a.data.keyName.parts) (t : TrustPolicy) (K4 : Option Addr) (M4 : Nat) (N4 : RdSl (hp w) K4 M4 t.keys) (K5 : Option Addr) (M5 : Nat) (N5 : RdSl (hp w) K5 M5 t.rules) (K6 : Option Addr) (M6 : Nat) (N6 : RdSl (hp w) K6 M6 t.anchors) (K7 : Option Addr) (M7 : Nat) (N7 : RdSl (hp w) K7 M7 t.certificates) (x_ : DataP) (K8 : Option Addr) (M8 : Nat) (N8 : RdSl (hp w) K8 M8 x_.name.parts) (K9 : Option Addr) (M9 : Nat) (N9 : RdSl (hp w) K9 M9 x_.content) (K10 : Option Addr) (M10 : Nat) (N10 : RdSl (hp w) K10 M10 x_.keyName.parts) (now : Int) (hoka : GoT.ok n a) (hokt : GoT.ok n t) (hokx_ : GoT.ok n x_) (hoknow : GoT.ok n now) :
  Does Tryz.prog 68 #[.agg #[.int .i64 (a.node), .int .i64 (a.index), .slice K0 ((a.name.parts).length) M0, .int .i64 (a.attempts), .int .i64 (a.wait), .bool a.satisfied, .slice K1 ((a.data.name.parts).length) M1, .slice K2 ((a.data.content).length) M2, .slice K3 ((a.data.keyName.parts).length) M3, .int .i64 (a.data.freshUntil), .int .i64 (a.data.signature)], .agg #[.slice K4 ((t.keys).length) M4, .slice K5 ((t.rules).length) M5, .slice K6 ((t.anchors).length) M6, .slice K7 ((t.certificates).length) M7], .agg #[.slice K8 ((x_.name.parts).length) M8, .slice K9 ((x_.content).length) M9, .slice K10 ((x_.keyName.parts).length) M10, .int .i64 (x_.freshUntil), .int .i64 (x_.signature)], .int .i64 (now)] w emp (Post w emp (fun x : GoT.X (Consumer) => .agg ⟨GoT.sh ((impl_AcceptData a t x_ now) : Consumer) x⟩) (fun x => GoT.oa ((impl_AcceptData a t x_ now) : Consumer) x) (GoT.ok n ((impl_AcceptData a t x_ now) : Consumer))) := by
 have hbP := bd_pos n
 have hbS0 : bd (n + 1) = 4 * bd (n) := bd_succ (n := n) (by omega)
 have hbS1 : bd (n + 2) = 4 * bd (n + 1) := bd_succ (n := n + 1) (by omega)
 have hbS2 : bd (n + 3) = 4 * bd (n + 2) := bd_succ (n := n + 2) (by omega)
 have hbS3 : bd (n + 4) = 4 * bd (n + 3) := bd_succ (n := n + 3) (by omega)
 have hbS4 : bd (n + 5) = 4 * bd (n + 4) := bd_succ (n := n + 4) (by omega)
 have hbS5 : bd (n + 6) = 4 * bd (n + 5) := bd_succ (n := n + 5) (by omega)
 have hbB := bd_big (n := (n + 6)) (by omega)
 have hbM := bd_mono (show n ≤ n + 6 by omega)
 refine WX.enter (tt := tt) (Γ := [(0, MF.rs .stb K0 M0 a.name.parts), (1, MF.rs .stb K1 M1 a.data.name.parts), (2, MF.rs .stb K2 M2 a.data.content), (3, MF.rs .stb K3 M3 a.data.keyName.parts), (4, MF.rs .stb K4 M4 t.keys), (5, MF.rs .stb K5 M5 t.rules), (6, MF.rs .stb K6 M6 t.anchors), (7, MF.rs .stb K7 M7 t.certificates), (8, MF.rs .stb K8 M8 x_.name.parts), (9, MF.rs .stb K9 M9 x_.content), (10, MF.rs .stb K10 M10 x_.keyName.parts)]) Tryz.func68 rfl (by kernel_rfl) rfl (allS_cons rfl N0 (allS_cons rfl N1 (allS_cons rfl N2 (allS_cons rfl N3 (allS_cons rfl N4 (allS_cons rfl N5 (allS_cons rfl N6 (allS_cons rfl N7 (allS_cons rfl N8 (allS_cons rfl N9 (allS_cons rfl N10 allS_nil))))))))))) ?_
 refine R0 ?_
 refine WX.callF 11 (fun _ _ h => GoT.ow_rd h) (fun _ f hf => GoT.fak f hf) rfl rfl rfl rfl rfl (fun _ => rfl) rfl (fun w G bs hI hΓ => f154 w n (by omega) a K0 M0 (hΓ.get 0 rfl) K1 M1 (hΓ.get 1 rfl) K2 M2 (hΓ.get 2 rfl) K3 M3 (hΓ.get 3 rfl) hoka) (fun _ => rfl) (fun _ => rfl) ?_
 rintro ⟨⟨⟩, ⟨⟩, ⟨p1, c1⟩, ⟨⟩, ⟨⟩, ⟨⟩, ⟨⟨p2, c2⟩, ⟨p3, c3⟩, ⟨p4, c4⟩, ⟨⟩, ⟨⟩⟩⟩ hq1
 refine R0 ?_
 refine WX.cases 15 rfl (fun h1 => ?_) (fun h1 => ?_)
 ·skip
  have h1d := (B.nt h1)
  refine R0 ?_
  refine WX.callV rfl rfl rfl rfl rfl (fun _ => rfl) rfl (fun w G bs hI hΓ => f94 w n (by omega) x_.name K8 M8 (hΓ.get 8 rfl) a.name K0 M0 (hΓ.get 0 rfl) ((ok_DataP hokx_).1) ((ok_Consumer hoka).2.2.1)) ?_
  intro hq2
  refine R0 ?_
  refine WX.cases 22 rfl (fun h2 => ?_) (fun h2 => ?_)
  ·skip
   refine R0 ?_
   refine WX.callV rfl rfl rfl rfl rfl (fun _ => rfl) rfl (fun w G bs hI hΓ => f155 w n (by omega) t K4 M4 (hΓ.get 4 rfl) K5 M5 (hΓ.get 5 rfl) K6 M6 (hΓ.get 6 rfl) K7 M7 (hΓ.get 7 rfl) x_ K8 M8 (hΓ.get 8 rfl) K9 M9 (hΓ.get 9 rfl) K10 M10 (hΓ.get 10 rfl) now hokt hokx_ hoknow) ?_
   intro hq3
   refine R0 ?_
   refine WX.cases 27 rfl (fun h3 => ?_) (fun h3 => ?_)
   ·skip
    refine R0 ?_
    refine WX.callF 19 (fun _ _ h => GoT.ow_rd h) (fun _ f hf => GoT.fak f hf) rfl rfl rfl rfl rfl (fun _ => rfl) rfl (fun w G bs hI hΓ => f81 w n (by omega) x_ K8 M8 (hΓ.get 8 rfl) K9 M9 (hΓ.get 9 rfl) K10 M10 (hΓ.get 10 rfl) hokx_) (fun _ => rfl) (fun _ => rfl) ?_
    rintro ⟨⟨p5, c5⟩, ⟨p6, c6⟩, ⟨p7, c7⟩, ⟨⟩, ⟨⟩⟩ hq4
    refine R0 ?_
    have hP1 : impl_AcceptData a t x_ now = (Consumer.mk ((impl_copyConsumer a).node) ((impl_copyConsumer a).index) ((impl_copyConsumer a).name) ((impl_copyConsumer a).attempts) ((impl_copyConsumer a).wait) true (impl_copyData x_)) := by simp only [impl_AcceptData, h1, h2, h3, ct, cf]
    refine R1 ?_
    intro w1 G bs hI hΓ
    rw [hP1]
    exact Post.of [15, 22, 23, 24] ((), (), (p1, c1), (), (), (), ((p5, c5), (p6, c6), (p7, c7), (), ())) hI hΓ rfl rfl rfl (And.intro (ok_Consumer hq1).1 (And.intro (ok_Consumer hq1).2.1 (And.intro (ok_Consumer hq1).2.2.1 (And.intro (ok_Consumer hq1).2.2.2.1 (And.intro (ok_Consumer hq1).2.2.2.2.1 (And.intro trivial hq4))))))
   ·skip
    refine R0 ?_
    have hP2 : impl_AcceptData a t x_ now = (impl_copyConsumer a) := by simp only [impl_AcceptData, h1, h2, h3, ct, cf]
    refine R1 ?_
    intro w1 G bs hI hΓ
    rw [hP2]
    exact Post.of [15, 16, 17, 18] ((), (), (p1, c1), (), (), (), ((p2, c2), (p3, c3), (p4, c4), (), ())) hI hΓ rfl rfl rfl hq1
  ·skip
   refine R0 ?_
   have hP3 : impl_AcceptData a t x_ now = (impl_copyConsumer a) := by simp only [impl_AcceptData, h1, h2, ct, cf]
   refine R1 ?_
   intro w1 G bs hI hΓ
   rw [hP3]
   exact Post.of [15, 16, 17, 18] ((), (), (p1, c1), (), (), (), ((p2, c2), (p3, c3), (p4, c4), (), ())) hI hΓ rfl rfl rfl hq1
 ·skip
  have h1d := (B.nf h1)
  refine R0 ?_
  have hP4 : impl_AcceptData a t x_ now = (impl_copyConsumer a) := by simp only [impl_AcceptData, h1, ct, cf]
  refine R1 ?_
  intro w1 G bs hI hΓ
  rw [hP4]
  exact Post.of [15, 16, 17, 18] ((), (), (p1, c1), (), (), (), ((p2, c2), (p3, c3), (p4, c4), (), ())) hI hΓ rfl rfl rfl hq1
end Go.Proofs.YtolepebgdfdciaaGreat

namespace Go.Stp
theorem mid {α : Type} (p : List α) (e : α) (l : List α) : (p ++ e :: l)[p.length]? = some e := by simp
theorem mid_set {α : Type} (p : List α) (e x : α) (l : List α) : (p ++ e :: l).set p.length x = (p ++ [x]) ++ l := by simp
theorem mid_app {α : Type} (p : List α) (e : α) (l : List α) : (p ++ [e]) ++ l = p ++ e :: l := by simp
theorem mid_len {α : Type} (p : List α) (e : α) : (p ++ [e]).length = p.length + 1 := by simp
def SzR (r left : Int) (s : Nat) : Prop := r = -1 ∨ ((s : Int) ≤ left ∧ r = left - s)
theorem SzR.pos {r left : Int} {s : Nat} (h : SzR r left s) (hr : 0 ≤ r) : (s : Int) ≤ left ∧ r = left - s := by
  rcases h with h | h
  · omega
  · exact h
def SzL (r : Ctl Int Int) (left : Int) (s : Nat) : Prop := r = .ret (-1) ∨ ((s : Int) ≤ left ∧ r = .nxt (left - s))
theorem dF {x : Int} (h : 0 ≤ x) : decide (x < 0) = false := decide_eq_false (by omega)
theorem dT {x : Int} (h : x < 0) : decide (x < 0) = true := decide_eq_true h
theorem wrap_sub {x : Int} {n : Nat} (h0 : 0 ≤ x) (h1 : x ≤ 1048576) (hn : n ≤ 9223372036854775807) : IntKind.i64.wrap (x - (n : Int)) = x - n := wrap_i64 (by unfold I64; omega)
theorem wrap1 {x : Int} (h0 : 0 ≤ x) (h1 : x ≤ 4611686018427387904) : IntKind.i64.wrap (x + 1) = x + 1 := wrap_i64 (by unfold I64; omega)
theorem szL_cons {α : Type} [GoT α] [Sz α] (a : α) (l : List α) : szL (a :: l) = sz a + szL l := by simp [szL]
theorem szL_nil {α : Type} [GoT α] [Sz α] : szL ([] : List α) = 0 := rfl
theorem szL_zero {α : Type} [GoT α] [Sz α] (h : ∀ a : α, sz a = 0) : ∀ l : List α, szL l = 0
  | [] => rfl
  | a :: l => by rw [szL_cons, h a, szL_zero h l]
theorem szL_u8 (l : List UInt8) : szL l = 0 := szL_zero (fun _ => rfl) l
def MkR (k k' : Int) (s : Nat) (held : Int) : Prop := k ≤ k' ∧ k' ≤ k + 16 * (s : Int) ∧ held = k'
theorem bne_self_F {α : Type} [BEq α] [LawfulBEq α] (a : α) : (a != a) = false := by simp
theorem nbeq_self_F {α : Type} [BEq α] [LawfulBEq α] (a : α) : (!(a == a)) = false := by simp
theorem bytesLess_self : ∀ l : List UInt8, Op.bytesLess l l = false
  | [] => rfl
  | a :: l => by simp [Op.bytesLess, bytesLess_self l]
theorem l4_zero (a b : List UInt8) : ((bif Op.bytesLess a b then (-1) else bif (!(Op.bytesLess a b || a == b)) then 1 else 0 : Int) = 0) ↔ a = b := by
  cases h : Op.bytesLess a b
  · by_cases e : a = b
    · simp [e]
    · have : (a == b) = false := by simpa using e
      simp [this, e]
  · constructor
    · intro x; simp at x
    · intro e; rw [e, bytesLess_self] at h; cases h
end Go.Stp

