/-
  That functions of the program compute what the Lean functions do. No condition but what each says. Written by a program (gen2.py).
-/
import Derived.Test.YtikbfiljomdmiaaC7
import Derived.Test.YtikbfiljomdmiaaP8
import Derived.Test.YtikbfiljomdmiaaCut
namespace Go.Proofs.Ytikbfiljomdmiaa
open Go.Stp
set_option linter.unusedVariables false
set_option linter.unusedSimpArgs false
theorem mxmn (a b : Int) : spec_Max 0 (spec_Min a b) = max 0 (min a b) := by
  unfold spec_Max spec_Min
  cases hc : decide (b < a)
  · have h := of_decide_eq_false hc
    show (bif decide (a > 0) then a else 0) = _
    cases hd : decide (a > 0)
    · have k := of_decide_eq_false hd
      show (0 : Int) = _
      omega
    · have k := of_decide_eq_true hd
      show a = _
      omega
  · have h := of_decide_eq_true hc
    show (bif decide (b > 0) then b else 0) = _
    cases hd : decide (b > 0)
    · have k := of_decide_eq_false hd
      show (0 : Int) = _
      omega
    · have k := of_decide_eq_true hd
      show b = _
      omega
theorem f102 (w : World) (n : Nat) (hn : n + 1 ≤ 9) (l : Log) (plDurable : Option Addr) (clDurable : Nat) (hplDurable : RdSl (hp w) plDurable clDurable l.durable) (plVolatile : Option Addr) (clVolatile : Nat) (hplVolatile : RdSl (hp w) plVolatile clVolatile l.volatile) (hokl : GoT.ok n l) :
    Does Try.prog 102 #[.agg #[.slice plDurable ((l.durable).length) clDurable, .slice plVolatile ((l.volatile).length) clVolatile]] w emp (Post w emp (fun x : GoT.X ((List Record)) => (GoT.sh ((impl_allRecords l) : (List Record)) x).headD undef) (fun x => GoT.oa ((impl_allRecords l) : (List Record)) x) (GoT.ok (n + 1) ((impl_allRecords l) : (List Record)))) := by
  have hbP := bd_pos n
  have hbS0 := bd_succ (n := n) (by omega)
  have hbB := bd_big (n := (n + 1)) (by omega)
  have hbM := bd_mono (show n ≤ n + 1 by omega)
  refine WX.enter (tt := tt) (Γ := [(0, MF.rs .stb plDurable clDurable l.durable), (1, MF.rs .stb plVolatile clVolatile l.volatile)]) Try.func102 rfl (by kernel_rfl) rfl (allS_cons rfl hplDurable (allS_cons rfl hplVolatile allS_nil)) ?_
  refine WX.run ttOk rfl ?_
  refine WX.draw [6, 7] mixed ?_
  intro bs G0 hΓ0
  refine DX.takes (fuel := 4) ttOk [(0, true), (1, false), (3, true), (4, false)] (by kernel_rfl) rfl ?_
  refine DX.callF 2 2 (fun _ _ h => GoT.ow_rd h) (fun _ f hf => GoT.fak f hf) rfl (by kernel_rfl) rfl rfl rfl rfl rfl rfl (fun _ => rfl) rfl (fun w G bs hI hΓ => f109 w n (by omega) l.durable plDurable clDurable (hΓ.get 0 rfl) ((ok_Log hokl).1)) (fun _ => rfl) (fun _ => rfl) ?_
  rintro ⟨p1, c1⟩ hq1
  refine DX.callF 5 4 (fun _ _ h => GoT.ow_rd h) (fun _ f hf => GoT.fak f hf) rfl (by kernel_rfl) rfl rfl rfl rfl rfl rfl (fun _ => rfl) rfl (fun w G bs hI hΓ => f109 w n (by omega) l.volatile plVolatile clVolatile (hΓ.get 1 rfl) ((ok_Log hokl).2)) (fun _ => rfl) (fun _ => rfl) ?_
  rintro ⟨p2, c2⟩ hq2
  refine DX.tail [6, 7] rfl rfl (by kernel_rfl) ?_
  refine WX.opn (kk := 6) 501 3 6 rfl rfl rfl ?_
  intro xs1 hx1
  refine WX.opn (kk := 6) 502 5 7 rfl rfl rfl ?_
  intro xs2 hx2
  have r1 : (l.durable).length ≤ bd n := (okl (ok_Log hokl).1).1
  have r2 : (l.volatile).length ≤ bd n := (okl (ok_Log hokl).2).1
  have r3 : (impl_copyRecords l.durable).length ≤ bd n := (okl hq1).1
  have r4 : (impl_copyRecords l.volatile).length ≤ bd n := (okl hq2).1
  refine WX.know (fun G hΓ => (hΓ.get 7 rfl : OwL _ _ _).rd.one) ?_
  intro ho1
  refine WX.appR1 501 502 (((impl_copyRecords l.durable) ++ (impl_copyRecords l.volatile)) : List Record).length ttOk rfl rfl rfl rfl rfl rfl rfl rfl rfl rfl rfl rfl rfl ho1 (by simp) (by simp; omega) (by simp; omega) (fun _ _ => rfl) ?_
  intro p3 c3
  refine WX.turn [6, 7] 8 rfl (fun h hs => ol_app hs) (gs := [MF.ol (xs1 ++ xs2) (((impl_copyRecords l.durable) ++ (impl_copyRecords l.volatile)) : List Record)]) rfl ?_
  refine WX.run ttOk rfl ?_
  refine WX.seal 501 8 9 rfl rfl rfl rfl rfl ?_
  have hP1 : impl_allRecords l = ((impl_copyRecords l.durable) ++ (impl_copyRecords l.volatile)) := by simp only [impl_allRecords, cond_true, cond_false]
  refine WX.ret ttOk rfl ?_
  intro w1 G bs hI hΓ
  rw [hP1]
  exact Post.of [10] (p3, c3) hI hΓ rfl rfl rfl (okl_mk (by simp; omega) (fun a ha => GoT.okm (by omega) ((all_app (okl hq1).2 (okl hq2).2) a ha)) : GoT.ok (n + 1) (((impl_copyRecords l.durable) ++ (impl_copyRecords l.volatile)) : List Record))
theorem f61 (w : World) (n : Nat) (hn : n + 1 ≤ 9) (l : Log) (plDurable : Option Addr) (clDurable : Nat) (hplDurable : RdSl (hp w) plDurable clDurable l.durable) (plVolatile : Option Addr) (clVolatile : Nat) (hplVolatile : RdSl (hp w) plVolatile clVolatile l.volatile) (hokl : GoT.ok n l) :
    Does Try.prog 61 #[.agg #[.slice plDurable ((l.durable).length) clDurable, .slice plVolatile ((l.volatile).length) clVolatile]] w emp (Post w emp (fun x : GoT.X (Log) => .agg ⟨GoT.sh ((impl_FlushLog l) : Log) x⟩) (fun x => GoT.oa ((impl_FlushLog l) : Log) x) (GoT.ok (n + 1) ((impl_FlushLog l) : Log))) := by
  have hbP := bd_pos n
  have hbS0 := bd_succ (n := n) (by omega)
  have hbB := bd_big (n := (n + 1)) (by omega)
  have hbM := bd_mono (show n ≤ n + 1 by omega)
  refine WX.enter (tt := tt) (Γ := [(0, MF.rs .stb plDurable clDurable l.durable), (1, MF.rs .stb plVolatile clVolatile l.volatile)]) Try.func61 rfl (by kernel_rfl) rfl (allS_cons rfl hplDurable (allS_cons rfl hplVolatile allS_nil)) ?_
  refine WX.run ttOk rfl ?_
  refine WX.callF 2 (fun _ _ h => GoT.ow_rd h) (fun _ f hf => GoT.fak f hf) rfl rfl rfl rfl rfl (fun _ => rfl) rfl (fun w G bs hI hΓ => f102 w n (by omega) l plDurable clDurable (hΓ.get 0 rfl) plVolatile clVolatile (hΓ.get 1 rfl) hokl) (fun _ => rfl) (fun _ => rfl) ?_
  rintro ⟨p1, c1⟩ hq1
  refine WX.run ttOk rfl ?_
  refine WX.free 4 (MF.os none 0 ([] : List Record)) (owSl_nil _ _) ?_
  have hP1 : impl_FlushLog l = (Log.mk (impl_allRecords l) ([])) := by simp only [impl_FlushLog, cond_true, cond_false]
  refine WX.ret ttOk rfl ?_
  intro w1 G bs hI hΓ
  rw [hP1]
  exact Post.of [3, 4] ((p1, c1), (none, 0)) hI hΓ rfl rfl rfl (And.intro hq1 (ok_nil (α := Record)))
theorem f59 (w : World) (n : Nat) (hn : n + 1 ≤ 9) (l : Log) (plDurable : Option Addr) (clDurable : Nat) (hplDurable : RdSl (hp w) plDurable clDurable l.durable) (plVolatile : Option Addr) (clVolatile : Nat) (hplVolatile : RdSl (hp w) plVolatile clVolatile l.volatile) (hokl : GoT.ok n l) :
    Does Try.prog 59 #[.agg #[.slice plDurable ((l.durable).length) clDurable, .slice plVolatile ((l.volatile).length) clVolatile]] w emp (Post w emp (fun x : GoT.X (Log) => .agg ⟨GoT.sh ((spec_FlushLog l) : Log) x⟩) (fun x => GoT.oa ((spec_FlushLog l) : Log) x) (GoT.ok (n + 1) ((spec_FlushLog l) : Log))) := by
  have hbP := bd_pos n
  have hbS0 := bd_succ (n := n) (by omega)
  have hbB := bd_big (n := (n + 1)) (by omega)
  have hbM := bd_mono (show n ≤ n + 1 by omega)
  refine WX.enter (tt := tt) (Γ := [(0, MF.rs .stb plDurable clDurable l.durable), (1, MF.rs .stb plVolatile clVolatile l.volatile)]) Try.func59 rfl (by kernel_rfl) rfl (allS_cons rfl hplDurable (allS_cons rfl hplVolatile allS_nil)) ?_
  refine WX.run ttOk rfl ?_
  refine WX.draw [6, 7, 8] mixed ?_
  intro bs G0 hΓ0
  refine DX.takes (fuel := 5) ttOk [(0, true), (1, false), (3, true), (4, false)] (by kernel_rfl) rfl ?_
  refine DX.callF 2 2 (fun _ _ h => GoT.ow_rd h) (fun _ f hf => GoT.fak f hf) rfl (by kernel_rfl) rfl rfl rfl rfl rfl rfl (fun _ => rfl) rfl (fun w G bs hI hΓ => f101 w n (by omega) l.durable plDurable clDurable (hΓ.get 0 rfl) ((ok_Log hokl).1)) (fun _ => rfl) (fun _ => rfl) ?_
  rintro ⟨p1, c1⟩ hq1
  refine DX.callF 5 4 (fun _ _ h => GoT.ow_rd h) (fun _ f hf => GoT.fak f hf) rfl (by kernel_rfl) rfl rfl rfl rfl rfl rfl (fun _ => rfl) rfl (fun w G bs hI hΓ => f101 w n (by omega) l.volatile plVolatile clVolatile (hΓ.get 1 rfl) ((ok_Log hokl).2)) (fun _ => rfl) (fun _ => rfl) ?_
  rintro ⟨p2, c2⟩ hq2
  refine DX.tail [6, 7, 8] rfl rfl (by kernel_rfl) ?_
  refine WX.opn (kk := 6) 501 3 6 rfl rfl rfl ?_
  intro xs1 hx1
  refine WX.opn (kk := 6) 502 5 7 rfl rfl rfl ?_
  intro xs2 hx2
  have r1 : (l.durable).length ≤ bd n := (okl (ok_Log hokl).1).1
  have r2 : (l.volatile).length ≤ bd n := (okl (ok_Log hokl).2).1
  have r3 : (spec_l29Recs l.durable).length ≤ bd n := (okl hq1).1
  have r4 : (spec_l29Recs l.volatile).length ≤ bd n := (okl hq2).1
  refine WX.know (fun G hΓ => (hΓ.get 7 rfl : OwL _ _ _).rd.one) ?_
  intro ho1
  refine WX.appR1 501 502 (((spec_l29Recs l.durable) ++ (spec_l29Recs l.volatile)) : List Record).length ttOk rfl rfl rfl rfl rfl rfl rfl rfl rfl rfl rfl rfl rfl ho1 (by simp) (by simp; omega) (by simp; omega) (fun _ _ => rfl) ?_
  intro p3 c3
  refine WX.turn [6, 7] 8 rfl (fun h hs => ol_app hs) (gs := [MF.ol (xs1 ++ xs2) (((spec_l29Recs l.durable) ++ (spec_l29Recs l.volatile)) : List Record)]) rfl ?_
  refine WX.run ttOk rfl ?_
  refine WX.seal 501 8 9 rfl rfl rfl rfl rfl ?_
  refine WX.free 11 (MF.os none 0 ([] : List Record)) (owSl_nil _ _) ?_
  have hP1 : spec_FlushLog l = (Log.mk ((spec_l29Recs l.durable) ++ (spec_l29Recs l.volatile)) ([])) := by simp only [spec_FlushLog, cond_true, cond_false]
  refine WX.ret ttOk rfl ?_
  intro w1 G bs hI hΓ
  rw [hP1]
  exact Post.of [10, 11] ((p3, c3), (none, 0)) hI hΓ rfl rfl rfl (And.intro (okl_mk (by simp; omega) (fun a ha => GoT.okm (by omega) ((all_app (okl hq1).2 (okl hq2).2) a ha)) : GoT.ok (n + 1) (((spec_l29Recs l.durable) ++ (spec_l29Recs l.volatile)) : List Record)) (ok_nil (α := Record)))
theorem f74 (w : World) (n : Nat) (hn : n + 1 ≤ 9) (l : Log) (plDurable : Option Addr) (clDurable : Nat) (hplDurable : RdSl (hp w) plDurable clDurable l.durable) (plVolatile : Option Addr) (clVolatile : Nat) (hplVolatile : RdSl (hp w) plVolatile clVolatile l.volatile) (n_ : Int) (hokl : GoT.ok n l) (hokn_ : GoT.ok n n_) :
    Does Try.prog 74 #[.agg #[.slice plDurable ((l.durable).length) clDurable, .slice plVolatile ((l.volatile).length) clVolatile], .int .i64 (n_)] w emp (Post w emp (fun x : GoT.X (Log) => .agg ⟨GoT.sh ((impl_CrashLog l n_) : Log) x⟩) (fun x => GoT.oa ((impl_CrashLog l n_) : Log) x) (GoT.ok (n + 1) ((impl_CrashLog l n_) : Log))) := by
  have hbP := bd_pos n
  have hbS0 := bd_succ (n := n) (by omega)
  have hbB := bd_big (n := (n + 1)) (by omega)
  have hbM := bd_mono (show n ≤ n + 1 by omega)
  refine WX.enter (tt := tt) (Γ := [(0, MF.rs .stb plDurable clDurable l.durable), (1, MF.rs .stb plVolatile clVolatile l.volatile)]) Try.func74 rfl (by kernel_rfl) rfl (allS_cons rfl hplDurable (allS_cons rfl hplVolatile allS_nil)) ?_
  refine WX.run ttOk rfl ?_
  refine WX.draw [13, 14, 15] mixed ?_
  intro bs G0 hΓ0
  refine DX.takes (fuel := 8) ttOk [(0, true), (1, false), (3, true), (4, false), (5, true), (6, true), (7, false), (8, true)] (by kernel_rfl) rfl ?_
  refine DX.see 9 (by kernel_rfl) rfl rfl rfl rfl (looks_min rfl rfl rfl) ?_
  refine DX.see 10 (by kernel_rfl) rfl rfl rfl rfl (looks_max rfl rfl rfl) ?_
  have r1 : (l.volatile).length ≤ bd n := (okl (ok_Log hokl).2).1
  have r2 : -9223372036854775808 ≤ n_ ∧ n_ ≤ 9223372036854775807 := hokn_
  refine DX.see 11 (by kernel_rfl) rfl rfl rfl rfl (looks_slH (Int.toNat (max 0 (min n_ (((l.volatile).length : Nat) : Int)))) ttOk rfl rfl rfl rfl (show max 0 (min n_ (((l.volatile).length : Nat) : Int)) = (((Int.toNat (max 0 (min n_ (((l.volatile).length : Nat) : Int)))) : Nat) : Int) from (by omega)) (Nat.le_trans (show (Int.toNat (max 0 (min n_ (((l.volatile).length : Nat) : Int)))) ≤ (l.volatile).length from (by omega)) (hΓ0.get 1 rfl : RdSl _ _ _ _).1)) ?_
  refine DX.slot 16 (y := .v (.slice plVolatile (((List.take (Int.toNat (max 0 (min n_ (((l.volatile).length : Nat) : Int)))) l.volatile)).length) clVolatile)) rfl (fun _ => by rw [show ((List.take (Int.toNat (max 0 (min n_ (((l.volatile).length : Nat) : Int)))) l.volatile)).length = (Int.toNat (max 0 (min n_ (((l.volatile).length : Nat) : Int)))) from (by simp only [List.length_take]; have z_ := (show (Int.toNat (max 0 (min n_ (((l.volatile).length : Nat) : Int)))) ≤ (l.volatile).length from (by omega)); omega)]) ?_
  refine DX.der 2 (MF.rs .der plVolatile clVolatile (List.take (Int.toNat (max 0 (min n_ (((l.volatile).length : Nat) : Int)))) l.volatile)) rfl (fun _ hΓ => RdSl.pre (hΓ.get 1 rfl : RdSl _ _ _ _) (Int.toNat (max 0 (min n_ (((l.volatile).length : Nat) : Int))))) ?_
  refine DX.callF 2 3 (fun _ _ h => GoT.ow_rd h) (fun _ f hf => GoT.fak f hf) rfl (by kernel_rfl) rfl rfl rfl rfl rfl rfl (fun _ => rfl) rfl (fun w G bs hI hΓ => f109 w n (by omega) l.durable plDurable clDurable (hΓ.get 0 rfl) ((ok_Log hokl).1)) (fun _ => rfl) (fun _ => rfl) ?_
  rintro ⟨p1, c1⟩ hq1
  refine DX.callF 12 5 (fun _ _ h => GoT.ow_rd h) (fun _ f hf => GoT.fak f hf) rfl (by kernel_rfl) rfl rfl rfl rfl rfl rfl (fun _ => rfl) rfl (fun w G bs hI hΓ => f109 w n (by omega) (List.take (Int.toNat (max 0 (min n_ (((l.volatile).length : Nat) : Int)))) l.volatile) plVolatile clVolatile (hΓ.get 2 rfl) (okl_mk (by first | assumption | omega | (simp only [List.length_append, List.length_cons, List.length_nil, List.length_set, List.length_map, List.length_take, List.length_drop]; omega) | (simp; omega)) (fun a ha => (okl (ok_Log hokl).2).2 a (List.mem_of_mem_take ha)) : GoT.ok n ((List.take (Int.toNat (max 0 (min n_ (((l.volatile).length : Nat) : Int)))) l.volatile) : List Record))) (fun _ => rfl) (fun _ => rfl) ?_
  rintro ⟨p2, c2⟩ hq2
  refine DX.tail [13, 14, 15] rfl rfl (by kernel_rfl) ?_
  refine WX.opn (kk := 6) 501 4 7 rfl rfl rfl ?_
  intro xs1 hx1
  refine WX.opn (kk := 6) 502 6 8 rfl rfl rfl ?_
  intro xs2 hx2
  have r3 : (l.durable).length ≤ bd n := (okl (ok_Log hokl).1).1
  have r4 : (impl_copyRecords l.durable).length ≤ bd n := (okl hq1).1
  have r5 : (impl_copyRecords (List.take (Int.toNat (max 0 (min n_ (((l.volatile).length : Nat) : Int)))) l.volatile)).length ≤ bd n := (okl hq2).1
  refine WX.know (fun G hΓ => (hΓ.get 8 rfl : OwL _ _ _).rd.one) ?_
  intro ho1
  refine WX.appR1 501 502 (((impl_copyRecords l.durable) ++ (impl_copyRecords (List.take (Int.toNat (max 0 (min n_ (((l.volatile).length : Nat) : Int)))) l.volatile))) : List Record).length ttOk rfl rfl rfl rfl rfl rfl rfl rfl rfl rfl rfl rfl rfl ho1 (by simp) (by first | assumption | omega | (simp only [List.length_append, List.length_cons, List.length_nil, List.length_set, List.length_map, List.length_take, List.length_drop]; omega) | (simp; omega)) (by first | assumption | omega | (simp only [List.length_append, List.length_cons, List.length_nil, List.length_set, List.length_map, List.length_take, List.length_drop]; omega) | (simp; omega)) (fun _ _ => rfl) ?_
  intro p3 c3
  refine WX.turn [7, 8] 9 rfl (fun h hs => ol_app hs) (gs := [MF.ol (xs1 ++ xs2) (((impl_copyRecords l.durable) ++ (impl_copyRecords (List.take (Int.toNat (max 0 (min n_ (((l.volatile).length : Nat) : Int)))) l.volatile))) : List Record)]) rfl ?_
  refine WX.run ttOk rfl ?_
  refine WX.seal 501 9 10 rfl rfl rfl rfl rfl ?_
  refine WX.free 12 (MF.os none 0 ([] : List Record)) (owSl_nil _ _) ?_
  have hP1 : impl_CrashLog l n_ = (Log.mk ((impl_copyRecords l.durable) ++ (impl_copyRecords (List.take (Int.toNat (max 0 (min n_ (((l.volatile).length : Nat) : Int)))) l.volatile))) ([])) := by simp only [impl_CrashLog, cond_true, cond_false]
  refine WX.ret ttOk rfl ?_
  intro w1 G bs hI hΓ
  rw [hP1]
  exact Post.of [11, 12] ((p3, c3), (none, 0)) hI hΓ rfl rfl rfl (And.intro (okl_mk (by first | assumption | omega | (simp only [List.length_append, List.length_cons, List.length_nil, List.length_set, List.length_map, List.length_take, List.length_drop]; omega) | (simp; omega)) (fun a ha => GoT.okm (by omega) ((all_app (okl hq1).2 (okl hq2).2) a ha)) : GoT.ok (n + 1) (((impl_copyRecords l.durable) ++ (impl_copyRecords (List.take (Int.toNat (max 0 (min n_ (((l.volatile).length : Nat) : Int)))) l.volatile))) : List Record)) (ok_nil (α := Record)))
theorem f73 (w : World) (n : Nat) (hn : n + 1 ≤ 9) (l : Log) (plDurable : Option Addr) (clDurable : Nat) (hplDurable : RdSl (hp w) plDurable clDurable l.durable) (plVolatile : Option Addr) (clVolatile : Nat) (hplVolatile : RdSl (hp w) plVolatile clVolatile l.volatile) (n_ : Int) (hokl : GoT.ok n l) (hokn_ : GoT.ok n n_) :
    Does Try.prog 73 #[.agg #[.slice plDurable ((l.durable).length) clDurable, .slice plVolatile ((l.volatile).length) clVolatile], .int .i64 (n_)] w emp (Post w emp (fun x : GoT.X (Log) => .agg ⟨GoT.sh ((spec_CrashLog l n_) : Log) x⟩) (fun x => GoT.oa ((spec_CrashLog l n_) : Log) x) (GoT.ok (n + 1) ((spec_CrashLog l n_) : Log))) := by
  have hbP := bd_pos n
  have hbS0 := bd_succ (n := n) (by omega)
  have hbB := bd_big (n := (n + 1)) (by omega)
  have hbM := bd_mono (show n ≤ n + 1 by omega)
  refine WX.enter (tt := tt) (Γ := [(0, MF.rs .stb plDurable clDurable l.durable), (1, MF.rs .stb plVolatile clVolatile l.volatile)]) Try.func73 rfl (by kernel_rfl) rfl (allS_cons rfl hplDurable (allS_cons rfl hplVolatile allS_nil)) ?_
  refine WX.run ttOk rfl ?_
  have r1 : (l.volatile).length ≤ bd n := (okl (ok_Log hokl).2).1
  refine WX.callV rfl rfl rfl rfl rfl (fun _ => rfl) rfl (fun w G bs hI hΓ => f108 w n (by omega) n_ (((l.volatile).length : Nat) : Int) hokn_ (show I64 (((l.volatile).length : Nat) : Int) from (by unfold I64; omega))) ?_
  intro hq1
  refine WX.callV rfl rfl rfl rfl rfl (fun _ => rfl) rfl (fun w G bs hI hΓ => f107 w n (by omega) 0 (spec_Min n_ (((l.volatile).length : Nat) : Int)) (show I64 0 from (by unfold I64; omega)) hq1) ?_
  intro hq2
  refine WX.run ttOk rfl ?_
  refine WX.draw [8, 9, 10] mixed ?_
  intro bs G0 hΓ0
  refine DX.takes (fuel := 6) ttOk [(0, true), (1, false), (3, true), (4, false), (5, true)] (by kernel_rfl) rfl ?_
  have r2 : -9223372036854775808 ≤ n_ ∧ n_ ≤ 9223372036854775807 := hokn_
  have r3 : -9223372036854775808 ≤ (spec_Min n_ (((l.volatile).length : Nat) : Int)) ∧ (spec_Min n_ (((l.volatile).length : Nat) : Int)) ≤ 9223372036854775807 := hq1
  have r4 : -9223372036854775808 ≤ (spec_Max 0 (spec_Min n_ (((l.volatile).length : Nat) : Int))) ∧ (spec_Max 0 (spec_Min n_ (((l.volatile).length : Nat) : Int))) ≤ 9223372036854775807 := hq2
  refine DX.see 6 (by kernel_rfl) rfl rfl rfl rfl (looks_slH (Int.toNat (spec_Max 0 (spec_Min n_ (((l.volatile).length : Nat) : Int)))) ttOk rfl rfl rfl rfl (show (spec_Max 0 (spec_Min n_ (((l.volatile).length : Nat) : Int))) = (((Int.toNat (spec_Max 0 (spec_Min n_ (((l.volatile).length : Nat) : Int)))) : Nat) : Int) from (by rw [mxmn]; omega)) (Nat.le_trans (show (Int.toNat (spec_Max 0 (spec_Min n_ (((l.volatile).length : Nat) : Int)))) ≤ (l.volatile).length from (by rw [mxmn]; omega)) (hΓ0.get 1 rfl : RdSl _ _ _ _).1)) ?_
  refine DX.slot 17 (y := .v (.slice plVolatile (((List.take (Int.toNat (spec_Max 0 (spec_Min n_ (((l.volatile).length : Nat) : Int)))) l.volatile)).length) clVolatile)) rfl (fun _ => by rw [show ((List.take (Int.toNat (spec_Max 0 (spec_Min n_ (((l.volatile).length : Nat) : Int)))) l.volatile)).length = (Int.toNat (spec_Max 0 (spec_Min n_ (((l.volatile).length : Nat) : Int)))) from (by simp only [List.length_take]; have z_ := (show (Int.toNat (spec_Max 0 (spec_Min n_ (((l.volatile).length : Nat) : Int)))) ≤ (l.volatile).length from (by rw [mxmn]; omega)); omega)]) ?_
  refine DX.der 2 (MF.rs .der plVolatile clVolatile (List.take (Int.toNat (spec_Max 0 (spec_Min n_ (((l.volatile).length : Nat) : Int)))) l.volatile)) rfl (fun _ hΓ => RdSl.pre (hΓ.get 1 rfl : RdSl _ _ _ _) (Int.toNat (spec_Max 0 (spec_Min n_ (((l.volatile).length : Nat) : Int))))) ?_
  refine DX.callF 2 3 (fun _ _ h => GoT.ow_rd h) (fun _ f hf => GoT.fak f hf) rfl (by kernel_rfl) rfl rfl rfl rfl rfl rfl (fun _ => rfl) rfl (fun w G bs hI hΓ => f101 w n (by omega) l.durable plDurable clDurable (hΓ.get 0 rfl) ((ok_Log hokl).1)) (fun _ => rfl) (fun _ => rfl) ?_
  rintro ⟨p1, c1⟩ hq3
  refine DX.callF 7 5 (fun _ _ h => GoT.ow_rd h) (fun _ f hf => GoT.fak f hf) rfl (by kernel_rfl) rfl rfl rfl rfl rfl rfl (fun _ => rfl) rfl (fun w G bs hI hΓ => f101 w n (by omega) (List.take (Int.toNat (spec_Max 0 (spec_Min n_ (((l.volatile).length : Nat) : Int)))) l.volatile) plVolatile clVolatile (hΓ.get 2 rfl) (okl_mk (by first | assumption | omega | (simp only [List.length_append, List.length_cons, List.length_nil, List.length_set, List.length_map, List.length_take, List.length_drop]; omega) | (simp; omega)) (fun a ha => (okl (ok_Log hokl).2).2 a (List.mem_of_mem_take ha)) : GoT.ok n ((List.take (Int.toNat (spec_Max 0 (spec_Min n_ (((l.volatile).length : Nat) : Int)))) l.volatile) : List Record))) (fun _ => rfl) (fun _ => rfl) ?_
  rintro ⟨p2, c2⟩ hq4
  refine DX.tail [8, 9, 10] rfl rfl (by kernel_rfl) ?_
  refine WX.opn (kk := 6) 501 4 7 rfl rfl rfl ?_
  intro xs1 hx1
  refine WX.opn (kk := 6) 502 6 8 rfl rfl rfl ?_
  intro xs2 hx2
  have r5 : (l.durable).length ≤ bd n := (okl (ok_Log hokl).1).1
  have r6 : (spec_l29Recs l.durable).length ≤ bd n := (okl hq3).1
  have r7 : (spec_l29Recs (List.take (Int.toNat (spec_Max 0 (spec_Min n_ (((l.volatile).length : Nat) : Int)))) l.volatile)).length ≤ bd n := (okl hq4).1
  refine WX.know (fun G hΓ => (hΓ.get 8 rfl : OwL _ _ _).rd.one) ?_
  intro ho1
  refine WX.appR1 501 502 (((spec_l29Recs l.durable) ++ (spec_l29Recs (List.take (Int.toNat (spec_Max 0 (spec_Min n_ (((l.volatile).length : Nat) : Int)))) l.volatile))) : List Record).length ttOk rfl rfl rfl rfl rfl rfl rfl rfl rfl rfl rfl rfl rfl ho1 (by simp) (by first | assumption | omega | (simp only [List.length_append, List.length_cons, List.length_nil, List.length_set, List.length_map, List.length_take, List.length_drop]; omega) | (simp; omega)) (by first | assumption | omega | (simp only [List.length_append, List.length_cons, List.length_nil, List.length_set, List.length_map, List.length_take, List.length_drop]; omega) | (simp; omega)) (fun _ _ => rfl) ?_
  intro p3 c3
  refine WX.turn [7, 8] 9 rfl (fun h hs => ol_app hs) (gs := [MF.ol (xs1 ++ xs2) (((spec_l29Recs l.durable) ++ (spec_l29Recs (List.take (Int.toNat (spec_Max 0 (spec_Min n_ (((l.volatile).length : Nat) : Int)))) l.volatile))) : List Record)]) rfl ?_
  refine WX.run ttOk rfl ?_
  refine WX.seal 501 9 10 rfl rfl rfl rfl rfl ?_
  refine WX.free 12 (MF.os none 0 ([] : List Record)) (owSl_nil _ _) ?_
  have hP1 : spec_CrashLog l n_ = (Log.mk ((spec_l29Recs l.durable) ++ (spec_l29Recs (List.take (Int.toNat (spec_Max 0 (spec_Min n_ (((l.volatile).length : Nat) : Int)))) l.volatile))) ([])) := by simp only [spec_CrashLog, cond_true, cond_false]
  refine WX.ret ttOk rfl ?_
  intro w1 G bs hI hΓ
  rw [hP1]
  exact Post.of [11, 12] ((p3, c3), (none, 0)) hI hΓ rfl rfl rfl (And.intro (okl_mk (by first | assumption | omega | (simp only [List.length_append, List.length_cons, List.length_nil, List.length_set, List.length_map, List.length_take, List.length_drop]; omega) | (simp; omega)) (fun a ha => GoT.okm (by omega) ((all_app (okl hq3).2 (okl hq4).2) a ha)) : GoT.ok (n + 1) (((spec_l29Recs l.durable) ++ (spec_l29Recs (List.take (Int.toNat (spec_Max 0 (spec_Min n_ (((l.volatile).length : Nat) : Int)))) l.volatile))) : List Record)) (ok_nil (α := Record)))
theorem f130 (w : World) (n : Nat) (hn : n + 0 ≤ 9) (e_ : TableEntry) (pe_Name : Option Addr) (ce_Name : Nat) (hpe_Name : RdSl (hp w) pe_Name ce_Name e_.name.parts) (n_ : Name) (bn_ : Addr) (hn_ : RdSl (hp w) (some bn_) 1 [n_]) (hoke_ : GoT.ok n e_) (hokn_ : GoT.ok n n_) :
    Does Try.prog 130 #[.agg #[.slice pe_Name ((e_.name.parts).length) ce_Name, .int .i64 (e_.value)], .pointer (some bn_)] w emp (fun (rv : Value) (_ : World) => rv = .bool (impl_indexOfName_c1 n_ e_) ∧ True) := by
  have hbP := bd_pos n
  have hbB := bd_big (n := n) (by omega)
  refine WX.enter (tt := tt) (Γ := [(0, MF.rs .stb pe_Name ce_Name e_.name.parts), (1, MF.rs .stb (some bn_) 1 ([n_]))]) Try.func130 rfl (by kernel_rfl) rfl (allS_cons rfl hpe_Name (allS_cons rfl hn_ allS_nil)) ?_
  have n_h : ([n_] : List Name)[0]? = some n_ := rfl
  refine WX.slot 1 (y := .e (some bn_) 0 1 0) rfl (fun _ => cap_eq) ?_
  refine WX.run ttOk rfl ?_
  refine WX.ldE 1 2 n_ ttOk rfl rfl rfl rfl rfl rfl rfl rfl n_h (fun _ => rfl) (fun _ => rfl) ?_
  rintro ⟨p1, c1⟩
  refine WX.callV rfl rfl rfl rfl rfl (fun _ => rfl) rfl (fun w G bs hI hΓ => f81 w n (by omega) e_.name pe_Name ce_Name (hΓ.get 0 rfl) n_ p1 c1 (hΓ.get 2 rfl) ((ok_TableEntry hoke_).1) hokn_) ?_
  intro hq1
  refine WX.run ttOk rfl ?_
  have hP1 : impl_indexOfName_c1 n_ e_ = (impl_EqualNames e_.name n_) := by simp only [impl_indexOfName_c1, cond_true, cond_false]
  refine WX.ret ttOk rfl ?_
  intro w1 G bs hI hΓ
  rw [hP1]
  exact ⟨rfl, trivial⟩
theorem f128 (w : World) (n : Nat) (hn : n + 0 ≤ 9) (l : (List TableEntry)) (pl : Option Addr) (cl : Nat) (hpl : RdSl (hp w) pl cl l) (n_ : Name) (pn_ : Option Addr) (cn_ : Nat) (hpn_ : RdSl (hp w) pn_ cn_ n_.parts) (hokl : GoT.ok n l) (hokn_ : GoT.ok n n_) :
    Does Try.prog 128 #[.slice pl ((l).length) cl, .agg #[.slice pn_ ((n_.parts).length) cn_]] w emp (fun (rv : Value) (_ : World) => rv = .int .i64 ((impl_indexOfName l n_)) ∧ GoT.ok n ((impl_indexOfName l n_) : Int)) := by
  have hbP := bd_pos n
  have hbB := bd_big (n := n) (by omega)
  refine WX.enter (tt := tt) (Γ := [(0, MF.rs .stb pl cl l), (1, MF.rs .stb pn_ cn_ n_.parts)]) Try.func128 rfl (by kernel_rfl) rfl (allS_cons rfl hpl (allS_cons rfl hpn_ allS_nil)) ?_
  refine WX.run ttOk rfl ?_
  refine WX.callV rfl rfl rfl rfl rfl (fun _ => rfl) rfl (fun w G bs hI hΓ => f129 w n (by omega) l pl cl (hΓ.get 0 rfl) 130 [Value.pointer (some ⟨bs 3, 0, none⟩)] (fun e0_ => (impl_indexOfName_c1 n_ e0_)) (fun w1_ hb_ e0_ x0_ hk0_ hx0_ => f130 w1_ n (by omega) e0_ x0_.1.1 x0_.1.2 (hx0_ _ List.mem_cons_self) n_ ⟨bs 3, 0, none⟩ ((rd_box (α := Name) (a := n_) (x := (pn_, cn_)) (hI.loc 3 _ rfl).1 (All.cons (hΓ.get 1 rfl : RdSl _ _ _ _) All.nil)).mono (kp_le hb_)) hk0_ hokn_) hokl) ?_
  intro hq1
  refine WX.run ttOk rfl ?_
  have hP1 : impl_indexOfName l n_ = (slices_IndexFunc_TableEntry l (fun e0_ => (impl_indexOfName_c1 n_ e0_))) := by simp only [impl_indexOfName, cond_true, cond_false]
  refine WX.ret ttOk rfl ?_
  intro w1 G bs hI hΓ
  rw [hP1]
  exact ⟨rfl, hq1⟩
theorem f127 (w : World) (n : Nat) (hn : n + 0 ≤ 9) (l : (List TableEntry)) (pl : Option Addr) (cl : Nat) (hpl : RdSl (hp w) pl cl l) (n_ : Name) (pn_ : Option Addr) (cn_ : Nat) (hpn_ : RdSl (hp w) pn_ cn_ n_.parts) (hokl : GoT.ok n l) (hokn_ : GoT.ok n n_) :
    Does Try.prog 127 #[.slice pl ((l).length) cl, .agg #[.slice pn_ ((n_.parts).length) cn_]] w emp (fun (rv : Value) (_ : World) => rv = .int .i64 ((spec_l6Find l n_)) ∧ GoT.ok n ((spec_l6Find l n_) : Int)) := by
  have hbP := bd_pos n
  have hbB := bd_big (n := n) (by omega)
  refine WX.enter (tt := tt) (Γ := [(0, MF.rs .stb pl cl l), (1, MF.rs .stb pn_ cn_ n_.parts)]) Try.func127 rfl (by kernel_rfl) rfl (allS_cons rfl hpl (allS_cons rfl hpn_ allS_nil)) ?_
  refine WX.run ttOk rfl ?_
  have r1 : (l).length ≤ bd n := (okl hokl).1
  refine WX.loop (ι := Nat) ⟨fun i => (i ≤ (l).length) ∧ (spec_l6Find_L1 n_ l 0 = spec_l6Find_L1 n_ ((l).drop i) i), fun i => (l).length - i, fun i => [(5, .v (.int .i64 (((i : Nat) : Int)))), (3, .p 3 0), (0, .v (.slice pl ((l).length) cl))], fun i => [(3, ⟨33, [.slice pn_ ((n_.parts).length) cn_]⟩)], fun i => [], fun i => [(0, MF.rs .stb pl cl l), (1, MF.rs .stb pn_ cn_ n_.parts)]⟩ 0 ⟨(Nat.zero_le _), rfl⟩
    (.cons rfl (.cons rfl (.cons rfl (.nil)))) (.cons rfl (.nil)) .nil [0, 1] rfl ?_
  rintro i hpre
  have hpre_ : (i ≤ (l).length) ∧ (spec_l6Find_L1 n_ l 0 = spec_l6Find_L1 n_ ((l).drop i) i) := hpre
  clear hpre
  obtain ⟨v1, v2⟩ := hpre_
  refine WX.run ttOk rfl ?_
  refine WX.cases 9 rfl (fun h1 => ?_) (fun h1 => ?_)
  · skip
    have h1d := B.dt h1
    have e1i : i < (l).length := (by omega)
    obtain ⟨e1, e1h⟩ : ∃ e1, (l)[i]? = some e1 := ⟨_, List.getElem?_eq_getElem e1i⟩
    have ok1 : GoT.ok n e1 := (okl hokl).2 _ (List.mem_of_getElem? e1h)
    refine WX.run ttOk rfl ?_
    refine WX.draw [] mixed ?_
    intro bs G0 hΓ0
    refine DX.takes (fuel := 5) ttOk [(0, true), (1, true)] (by kernel_rfl) rfl ?_
    refine DX.idx 2 0 i ttOk hΓ0 (by kernel_rfl) rfl rfl rfl rfl rfl rfl rfl rfl rfl rfl rfl e1i ?_
    rintro ad1 rfl
    refine DX.takes (fuel := 3) ttOk [(3, true)] (by kernel_rfl) rfl ?_
    refine DX.ldE 4 0 2 e1 ttOk hΓ0 (by kernel_rfl) rfl rfl rfl rfl rfl rfl rfl rfl e1h (fun _ => rfl) (fun _ => rfl) ?_
    rintro ⟨⟨p1, c1⟩, ⟨⟩⟩
    refine DX.takes (fuel := 1) ttOk [(5, false)] (by kernel_rfl) rfl ?_
    refine DX.callV 6 rfl (by kernel_rfl) rfl rfl rfl rfl rfl rfl (fun _ => rfl) rfl (fun w G bs hI hΓ => f92 w n (by omega) e1.name p1 c1 (hΓ.get 2 rfl) n_ pn_ cn_ (hΓ.get 1 rfl) ((ok_TableEntry ok1).1) hokn_) ?_
    intro hq1
    refine DX.tail [] rfl rfl (by kernel_rfl) ?_
    refine WX.run ttOk rfl ?_
    refine WX.cases 18 rfl (fun h2 => ?_) (fun h2 => ?_)
    · skip
      refine WX.run ttOk rfl ?_
      have hP1 : spec_l6Find_L1 n_ l 0 = (some ((i : Nat) : Int)) := by rw [v2, drop_get e1h]; simp only [spec_l6Find_L1, h2, cond_true, cond_false]
      have hP2 : spec_l6Find l n_ = ((i : Nat) : Int) := by simp only [spec_l6Find, hP1, cond_true, cond_false]
      refine WX.ret ttOk rfl ?_
      intro w1 G bs hI hΓ
      rw [hP2]
      exact ⟨rfl, (show I64 ((i : Nat) : Int) from (by unfold I64; omega))⟩
    · skip
      refine WX.run ttOk rfl ?_
      refine WX.see rfl rfl rfl (fun _ hΓ => looks_arith rfl rfl rfl rfl (by unfold I64; omega)) ?_
      refine WX.run ttOk rfl ?_
      exact WX.iter (i + 1) ⟨(by omega), (by rw [v2, drop_get e1h]; simp only [spec_l6Find_L1, h2, cond_true, cond_false])⟩ (by dsimp only; omega) (.cons rfl (.cons rfl (.cons rfl (.nil)))) (.cons rfl (.nil)) .nil [0, 1] rfl
  · skip
    have h1d := B.df h1
    refine WX.run ttOk rfl ?_
    have hX1 : spec_l6Find_L1 n_ l 0 = none := by rw [v2, List.drop_eq_nil_of_le (show (l).length ≤ i by omega)]; simp only [spec_l6Find_L1, cond_true, cond_false]
    have hP3 : spec_l6Find l n_ = (-1) := by simp only [spec_l6Find, hX1, cond_true, cond_false]
    refine WX.ret ttOk rfl ?_
    intro w1 G bs hI hΓ
    rw [hP3]
    exact ⟨rfl, (show I64 (-1) from (by unfold I64; omega))⟩
theorem lt_iFL : ∀ (f : TableEntry → Bool) (l : List TableEntry) (i : Nat) (j : Int), slices_IndexFunc_TableEntry_L1 f l i = some j → j < ((i + l.length : Nat) : Int)
  | f, [], i, j, h => by cases h
  | f, x :: l, i, j, h => by
    simp only [slices_IndexFunc_TableEntry_L1] at h
    cases hx : f x
    · rw [hx, cond_false] at h
      have := lt_iFL f l (i + 1) j h
      simp only [List.length_cons]; omega
    · rw [hx, cond_true] at h
      cases h
      simp only [List.length_cons]; omega
theorem lt_indexOfName (l : List TableEntry) (n_ : Name) : impl_indexOfName l n_ < ((l.length : Nat) : Int) := by
  unfold impl_indexOfName slices_IndexFunc_TableEntry
  cases h : slices_IndexFunc_TableEntry_L1 (fun e0_ => impl_indexOfName_c1 n_ e0_) l 0 with
  | none => show (-1 : Int) < _; omega
  | some j => have := lt_iFL _ l 0 j h; show j < _; omega
theorem lt_l6L (n_ : Name) : ∀ (l : List TableEntry) (i : Nat) (j : Int), spec_l6Find_L1 n_ l i = some j → j < ((i + l.length : Nat) : Int)
  | [], i, j, h => by cases h
  | x :: l, i, j, h => by
    simp only [spec_l6Find_L1] at h
    cases hx : spec_EqualNames x.name n_
    · rw [hx, cond_false] at h
      have := lt_l6L n_ l (i + 1) j h
      simp only [List.length_cons]; omega
    · rw [hx, cond_true] at h
      cases h
      simp only [List.length_cons]; omega
theorem lt_l6Find (l : List TableEntry) (n_ : Name) : spec_l6Find l n_ < ((l.length : Nat) : Int) := by
  unfold spec_l6Find
  cases h : spec_l6Find_L1 n_ l 0 with
  | none => show (-1 : Int) < _; omega
  | some j => have := lt_l6L n_ l 0 j h; show j < _; omega
theorem f125 (w : World) (n : Nat) (hn : n + 0 ≤ 9) (l : (List TableEntry)) (pl : Option Addr) (cl : Nat) (hpl : RdSl (hp w) pl cl l) (n_ : Name) (pn_ : Option Addr) (cn_ : Nat) (hpn_ : RdSl (hp w) pn_ cn_ n_.parts) (hokl : GoT.ok n l) (hokn_ : GoT.ok n n_) :
    Does Try.prog 125 #[.slice pl ((l).length) cl, .agg #[.slice pn_ ((n_.parts).length) cn_]] w emp (fun (rv : Value) (_ : World) => rv = .tuple #[.int .i64 ((impl_LookupEntry l n_).1), .bool ((impl_LookupEntry l n_).2)] ∧ GoT.ok n ((impl_LookupEntry l n_).1 : Int)) := by
  have hbP := bd_pos n
  have hbB := bd_big (n := n) (by omega)
  refine WX.enter (tt := tt) (Γ := [(0, MF.rs .stb pl cl l), (1, MF.rs .stb pn_ cn_ n_.parts)]) Try.func125 rfl (by kernel_rfl) rfl (allS_cons rfl hpl (allS_cons rfl hpn_ allS_nil)) ?_
  refine WX.run ttOk rfl ?_
  refine WX.callV rfl rfl rfl rfl rfl (fun _ => rfl) rfl (fun w G bs hI hΓ => f128 w n (by omega) l pl cl (hΓ.get 0 rfl) n_ pn_ cn_ (hΓ.get 1 rfl) hokl hokn_) ?_
  intro hq1
  have q1 := lt_indexOfName l n_
  refine WX.run ttOk rfl ?_
  refine WX.cases 11 rfl (fun h1 => ?_) (fun h1 => ?_)
  · skip
    have h1d := B.dt h1
    refine WX.run ttOk rfl ?_
    have hP1 : impl_LookupEntry l n_ = (0, false) := by simp only [impl_LookupEntry, h1, cond_true, cond_false]
    refine WX.ret ttOk rfl ?_
    intro w1 G bs hI hΓ
    rw [hP1]
    exact ⟨rfl, (show I64 0 from (by unfold I64; omega))⟩
  · skip
    have h1d := B.df h1
    refine WX.run ttOk rfl ?_
    refine WX.slot 13 (y := .v (.int .i64 ((((impl_indexOfName l n_)).toNat : Nat) : Int))) rfl (fun _ => congrArg (Value.int .i64) (show (impl_indexOfName l n_) = ((((impl_indexOfName l n_)).toNat : Nat) : Int) from by omega)) ?_
    have e1i : ((impl_indexOfName l n_)).toNat < (l).length := (by first | assumption | omega)
    obtain ⟨e1, e1h⟩ : ∃ e1, (l)[((impl_indexOfName l n_)).toNat]? = some e1 := ⟨_, List.getElem?_eq_getElem e1i⟩
    have ok1 : GoT.ok n e1 := (okl hokl).2 _ (List.mem_of_getElem? e1h)
    refine WX.idx 0 (((impl_indexOfName l n_)).toNat) ttOk rfl rfl rfl rfl rfl rfl rfl rfl rfl rfl e1i ?_
    rintro ad1 rfl
    refine WX.run ttOk rfl ?_
    refine WX.ldE 0 2 e1 ttOk rfl rfl rfl rfl rfl rfl rfl rfl e1h (fun _ => rfl) (fun _ => rfl) ?_
    rintro ⟨⟨p1, c1⟩, ⟨⟩⟩
    refine WX.run ttOk rfl ?_
    have hP2 : impl_LookupEntry l n_ = (e1.value, true) := by simp only [impl_LookupEntry, h1, e1h, cond_true, cond_false]
    refine WX.ret ttOk rfl ?_
    intro w1 G bs hI hΓ
    rw [hP2]
    exact ⟨rfl, (ok_TableEntry ok1).2⟩
theorem f124 (w : World) (n : Nat) (hn : n + 0 ≤ 9) (l : (List TableEntry)) (pl : Option Addr) (cl : Nat) (hpl : RdSl (hp w) pl cl l) (n_ : Name) (pn_ : Option Addr) (cn_ : Nat) (hpn_ : RdSl (hp w) pn_ cn_ n_.parts) (hokl : GoT.ok n l) (hokn_ : GoT.ok n n_) :
    Does Try.prog 124 #[.slice pl ((l).length) cl, .agg #[.slice pn_ ((n_.parts).length) cn_]] w emp (fun (rv : Value) (_ : World) => rv = .tuple #[.int .i64 ((spec_LookupEntry l n_).1), .bool ((spec_LookupEntry l n_).2)] ∧ GoT.ok n ((spec_LookupEntry l n_).1 : Int)) := by
  have hbP := bd_pos n
  have hbB := bd_big (n := n) (by omega)
  refine WX.enter (tt := tt) (Γ := [(0, MF.rs .stb pl cl l), (1, MF.rs .stb pn_ cn_ n_.parts)]) Try.func124 rfl (by kernel_rfl) rfl (allS_cons rfl hpl (allS_cons rfl hpn_ allS_nil)) ?_
  refine WX.run ttOk rfl ?_
  refine WX.callV rfl rfl rfl rfl rfl (fun _ => rfl) rfl (fun w G bs hI hΓ => f127 w n (by omega) l pl cl (hΓ.get 0 rfl) n_ pn_ cn_ (hΓ.get 1 rfl) hokl hokn_) ?_
  intro hq1
  have q1 := lt_l6Find l n_
  refine WX.run ttOk rfl ?_
  refine WX.cases 11 rfl (fun h1 => ?_) (fun h1 => ?_)
  · skip
    have h1d := B.dt h1
    refine WX.run ttOk rfl ?_
    have hP1 : spec_LookupEntry l n_ = (0, false) := by simp only [spec_LookupEntry, h1, cond_true, cond_false]
    refine WX.ret ttOk rfl ?_
    intro w1 G bs hI hΓ
    rw [hP1]
    exact ⟨rfl, (show I64 0 from (by unfold I64; omega))⟩
  · skip
    have h1d := B.df h1
    refine WX.run ttOk rfl ?_
    refine WX.slot 13 (y := .v (.int .i64 ((((spec_l6Find l n_)).toNat : Nat) : Int))) rfl (fun _ => congrArg (Value.int .i64) (show (spec_l6Find l n_) = ((((spec_l6Find l n_)).toNat : Nat) : Int) from by omega)) ?_
    have e1i : ((spec_l6Find l n_)).toNat < (l).length := (by first | assumption | omega)
    obtain ⟨e1, e1h⟩ : ∃ e1, (l)[((spec_l6Find l n_)).toNat]? = some e1 := ⟨_, List.getElem?_eq_getElem e1i⟩
    have ok1 : GoT.ok n e1 := (okl hokl).2 _ (List.mem_of_getElem? e1h)
    refine WX.idx 0 (((spec_l6Find l n_)).toNat) ttOk rfl rfl rfl rfl rfl rfl rfl rfl rfl rfl e1i ?_
    rintro ad1 rfl
    refine WX.run ttOk rfl ?_
    refine WX.ldE 0 2 e1 ttOk rfl rfl rfl rfl rfl rfl rfl rfl e1h (fun _ => rfl) (fun _ => rfl) ?_
    rintro ⟨⟨p1, c1⟩, ⟨⟩⟩
    refine WX.run ttOk rfl ?_
    have hP2 : spec_LookupEntry l n_ = (e1.value, true) := by simp only [spec_LookupEntry, h1, e1h, cond_true, cond_false]
    refine WX.ret ttOk rfl ?_
    intro w1 G bs hI hΓ
    rw [hP2]
    exact ⟨rfl, (ok_TableEntry ok1).2⟩
theorem f119 (w : World) (n : Nat) (hn : n + 0 ≤ 9) (v : StateVector) (pv : Option Addr) (cv : Nat) (hpv : RdSl (hp w) pv cv v.entries) (n_ : Name) (pn_ : Option Addr) (cn_ : Nat) (hpn_ : RdSl (hp w) pn_ cn_ n_.parts) (hokv : GoT.ok n v) (hokn_ : GoT.ok n n_) :
    Does Try.prog 119 #[.agg #[.slice pv ((v.entries).length) cv], .agg #[.slice pn_ ((n_.parts).length) cn_]] w emp (fun (rv : Value) (_ : World) => rv = .int .i64 ((impl_SeqOf v n_)) ∧ GoT.ok n ((impl_SeqOf v n_) : Int)) := by
  have hbP := bd_pos n
  have hbB := bd_big (n := n) (by omega)
  refine WX.enter (tt := tt) (Γ := [(0, MF.rs .stb pv cv v.entries), (1, MF.rs .stb pn_ cn_ n_.parts)]) Try.func119 rfl (by kernel_rfl) rfl (allS_cons rfl hpv (allS_cons rfl hpn_ allS_nil)) ?_
  refine WX.run ttOk rfl ?_
  refine WX.callV rfl rfl rfl rfl rfl (fun _ => rfl) rfl (fun w G bs hI hΓ => f125 w n (by omega) v.entries pv cv (hΓ.get 0 rfl) n_ pn_ cn_ (hΓ.get 1 rfl) (ok_StateVector hokv) hokn_) ?_
  intro hq1
  refine WX.run ttOk rfl ?_
  have hP1 : impl_SeqOf v n_ = ((impl_LookupEntry v.entries n_).1) := by simp only [impl_SeqOf, cond_true, cond_false]
  refine WX.ret ttOk rfl ?_
  intro w1 G bs hI hΓ
  rw [hP1]
  exact ⟨rfl, hq1⟩
theorem f117 (w : World) (n : Nat) (hn : n + 0 ≤ 9) (v : StateVector) (pv : Option Addr) (cv : Nat) (hpv : RdSl (hp w) pv cv v.entries) (n_ : Name) (pn_ : Option Addr) (cn_ : Nat) (hpn_ : RdSl (hp w) pn_ cn_ n_.parts) (hokv : GoT.ok n v) (hokn_ : GoT.ok n n_) :
    Does Try.prog 117 #[.agg #[.slice pv ((v.entries).length) cv], .agg #[.slice pn_ ((n_.parts).length) cn_]] w emp (fun (rv : Value) (_ : World) => rv = .int .i64 ((spec_SeqOf v n_)) ∧ GoT.ok n ((spec_SeqOf v n_) : Int)) := by
  have hbP := bd_pos n
  have hbB := bd_big (n := n) (by omega)
  refine WX.enter (tt := tt) (Γ := [(0, MF.rs .stb pv cv v.entries), (1, MF.rs .stb pn_ cn_ n_.parts)]) Try.func117 rfl (by kernel_rfl) rfl (allS_cons rfl hpv (allS_cons rfl hpn_ allS_nil)) ?_
  refine WX.run ttOk rfl ?_
  refine WX.callV rfl rfl rfl rfl rfl (fun _ => rfl) rfl (fun w G bs hI hΓ => f124 w n (by omega) v.entries pv cv (hΓ.get 0 rfl) n_ pn_ cn_ (hΓ.get 1 rfl) (ok_StateVector hokv) hokn_) ?_
  intro hq1
  refine WX.run ttOk rfl ?_
  have hP1 : spec_SeqOf v n_ = ((spec_LookupEntry v.entries n_).1) := by simp only [spec_SeqOf, cond_true, cond_false]
  refine WX.ret ttOk rfl ?_
  intro w1 G bs hI hΓ
  rw [hP1]
  exact ⟨rfl, hq1⟩
theorem f89 (w : World) (n : Nat) (hn : n + 0 ≤ 9) (a : StateVector) (pa : Option Addr) (ca : Nat) (hpa : RdSl (hp w) pa ca a.entries) (b : StateVector) (pb : Option Addr) (cb : Nat) (hpb : RdSl (hp w) pb cb b.entries) (hoka : GoT.ok n a) (hokb : GoT.ok n b) :
    Does Try.prog 89 #[.agg #[.slice pa ((a.entries).length) ca], .agg #[.slice pb ((b.entries).length) cb]] w emp (Post w emp (fun x : GoT.X ((List TableEntry)) => (GoT.sh ((impl_NewerThan a b) : (List TableEntry)) x).headD undef) (fun x => GoT.oa ((impl_NewerThan a b) : (List TableEntry)) x) (GoT.ok n ((impl_NewerThan a b) : (List TableEntry)))) := by
  have hbP := bd_pos n
  have hbB := bd_big (n := n) (by omega)
  refine WX.enter (tt := tt) (Γ := [(0, MF.rs .stb pa ca a.entries), (1, MF.rs .stb pb cb b.entries)]) Try.func89 rfl (by kernel_rfl) rfl (allS_cons rfl hpa (allS_cons rfl hpb allS_nil)) ?_
  refine WX.run ttOk rfl ?_
  refine WX.bld ttOk rfl rfl rfl rfl rfl rfl rfl ?_
  intro p1
  refine WX.run ttOk rfl ?_
  refine WX.free 2 (MF.ol [] ([] : List TableEntry)) rfl ?_
  have r1 : (a.entries).length ≤ bd n := (okl (ok_StateVector hoka)).1
  refine WX.loop (ι := (Option Addr) × Nat × (List Value) × (List TableEntry) × Nat) ⟨fun | (pout, cout, xsout, out, i) => (i ≤ (a.entries).length) ∧ (∀ z_ ∈ out, GoT.ok n z_) ∧ (out.length ≤ 20) ∧ (impl_NewerThan_L1 a b a.entries ([] : List TableEntry) = impl_NewerThan_L1 a b ((a.entries).drop i) out), fun | (pout, cout, xsout, out, i) => (a.entries).length - i, fun | (pout, cout, xsout, out, i) => [(5, .v (.slice pout ((out).length) cout)), (13, .v (.int .i64 (((i : Nat) : Int)))), (12, .v (.int .i64 ((((a.entries).length : Nat) : Int)))), (11, .v (.slice pa ((a.entries).length) ca)), (3, .p 3 0), (2, .p 2 0)], fun | (pout, cout, xsout, out, i) => [(3, ⟨36, [.slice pb ((b.entries).length) cb]⟩), (2, ⟨36, [.slice pa ((a.entries).length) ca]⟩)], fun | (pout, cout, xsout, out, i) => [(9, ⟨2, pout, (out).length, cout, xsout⟩)], fun | (pout, cout, xsout, out, i) => [(0, MF.rs .stb pa ca a.entries), (1, MF.rs .stb pb cb b.entries), (2, MF.ol xsout (out : List TableEntry))]⟩ (p1, 0, [], ([] : List TableEntry), 0) ⟨(Nat.zero_le _), (fun a ha => by cases ha), (by simp), rfl⟩
    (.cons rfl (.cons rfl (.cons rfl (.cons rfl (.cons rfl (.cons rfl (.nil))))))) (.cons rfl (.cons rfl (.nil))) (.cons rfl (.nil)) [0, 1, 2] rfl ?_
  rintro ⟨pout, cout, xsout, out, i⟩ hpre
  have hpre_ : (i ≤ (a.entries).length) ∧ (∀ z_ ∈ out, GoT.ok n z_) ∧ (out.length ≤ 20) ∧ (impl_NewerThan_L1 a b a.entries ([] : List TableEntry) = impl_NewerThan_L1 a b ((a.entries).drop i) out) := hpre
  clear hpre
  obtain ⟨v1, v2, v3, v4⟩ := hpre_
  refine WX.run ttOk rfl ?_
  refine WX.cases 14 rfl (fun h1 => ?_) (fun h1 => ?_)
  · skip
    have h1d := B.dt h1
    have e1i : i < (a.entries).length := (by omega)
    obtain ⟨e1, e1h⟩ : ∃ e1, (a.entries)[i]? = some e1 := ⟨_, List.getElem?_eq_getElem e1i⟩
    have ok1 : GoT.ok n e1 := (okl (ok_StateVector hoka)).2 _ (List.mem_of_getElem? e1h)
    refine WX.run ttOk rfl ?_
    refine WX.idx 0 i ttOk rfl rfl rfl rfl rfl rfl rfl rfl rfl rfl e1i ?_
    rintro ad1 rfl
    refine WX.ldE 0 3 e1 ttOk rfl rfl rfl rfl rfl rfl rfl rfl e1h (fun _ => rfl) (fun _ => rfl) ?_
    rintro ⟨⟨p2, c1⟩, ⟨⟩⟩
    refine WX.run ttOk rfl ?_
    refine WX.callV rfl rfl rfl rfl rfl (fun _ => rfl) rfl (fun w G bs hI hΓ => f119 w n (by omega) b pb cb (hΓ.get 1 rfl) e1.name p2 c1 (hΓ.get 3 rfl) hokb ((ok_TableEntry ok1).1)) ?_
    intro hq1
    refine WX.run ttOk rfl ?_
    refine WX.loop (ι := (Option Addr) × Nat × (List Value) × (List TableEntry) × Int) ⟨fun | (pout2, cout2, xsout2, out2, k) => (∀ z_ ∈ out2, GoT.ok n z_) ∧ (-9223372036854775808 ≤ k ∧ k ≤ 9223372036854775807) ∧ (out2.length ≤ 20) ∧ (impl_NewerThan_L2 a e1 (out : List TableEntry) (impl_SeqOf b e1.name) = impl_NewerThan_L2 a e1 out2 k), fun | (pout2, cout2, xsout2, out2, k) => 20 - out2.length, fun | (pout2, cout2, xsout2, out2, k) => [(5, .v (.slice pout2 ((out2).length) cout2)), (8, .v (.int .i64 (k))), (7, .p 7 0), (13, .v (.int .i64 (((i : Nat) : Int)))), (12, .v (.int .i64 ((((a.entries).length : Nat) : Int)))), (11, .v (.slice (some ad1) ((a.entries).length) ca)), (3, .p 3 0), (2, .p 2 0)], fun | (pout2, cout2, xsout2, out2, k) => [(7, ⟨126, [.slice p2 ((e1.name.parts).length) c1, .int .i64 (e1.value)]⟩), (3, ⟨36, [.slice pb ((b.entries).length) cb]⟩), (2, ⟨36, [.slice (some ad1) ((a.entries).length) ca]⟩)], fun | (pout2, cout2, xsout2, out2, k) => [(9, ⟨2, pout2, (out2).length, cout2, xsout2⟩)], fun | (pout2, cout2, xsout2, out2, k) => [(0, MF.rs .stb (some ad1) ca a.entries), (1, MF.rs .stb pb cb b.entries), (2, MF.ol xsout2 (out2 : List TableEntry)), (3, MF.rs .stb p2 c1 e1.name.parts)]⟩ (pout, cout, xsout, (out : List TableEntry), (impl_SeqOf b e1.name)) ⟨v2, hq1, (by first | assumption | omega | (simp only [List.length_append, List.length_cons, List.length_nil, List.length_set, List.length_map, List.length_take, List.length_drop]; omega) | (simp; omega)), rfl⟩
      (.cons rfl (.cons rfl (.cons rfl (.cons rfl (.cons rfl (.cons rfl (.cons rfl (.cons rfl (.nil))))))))) (.cons rfl (.cons rfl (.cons rfl (.nil)))) (.cons rfl (.nil)) [0, 1, 2, 3] rfl ?_
    rintro ⟨pout2, cout2, xsout2, out2, k⟩ hpre
    have hpre_ : (∀ z_ ∈ out2, GoT.ok n z_) ∧ (-9223372036854775808 ≤ k ∧ k ≤ 9223372036854775807) ∧ (out2.length ≤ 20) ∧ (impl_NewerThan_L2 a e1 (out : List TableEntry) (impl_SeqOf b e1.name) = impl_NewerThan_L2 a e1 out2 k) := hpre
    clear hpre
    obtain ⟨v5, v6, v7, v8⟩ := hpre_
    refine WX.run ttOk rfl ?_
    refine WX.callV rfl rfl rfl rfl rfl (fun _ => rfl) rfl (fun w G bs hI hΓ => f119 w n (by omega) a (some ad1) ca (hΓ.get 0 rfl) e1.name p2 c1 (hΓ.get 3 rfl) hoka ((ok_TableEntry ok1).1)) ?_
    intro hq2
    refine WX.run ttOk rfl ?_
    refine WX.cases 27 rfl (fun h2 => ?_) (fun h2 => ?_)
    · skip
      have h2d := B.dt h2
      refine WX.run ttOk rfl ?_
      refine WX.cases 31 rfl (fun h3 => ?_) (fun h3 => ?_)
      · skip
        have h3d := B.dt h3
        refine WX.run ttOk rfl ?_
        refine WX.callF 4 (fun _ _ h => GoT.ow_rd h) (fun _ f hf => GoT.fak f hf) rfl rfl rfl rfl rfl (fun _ => rfl) rfl (fun w G bs hI hΓ => f115 w n (by omega) e1.name p2 c1 (hΓ.get 3 rfl) ((ok_TableEntry ok1).1)) (fun _ => rfl) (fun _ => rfl) ?_
        rintro ⟨p3, c2⟩ hq3
        refine WX.run ttOk rfl ?_
        refine WX.see rfl rfl rfl (fun _ hΓ => looks_wrap rfl rfl rfl rfl) ?_
        refine WX.run ttOk rfl ?_
        refine WX.bld ttOk rfl rfl rfl rfl rfl rfl rfl ?_
        intro p4
        refine WX.turn [5] 6 rfl (fun h hs => ol_one (α := TableEntry) (a := (TableEntry.mk (impl_copyName e1.name) (IntKind.i64.wrap (k + 1)))) (x := ((p3, c2), ())) hs) (gs := [MF.ol [.slice p3 (((impl_copyName e1.name).parts).length) c2, .int .i64 (IntKind.i64.wrap (k + 1))] ([(TableEntry.mk (impl_copyName e1.name) (IntKind.i64.wrap (k + 1)))] : List TableEntry)]) rfl ?_
        refine WX.appR1 9 41 ((out2 ++ [(TableEntry.mk (impl_copyName e1.name) (IntKind.i64.wrap (k + 1)))]) : List TableEntry).length ttOk rfl rfl rfl rfl rfl rfl rfl rfl rfl rfl rfl rfl rfl (by simp [Value.oneCell']) (by simp) (by simp; omega) (by simp; omega) (fun _ _ => rfl) ?_
        intro p5 c3
        refine WX.turn [2, 6] 7 rfl (fun h hs => ol_app hs) (gs := [MF.ol (xsout2 ++ [.slice p3 (((impl_copyName e1.name).parts).length) c2, .int .i64 (IntKind.i64.wrap (k + 1))]) ((out2 ++ [(TableEntry.mk (impl_copyName e1.name) (IntKind.i64.wrap (k + 1)))]) : List TableEntry)]) rfl ?_
        refine WX.run ttOk rfl ?_
        refine WX.see rfl rfl rfl (fun _ hΓ => looks_wrap rfl rfl rfl rfl) ?_
        refine WX.run ttOk rfl ?_
        refine WX.turn [7] 2 rfl (fun _ h => h) rfl ?_
        exact WX.iter (p5, c3, (xsout2 ++ [.slice p3 (((impl_copyName e1.name).parts).length) c2, .int .i64 (IntKind.i64.wrap (k + 1))]), ((out2 ++ [(TableEntry.mk (impl_copyName e1.name) (IntKind.i64.wrap (k + 1)))]) : List TableEntry), IntKind.i64.wrap (k + 1)) ⟨(all_app v5 (all_cons (α := TableEntry) (And.intro hq3 (i64_wrap _)) (fun a ha => by cases ha))), (i64_wrap _), (by first | assumption | omega | (simp only [List.length_append, List.length_cons, List.length_nil, List.length_set, List.length_map, List.length_take, List.length_drop]; omega) | (simp; omega)), (by rw [v8]; rw [impl_NewerThan_L2]; simp only [h2, h2d, h3, h3d, cond_true, cond_false, ↓reduceIte, Bool.false_eq_true])⟩ (by simp; omega) (.cons rfl (.cons rfl (.cons rfl (.cons rfl (.cons rfl (.cons rfl (.cons rfl (.cons rfl (.nil))))))))) (.cons rfl (.cons rfl (.cons rfl (.nil)))) (.cons rfl (.nil)) [0, 1, 2, 3] rfl
      · skip
        have h3d := B.df h3
        refine WX.run ttOk rfl ?_
        have hX1 : impl_NewerThan_L2 a e1 (out : List TableEntry) (impl_SeqOf b e1.name) = (((out2) : List TableEntry), k) := by rw [v8]; rw [impl_NewerThan_L2]; simp only [h2, h2d, h3, h3d, cond_true, cond_false, ↓reduceIte, Bool.false_eq_true]
        refine WX.see rfl rfl rfl (fun _ hΓ => looks_arith rfl rfl rfl rfl (by unfold I64; omega)) ?_
        refine WX.run ttOk rfl ?_
        exact WX.iter (pout2, cout2, xsout2, (out2 : List TableEntry), i + 1) ⟨(by omega), v5, (by first | assumption | omega | (simp only [List.length_append, List.length_cons, List.length_nil, List.length_set, List.length_map, List.length_take, List.length_drop]; omega) | (simp; omega)), (by rw [v4, drop_get e1h]; simp only [impl_NewerThan_L1, hX1, cond_true, cond_false])⟩ (by dsimp only; omega) (.cons rfl (.cons rfl (.cons rfl (.cons rfl (.cons rfl (.cons rfl (.nil))))))) (.cons rfl (.cons rfl (.nil))) (.cons rfl (.nil)) [0, 1, 2] rfl
    · skip
      have h2d := B.df h2
      refine WX.run ttOk rfl ?_
      have hX2 : impl_NewerThan_L2 a e1 (out : List TableEntry) (impl_SeqOf b e1.name) = (((out2) : List TableEntry), k) := by rw [v8]; rw [impl_NewerThan_L2]; simp only [h2, h2d, cond_true, cond_false, ↓reduceIte, Bool.false_eq_true]
      refine WX.see rfl rfl rfl (fun _ hΓ => looks_arith rfl rfl rfl rfl (by unfold I64; omega)) ?_
      refine WX.run ttOk rfl ?_
      exact WX.iter (pout2, cout2, xsout2, (out2 : List TableEntry), i + 1) ⟨(by omega), v5, (by first | assumption | omega | (simp only [List.length_append, List.length_cons, List.length_nil, List.length_set, List.length_map, List.length_take, List.length_drop]; omega) | (simp; omega)), (by rw [v4, drop_get e1h]; simp only [impl_NewerThan_L1, hX2, cond_true, cond_false])⟩ (by dsimp only; omega) (.cons rfl (.cons rfl (.cons rfl (.cons rfl (.cons rfl (.cons rfl (.nil))))))) (.cons rfl (.cons rfl (.nil))) (.cons rfl (.nil)) [0, 1, 2] rfl
  · skip
    have h1d := B.df h1
    refine WX.run ttOk rfl ?_
    have hX3 : impl_NewerThan_L1 a b a.entries ([] : List TableEntry) = ((out) : List TableEntry) := by rw [v4, List.drop_eq_nil_of_le (show (a.entries).length ≤ i by omega)]; simp only [impl_NewerThan_L1, cond_true, cond_false]
    refine WX.seal 9 2 8 rfl rfl rfl rfl rfl ?_
    have hP1 : impl_NewerThan a b = out := by simp only [impl_NewerThan, hX3, cond_true, cond_false]
    refine WX.ret ttOk rfl ?_
    intro w1 G bs hI hΓ
    rw [hP1]
    exact Post.of [9] (pout, cout) hI hΓ rfl rfl rfl (okl_mk (by omega) v2 : GoT.ok n (out : List TableEntry))
theorem f87 (w : World) (n : Nat) (hn : n + 0 ≤ 9) (a : StateVector) (pa : Option Addr) (ca : Nat) (hpa : RdSl (hp w) pa ca a.entries) (b : StateVector) (pb : Option Addr) (cb : Nat) (hpb : RdSl (hp w) pb cb b.entries) (hoka : GoT.ok n a) (hokb : GoT.ok n b) :
    Does Try.prog 87 #[.agg #[.slice pa ((a.entries).length) ca], .agg #[.slice pb ((b.entries).length) cb]] w emp (Post w emp (fun x : GoT.X ((List TableEntry)) => (GoT.sh ((spec_NewerThan a b) : (List TableEntry)) x).headD undef) (fun x => GoT.oa ((spec_NewerThan a b) : (List TableEntry)) x) (GoT.ok n ((spec_NewerThan a b) : (List TableEntry)))) := by
  have hbP := bd_pos n
  have hbB := bd_big (n := n) (by omega)
  refine WX.enter (tt := tt) (Γ := [(0, MF.rs .stb pa ca a.entries), (1, MF.rs .stb pb cb b.entries)]) Try.func87 rfl (by kernel_rfl) rfl (allS_cons rfl hpa (allS_cons rfl hpb allS_nil)) ?_
  refine WX.run ttOk rfl ?_
  refine WX.bld ttOk rfl rfl rfl rfl rfl rfl rfl ?_
  intro p1
  refine WX.run ttOk rfl ?_
  refine WX.free 2 (MF.ol [] ([] : List TableEntry)) rfl ?_
  have r1 : (a.entries).length ≤ bd n := (okl (ok_StateVector hoka)).1
  refine WX.loop (ι := (Option Addr) × Nat × (List Value) × (List TableEntry) × Nat) ⟨fun | (pout, cout, xsout, out, i) => (i ≤ (a.entries).length) ∧ (∀ z_ ∈ out, GoT.ok n z_) ∧ (out.length ≤ 20) ∧ (spec_NewerThan_L1 a b a.entries ([] : List TableEntry) = spec_NewerThan_L1 a b ((a.entries).drop i) out), fun | (pout, cout, xsout, out, i) => (a.entries).length - i, fun | (pout, cout, xsout, out, i) => [(5, .v (.slice pout ((out).length) cout)), (6, .v (.int .i64 (((i : Nat) : Int)))), (3, .p 3 0), (2, .p 2 0)], fun | (pout, cout, xsout, out, i) => [(3, ⟨36, [.slice pb ((b.entries).length) cb]⟩), (2, ⟨36, [.slice pa ((a.entries).length) ca]⟩)], fun | (pout, cout, xsout, out, i) => [(11, ⟨2, pout, (out).length, cout, xsout⟩)], fun | (pout, cout, xsout, out, i) => [(0, MF.rs .stb pa ca a.entries), (1, MF.rs .stb pb cb b.entries), (2, MF.ol xsout (out : List TableEntry))]⟩ (p1, 0, [], ([] : List TableEntry), 0) ⟨(Nat.zero_le _), (fun a ha => by cases ha), (by simp), rfl⟩
    (.cons rfl (.cons rfl (.cons rfl (.cons rfl (.nil))))) (.cons rfl (.cons rfl (.nil))) (.cons rfl (.nil)) [0, 1, 2] rfl ?_
  rintro ⟨pout, cout, xsout, out, i⟩ hpre
  have hpre_ : (i ≤ (a.entries).length) ∧ (∀ z_ ∈ out, GoT.ok n z_) ∧ (out.length ≤ 20) ∧ (spec_NewerThan_L1 a b a.entries ([] : List TableEntry) = spec_NewerThan_L1 a b ((a.entries).drop i) out) := hpre
  clear hpre
  obtain ⟨v1, v2, v3, v4⟩ := hpre_
  refine WX.run ttOk rfl ?_
  refine WX.cases 16 rfl (fun h1 => ?_) (fun h1 => ?_)
  · skip
    have h1d := B.dt h1
    have e1i : i < (a.entries).length := (by omega)
    obtain ⟨e1, e1h⟩ : ∃ e1, (a.entries)[i]? = some e1 := ⟨_, List.getElem?_eq_getElem e1i⟩
    have ok1 : GoT.ok n e1 := (okl (ok_StateVector hoka)).2 _ (List.mem_of_getElem? e1h)
    refine WX.run ttOk rfl ?_
    refine WX.idx 0 i ttOk rfl rfl rfl rfl rfl rfl rfl rfl rfl rfl e1i ?_
    rintro ad1 rfl
    refine WX.run ttOk rfl ?_
    refine WX.ldE 0 3 e1 ttOk rfl rfl rfl rfl rfl rfl rfl rfl e1h (fun _ => rfl) (fun _ => rfl) ?_
    rintro ⟨⟨p2, c1⟩, ⟨⟩⟩
    refine WX.run ttOk rfl ?_
    refine WX.callV rfl rfl rfl rfl rfl (fun _ => rfl) rfl (fun w G bs hI hΓ => f117 w n (by omega) a (some ad1) ca (hΓ.get 0 rfl) e1.name p2 c1 (hΓ.get 3 rfl) hoka ((ok_TableEntry ok1).1)) ?_
    intro hq1
    refine WX.run ttOk rfl ?_
    refine WX.callV rfl rfl rfl rfl rfl (fun _ => rfl) rfl (fun w G bs hI hΓ => f117 w n (by omega) b pb cb (hΓ.get 1 rfl) e1.name p2 c1 (hΓ.get 3 rfl) hokb ((ok_TableEntry ok1).1)) ?_
    intro hq2
    refine WX.run ttOk rfl ?_
    refine WX.loop (ι := (Option Addr) × Nat × (List Value) × (List TableEntry) × Int) ⟨fun | (pout2, cout2, xsout2, out2, k) => (∀ z_ ∈ out2, GoT.ok n z_) ∧ (-9223372036854775808 ≤ k ∧ k ≤ 9223372036854775807) ∧ (out2.length ≤ 20) ∧ (spec_NewerThan_L2 a e1 (out : List TableEntry) (spec_SeqOf b e1.name) = spec_NewerThan_L2 a e1 out2 k), fun | (pout2, cout2, xsout2, out2, k) => 20 - out2.length, fun | (pout2, cout2, xsout2, out2, k) => [(5, .v (.slice pout2 ((out2).length) cout2)), (9, .v (.int .i64 (k))), (8, .v (.int .i64 ((spec_SeqOf a e1.name)))), (7, .p 7 0), (6, .v (.int .i64 (((i : Nat) : Int)))), (3, .p 3 0), (2, .p 2 0)], fun | (pout2, cout2, xsout2, out2, k) => [(7, ⟨33, [.slice p2 ((e1.name.parts).length) c1]⟩), (3, ⟨36, [.slice pb ((b.entries).length) cb]⟩), (2, ⟨36, [.slice (some ad1) ((a.entries).length) ca]⟩)], fun | (pout2, cout2, xsout2, out2, k) => [(11, ⟨2, pout2, (out2).length, cout2, xsout2⟩)], fun | (pout2, cout2, xsout2, out2, k) => [(0, MF.rs .stb (some ad1) ca a.entries), (1, MF.rs .stb pb cb b.entries), (2, MF.ol xsout2 (out2 : List TableEntry)), (3, MF.rs .stb p2 c1 e1.name.parts)]⟩ (pout, cout, xsout, (out : List TableEntry), (spec_SeqOf b e1.name)) ⟨v2, hq2, (by first | assumption | omega | (simp only [List.length_append, List.length_cons, List.length_nil, List.length_set, List.length_map, List.length_take, List.length_drop]; omega) | (simp; omega)), rfl⟩
      (.cons rfl (.cons rfl (.cons rfl (.cons rfl (.cons rfl (.cons rfl (.cons rfl (.nil)))))))) (.cons rfl (.cons rfl (.cons rfl (.nil)))) (.cons rfl (.nil)) [0, 1, 2, 3] rfl ?_
    rintro ⟨pout2, cout2, xsout2, out2, k⟩ hpre
    have hpre_ : (∀ z_ ∈ out2, GoT.ok n z_) ∧ (-9223372036854775808 ≤ k ∧ k ≤ 9223372036854775807) ∧ (out2.length ≤ 20) ∧ (spec_NewerThan_L2 a e1 (out : List TableEntry) (spec_SeqOf b e1.name) = spec_NewerThan_L2 a e1 out2 k) := hpre
    clear hpre
    obtain ⟨v5, v6, v7, v8⟩ := hpre_
    refine WX.run ttOk rfl ?_
    refine WX.cases 34 rfl (fun h2 => ?_) (fun h2 => ?_)
    · skip
      have h2d := B.dt h2
      refine WX.run ttOk rfl ?_
      refine WX.cases 38 rfl (fun h3 => ?_) (fun h3 => ?_)
      · skip
        have h3d := B.dt h3
        refine WX.run ttOk rfl ?_
        refine WX.callF 4 (fun _ _ h => GoT.ow_rd h) (fun _ f hf => GoT.fak f hf) rfl rfl rfl rfl rfl (fun _ => rfl) rfl (fun w G bs hI hΓ => f111 w n (by omega) e1.name p2 c1 (hΓ.get 3 rfl) ((ok_TableEntry ok1).1)) (fun _ => rfl) (fun _ => rfl) ?_
        rintro ⟨p3, c2⟩ hq3
        refine WX.run ttOk rfl ?_
        refine WX.see rfl rfl rfl (fun _ hΓ => looks_wrap rfl rfl rfl rfl) ?_
        refine WX.run ttOk rfl ?_
        refine WX.bld ttOk rfl rfl rfl rfl rfl rfl rfl ?_
        intro p4
        refine WX.turn [5] 6 rfl (fun h hs => ol_one (α := TableEntry) (a := (TableEntry.mk (spec_l4Copy e1.name) (IntKind.i64.wrap (k + 1)))) (x := ((p3, c2), ())) hs) (gs := [MF.ol [.slice p3 (((spec_l4Copy e1.name).parts).length) c2, .int .i64 (IntKind.i64.wrap (k + 1))] ([(TableEntry.mk (spec_l4Copy e1.name) (IntKind.i64.wrap (k + 1)))] : List TableEntry)]) rfl ?_
        refine WX.appR1 11 48 ((out2 ++ [(TableEntry.mk (spec_l4Copy e1.name) (IntKind.i64.wrap (k + 1)))]) : List TableEntry).length ttOk rfl rfl rfl rfl rfl rfl rfl rfl rfl rfl rfl rfl rfl (by simp [Value.oneCell']) (by simp) (by simp; omega) (by simp; omega) (fun _ _ => rfl) ?_
        intro p5 c3
        refine WX.turn [2, 6] 7 rfl (fun h hs => ol_app hs) (gs := [MF.ol (xsout2 ++ [.slice p3 (((spec_l4Copy e1.name).parts).length) c2, .int .i64 (IntKind.i64.wrap (k + 1))]) ((out2 ++ [(TableEntry.mk (spec_l4Copy e1.name) (IntKind.i64.wrap (k + 1)))]) : List TableEntry)]) rfl ?_
        refine WX.run ttOk rfl ?_
        refine WX.see rfl rfl rfl (fun _ hΓ => looks_wrap rfl rfl rfl rfl) ?_
        refine WX.run ttOk rfl ?_
        refine WX.turn [7] 2 rfl (fun _ h => h) rfl ?_
        exact WX.iter (p5, c3, (xsout2 ++ [.slice p3 (((spec_l4Copy e1.name).parts).length) c2, .int .i64 (IntKind.i64.wrap (k + 1))]), ((out2 ++ [(TableEntry.mk (spec_l4Copy e1.name) (IntKind.i64.wrap (k + 1)))]) : List TableEntry), IntKind.i64.wrap (k + 1)) ⟨(all_app v5 (all_cons (α := TableEntry) (And.intro hq3 (i64_wrap _)) (fun a ha => by cases ha))), (i64_wrap _), (by first | assumption | omega | (simp only [List.length_append, List.length_cons, List.length_nil, List.length_set, List.length_map, List.length_take, List.length_drop]; omega) | (simp; omega)), (by rw [v8]; rw [spec_NewerThan_L2]; simp only [h2, h2d, h3, h3d, cond_true, cond_false, ↓reduceIte, Bool.false_eq_true])⟩ (by simp; omega) (.cons rfl (.cons rfl (.cons rfl (.cons rfl (.cons rfl (.cons rfl (.cons rfl (.nil)))))))) (.cons rfl (.cons rfl (.cons rfl (.nil)))) (.cons rfl (.nil)) [0, 1, 2, 3] rfl
      · skip
        have h3d := B.df h3
        refine WX.run ttOk rfl ?_
        have hX1 : spec_NewerThan_L2 a e1 (out : List TableEntry) (spec_SeqOf b e1.name) = (((out2) : List TableEntry), k) := by rw [v8]; rw [spec_NewerThan_L2]; simp only [h2, h2d, h3, h3d, cond_true, cond_false, ↓reduceIte, Bool.false_eq_true]
        refine WX.see rfl rfl rfl (fun _ hΓ => looks_arith rfl rfl rfl rfl (by unfold I64; omega)) ?_
        refine WX.run ttOk rfl ?_
        exact WX.iter (pout2, cout2, xsout2, (out2 : List TableEntry), i + 1) ⟨(by omega), v5, (by first | assumption | omega | (simp only [List.length_append, List.length_cons, List.length_nil, List.length_set, List.length_map, List.length_take, List.length_drop]; omega) | (simp; omega)), (by rw [v4, drop_get e1h]; simp only [spec_NewerThan_L1, hX1, cond_true, cond_false])⟩ (by dsimp only; omega) (.cons rfl (.cons rfl (.cons rfl (.cons rfl (.nil))))) (.cons rfl (.cons rfl (.nil))) (.cons rfl (.nil)) [0, 1, 2] rfl
    · skip
      have h2d := B.df h2
      refine WX.run ttOk rfl ?_
      have hX2 : spec_NewerThan_L2 a e1 (out : List TableEntry) (spec_SeqOf b e1.name) = (((out2) : List TableEntry), k) := by rw [v8]; rw [spec_NewerThan_L2]; simp only [h2, h2d, cond_true, cond_false, ↓reduceIte, Bool.false_eq_true]
      refine WX.see rfl rfl rfl (fun _ hΓ => looks_arith rfl rfl rfl rfl (by unfold I64; omega)) ?_
      refine WX.run ttOk rfl ?_
      exact WX.iter (pout2, cout2, xsout2, (out2 : List TableEntry), i + 1) ⟨(by omega), v5, (by first | assumption | omega | (simp only [List.length_append, List.length_cons, List.length_nil, List.length_set, List.length_map, List.length_take, List.length_drop]; omega) | (simp; omega)), (by rw [v4, drop_get e1h]; simp only [spec_NewerThan_L1, hX2, cond_true, cond_false])⟩ (by dsimp only; omega) (.cons rfl (.cons rfl (.cons rfl (.cons rfl (.nil))))) (.cons rfl (.cons rfl (.nil))) (.cons rfl (.nil)) [0, 1, 2] rfl
  · skip
    have h1d := B.df h1
    refine WX.run ttOk rfl ?_
    have hX3 : spec_NewerThan_L1 a b a.entries ([] : List TableEntry) = ((out) : List TableEntry) := by rw [v4, List.drop_eq_nil_of_le (show (a.entries).length ≤ i by omega)]; simp only [spec_NewerThan_L1, cond_true, cond_false]
    refine WX.seal 11 2 8 rfl rfl rfl rfl rfl ?_
    have hP1 : spec_NewerThan a b = out := by simp only [spec_NewerThan, hX3, cond_true, cond_false]
    refine WX.ret ttOk rfl ?_
    intro w1 G bs hI hΓ
    rw [hP1]
    exact Post.of [9] (pout, cout) hI hΓ rfl rfl rfl (okl_mk (by omega) v2 : GoT.ok n (out : List TableEntry))
end Go.Proofs.Ytikbfiljomdmiaa
