/-
  What the proof of one law needs: rules of the program logic, functions as Lean functions, contracts. No condition but what each says. Written by a program (pack.py) out of my own texts.
-/
import Derived.Test.YtfffongneoegbaaGreatKLiveTopology6
namespace Go.Proofs.YtfffongneoegbaaGreat
open Go.Stp
set_option linter.unusedVariables false
set_option linter.unusedSimpArgs false
theorem f153 (w : World) (n : Nat) (hn : n + 0 ≤ 9) (a : (List Consumer)) (pa : Option Addr) (ca : Nat) (k : Int) (H : GH) (hH : Le H (hp w)) (hown : Sep H (GoT.oa a (pa, ca))) (hoka : GoT.ok n a) (hokk : GoT.ok n k) :
    Does Tryz.prog 153 #[.slice pa ((a).length) ca, .int .i64 (k)] w H (Post w H (fun _ : Unit => .int .i64 ((laws_markConsumerS a k).1)) (fun _ => GoT.oa ((laws_markConsumerS a k).2 : (List Consumer)) (pa, ca)) ((GoT.ok n ((laws_markConsumerS a k).1 : Int) ∧ GoT.ok n ((laws_markConsumerS a k).2 : (List Consumer))) ∧ ((laws_markConsumerS a k).2).length = (a).length)) := by
  have hbP := bd_pos n
  have hbB := bd_big (n := n) (by omega)
  refine WX.enterM (tt := tt) (Γ := []) 1 Tryz.func153 rfl (by kernel_rfl) rfl allS_nil hH hown (fun f hf => GoT.oak f hf) rfl ?_
  refine WX.opn (kk := 11) 501 1 2 rfl rfl rfl ?_
  intro xs1 hx1
  refine WX.run ttOk rfl ?_
  have r1 : (a).length ≤ bd n := (okl hoka).1
  refine WX.loop (ι := (List Value) × (List Consumer) × Int × Nat) ⟨fun | (xsa2, a2, k2, i) => (i ≤ (a).length) ∧ (a2.length = (a).length) ∧ (∀ z_ ∈ a2, GoT.ok n z_) ∧ (-9223372036854775808 ≤ k2 ∧ k2 ≤ 9223372036854775807) ∧ (laws_markConsumerS_L1 ((a).length) 0 (a : List Consumer) k = laws_markConsumerS_L1 ((a).length - i) i a2 k2), fun | (xsa2, a2, k2, i) => (a).length - i, fun | (xsa2, a2, k2, i) => [(0, .v (.slice pa ((a).length) ca)), (1, .v (.int .i64 (k2))), (5, .v (.int .i64 (((i : Nat) : Int))))], fun | (xsa2, a2, k2, i) => [], fun | (xsa2, a2, k2, i) => [(501, ⟨11, pa, (a).length, ca, xsa2⟩)], fun | (xsa2, a2, k2, i) => [(2, MF.ol xsa2 (a2 : List Consumer))]⟩ (xs1, (a : List Consumer), k, 0) ⟨(Nat.zero_le _), (by simp), (okl hoka).2, hokk, rfl⟩
    (.cons rfl (.cons rfl (.cons rfl (.nil)))) .nil (.cons rfl (.nil)) [2] rfl ?_
  rintro ⟨xsa2, a2, k2, i⟩ hpre
  have hpre_ : (i ≤ (a).length) ∧ (a2.length = (a).length) ∧ (∀ z_ ∈ a2, GoT.ok n z_) ∧ (-9223372036854775808 ≤ k2 ∧ k2 ≤ 9223372036854775807) ∧ (laws_markConsumerS_L1 ((a).length) 0 (a : List Consumer) k = laws_markConsumerS_L1 ((a).length - i) i a2 k2) := hpre
  clear hpre
  obtain ⟨v1, v2, v3, v4, v5⟩ := hpre_
  refine WX.run ttOk rfl ?_
  refine WX.cases 9 rfl (fun h1 => ?_) (fun h1 => ?_)
  · skip
    have h1d := B.dt h1
    refine WX.run ttOk rfl ?_
    have hr1 : i < (a).length := (by first | assumption | omega)
    refine WX.idxR 501 i ttOk rfl rfl rfl rfl rfl rfl rfl rfl rfl hr1 ?_
    rintro ad1 rfl
    refine WX.run ttOk rfl ?_
    have e1i : i < (a2).length := (by first | assumption | omega)
    obtain ⟨e1, e1h⟩ : ∃ e1, (a2)[i]? = some e1 := ⟨_, List.getElem?_eq_getElem e1i⟩
    have ok1 : GoT.ok n e1 := v3 _ (List.mem_of_getElem? e1h)
    refine WX.opnE (α := Consumer) (e := e1) 501 2 3 i rfl rfl rfl e1h (fun _ => rfl) (fun _ _ _ => rfl) (fun _ _ _ => rfl) ?_
    rintro A1 B1 ⟨⟨⟩, ⟨⟩, ⟨p1, c1⟩, ⟨⟩, ⟨⟩, ⟨⟩, ⟨⟨p2, c2⟩, ⟨p3, c3⟩, ⟨p4, c4⟩, ⟨⟩, ⟨⟩⟩⟩ hA1 hB1
    refine WX.stA 501 ttOk rfl rfl rfl rfl rfl rfl rfl rfl rfl rfl rfl rfl rfl rfl hA1 hr1 rfl rfl rfl rfl (by simp) rfl ?_
    refine WX.run ttOk rfl ?_
    refine WX.see rfl rfl rfl (fun _ hΓ => looks_wrap rfl rfl rfl rfl) ?_
    refine WX.run ttOk rfl ?_
    have hr2 : i < (a).length := (by first | assumption | omega)
    refine WX.idxR 501 i ttOk rfl rfl rfl rfl rfl rfl rfl rfl rfl hr2 ?_
    rintro ad2 ⟨⟩
    refine WX.run ttOk rfl ?_
    refine WX.stA 501 ttOk rfl rfl rfl rfl rfl rfl rfl rfl rfl rfl rfl rfl rfl rfl hA1 hr2 rfl rfl rfl rfl (by simp) rfl ?_
    refine WX.run ttOk rfl ?_
    refine WX.see rfl rfl rfl (fun _ hΓ => looks_wrap rfl rfl rfl rfl) ?_
    refine WX.run ttOk rfl ?_
    have hr3 : i < (a).length := (by first | assumption | omega)
    refine WX.idxR 501 i ttOk rfl rfl rfl rfl rfl rfl rfl rfl rfl hr3 ?_
    rintro ad3 ⟨⟩
    refine WX.run ttOk rfl ?_
    refine WX.ldA 501 ttOk rfl rfl rfl rfl rfl rfl rfl rfl rfl rfl hA1 hr3 rfl ?_
    refine WX.run ttOk rfl ?_
    refine WX.callM [7] 13 rfl (fun _ _ h => GoT.ow_rd h) (fun _ f hf => GoT.fak f hf) rfl rfl rfl rfl rfl (fun _ => rfl) rfl (fun w G bs H hI hH hs hΓ => f198 w n (by omega) e1.name.parts p1 c1 (IntKind.i64.wrap ((IntKind.i64.wrap (k2 + 1)) + 1)) H hH hs (ok_Name (ok_Consumer ok1).2.2.1) (i64_wrap _)) (fun _ => rfl) (fun _ => rfl) ?_
    rintro ⟨⟩ hq1
    have hl1 : ((laws_markStringS e1.name.parts (IntKind.i64.wrap ((IntKind.i64.wrap (k2 + 1)) + 1))).2).length = (e1.name.parts).length := hq1.2
    refine WX.run ttOk rfl ?_
    have hr4 : i < (a).length := (by first | assumption | omega)
    refine WX.idxR 501 i ttOk rfl rfl rfl rfl rfl rfl rfl rfl rfl hr4 ?_
    rintro ad4 ⟨⟩
    refine WX.run ttOk rfl ?_
    refine WX.stA 501 ttOk rfl rfl rfl rfl rfl rfl rfl rfl rfl rfl rfl rfl rfl rfl hA1 hr4 rfl rfl rfl rfl (by simp) rfl ?_
    refine WX.run ttOk rfl ?_
    refine WX.see rfl rfl rfl (fun _ hΓ => looks_wrap rfl rfl rfl rfl) ?_
    refine WX.run ttOk rfl ?_
    have hr5 : i < (a).length := (by first | assumption | omega)
    refine WX.idxR 501 i ttOk rfl rfl rfl rfl rfl rfl rfl rfl rfl hr5 ?_
    rintro ad5 ⟨⟩
    refine WX.run ttOk rfl ?_
    refine WX.stA 501 ttOk rfl rfl rfl rfl rfl rfl rfl rfl rfl rfl rfl rfl rfl rfl hA1 hr5 rfl rfl rfl rfl (by simp) rfl ?_
    refine WX.run ttOk rfl ?_
    refine WX.see rfl rfl rfl (fun _ hΓ => looks_wrap rfl rfl rfl rfl) ?_
    refine WX.run ttOk rfl ?_
    have r2 := tmod_rng (IntKind.i64.wrap ((IntKind.i64.wrap (((laws_markStringS e1.name.parts (IntKind.i64.wrap ((IntKind.i64.wrap (k2 + 1)) + 1))).1) + 1)) + 1)) (show (0 : Int) < 3 by omega)
    refine WX.see rfl rfl rfl (fun _ hΓ => looks_rem rfl rfl rfl (by decide)) ?_
    refine WX.run ttOk rfl ?_
    have hr6 : i < (a).length := (by first | assumption | omega)
    refine WX.idxR 501 i ttOk rfl rfl rfl rfl rfl rfl rfl rfl rfl hr6 ?_
    rintro ad6 ⟨⟩
    refine WX.run ttOk rfl ?_
    refine WX.stA 501 ttOk rfl rfl rfl rfl rfl rfl rfl rfl rfl rfl rfl rfl rfl rfl hA1 hr6 rfl rfl rfl rfl (by simp) rfl ?_
    refine WX.run ttOk rfl ?_
    refine WX.see rfl rfl rfl (fun _ hΓ => looks_wrap rfl rfl rfl rfl) ?_
    refine WX.run ttOk rfl ?_
    have hr7 : i < (a).length := (by first | assumption | omega)
    refine WX.idxR 501 i ttOk rfl rfl rfl rfl rfl rfl rfl rfl rfl hr7 ?_
    rintro ad7 ⟨⟩
    refine WX.run ttOk rfl ?_
    refine WX.ldA 501 ttOk rfl rfl rfl rfl rfl rfl rfl rfl rfl rfl hA1 hr7 rfl ?_
    refine WX.run ttOk rfl ?_
    refine WX.callM [8] 15 rfl (fun _ _ h => GoT.ow_rd h) (fun _ f hf => GoT.fak f hf) rfl rfl rfl rfl rfl (fun _ => rfl) rfl (fun w G bs H hI hH hs hΓ => f198 w n (by omega) e1.data.name.parts p2 c2 (IntKind.i64.wrap ((IntKind.i64.wrap ((IntKind.i64.wrap (((laws_markStringS e1.name.parts (IntKind.i64.wrap ((IntKind.i64.wrap (k2 + 1)) + 1))).1) + 1)) + 1)) + 1)) H hH hs (ok_Name (ok_DataP (ok_Consumer ok1).2.2.2.2.2.2).1) (i64_wrap _)) (fun _ => rfl) (fun _ => rfl) ?_
    rintro ⟨⟩ hq2
    have hl2 : ((laws_markStringS e1.data.name.parts (IntKind.i64.wrap ((IntKind.i64.wrap ((IntKind.i64.wrap (((laws_markStringS e1.name.parts (IntKind.i64.wrap ((IntKind.i64.wrap (k2 + 1)) + 1))).1) + 1)) + 1)) + 1))).2).length = (e1.data.name.parts).length := hq2.2
    refine WX.run ttOk rfl ?_
    have hr8 : i < (a).length := (by first | assumption | omega)
    refine WX.idxR 501 i ttOk rfl rfl rfl rfl rfl rfl rfl rfl rfl hr8 ?_
    rintro ad8 ⟨⟩
    refine WX.run ttOk rfl ?_
    refine WX.ldA 501 ttOk rfl rfl rfl rfl rfl rfl rfl rfl rfl rfl hA1 hr8 rfl ?_
    refine WX.run ttOk rfl ?_
    refine WX.callM [9] 17 rfl (fun _ _ h => GoT.ow_rd h) (fun _ f hf => GoT.fak f hf) rfl rfl rfl rfl rfl (fun _ => rfl) rfl (fun w G bs H hI hH hs hΓ => f25 w n (by omega) e1.data.content p3 c3 ((laws_markStringS e1.data.name.parts (IntKind.i64.wrap ((IntKind.i64.wrap ((IntKind.i64.wrap (((laws_markStringS e1.name.parts (IntKind.i64.wrap ((IntKind.i64.wrap (k2 + 1)) + 1))).1) + 1)) + 1)) + 1))).1) H hH hs ((ok_DataP (ok_Consumer ok1).2.2.2.2.2.2).2.1) hq2.1.1) (fun _ => rfl) (fun _ => rfl) ?_
    rintro ⟨⟩ hq3
    have hl3 : ((laws_markByteS e1.data.content ((laws_markStringS e1.data.name.parts (IntKind.i64.wrap ((IntKind.i64.wrap ((IntKind.i64.wrap (((laws_markStringS e1.name.parts (IntKind.i64.wrap ((IntKind.i64.wrap (k2 + 1)) + 1))).1) + 1)) + 1)) + 1))).1)).2).length = (e1.data.content).length := hq3.2
    refine WX.run ttOk rfl ?_
    have hr9 : i < (a).length := (by first | assumption | omega)
    refine WX.idxR 501 i ttOk rfl rfl rfl rfl rfl rfl rfl rfl rfl hr9 ?_
    rintro ad9 ⟨⟩
    refine WX.run ttOk rfl ?_
    refine WX.ldA 501 ttOk rfl rfl rfl rfl rfl rfl rfl rfl rfl rfl hA1 hr9 rfl ?_
    refine WX.run ttOk rfl ?_
    refine WX.callM [10] 19 rfl (fun _ _ h => GoT.ow_rd h) (fun _ f hf => GoT.fak f hf) rfl rfl rfl rfl rfl (fun _ => rfl) rfl (fun w G bs H hI hH hs hΓ => f198 w n (by omega) e1.data.keyName.parts p4 c4 ((laws_markByteS e1.data.content ((laws_markStringS e1.data.name.parts (IntKind.i64.wrap ((IntKind.i64.wrap ((IntKind.i64.wrap (((laws_markStringS e1.name.parts (IntKind.i64.wrap ((IntKind.i64.wrap (k2 + 1)) + 1))).1) + 1)) + 1)) + 1))).1)).1) H hH hs (ok_Name (ok_DataP (ok_Consumer ok1).2.2.2.2.2.2).2.2.1) hq3.1.1) (fun _ => rfl) (fun _ => rfl) ?_
    rintro ⟨⟩ hq4
    have hl4 : ((laws_markStringS e1.data.keyName.parts ((laws_markByteS e1.data.content ((laws_markStringS e1.data.name.parts (IntKind.i64.wrap ((IntKind.i64.wrap ((IntKind.i64.wrap (((laws_markStringS e1.name.parts (IntKind.i64.wrap ((IntKind.i64.wrap (k2 + 1)) + 1))).1) + 1)) + 1)) + 1))).1)).1)).2).length = (e1.data.keyName.parts).length := hq4.2
    refine WX.run ttOk rfl ?_
    have hr10 : i < (a).length := (by first | assumption | omega)
    refine WX.idxR 501 i ttOk rfl rfl rfl rfl rfl rfl rfl rfl rfl hr10 ?_
    rintro ad10 ⟨⟩
    refine WX.run ttOk rfl ?_
    refine WX.stA 501 ttOk rfl rfl rfl rfl rfl rfl rfl rfl rfl rfl rfl rfl rfl rfl hA1 hr10 rfl rfl rfl rfl (by simp) rfl ?_
    refine WX.run ttOk rfl ?_
    refine WX.see rfl rfl rfl (fun _ hΓ => looks_wrap rfl rfl rfl rfl) ?_
    refine WX.run ttOk rfl ?_
    have hr11 : i < (a).length := (by first | assumption | omega)
    refine WX.idxR 501 i ttOk rfl rfl rfl rfl rfl rfl rfl rfl rfl hr11 ?_
    rintro ad11 ⟨⟩
    refine WX.run ttOk rfl ?_
    refine WX.stA 501 ttOk rfl rfl rfl rfl rfl rfl rfl rfl rfl rfl rfl rfl rfl rfl hA1 hr11 rfl rfl rfl rfl (by simp) rfl ?_
    refine WX.run ttOk rfl ?_
    refine WX.see rfl rfl rfl (fun _ hΓ => looks_wrap rfl rfl rfl rfl) ?_
    refine WX.run ttOk rfl ?_
    refine WX.see rfl rfl rfl (fun _ hΓ => looks_arith rfl rfl rfl rfl (by unfold I64; first | omega | (dsimp only; omega))) ?_
    refine WX.run ttOk rfl ?_
    refine WX.turn [14, 16, 18, 20, 11, 12] 21 rfl (fun h hs => by have z_ : Sep h [MF.ol (A1 ++ [.int .i64 (k2), .int .i64 (IntKind.i64.wrap (k2 + 1)), .slice p1 (((laws_markStringS e1.name.parts (IntKind.i64.wrap ((IntKind.i64.wrap (k2 + 1)) + 1))).2).length) c1, .int .i64 ((laws_markStringS e1.name.parts (IntKind.i64.wrap ((IntKind.i64.wrap (k2 + 1)) + 1))).1), .int .i64 (IntKind.i64.wrap (((laws_markStringS e1.name.parts (IntKind.i64.wrap ((IntKind.i64.wrap (k2 + 1)) + 1))).1) + 1)), .bool (Int.tmod (IntKind.i64.wrap ((IntKind.i64.wrap (((laws_markStringS e1.name.parts (IntKind.i64.wrap ((IntKind.i64.wrap (k2 + 1)) + 1))).1) + 1)) + 1)) 3 == 0), .slice p2 (((laws_markStringS e1.data.name.parts (IntKind.i64.wrap ((IntKind.i64.wrap ((IntKind.i64.wrap (((laws_markStringS e1.name.parts (IntKind.i64.wrap ((IntKind.i64.wrap (k2 + 1)) + 1))).1) + 1)) + 1)) + 1))).2).length) c2, .slice p3 (((laws_markByteS e1.data.content ((laws_markStringS e1.data.name.parts (IntKind.i64.wrap ((IntKind.i64.wrap ((IntKind.i64.wrap (((laws_markStringS e1.name.parts (IntKind.i64.wrap ((IntKind.i64.wrap (k2 + 1)) + 1))).1) + 1)) + 1)) + 1))).1)).2).length) c3, .slice p4 (((laws_markStringS e1.data.keyName.parts ((laws_markByteS e1.data.content ((laws_markStringS e1.data.name.parts (IntKind.i64.wrap ((IntKind.i64.wrap ((IntKind.i64.wrap (((laws_markStringS e1.name.parts (IntKind.i64.wrap ((IntKind.i64.wrap (k2 + 1)) + 1))).1) + 1)) + 1)) + 1))).1)).1)).2).length) c4, .int .i64 ((laws_markStringS e1.data.keyName.parts ((laws_markByteS e1.data.content ((laws_markStringS e1.data.name.parts (IntKind.i64.wrap ((IntKind.i64.wrap ((IntKind.i64.wrap (((laws_markStringS e1.name.parts (IntKind.i64.wrap ((IntKind.i64.wrap (k2 + 1)) + 1))).1) + 1)) + 1)) + 1))).1)).1)).1), .int .i64 (IntKind.i64.wrap (((laws_markStringS e1.data.keyName.parts ((laws_markByteS e1.data.content ((laws_markStringS e1.data.name.parts (IntKind.i64.wrap ((IntKind.i64.wrap ((IntKind.i64.wrap (((laws_markStringS e1.name.parts (IntKind.i64.wrap ((IntKind.i64.wrap (k2 + 1)) + 1))).1) + 1)) + 1)) + 1))).1)).1)).1) + 1))] ++ B1) (a2.set i (Consumer.mk k2 (IntKind.i64.wrap (k2 + 1)) (Name.mk ((laws_markStringS e1.name.parts (IntKind.i64.wrap ((IntKind.i64.wrap (k2 + 1)) + 1))).2)) ((laws_markStringS e1.name.parts (IntKind.i64.wrap ((IntKind.i64.wrap (k2 + 1)) + 1))).1) (IntKind.i64.wrap (((laws_markStringS e1.name.parts (IntKind.i64.wrap ((IntKind.i64.wrap (k2 + 1)) + 1))).1) + 1)) (Int.tmod (IntKind.i64.wrap ((IntKind.i64.wrap (((laws_markStringS e1.name.parts (IntKind.i64.wrap ((IntKind.i64.wrap (k2 + 1)) + 1))).1) + 1)) + 1)) 3 == 0) (DataP.mk (Name.mk ((laws_markStringS e1.data.name.parts (IntKind.i64.wrap ((IntKind.i64.wrap ((IntKind.i64.wrap (((laws_markStringS e1.name.parts (IntKind.i64.wrap ((IntKind.i64.wrap (k2 + 1)) + 1))).1) + 1)) + 1)) + 1))).2)) ((laws_markByteS e1.data.content ((laws_markStringS e1.data.name.parts (IntKind.i64.wrap ((IntKind.i64.wrap ((IntKind.i64.wrap (((laws_markStringS e1.name.parts (IntKind.i64.wrap ((IntKind.i64.wrap (k2 + 1)) + 1))).1) + 1)) + 1)) + 1))).1)).2) (Name.mk ((laws_markStringS e1.data.keyName.parts ((laws_markByteS e1.data.content ((laws_markStringS e1.data.name.parts (IntKind.i64.wrap ((IntKind.i64.wrap ((IntKind.i64.wrap (((laws_markStringS e1.name.parts (IntKind.i64.wrap ((IntKind.i64.wrap (k2 + 1)) + 1))).1) + 1)) + 1)) + 1))).1)).1)).2)) ((laws_markStringS e1.data.keyName.parts ((laws_markByteS e1.data.content ((laws_markStringS e1.data.name.parts (IntKind.i64.wrap ((IntKind.i64.wrap ((IntKind.i64.wrap (((laws_markStringS e1.name.parts (IntKind.i64.wrap ((IntKind.i64.wrap (k2 + 1)) + 1))).1) + 1)) + 1)) + 1))).1)).1)).1) (IntKind.i64.wrap (((laws_markStringS e1.data.keyName.parts ((laws_markByteS e1.data.content ((laws_markStringS e1.data.name.parts (IntKind.i64.wrap ((IntKind.i64.wrap ((IntKind.i64.wrap (((laws_markStringS e1.name.parts (IntKind.i64.wrap ((IntKind.i64.wrap (k2 + 1)) + 1))).1) + 1)) + 1)) + 1))).1)).1)).1) + 1)))))] := cl_elem (α := Consumer) (e := (Consumer.mk k2 (IntKind.i64.wrap (k2 + 1)) (Name.mk ((laws_markStringS e1.name.parts (IntKind.i64.wrap ((IntKind.i64.wrap (k2 + 1)) + 1))).2)) ((laws_markStringS e1.name.parts (IntKind.i64.wrap ((IntKind.i64.wrap (k2 + 1)) + 1))).1) (IntKind.i64.wrap (((laws_markStringS e1.name.parts (IntKind.i64.wrap ((IntKind.i64.wrap (k2 + 1)) + 1))).1) + 1)) (Int.tmod (IntKind.i64.wrap ((IntKind.i64.wrap (((laws_markStringS e1.name.parts (IntKind.i64.wrap ((IntKind.i64.wrap (k2 + 1)) + 1))).1) + 1)) + 1)) 3 == 0) (DataP.mk (Name.mk ((laws_markStringS e1.data.name.parts (IntKind.i64.wrap ((IntKind.i64.wrap ((IntKind.i64.wrap (((laws_markStringS e1.name.parts (IntKind.i64.wrap ((IntKind.i64.wrap (k2 + 1)) + 1))).1) + 1)) + 1)) + 1))).2)) ((laws_markByteS e1.data.content ((laws_markStringS e1.data.name.parts (IntKind.i64.wrap ((IntKind.i64.wrap ((IntKind.i64.wrap (((laws_markStringS e1.name.parts (IntKind.i64.wrap ((IntKind.i64.wrap (k2 + 1)) + 1))).1) + 1)) + 1)) + 1))).1)).2) (Name.mk ((laws_markStringS e1.data.keyName.parts ((laws_markByteS e1.data.content ((laws_markStringS e1.data.name.parts (IntKind.i64.wrap ((IntKind.i64.wrap ((IntKind.i64.wrap (((laws_markStringS e1.name.parts (IntKind.i64.wrap ((IntKind.i64.wrap (k2 + 1)) + 1))).1) + 1)) + 1)) + 1))).1)).1)).2)) ((laws_markStringS e1.data.keyName.parts ((laws_markByteS e1.data.content ((laws_markStringS e1.data.name.parts (IntKind.i64.wrap ((IntKind.i64.wrap ((IntKind.i64.wrap (((laws_markStringS e1.name.parts (IntKind.i64.wrap ((IntKind.i64.wrap (k2 + 1)) + 1))).1) + 1)) + 1)) + 1))).1)).1)).1) (IntKind.i64.wrap (((laws_markStringS e1.data.keyName.parts ((laws_markByteS e1.data.content ((laws_markStringS e1.data.name.parts (IntKind.i64.wrap ((IntKind.i64.wrap ((IntKind.i64.wrap (((laws_markStringS e1.name.parts (IntKind.i64.wrap ((IntKind.i64.wrap (k2 + 1)) + 1))).1) + 1)) + 1)) + 1))).1)).1)).1) + 1))))) (x := ((), (), (p1, c1), (), (), (), ((p2, c2), (p3, c3), (p4, c4), (), ()))) e1i hs; rw [hl1, hl2, hl3, hl4] at z_; exact z_) (gs := [MF.ol (A1 ++ [.int .i64 (k2), .int .i64 (IntKind.i64.wrap (k2 + 1)), .slice p1 ((e1.name.parts).length) c1, .int .i64 ((laws_markStringS e1.name.parts (IntKind.i64.wrap ((IntKind.i64.wrap (k2 + 1)) + 1))).1), .int .i64 (IntKind.i64.wrap (((laws_markStringS e1.name.parts (IntKind.i64.wrap ((IntKind.i64.wrap (k2 + 1)) + 1))).1) + 1)), .bool (Int.tmod (IntKind.i64.wrap ((IntKind.i64.wrap (((laws_markStringS e1.name.parts (IntKind.i64.wrap ((IntKind.i64.wrap (k2 + 1)) + 1))).1) + 1)) + 1)) 3 == 0), .slice p2 ((e1.data.name.parts).length) c2, .slice p3 ((e1.data.content).length) c3, .slice p4 ((e1.data.keyName.parts).length) c4, .int .i64 ((laws_markStringS e1.data.keyName.parts ((laws_markByteS e1.data.content ((laws_markStringS e1.data.name.parts (IntKind.i64.wrap ((IntKind.i64.wrap ((IntKind.i64.wrap (((laws_markStringS e1.name.parts (IntKind.i64.wrap ((IntKind.i64.wrap (k2 + 1)) + 1))).1) + 1)) + 1)) + 1))).1)).1)).1), .int .i64 (IntKind.i64.wrap (((laws_markStringS e1.data.keyName.parts ((laws_markByteS e1.data.content ((laws_markStringS e1.data.name.parts (IntKind.i64.wrap ((IntKind.i64.wrap ((IntKind.i64.wrap (((laws_markStringS e1.name.parts (IntKind.i64.wrap ((IntKind.i64.wrap (k2 + 1)) + 1))).1) + 1)) + 1)) + 1))).1)).1)).1) + 1))] ++ B1) (a2.set i (Consumer.mk k2 (IntKind.i64.wrap (k2 + 1)) (Name.mk ((laws_markStringS e1.name.parts (IntKind.i64.wrap ((IntKind.i64.wrap (k2 + 1)) + 1))).2)) ((laws_markStringS e1.name.parts (IntKind.i64.wrap ((IntKind.i64.wrap (k2 + 1)) + 1))).1) (IntKind.i64.wrap (((laws_markStringS e1.name.parts (IntKind.i64.wrap ((IntKind.i64.wrap (k2 + 1)) + 1))).1) + 1)) (Int.tmod (IntKind.i64.wrap ((IntKind.i64.wrap (((laws_markStringS e1.name.parts (IntKind.i64.wrap ((IntKind.i64.wrap (k2 + 1)) + 1))).1) + 1)) + 1)) 3 == 0) (DataP.mk (Name.mk ((laws_markStringS e1.data.name.parts (IntKind.i64.wrap ((IntKind.i64.wrap ((IntKind.i64.wrap (((laws_markStringS e1.name.parts (IntKind.i64.wrap ((IntKind.i64.wrap (k2 + 1)) + 1))).1) + 1)) + 1)) + 1))).2)) ((laws_markByteS e1.data.content ((laws_markStringS e1.data.name.parts (IntKind.i64.wrap ((IntKind.i64.wrap ((IntKind.i64.wrap (((laws_markStringS e1.name.parts (IntKind.i64.wrap ((IntKind.i64.wrap (k2 + 1)) + 1))).1) + 1)) + 1)) + 1))).1)).2) (Name.mk ((laws_markStringS e1.data.keyName.parts ((laws_markByteS e1.data.content ((laws_markStringS e1.data.name.parts (IntKind.i64.wrap ((IntKind.i64.wrap ((IntKind.i64.wrap (((laws_markStringS e1.name.parts (IntKind.i64.wrap ((IntKind.i64.wrap (k2 + 1)) + 1))).1) + 1)) + 1)) + 1))).1)).1)).2)) ((laws_markStringS e1.data.keyName.parts ((laws_markByteS e1.data.content ((laws_markStringS e1.data.name.parts (IntKind.i64.wrap ((IntKind.i64.wrap ((IntKind.i64.wrap (((laws_markStringS e1.name.parts (IntKind.i64.wrap ((IntKind.i64.wrap (k2 + 1)) + 1))).1) + 1)) + 1)) + 1))).1)).1)).1) (IntKind.i64.wrap (((laws_markStringS e1.data.keyName.parts ((laws_markByteS e1.data.content ((laws_markStringS e1.data.name.parts (IntKind.i64.wrap ((IntKind.i64.wrap ((IntKind.i64.wrap (((laws_markStringS e1.name.parts (IntKind.i64.wrap ((IntKind.i64.wrap (k2 + 1)) + 1))).1) + 1)) + 1)) + 1))).1)).1)).1) + 1)))))]) rfl ?_
    refine WX.turn [21] 2 rfl (fun _ h => h) rfl ?_
    exact WX.iter ((A1 ++ [.int .i64 (k2), .int .i64 (IntKind.i64.wrap (k2 + 1)), .slice p1 ((e1.name.parts).length) c1, .int .i64 ((laws_markStringS e1.name.parts (IntKind.i64.wrap ((IntKind.i64.wrap (k2 + 1)) + 1))).1), .int .i64 (IntKind.i64.wrap (((laws_markStringS e1.name.parts (IntKind.i64.wrap ((IntKind.i64.wrap (k2 + 1)) + 1))).1) + 1)), .bool (Int.tmod (IntKind.i64.wrap ((IntKind.i64.wrap (((laws_markStringS e1.name.parts (IntKind.i64.wrap ((IntKind.i64.wrap (k2 + 1)) + 1))).1) + 1)) + 1)) 3 == 0), .slice p2 ((e1.data.name.parts).length) c2, .slice p3 ((e1.data.content).length) c3, .slice p4 ((e1.data.keyName.parts).length) c4, .int .i64 ((laws_markStringS e1.data.keyName.parts ((laws_markByteS e1.data.content ((laws_markStringS e1.data.name.parts (IntKind.i64.wrap ((IntKind.i64.wrap ((IntKind.i64.wrap (((laws_markStringS e1.name.parts (IntKind.i64.wrap ((IntKind.i64.wrap (k2 + 1)) + 1))).1) + 1)) + 1)) + 1))).1)).1)).1), .int .i64 (IntKind.i64.wrap (((laws_markStringS e1.data.keyName.parts ((laws_markByteS e1.data.content ((laws_markStringS e1.data.name.parts (IntKind.i64.wrap ((IntKind.i64.wrap ((IntKind.i64.wrap (((laws_markStringS e1.name.parts (IntKind.i64.wrap ((IntKind.i64.wrap (k2 + 1)) + 1))).1) + 1)) + 1)) + 1))).1)).1)).1) + 1))] ++ B1), ((a2.set i (Consumer.mk k2 (IntKind.i64.wrap (k2 + 1)) (Name.mk ((laws_markStringS e1.name.parts (IntKind.i64.wrap ((IntKind.i64.wrap (k2 + 1)) + 1))).2)) ((laws_markStringS e1.name.parts (IntKind.i64.wrap ((IntKind.i64.wrap (k2 + 1)) + 1))).1) (IntKind.i64.wrap (((laws_markStringS e1.name.parts (IntKind.i64.wrap ((IntKind.i64.wrap (k2 + 1)) + 1))).1) + 1)) (Int.tmod (IntKind.i64.wrap ((IntKind.i64.wrap (((laws_markStringS e1.name.parts (IntKind.i64.wrap ((IntKind.i64.wrap (k2 + 1)) + 1))).1) + 1)) + 1)) 3 == 0) (DataP.mk (Name.mk ((laws_markStringS e1.data.name.parts (IntKind.i64.wrap ((IntKind.i64.wrap ((IntKind.i64.wrap (((laws_markStringS e1.name.parts (IntKind.i64.wrap ((IntKind.i64.wrap (k2 + 1)) + 1))).1) + 1)) + 1)) + 1))).2)) ((laws_markByteS e1.data.content ((laws_markStringS e1.data.name.parts (IntKind.i64.wrap ((IntKind.i64.wrap ((IntKind.i64.wrap (((laws_markStringS e1.name.parts (IntKind.i64.wrap ((IntKind.i64.wrap (k2 + 1)) + 1))).1) + 1)) + 1)) + 1))).1)).2) (Name.mk ((laws_markStringS e1.data.keyName.parts ((laws_markByteS e1.data.content ((laws_markStringS e1.data.name.parts (IntKind.i64.wrap ((IntKind.i64.wrap ((IntKind.i64.wrap (((laws_markStringS e1.name.parts (IntKind.i64.wrap ((IntKind.i64.wrap (k2 + 1)) + 1))).1) + 1)) + 1)) + 1))).1)).1)).2)) ((laws_markStringS e1.data.keyName.parts ((laws_markByteS e1.data.content ((laws_markStringS e1.data.name.parts (IntKind.i64.wrap ((IntKind.i64.wrap ((IntKind.i64.wrap (((laws_markStringS e1.name.parts (IntKind.i64.wrap ((IntKind.i64.wrap (k2 + 1)) + 1))).1) + 1)) + 1)) + 1))).1)).1)).1) (IntKind.i64.wrap (((laws_markStringS e1.data.keyName.parts ((laws_markByteS e1.data.content ((laws_markStringS e1.data.name.parts (IntKind.i64.wrap ((IntKind.i64.wrap ((IntKind.i64.wrap (((laws_markStringS e1.name.parts (IntKind.i64.wrap ((IntKind.i64.wrap (k2 + 1)) + 1))).1) + 1)) + 1)) + 1))).1)).1)).1) + 1))))) : List Consumer), IntKind.i64.wrap ((IntKind.i64.wrap (((laws_markStringS e1.data.keyName.parts ((laws_markByteS e1.data.content ((laws_markStringS e1.data.name.parts (IntKind.i64.wrap ((IntKind.i64.wrap ((IntKind.i64.wrap (((laws_markStringS e1.name.parts (IntKind.i64.wrap ((IntKind.i64.wrap (k2 + 1)) + 1))).1) + 1)) + 1)) + 1))).1)).1)).1) + 1)) + 1), i + 1) ⟨(by omega), (by first | assumption | omega | (simp only [List.length_append, List.length_cons, List.length_nil, List.length_set, List.length_map, List.length_take, List.length_drop]; omega) | (simp; omega)), (all_set v3 (show GoT.ok n ((Consumer.mk k2 (IntKind.i64.wrap (k2 + 1)) (Name.mk ((laws_markStringS e1.name.parts (IntKind.i64.wrap ((IntKind.i64.wrap (k2 + 1)) + 1))).2)) ((laws_markStringS e1.name.parts (IntKind.i64.wrap ((IntKind.i64.wrap (k2 + 1)) + 1))).1) (IntKind.i64.wrap (((laws_markStringS e1.name.parts (IntKind.i64.wrap ((IntKind.i64.wrap (k2 + 1)) + 1))).1) + 1)) (Int.tmod (IntKind.i64.wrap ((IntKind.i64.wrap (((laws_markStringS e1.name.parts (IntKind.i64.wrap ((IntKind.i64.wrap (k2 + 1)) + 1))).1) + 1)) + 1)) 3 == 0) (DataP.mk (Name.mk ((laws_markStringS e1.data.name.parts (IntKind.i64.wrap ((IntKind.i64.wrap ((IntKind.i64.wrap (((laws_markStringS e1.name.parts (IntKind.i64.wrap ((IntKind.i64.wrap (k2 + 1)) + 1))).1) + 1)) + 1)) + 1))).2)) ((laws_markByteS e1.data.content ((laws_markStringS e1.data.name.parts (IntKind.i64.wrap ((IntKind.i64.wrap ((IntKind.i64.wrap (((laws_markStringS e1.name.parts (IntKind.i64.wrap ((IntKind.i64.wrap (k2 + 1)) + 1))).1) + 1)) + 1)) + 1))).1)).2) (Name.mk ((laws_markStringS e1.data.keyName.parts ((laws_markByteS e1.data.content ((laws_markStringS e1.data.name.parts (IntKind.i64.wrap ((IntKind.i64.wrap ((IntKind.i64.wrap (((laws_markStringS e1.name.parts (IntKind.i64.wrap ((IntKind.i64.wrap (k2 + 1)) + 1))).1) + 1)) + 1)) + 1))).1)).1)).2)) ((laws_markStringS e1.data.keyName.parts ((laws_markByteS e1.data.content ((laws_markStringS e1.data.name.parts (IntKind.i64.wrap ((IntKind.i64.wrap ((IntKind.i64.wrap (((laws_markStringS e1.name.parts (IntKind.i64.wrap ((IntKind.i64.wrap (k2 + 1)) + 1))).1) + 1)) + 1)) + 1))).1)).1)).1) (IntKind.i64.wrap (((laws_markStringS e1.data.keyName.parts ((laws_markByteS e1.data.content ((laws_markStringS e1.data.name.parts (IntKind.i64.wrap ((IntKind.i64.wrap ((IntKind.i64.wrap (((laws_markStringS e1.name.parts (IntKind.i64.wrap ((IntKind.i64.wrap (k2 + 1)) + 1))).1) + 1)) + 1)) + 1))).1)).1)).1) + 1)))) : Consumer) from (And.intro v4 (And.intro (i64_wrap _) (And.intro hq1.1.2 (And.intro hq1.1.1 (And.intro (i64_wrap _) (And.intro trivial (And.intro hq2.1.2 (And.intro hq3.1.2 (And.intro hq4.1.2 (And.intro hq4.1.1 (i64_wrap _))))))))))))), (i64_wrap _), (by rw [v5, show (a).length - i = ((a).length - (i + 1)) + 1 by omega]; simp only [laws_markConsumerS_L1, e1h, cond_true, cond_false])⟩ (by dsimp only; omega) (.cons rfl (.cons rfl (.cons rfl (.nil)))) .nil (.cons rfl (.nil)) [2] rfl
  · skip
    have h1d := B.df h1
    refine WX.run ttOk rfl ?_
    have hX1 : laws_markConsumerS_L1 ((a).length) 0 (a : List Consumer) k = (((a2) : List Consumer), k2) := by rw [v5, show (a).length - i = 0 by omega]; simp only [laws_markConsumerS_L1, cond_true, cond_false]
    refine WX.seal 501 2 22 rfl rfl (show (a).length = (a2).length from by omega) rfl rfl ?_
    refine WX.slot 7 (y := .v (.slice pa (a2).length ca)) rfl (fun _ => by show (Value.slice pa ((a).length) ca : Value) = Value.slice pa (a2).length ca; rw [(show (a).length = (a2).length from by omega)]) ?_
    refine WX.slot 0 (y := .v (.slice pa (a2).length ca)) rfl (fun _ => by show (Value.slice pa ((a).length) ca : Value) = Value.slice pa (a2).length ca; rw [(show (a).length = (a2).length from by omega)]) ?_
    have hP1 : laws_markConsumerS a k = (k2, a2) := by simp only [laws_markConsumerS, hX1, cond_true, cond_false]
    refine WX.ret ttOk rfl ?_
    intro w1 G bs hI hΓ
    rw [hP1]
    exact Post.of [23] () hI hΓ rfl rfl rfl ⟨⟨v4, (okl_mk (by omega) v3 : GoT.ok n (a2 : List Consumer))⟩, (show (a2).length = (a).length from by omega)⟩
theorem f51 (w : World) (n : Nat) (hn : n + 0 ≤ 9) (a : Network) (paTopologyLinks : Option Addr) (caTopologyLinks : Nat) (paTrustKeys : Option Addr) (caTrustKeys : Nat) (paTrustRules : Option Addr) (caTrustRules : Nat) (paTrustAnchors : Option Addr) (caTrustAnchors : Nat) (paTrustCertificates : Option Addr) (caTrustCertificates : Nat) (paProducers : Option Addr) (caProducers : Nat) (paNodes : Option Addr) (caNodes : Nat) (paFailedLinks : Option Addr) (caFailedLinks : Nat) (paInFlight : Option Addr) (caInFlight : Nat) (paConsumers : Option Addr) (caConsumers : Nat) (k : Int) (H : GH) (hH : Le H (hp w)) (hown : Sep H (GoT.oa a (((), (paTopologyLinks, caTopologyLinks)), ((paTrustKeys, caTrustKeys), (paTrustRules, caTrustRules), (paTrustAnchors, caTrustAnchors), (paTrustCertificates, caTrustCertificates)), (paProducers, caProducers), (paNodes, caNodes), (), (paFailedLinks, caFailedLinks), (paInFlight, caInFlight), (paConsumers, caConsumers), (), ()))) (hoka : GoT.ok n a) (hokk : GoT.ok n k) :
    Does Tryz.prog 51 #[.agg #[.int .i64 (a.topology.size), .slice paTopologyLinks ((a.topology.links).length) caTopologyLinks, .slice paTrustKeys ((a.trust.keys).length) caTrustKeys, .slice paTrustRules ((a.trust.rules).length) caTrustRules, .slice paTrustAnchors ((a.trust.anchors).length) caTrustAnchors, .slice paTrustCertificates ((a.trust.certificates).length) caTrustCertificates, .slice paProducers ((a.producers).length) caProducers, .slice paNodes ((a.nodes).length) caNodes, .int .i64 (a.downNodes), .slice paFailedLinks ((a.failedLinks).length) caFailedLinks, .slice paInFlight ((a.inFlight).length) caInFlight, .slice paConsumers ((a.consumers).length) caConsumers, .int .i64 (a.now), .int .i64 (a.dropped)], .int .i64 (k)] w H (Post w H (fun _ : Unit => .int .i64 ((laws_markNetwork a k).1)) (fun _ => GoT.oa ((laws_markNetwork a k).2 : Network) (((), (paTopologyLinks, caTopologyLinks)), ((paTrustKeys, caTrustKeys), (paTrustRules, caTrustRules), (paTrustAnchors, caTrustAnchors), (paTrustCertificates, caTrustCertificates)), (paProducers, caProducers), (paNodes, caNodes), (), (paFailedLinks, caFailedLinks), (paInFlight, caInFlight), (paConsumers, caConsumers), (), ())) ((GoT.ok n ((laws_markNetwork a k).1 : Int) ∧ GoT.ok n ((laws_markNetwork a k).2 : Network)) ∧ (laws_markNetwork a k).2.topology.size = a.topology.size ∧ ((laws_markNetwork a k).2.topology.links).length = (a.topology.links).length ∧ ((laws_markNetwork a k).2.trust.keys).length = (a.trust.keys).length ∧ ((laws_markNetwork a k).2.trust.rules).length = (a.trust.rules).length ∧ ((laws_markNetwork a k).2.trust.anchors).length = (a.trust.anchors).length ∧ ((laws_markNetwork a k).2.trust.certificates).length = (a.trust.certificates).length ∧ ((laws_markNetwork a k).2.producers).length = (a.producers).length ∧ ((laws_markNetwork a k).2.nodes).length = (a.nodes).length ∧ (laws_markNetwork a k).2.downNodes = a.downNodes ∧ ((laws_markNetwork a k).2.failedLinks).length = (a.failedLinks).length ∧ ((laws_markNetwork a k).2.inFlight).length = (a.inFlight).length ∧ ((laws_markNetwork a k).2.consumers).length = (a.consumers).length ∧ (laws_markNetwork a k).2.now = a.now ∧ (laws_markNetwork a k).2.dropped = a.dropped)) := by
  have hbP := bd_pos n
  have hbB := bd_big (n := n) (by omega)
  refine WX.enterM (tt := tt) (Γ := []) 10 Tryz.func51 rfl (by kernel_rfl) rfl allS_nil hH hown (fun f hf => GoT.oak f hf) rfl ?_
  refine WX.run ttOk rfl ?_
  refine WX.callM [10] 20 rfl (fun _ _ h => GoT.ow_rd h) (fun _ f hf => GoT.fak f hf) rfl rfl rfl rfl rfl (fun _ => rfl) rfl (fun w G bs H hI hH hs hΓ => f52 w n (by omega) a.topology paTopologyLinks caTopologyLinks k H hH hs ((ok_Network hoka).1) hokk) (fun _ => rfl) (fun _ => rfl) ?_
  rintro ⟨⟩ hq1
  have hl1 : ((laws_markTopology a.topology k).2.links).length = (a.topology.links).length := hq1.2.2
  refine WX.run ttOk rfl ?_
  refine WX.callM [11, 12, 13, 14] 22 rfl (fun _ _ h => GoT.ow_rd h) (fun _ f hf => GoT.fak f hf) rfl rfl rfl rfl rfl (fun _ => rfl) rfl (fun w G bs H hI hH hs hΓ => f40 w n (by omega) a.trust paTrustKeys caTrustKeys paTrustRules caTrustRules paTrustAnchors caTrustAnchors paTrustCertificates caTrustCertificates ((laws_markTopology a.topology k).1) H hH hs ((ok_Network hoka).2.1) hq1.1.1) (fun _ => rfl) (fun _ => rfl) ?_
  rintro ⟨⟩ hq2
  have hl2 : ((laws_markTrustPolicy a.trust ((laws_markTopology a.topology k).1)).2.keys).length = (a.trust.keys).length := hq2.2.1
  have hl3 : ((laws_markTrustPolicy a.trust ((laws_markTopology a.topology k).1)).2.rules).length = (a.trust.rules).length := hq2.2.2.1
  have hl4 : ((laws_markTrustPolicy a.trust ((laws_markTopology a.topology k).1)).2.anchors).length = (a.trust.anchors).length := hq2.2.2.2.1
  have hl5 : ((laws_markTrustPolicy a.trust ((laws_markTopology a.topology k).1)).2.certificates).length = (a.trust.certificates).length := hq2.2.2.2.2
  refine WX.run ttOk rfl ?_
  refine WX.callM [15] 30 rfl (fun _ _ h => GoT.ow_rd h) (fun _ f hf => GoT.fak f hf) rfl rfl rfl rfl rfl (fun _ => rfl) rfl (fun w G bs H hI hH hs hΓ => f149 w n (by omega) a.producers paProducers caProducers ((laws_markTrustPolicy a.trust ((laws_markTopology a.topology k).1)).1) H hH hs ((ok_Network hoka).2.2.1) hq2.1.1) (fun _ => rfl) (fun _ => rfl) ?_
  rintro ⟨⟩ hq3
  have hl6 : ((laws_markTableEntryS a.producers ((laws_markTrustPolicy a.trust ((laws_markTopology a.topology k).1)).1)).2).length = (a.producers).length := hq3.2
  refine WX.run ttOk rfl ?_
  refine WX.callM [16] 32 rfl (fun _ _ h => GoT.ow_rd h) (fun _ f hf => GoT.fak f hf) rfl rfl rfl rfl rfl (fun _ => rfl) rfl (fun w G bs H hI hH hs hΓ => f150 w n (by omega) a.nodes paNodes caNodes ((laws_markTableEntryS a.producers ((laws_markTrustPolicy a.trust ((laws_markTopology a.topology k).1)).1)).1) H hH hs ((ok_Network hoka).2.2.2.1) hq3.1.1) (fun _ => rfl) (fun _ => rfl) ?_
  rintro ⟨⟩ hq4
  have hl7 : ((laws_markNodeS a.nodes ((laws_markTableEntryS a.producers ((laws_markTrustPolicy a.trust ((laws_markTopology a.topology k).1)).1)).1)).2).length = (a.nodes).length := hq4.2
  refine WX.run ttOk rfl ?_
  refine WX.callM [17] 34 rfl (fun _ _ h => GoT.ow_rd h) (fun _ f hf => GoT.fak f hf) rfl rfl rfl rfl rfl (fun _ => rfl) rfl (fun w G bs H hI hH hs hΓ => f151 w n (by omega) a.failedLinks paFailedLinks caFailedLinks ((laws_markNodeS a.nodes ((laws_markTableEntryS a.producers ((laws_markTrustPolicy a.trust ((laws_markTopology a.topology k).1)).1)).1)).1) H hH hs ((ok_Network hoka).2.2.2.2.2.1) hq4.1.1) (fun _ => rfl) (fun _ => rfl) ?_
  rintro ⟨⟩ hq5
  have hl8 : ((laws_markIntS a.failedLinks ((laws_markNodeS a.nodes ((laws_markTableEntryS a.producers ((laws_markTrustPolicy a.trust ((laws_markTopology a.topology k).1)).1)).1)).1)).2).length = (a.failedLinks).length := hq5.2
  refine WX.run ttOk rfl ?_
  refine WX.callM [18] 36 rfl (fun _ _ h => GoT.ow_rd h) (fun _ f hf => GoT.fak f hf) rfl rfl rfl rfl rfl (fun _ => rfl) rfl (fun w G bs H hI hH hs hΓ => f152 w n (by omega) a.inFlight paInFlight caInFlight ((laws_markIntS a.failedLinks ((laws_markNodeS a.nodes ((laws_markTableEntryS a.producers ((laws_markTrustPolicy a.trust ((laws_markTopology a.topology k).1)).1)).1)).1)).1) H hH hs ((ok_Network hoka).2.2.2.2.2.2.1) hq5.1.1) (fun _ => rfl) (fun _ => rfl) ?_
  rintro ⟨⟩ hq6
  have hl9 : ((laws_markPacketInFlightS a.inFlight ((laws_markIntS a.failedLinks ((laws_markNodeS a.nodes ((laws_markTableEntryS a.producers ((laws_markTrustPolicy a.trust ((laws_markTopology a.topology k).1)).1)).1)).1)).1)).2).length = (a.inFlight).length := hq6.2
  refine WX.run ttOk rfl ?_
  refine WX.callM [19] 38 rfl (fun _ _ h => GoT.ow_rd h) (fun _ f hf => GoT.fak f hf) rfl rfl rfl rfl rfl (fun _ => rfl) rfl (fun w G bs H hI hH hs hΓ => f153 w n (by omega) a.consumers paConsumers caConsumers ((laws_markPacketInFlightS a.inFlight ((laws_markIntS a.failedLinks ((laws_markNodeS a.nodes ((laws_markTableEntryS a.producers ((laws_markTrustPolicy a.trust ((laws_markTopology a.topology k).1)).1)).1)).1)).1)).1) H hH hs ((ok_Network hoka).2.2.2.2.2.2.2.1) hq6.1.1) (fun _ => rfl) (fun _ => rfl) ?_
  rintro ⟨⟩ hq7
  have hl10 : ((laws_markConsumerS a.consumers ((laws_markPacketInFlightS a.inFlight ((laws_markIntS a.failedLinks ((laws_markNodeS a.nodes ((laws_markTableEntryS a.producers ((laws_markTrustPolicy a.trust ((laws_markTopology a.topology k).1)).1)).1)).1)).1)).1)).2).length = (a.consumers).length := hq7.2
  refine WX.run ttOk rfl ?_
  have hP1 : laws_markNetwork a k = ((laws_markConsumerS a.consumers ((laws_markPacketInFlightS a.inFlight ((laws_markIntS a.failedLinks ((laws_markNodeS a.nodes ((laws_markTableEntryS a.producers ((laws_markTrustPolicy a.trust ((laws_markTopology a.topology k).1)).1)).1)).1)).1)).1)).1, Network.mk (Topology.mk a.topology.size ((laws_markTopology a.topology k).2.links)) ((laws_markTrustPolicy a.trust ((laws_markTopology a.topology k).1)).2) ((laws_markTableEntryS a.producers ((laws_markTrustPolicy a.trust ((laws_markTopology a.topology k).1)).1)).2) ((laws_markNodeS a.nodes ((laws_markTableEntryS a.producers ((laws_markTrustPolicy a.trust ((laws_markTopology a.topology k).1)).1)).1)).2) a.downNodes ((laws_markIntS a.failedLinks ((laws_markNodeS a.nodes ((laws_markTableEntryS a.producers ((laws_markTrustPolicy a.trust ((laws_markTopology a.topology k).1)).1)).1)).1)).2) ((laws_markPacketInFlightS a.inFlight ((laws_markIntS a.failedLinks ((laws_markNodeS a.nodes ((laws_markTableEntryS a.producers ((laws_markTrustPolicy a.trust ((laws_markTopology a.topology k).1)).1)).1)).1)).1)).2) ((laws_markConsumerS a.consumers ((laws_markPacketInFlightS a.inFlight ((laws_markIntS a.failedLinks ((laws_markNodeS a.nodes ((laws_markTableEntryS a.producers ((laws_markTrustPolicy a.trust ((laws_markTopology a.topology k).1)).1)).1)).1)).1)).1)).2) a.now a.dropped) := by simp only [laws_markNetwork, cond_true, cond_false]
  refine WX.ret ttOk rfl ?_
  intro w1 G bs hI hΓ
  rw [hP1]
  exact Post.of [21, 26, 27, 28, 29, 31, 33, 35, 37, 39] () hI hΓ rfl rfl rfl ⟨⟨hq7.1.1, (And.intro (And.intro (ok_Topology (ok_Network hoka).1).1 (ok_Topology hq1.1.2).2) (And.intro hq2.1.2 (And.intro hq3.1.2 (And.intro hq4.1.2 (And.intro (ok_Network hoka).2.2.2.2.1 (And.intro hq5.1.2 (And.intro hq6.1.2 (And.intro hq7.1.2 (And.intro (ok_Network hoka).2.2.2.2.2.2.2.2.1 (ok_Network hoka).2.2.2.2.2.2.2.2.2)))))))))⟩, ⟨rfl, ⟨(show ((laws_markTopology a.topology k).2.links).length = (a.topology.links).length from by omega), ⟨(show ((laws_markTrustPolicy a.trust ((laws_markTopology a.topology k).1)).2.keys).length = (a.trust.keys).length from by omega), ⟨(show ((laws_markTrustPolicy a.trust ((laws_markTopology a.topology k).1)).2.rules).length = (a.trust.rules).length from by omega), ⟨(show ((laws_markTrustPolicy a.trust ((laws_markTopology a.topology k).1)).2.anchors).length = (a.trust.anchors).length from by omega), ⟨(show ((laws_markTrustPolicy a.trust ((laws_markTopology a.topology k).1)).2.certificates).length = (a.trust.certificates).length from by omega), ⟨(show ((laws_markTableEntryS a.producers ((laws_markTrustPolicy a.trust ((laws_markTopology a.topology k).1)).1)).2).length = (a.producers).length from by omega), ⟨(show ((laws_markNodeS a.nodes ((laws_markTableEntryS a.producers ((laws_markTrustPolicy a.trust ((laws_markTopology a.topology k).1)).1)).1)).2).length = (a.nodes).length from by omega), ⟨rfl, ⟨(show ((laws_markIntS a.failedLinks ((laws_markNodeS a.nodes ((laws_markTableEntryS a.producers ((laws_markTrustPolicy a.trust ((laws_markTopology a.topology k).1)).1)).1)).1)).2).length = (a.failedLinks).length from by omega), ⟨(show ((laws_markPacketInFlightS a.inFlight ((laws_markIntS a.failedLinks ((laws_markNodeS a.nodes ((laws_markTableEntryS a.producers ((laws_markTrustPolicy a.trust ((laws_markTopology a.topology k).1)).1)).1)).1)).1)).2).length = (a.inFlight).length from by omega), ⟨(show ((laws_markConsumerS a.consumers ((laws_markPacketInFlightS a.inFlight ((laws_markIntS a.failedLinks ((laws_markNodeS a.nodes ((laws_markTableEntryS a.producers ((laws_markTrustPolicy a.trust ((laws_markTopology a.topology k).1)).1)).1)).1)).1)).1)).2).length = (a.consumers).length from by omega), ⟨rfl, rfl⟩⟩⟩⟩⟩⟩⟩⟩⟩⟩⟩⟩⟩⟩
end Go.Proofs.YtfffongneoegbaaGreat
namespace Go.Stp
set_option linter.unusedVariables false
set_option linter.unusedSimpArgs false
def laws_heldStringS_L1 : List Str → Int → Ctl (Int) (Int)
  | [], k2 => (Ctl.nxt k2)
  | e1 :: rest_, k2 =>
    bif (!((e1).toList == ((laws_markText k2)).toList)) then
      (Ctl.ret (-1))
    else
      laws_heldStringS_L1 rest_ (IntKind.i64.wrap (k2 + 1))
def laws_heldStringS (a : (List Str)) (k : Int) : Int :=
  match laws_heldStringS_L1 a k with
    | .ret r_ => r_
    | .nxt k2 =>
      k2
def laws_heldTableEntryS_L1 : List TableEntry → Int → Ctl (Int) (Int)
  | [], k2 => (Ctl.nxt k2)
  | e1 :: rest_, k2 =>
    bif decide ((laws_heldStringS e1.name.parts k2) < 0) then
      (Ctl.ret (-1))
    else
      bif (e1.value != (laws_heldStringS e1.name.parts k2)) then
        (Ctl.ret (-1))
      else
        laws_heldTableEntryS_L1 rest_ (IntKind.i64.wrap ((laws_heldStringS e1.name.parts k2) + 1))
def laws_heldTableEntryS (a : (List TableEntry)) (k : Int) : Int :=
  match laws_heldTableEntryS_L1 a k with
    | .ret r_ => r_
    | .nxt k2 =>
      k2
def laws_heldByteS_L1 : List UInt8 → Int → Ctl (Int) (Int)
  | [], k2 => (Ctl.nxt k2)
  | e1 :: rest_, k2 =>
    bif (((e1).toNat : Int) != ((toU8 k2).toNat : Int)) then
      (Ctl.ret (-1))
    else
      laws_heldByteS_L1 rest_ (IntKind.i64.wrap (k2 + 1))
def laws_heldByteS (a : (List UInt8)) (k : Int) : Int :=
  match laws_heldByteS_L1 a k with
    | .ret r_ => r_
    | .nxt k2 =>
      k2
def laws_heldLinkS_L1 : List Link → Int → Ctl (Int) (Int)
  | [], k2 => (Ctl.nxt k2)
  | e1 :: rest_, k2 =>
    bif (e1.a != k2) then
      (Ctl.ret (-1))
    else
      bif (e1.b != IntKind.i64.wrap (k2 + 1)) then
        (Ctl.ret (-1))
      else
        laws_heldLinkS_L1 rest_ (IntKind.i64.wrap ((IntKind.i64.wrap (k2 + 1)) + 1))
def laws_heldLinkS (a : (List Link)) (k : Int) : Int :=
  match laws_heldLinkS_L1 a k with
    | .ret r_ => r_
    | .nxt k2 =>
      k2
def laws_heldTopology (a : Topology) (k : Int) : Int :=
  bif decide ((laws_heldLinkS a.links k) < 0) then
    (-1)
  else
    (laws_heldLinkS a.links k)
end Go.Stp

namespace Go.Proofs.YtfffongneoegbaaGreat
open Go.Stp
set_option linter.unusedVariables false
set_option linter.unusedSimpArgs false
theorem f155 (w : World) (n : Nat) (hn : n + 0 ≤ 9) (a : (List Link)) (pa : Option Addr) (ca : Nat) (hpa : RdSl (hp w) pa ca a) (k : Int) (hoka : GoT.ok n a) (hokk : GoT.ok n k) :
    Does Tryz.prog 155 #[.slice pa ((a).length) ca, .int .i64 (k)] w emp (fun (rv : Value) (_ : World) => rv = .int .i64 ((laws_heldLinkS a k)) ∧ GoT.ok n ((laws_heldLinkS a k) : Int)) := by
  have hbP := bd_pos n
  have hbB := bd_big (n := n) (by omega)
  refine WX.enter (tt := tt) (Γ := [(0, MF.rs .stb pa ca a)]) Tryz.func155 rfl (by kernel_rfl) rfl (allS_cons rfl hpa allS_nil) ?_
  refine WX.run ttOk rfl ?_
  have r1 : (a).length ≤ bd n := (okl hoka).1
  refine WX.loop (ι := Int × Nat) ⟨fun | (k2, i) => (i ≤ (a).length) ∧ (-9223372036854775808 ≤ k2 ∧ k2 ≤ 9223372036854775807) ∧ (laws_heldLinkS_L1 a k = laws_heldLinkS_L1 ((a).drop i) k2), fun | (k2, i) => (a).length - i, fun | (k2, i) => [(1, .v (.int .i64 (k2))), (5, .v (.int .i64 (((i : Nat) : Int)))), (0, .v (.slice pa ((a).length) ca))], fun | (k2, i) => [], fun | (k2, i) => [], fun | (k2, i) => [(0, MF.rs .stb pa ca a)]⟩ (k, 0) ⟨(Nat.zero_le _), hokk, rfl⟩
    (.cons rfl (.cons rfl (.cons rfl (.nil)))) .nil .nil [0] rfl ?_
  rintro ⟨k2, i⟩ hpre
  have hpre_ : (i ≤ (a).length) ∧ (-9223372036854775808 ≤ k2 ∧ k2 ≤ 9223372036854775807) ∧ (laws_heldLinkS_L1 a k = laws_heldLinkS_L1 ((a).drop i) k2) := hpre
  clear hpre
  obtain ⟨v1, v2, v3⟩ := hpre_
  refine WX.run ttOk rfl ?_
  refine WX.cases 9 rfl (fun h1 => ?_) (fun h1 => ?_)
  · skip
    have h1d := B.dt h1
    have e1i : i < (a).length := (by omega)
    obtain ⟨e1, e1h⟩ : ∃ e1, (a)[i]? = some e1 := ⟨_, List.getElem?_eq_getElem e1i⟩
    have ok1 : GoT.ok n e1 := (okl hoka).2 _ (List.mem_of_getElem? e1h)
    refine WX.run ttOk rfl ?_
    refine WX.idx 0 i ttOk rfl rfl rfl rfl rfl rfl rfl rfl rfl rfl e1i ?_
    rintro ad1 rfl
    refine WX.run ttOk rfl ?_
    refine WX.ldE 0 1 e1 ttOk rfl rfl rfl rfl rfl rfl rfl rfl e1h (fun _ => rfl) (fun _ => rfl) ?_
    rintro ⟨⟨⟩, ⟨⟩⟩
    refine WX.run ttOk rfl ?_
    refine WX.cases 18 rfl (fun h2 => ?_) (fun h2 => ?_)
    · skip
      have h2d := B.nt' h2
      refine WX.run ttOk rfl ?_
      have hP1 : laws_heldLinkS_L1 a k = (Ctl.ret (-1)) := by rw [v3, drop_get e1h]; simp only [laws_heldLinkS_L1, h2, cond_true, cond_false]
      have hP2 : laws_heldLinkS a k = (-1) := by simp only [laws_heldLinkS, hP1, cond_true, cond_false]
      refine WX.ret ttOk rfl ?_
      intro w1 G bs hI hΓ
      rw [hP2]
      exact ⟨rfl, (show I64 (-1) from (by unfold I64; omega))⟩
    · skip
      have h2d := B.nf' h2
      refine WX.run ttOk rfl ?_
      refine WX.see rfl rfl rfl (fun _ hΓ => looks_wrap rfl rfl rfl rfl) ?_
      refine WX.run ttOk rfl ?_
      refine WX.idx 0 i ttOk rfl rfl rfl rfl rfl rfl rfl rfl rfl rfl e1i ?_
      rintro ad2 ⟨⟩
      refine WX.run ttOk rfl ?_
      refine WX.ldE 0 1 e1 ttOk rfl rfl rfl rfl rfl rfl rfl rfl e1h (fun _ => rfl) (fun _ => rfl) ?_
      rintro ⟨⟨⟩, ⟨⟩⟩
      refine WX.run ttOk rfl ?_
      refine WX.cases 27 rfl (fun h3 => ?_) (fun h3 => ?_)
      · skip
        have h3d := B.nt' h3
        refine WX.run ttOk rfl ?_
        have hP3 : laws_heldLinkS_L1 a k = (Ctl.ret (-1)) := by rw [v3, drop_get e1h]; simp only [laws_heldLinkS_L1, h2, h3, cond_true, cond_false]
        have hP4 : laws_heldLinkS a k = (-1) := by simp only [laws_heldLinkS, hP3, cond_true, cond_false]
        refine WX.ret ttOk rfl ?_
        intro w1 G bs hI hΓ
        rw [hP4]
        exact ⟨rfl, (show I64 (-1) from (by unfold I64; omega))⟩
      · skip
        have h3d := B.nf' h3
        refine WX.run ttOk rfl ?_
        refine WX.see rfl rfl rfl (fun _ hΓ => looks_wrap rfl rfl rfl rfl) ?_
        refine WX.run ttOk rfl ?_
        refine WX.see rfl rfl rfl (fun _ hΓ => looks_arith rfl rfl rfl rfl (by unfold I64; first | omega | (dsimp only; omega))) ?_
        refine WX.run ttOk rfl ?_
        exact WX.iter (IntKind.i64.wrap ((IntKind.i64.wrap (k2 + 1)) + 1), i + 1) ⟨(by omega), (i64_wrap _), (by rw [v3, drop_get e1h]; simp only [laws_heldLinkS_L1, h2, h3, cond_true, cond_false])⟩ (by first | (dsimp only; omega) | omega) (.cons rfl (.cons rfl (.cons rfl (.nil)))) .nil .nil [0] rfl
  · skip
    have h1d := B.df h1
    refine WX.run ttOk rfl ?_
    have hX1 : laws_heldLinkS_L1 a k = (Ctl.nxt k2) := by rw [v3, List.drop_eq_nil_of_le (show (a).length ≤ i by omega)]; simp only [laws_heldLinkS_L1, cond_true, cond_false]
    have hP5 : laws_heldLinkS a k = k2 := by simp only [laws_heldLinkS, hX1, cond_true, cond_false]
    refine WX.ret ttOk rfl ?_
    intro w1 G bs hI hΓ
    rw [hP5]
    exact ⟨rfl, v2⟩
theorem f53 (w : World) (n : Nat) (hn : n + 0 ≤ 9) (a : Topology) (paLinks : Option Addr) (caLinks : Nat) (hpaLinks : RdSl (hp w) paLinks caLinks a.links) (k : Int) (hoka : GoT.ok n a) (hokk : GoT.ok n k) :
    Does Tryz.prog 53 #[.agg #[.int .i64 (a.size), .slice paLinks ((a.links).length) caLinks], .int .i64 (k)] w emp (fun (rv : Value) (_ : World) => rv = .int .i64 ((laws_heldTopology a k)) ∧ GoT.ok n ((laws_heldTopology a k) : Int)) := by
  have hbP := bd_pos n
  have hbB := bd_big (n := n) (by omega)
  refine WX.enter (tt := tt) (Γ := [(0, MF.rs .stb paLinks caLinks a.links)]) Tryz.func53 rfl (by kernel_rfl) rfl (allS_cons rfl hpaLinks allS_nil) ?_
  refine WX.run ttOk rfl ?_
  refine WX.callV rfl rfl rfl rfl rfl (fun _ => rfl) rfl (fun w G bs hI hΓ => f155 w n (by omega) a.links paLinks caLinks (hΓ.get 0 rfl) k ((ok_Topology hoka).2) hokk) ?_
  intro hq1
  refine WX.run ttOk rfl ?_
  refine WX.cases 10 rfl (fun h1 => ?_) (fun h1 => ?_)
  · skip
    have h1d := B.dt h1
    refine WX.run ttOk rfl ?_
    have hP1 : laws_heldTopology a k = (-1) := by simp only [laws_heldTopology, h1, cond_true, cond_false]
    refine WX.ret ttOk rfl ?_
    intro w1 G bs hI hΓ
    rw [hP1]
    exact ⟨rfl, (show I64 (-1) from (by unfold I64; omega))⟩
  · skip
    have h1d := B.df h1
    refine WX.run ttOk rfl ?_
    have hP2 : laws_heldTopology a k = (laws_heldLinkS a.links k) := by simp only [laws_heldTopology, h1, cond_true, cond_false]
    refine WX.ret ttOk rfl ?_
    intro w1 G bs hI hΓ
    rw [hP2]
    exact ⟨rfl, hq1⟩
end Go.Proofs.YtfffongneoegbaaGreat

namespace Go.Stp
set_option linter.unusedVariables false
set_option linter.unusedSimpArgs false
def impl_inSet (set_ : Int) (i : Int) : Bool :=
  bif decide (set_ ≥ 0) then
    bif (impl_InRange i 0 30) then
      (bitO .and (Int.fdiv set_ (2 ^ (min (Int.toNat i) 64))) 1 == 1)
    else
      false
  else
    false
def spec_l19In (set_ : Int) (a : Int) : Bool :=
  bif (spec_l1In a 0 30) then
    bif decide (set_ ≥ 0) then
      (bitO .and (Int.fdiv set_ (2 ^ (min (Int.toNat a) 64))) 1 == 1)
    else
      false
  else
    false
end Go.Stp

namespace Go.Proofs.YtfffongneoegbaaGreat
open Go.Stp
set_option linter.unusedVariables false
set_option linter.unusedSimpArgs false
theorem f254 (w : World) (n : Nat) (hn : n + 0 ≤ 9) (set_ : Int) (i : Int) (hokset_ : GoT.ok n set_) (hoki : GoT.ok n i) :
    Does Tryz.prog 254 #[.int .i64 (set_), .int .i64 (i)] w emp (fun (rv : Value) (_ : World) => rv = .bool (impl_inSet set_ i) ∧ True) := by
  have hbP := bd_pos n
  have hbB := bd_big (n := n) (by omega)
  refine WX.enter (tt := tt) (Γ := []) Tryz.func254 rfl (by kernel_rfl) rfl allS_nil ?_
  refine WX.run ttOk rfl ?_
  refine WX.cases 7 rfl (fun h1 => ?_) (fun h1 => ?_)
  · skip
    have h1d := B.dt h1
    refine WX.run ttOk rfl ?_
    refine WX.callV rfl rfl rfl rfl rfl (fun _ => rfl) rfl (fun w G bs hI hΓ => f167 w n (by omega) i 0 30 hoki (show I64 0 from (by unfold I64; omega)) (show I64 30 from (by unfold I64; omega))) ?_
    intro hq1
    refine WX.run ttOk rfl ?_
    refine WX.cases 11 rfl (fun h2 => ?_) (fun h2 => ?_)
    · skip
      have h2r := inR_impl h2
      refine WX.run ttOk rfl ?_
      have r1 : -9223372036854775808 ≤ i ∧ i ≤ 9223372036854775807 := hoki
      refine WX.see rfl rfl rfl (fun _ hΓ => looks_shr rfl rfl rfl (by omega)) ?_
      refine WX.see rfl rfl rfl (fun _ hΓ => looks_bits rfl rfl rfl rfl) ?_
      refine WX.run ttOk rfl ?_
      have hP1 : impl_inSet set_ i = (bitO .and (Int.fdiv set_ (2 ^ (min (Int.toNat i) 64))) 1 == 1) := by simp only [impl_inSet, h1, h2, cond_true, cond_false]
      refine WX.ret ttOk rfl ?_
      intro w1 G bs hI hΓ
      rw [hP1]
      exact ⟨rfl, trivial⟩
    · skip
      refine WX.run ttOk rfl ?_
      have hP2 : impl_inSet set_ i = false := by simp only [impl_inSet, h1, h2, cond_true, cond_false]
      refine WX.ret ttOk rfl ?_
      intro w1 G bs hI hΓ
      rw [hP2]
      exact ⟨rfl, trivial⟩
  · skip
    have h1d := B.df h1
    refine WX.run ttOk rfl ?_
    have hP3 : impl_inSet set_ i = false := by simp only [impl_inSet, h1, cond_true, cond_false]
    refine WX.ret ttOk rfl ?_
    intro w1 G bs hI hΓ
    rw [hP3]
    exact ⟨rfl, trivial⟩
theorem f252 (w : World) (n : Nat) (hn : n + 0 ≤ 9) (set_ : Int) (a : Int) (hokset_ : GoT.ok n set_) (hoka : GoT.ok n a) :
    Does Tryz.prog 252 #[.int .i64 (set_), .int .i64 (a)] w emp (fun (rv : Value) (_ : World) => rv = .bool (spec_l19In set_ a) ∧ True) := by
  have hbP := bd_pos n
  have hbB := bd_big (n := n) (by omega)
  refine WX.enter (tt := tt) (Γ := []) Tryz.func252 rfl (by kernel_rfl) rfl allS_nil ?_
  refine WX.run ttOk rfl ?_
  refine WX.callV rfl rfl rfl rfl rfl (fun _ => rfl) rfl (fun w G bs hI hΓ => f160 w n (by omega) a 0 30 hoka (show I64 0 from (by unfold I64; omega)) (show I64 30 from (by unfold I64; omega))) ?_
  intro hq1
  refine WX.run ttOk rfl ?_
  refine WX.cases 7 rfl (fun h1 => ?_) (fun h1 => ?_)
  · skip
    have h1r := inR_spec h1
    refine WX.run ttOk rfl ?_
    refine WX.cases 11 rfl (fun h2 => ?_) (fun h2 => ?_)
    · skip
      have h2d := B.dt h2
      refine WX.run ttOk rfl ?_
      have r1 : -9223372036854775808 ≤ a ∧ a ≤ 9223372036854775807 := hoka
      refine WX.see rfl rfl rfl (fun _ hΓ => looks_shr rfl rfl rfl (by omega)) ?_
      refine WX.see rfl rfl rfl (fun _ hΓ => looks_bits rfl rfl rfl rfl) ?_
      refine WX.run ttOk rfl ?_
      have hP1 : spec_l19In set_ a = (bitO .and (Int.fdiv set_ (2 ^ (min (Int.toNat a) 64))) 1 == 1) := by simp only [spec_l19In, h1, h2, cond_true, cond_false]
      refine WX.ret ttOk rfl ?_
      intro w1 G bs hI hΓ
      rw [hP1]
      exact ⟨rfl, trivial⟩
    · skip
      have h2d := B.df h2
      refine WX.run ttOk rfl ?_
      have hP2 : spec_l19In set_ a = false := by simp only [spec_l19In, h1, h2, cond_true, cond_false]
      refine WX.ret ttOk rfl ?_
      intro w1 G bs hI hΓ
      rw [hP2]
      exact ⟨rfl, trivial⟩
  · skip
    refine WX.run ttOk rfl ?_
    have hP3 : spec_l19In set_ a = false := by simp only [spec_l19In, h1, cond_true, cond_false]
    refine WX.ret ttOk rfl ?_
    intro w1 G bs hI hΓ
    rw [hP3]
    exact ⟨rfl, trivial⟩
end Go.Proofs.YtfffongneoegbaaGreat

namespace Go.Stp
set_option linter.unusedVariables false
set_option linter.unusedSimpArgs false
def slices_Index_int_L1 (v : Int) : List Int → Nat → Option (Int)
  | [], i => none
  | e1 :: rest_, i =>
    bif (v == e1) then
      (some ((i : Nat) : Int))
    else
      slices_Index_int_L1 v rest_ (i + 1)
def slices_Index_int (s : (List Int)) (v : Int) : Int :=
  match slices_Index_int_L1 v s 0 with
    | some r_ => r_
    | none =>
      (-1)
def slices_Contains_int (s : (List Int)) (v : Int) : Bool :=
  (decide ((slices_Index_int s v) ≥ 0))
def spec_l19Has_L1 (n_ : Int) : List Int → Option (Bool)
  | [] => none
  | e1 :: rest_ =>
    bif (e1 == n_) then
      (some true)
    else
      spec_l19Has_L1 n_ rest_
def spec_l19Has (l : (List Int)) (n_ : Int) : Bool :=
  match spec_l19Has_L1 n_ l with
    | some r_ => r_
    | none =>
      false
def impl_RemoveFailed_L1 (failed : (List Int)) (down : Int) : List Link → Nat → (List Link) → (List Link)
  | [], i, out => ((out) : List Link)
  | e1 :: rest_, i, out =>
    bif (!(slices_Contains_int failed ((i : Nat) : Int))) then
      bif (!(impl_inSet down e1.a)) then
        bif (!(impl_inSet down e1.b)) then
          impl_RemoveFailed_L1 failed down rest_ (i + 1) (((out ++ [e1])) : List Link)
        else
          impl_RemoveFailed_L1 failed down rest_ (i + 1) ((out) : List Link)
      else
        impl_RemoveFailed_L1 failed down rest_ (i + 1) ((out) : List Link)
    else
      impl_RemoveFailed_L1 failed down rest_ (i + 1) ((out) : List Link)
def impl_RemoveFailed (n_ : Topology) (failed : (List Int)) (down : Int) : Topology :=
  match impl_RemoveFailed_L1 failed down n_.links 0 ([] : List Link) with
    | out =>
      (Topology.mk n_.size out)
def spec_RemoveFailed_L1 (dead : (List Int)) (down : Int) : List Link → Nat → (List Link) → (List Link)
  | [], i, out => ((out) : List Link)
  | e1 :: rest_, i, out =>
    bif (!(spec_l19Has dead ((i : Nat) : Int))) then
      bif (!(spec_l19In down e1.a)) then
        bif (!(spec_l19In down e1.b)) then
          spec_RemoveFailed_L1 dead down rest_ (i + 1) (((out ++ [e1])) : List Link)
        else
          spec_RemoveFailed_L1 dead down rest_ (i + 1) ((out) : List Link)
      else
        spec_RemoveFailed_L1 dead down rest_ (i + 1) ((out) : List Link)
    else
      spec_RemoveFailed_L1 dead down rest_ (i + 1) ((out) : List Link)
def spec_RemoveFailed (n_ : Topology) (dead : (List Int)) (down : Int) : Topology :=
  match spec_RemoveFailed_L1 dead down n_.links 0 ([] : List Link) with
    | out =>
      (Topology.mk n_.size out)
def impl_LiveTopology (w_ : Network) : Topology :=
  (impl_RemoveFailed w_.topology w_.failedLinks w_.downNodes)
def spec_LiveTopology (w_ : Network) : Topology :=
  (spec_RemoveFailed w_.topology w_.failedLinks w_.downNodes)
end Go.Stp

namespace Go.Proofs.YtfffongneoegbaaGreat
open Go.Stp
set_option linter.unusedVariables false
set_option linter.unusedSimpArgs false
theorem f344 (w : World) (n : Nat) (hn : n + 0 ≤ 9) (s : (List Int)) (ps : Option Addr) (cs : Nat) (hps : RdSl (hp w) ps cs s) (v : Int) (hoks : GoT.ok n s) (hokv : GoT.ok n v) :
    Does Tryz.prog 344 #[.slice ps ((s).length) cs, .int .i64 (v)] w emp (fun (rv : Value) (_ : World) => rv = .int .i64 ((slices_Index_int s v)) ∧ GoT.ok n ((slices_Index_int s v) : Int)) := by
  have hbP := bd_pos n
  have hbB := bd_big (n := n) (by omega)
  refine WX.enter (tt := tt) (Γ := [(0, MF.rs .stb ps cs s)]) Tryz.func344 rfl (by kernel_rfl) rfl (allS_cons rfl hps allS_nil) ?_
  refine WX.run ttOk rfl ?_
  have r1 : (s).length ≤ bd n := (okl hoks).1
  refine WX.loop (ι := Nat) ⟨fun i => (i ≤ (s).length) ∧ (slices_Index_int_L1 v s 0 = slices_Index_int_L1 v ((s).drop i) i), fun i => (s).length - i, fun i => [(8, .v (.int .i64 (((i : Nat) : Int)))), (7, .v (.int .i64 ((((s).length : Nat) : Int)))), (0, .v (.slice ps ((s).length) cs)), (1, .v (.int .i64 (v)))], fun i => [], fun i => [], fun i => [(0, MF.rs .stb ps cs s)]⟩ 0 ⟨(Nat.zero_le _), rfl⟩
    (.cons rfl (.cons rfl (.cons rfl (.cons rfl (.nil))))) .nil .nil [0] rfl ?_
  rintro i hpre
  have hpre_ : (i ≤ (s).length) ∧ (slices_Index_int_L1 v s 0 = slices_Index_int_L1 v ((s).drop i) i) := hpre
  clear hpre
  obtain ⟨v1, v2⟩ := hpre_
  refine WX.run ttOk rfl ?_
  refine WX.cases 9 rfl (fun h1 => ?_) (fun h1 => ?_)
  · skip
    have h1d := B.dt h1
    have e1i : i < (s).length := (by omega)
    obtain ⟨e1, e1h⟩ : ∃ e1, (s)[i]? = some e1 := ⟨_, List.getElem?_eq_getElem e1i⟩
    have ok1 : GoT.ok n e1 := (okl hoks).2 _ (List.mem_of_getElem? e1h)
    refine WX.run ttOk rfl ?_
    refine WX.idx 0 i ttOk rfl rfl rfl rfl rfl rfl rfl rfl rfl rfl e1i ?_
    rintro ad1 rfl
    refine WX.ldE 0 1 e1 ttOk rfl rfl rfl rfl rfl rfl rfl rfl e1h (fun _ => rfl) (fun _ => rfl) ?_
    rintro ⟨⟩
    refine WX.run ttOk rfl ?_
    refine WX.cases 16 rfl (fun h2 => ?_) (fun h2 => ?_)
    · skip
      have h2d := B.et h2
      refine WX.run ttOk rfl ?_
      have hP1 : slices_Index_int_L1 v s 0 = (some ((i : Nat) : Int)) := by rw [v2, drop_get e1h]; simp only [slices_Index_int_L1, h2, cond_true, cond_false]
      have hP2 : slices_Index_int s v = ((i : Nat) : Int) := by simp only [slices_Index_int, hP1, cond_true, cond_false]
      refine WX.ret ttOk rfl ?_
      intro w1 G bs hI hΓ
      rw [hP2]
      exact ⟨rfl, (show I64 ((i : Nat) : Int) from (by unfold I64; omega))⟩
    · skip
      have h2d := B.ef h2
      refine WX.run ttOk rfl ?_
      refine WX.see rfl rfl rfl (fun _ hΓ => looks_arith rfl rfl rfl rfl (by unfold I64; first | omega | (dsimp only; omega))) ?_
      refine WX.run ttOk rfl ?_
      exact WX.iter (i + 1) ⟨(by omega), (by rw [v2, drop_get e1h]; simp only [slices_Index_int_L1, h2, cond_true, cond_false])⟩ (by first | (dsimp only; omega) | omega) (.cons rfl (.cons rfl (.cons rfl (.cons rfl (.nil))))) .nil .nil [0] rfl
  · skip
    have h1d := B.df h1
    refine WX.run ttOk rfl ?_
    have hX1 : slices_Index_int_L1 v s 0 = none := by rw [v2, List.drop_eq_nil_of_le (show (s).length ≤ i by omega)]; simp only [slices_Index_int_L1, cond_true, cond_false]
    have hP3 : slices_Index_int s v = (-1) := by simp only [slices_Index_int, hX1, cond_true, cond_false]
    refine WX.ret ttOk rfl ?_
    intro w1 G bs hI hΓ
    rw [hP3]
    exact ⟨rfl, (show I64 (-1) from (by unfold I64; omega))⟩
theorem f253 (w : World) (n : Nat) (hn : n + 0 ≤ 9) (s : (List Int)) (ps : Option Addr) (cs : Nat) (hps : RdSl (hp w) ps cs s) (v : Int) (hoks : GoT.ok n s) (hokv : GoT.ok n v) :
    Does Tryz.prog 253 #[.slice ps ((s).length) cs, .int .i64 (v)] w emp (fun (rv : Value) (_ : World) => rv = .bool (slices_Contains_int s v) ∧ True) := by
  have hbP := bd_pos n
  have hbB := bd_big (n := n) (by omega)
  refine WX.enter (tt := tt) (Γ := [(0, MF.rs .stb ps cs s)]) Tryz.func253 rfl (by kernel_rfl) rfl (allS_cons rfl hps allS_nil) ?_
  refine WX.run ttOk rfl ?_
  refine WX.callV rfl rfl rfl rfl rfl (fun _ => rfl) rfl (fun w G bs hI hΓ => f344 w n (by omega) s ps cs (hΓ.get 0 rfl) v hoks hokv) ?_
  intro hq1
  refine WX.run ttOk rfl ?_
  have hP1 : slices_Contains_int s v = (decide ((slices_Index_int s v) ≥ 0)) := by simp only [slices_Contains_int, cond_true, cond_false]
  refine WX.ret ttOk rfl ?_
  intro w1 G bs hI hΓ
  rw [hP1]
  exact ⟨rfl, trivial⟩
theorem f251 (w : World) (n : Nat) (hn : n + 0 ≤ 9) (l : (List Int)) (pl : Option Addr) (cl : Nat) (hpl : RdSl (hp w) pl cl l) (n_ : Int) (hokl : GoT.ok n l) (hokn_ : GoT.ok n n_) :
    Does Tryz.prog 251 #[.slice pl ((l).length) cl, .int .i64 (n_)] w emp (fun (rv : Value) (_ : World) => rv = .bool (spec_l19Has l n_) ∧ True) := by
  have hbP := bd_pos n
  have hbB := bd_big (n := n) (by omega)
  refine WX.enter (tt := tt) (Γ := [(0, MF.rs .stb pl cl l)]) Tryz.func251 rfl (by kernel_rfl) rfl (allS_cons rfl hpl allS_nil) ?_
  refine WX.run ttOk rfl ?_
  have r1 : (l).length ≤ bd n := (okl hokl).1
  refine WX.loop (ι := Nat) ⟨fun i => (i ≤ (l).length) ∧ (spec_l19Has_L1 n_ l = spec_l19Has_L1 n_ ((l).drop i)), fun i => (l).length - i, fun i => [(5, .v (.int .i64 (((i : Nat) : Int)))), (0, .v (.slice pl ((l).length) cl)), (1, .v (.int .i64 (n_)))], fun i => [], fun i => [], fun i => [(0, MF.rs .stb pl cl l)]⟩ 0 ⟨(Nat.zero_le _), rfl⟩
    (.cons rfl (.cons rfl (.cons rfl (.nil)))) .nil .nil [0] rfl ?_
  rintro i hpre
  have hpre_ : (i ≤ (l).length) ∧ (spec_l19Has_L1 n_ l = spec_l19Has_L1 n_ ((l).drop i)) := hpre
  clear hpre
  obtain ⟨v1, v2⟩ := hpre_
  refine WX.run ttOk rfl ?_
  refine WX.cases 9 rfl (fun h1 => ?_) (fun h1 => ?_)
  · skip
    have h1d := B.dt h1
    have e1i : i < (l).length := (by omega)
    obtain ⟨e1, e1h⟩ : ∃ e1, (l)[i]? = some e1 := ⟨_, List.getElem?_eq_getElem e1i⟩
    have ok1 : GoT.ok n e1 := (okl hokl).2 _ (List.mem_of_getElem? e1h)
    refine WX.run ttOk rfl ?_
    refine WX.idx 0 i ttOk rfl rfl rfl rfl rfl rfl rfl rfl rfl rfl e1i ?_
    rintro ad1 rfl
    refine WX.ldE 0 1 e1 ttOk rfl rfl rfl rfl rfl rfl rfl rfl e1h (fun _ => rfl) (fun _ => rfl) ?_
    rintro ⟨⟩
    refine WX.run ttOk rfl ?_
    refine WX.cases 17 rfl (fun h2 => ?_) (fun h2 => ?_)
    · skip
      have h2d := B.et h2
      refine WX.run ttOk rfl ?_
      have hP1 : spec_l19Has_L1 n_ l = (some true) := by rw [v2, drop_get e1h]; simp only [spec_l19Has_L1, h2, cond_true, cond_false]
      have hP2 : spec_l19Has l n_ = true := by simp only [spec_l19Has, hP1, cond_true, cond_false]
      refine WX.ret ttOk rfl ?_
      intro w1 G bs hI hΓ
      rw [hP2]
      exact ⟨rfl, trivial⟩
    · skip
      have h2d := B.ef h2
      refine WX.run ttOk rfl ?_
      refine WX.see rfl rfl rfl (fun _ hΓ => looks_arith rfl rfl rfl rfl (by unfold I64; first | omega | (dsimp only; omega))) ?_
      refine WX.run ttOk rfl ?_
      exact WX.iter (i + 1) ⟨(by omega), (by rw [v2, drop_get e1h]; simp only [spec_l19Has_L1, h2, cond_true, cond_false])⟩ (by first | (dsimp only; omega) | omega) (.cons rfl (.cons rfl (.cons rfl (.nil)))) .nil .nil [0] rfl
  · skip
    have h1d := B.df h1
    refine WX.run ttOk rfl ?_
    have hX1 : spec_l19Has_L1 n_ l = none := by rw [v2, List.drop_eq_nil_of_le (show (l).length ≤ i by omega)]; simp only [spec_l19Has_L1, cond_true, cond_false]
    have hP3 : spec_l19Has l n_ = false := by simp only [spec_l19Has, hX1, cond_true, cond_false]
    refine WX.ret ttOk rfl ?_
    intro w1 G bs hI hΓ
    rw [hP3]
    exact ⟨rfl, trivial⟩
theorem f147 (w : World) (n : Nat) (hn : n + 0 ≤ 9) (n_ : Topology) (pn_Links : Option Addr) (cn_Links : Nat) (hpn_Links : RdSl (hp w) pn_Links cn_Links n_.links) (failed : (List Int)) (pfailed : Option Addr) (cfailed : Nat) (hpfailed : RdSl (hp w) pfailed cfailed failed) (down : Int) (hokn_ : GoT.ok n n_) (hokfailed : GoT.ok n failed) (hokdown : GoT.ok n down) :
    Does Tryz.prog 147 #[.agg #[.int .i64 (n_.size), .slice pn_Links ((n_.links).length) cn_Links], .slice pfailed ((failed).length) cfailed, .int .i64 (down)] w emp (Post w emp (fun x : GoT.X (Topology) => .agg ⟨GoT.sh ((impl_RemoveFailed n_ failed down) : Topology) x⟩) (fun x => GoT.oa ((impl_RemoveFailed n_ failed down) : Topology) x) (GoT.ok n ((impl_RemoveFailed n_ failed down) : Topology))) := by
  have hbP := bd_pos n
  have hbB := bd_big (n := n) (by omega)
  refine WX.enter (tt := tt) (Γ := [(0, MF.rs .stb pn_Links cn_Links n_.links), (1, MF.rs .stb pfailed cfailed failed)]) Tryz.func147 rfl (by kernel_rfl) rfl (allS_cons rfl hpn_Links (allS_cons rfl hpfailed allS_nil)) ?_
  refine WX.run ttOk rfl ?_
  refine WX.row0 501 2 none rfl ?_
  refine WX.free 2 (MF.ol [] ([] : List Link)) rfl ?_
  have r1 : (n_.links).length ≤ bd n := (okl (ok_Topology hokn_).2).1
  refine WX.loop (ι := Nat × (Option Addr) × Nat × (List Value) × (List Link)) ⟨fun | (i, pout, cout, xsout, out) => (i ≤ (n_.links).length) ∧ (∀ z_ ∈ out, GoT.ok n z_) ∧ (out.length ≤ i) ∧ (impl_RemoveFailed_L1 failed down n_.links 0 ([] : List Link) = impl_RemoveFailed_L1 failed down ((n_.links).drop i) i out), fun | (i, pout, cout, xsout, out) => (n_.links).length - i, fun | (i, pout, cout, xsout, out) => [(16, .v (.int .i64 (((i : Nat) : Int)))), (15, .v (.int .i64 ((((n_.links).length : Nat) : Int)))), (14, .v (.slice pn_Links ((n_.links).length) cn_Links)), (7, .p 7 0), (6, .p 6 0), (1, .v (.slice pfailed ((failed).length) cfailed)), (2, .v (.int .i64 (down)))], fun | (i, pout, cout, xsout, out) => [(7, ⟨108, [.int .i64 (n_.size), .slice pout ((out).length) cout]⟩), (6, ⟨108, [.int .i64 (0), .slice none (0) 0]⟩)], fun | (i, pout, cout, xsout, out) => [(501, ⟨2, pout, (out).length, cout, xsout⟩)], fun | (i, pout, cout, xsout, out) => [(0, MF.rs .stb pn_Links cn_Links n_.links), (1, MF.rs .stb pfailed cfailed failed), (2, MF.ol xsout (out : List Link))]⟩ (0, none, 0, [], ([] : List Link)) ⟨(Nat.zero_le _), (fun a ha => by cases ha), (by simp), rfl⟩
    (.cons rfl (.cons rfl (.cons rfl (.cons rfl (.cons rfl (.cons rfl (.cons rfl (.nil)))))))) (.cons rfl (.cons rfl (.nil))) (.cons rfl (.nil)) [0, 1, 2] rfl ?_
  rintro ⟨i, pout, cout, xsout, out⟩ hpre
  have hpre_ : (i ≤ (n_.links).length) ∧ (∀ z_ ∈ out, GoT.ok n z_) ∧ (out.length ≤ i) ∧ (impl_RemoveFailed_L1 failed down n_.links 0 ([] : List Link) = impl_RemoveFailed_L1 failed down ((n_.links).drop i) i out) := hpre
  clear hpre
  obtain ⟨v1, v2, v3, v4⟩ := hpre_
  refine WX.run ttOk rfl ?_
  refine WX.cases 17 rfl (fun h1 => ?_) (fun h1 => ?_)
  · skip
    have h1d := B.dt h1
    have e1i : i < (n_.links).length := (by omega)
    obtain ⟨e1, e1h⟩ : ∃ e1, (n_.links)[i]? = some e1 := ⟨_, List.getElem?_eq_getElem e1i⟩
    have ok1 : GoT.ok n e1 := (okl (ok_Topology hokn_).2).2 _ (List.mem_of_getElem? e1h)
    refine WX.run ttOk rfl ?_
    refine WX.idx 0 i ttOk rfl rfl rfl rfl rfl rfl rfl rfl rfl rfl e1i ?_
    rintro ad1 rfl
    refine WX.ldE 0 3 e1 ttOk rfl rfl rfl rfl rfl rfl rfl rfl e1h (fun _ => rfl) (fun _ => rfl) ?_
    rintro ⟨⟨⟩, ⟨⟩⟩
    refine WX.run ttOk rfl ?_
    refine WX.callV rfl rfl rfl rfl rfl (fun _ => rfl) rfl (fun w G bs hI hΓ => f253 w n (by omega) failed pfailed cfailed (hΓ.get 1 rfl) ((i : Nat) : Int) hokfailed (show I64 ((i : Nat) : Int) from (by unfold I64; omega))) ?_
    intro hq1
    refine WX.run ttOk rfl ?_
    refine WX.cases 25 rfl (fun h2 => ?_) (fun h2 => ?_)
    · skip
      have h2d := (B.nt h2)
      refine WX.run ttOk rfl ?_
      refine WX.callV rfl rfl rfl rfl rfl (fun _ => rfl) rfl (fun w G bs hI hΓ => f254 w n (by omega) down e1.a hokdown ((ok_Link ok1).1)) ?_
      intro hq2
      refine WX.run ttOk rfl ?_
      refine WX.cases 32 rfl (fun h3 => ?_) (fun h3 => ?_)
      · skip
        have h3d := (B.nt h3)
        refine WX.run ttOk rfl ?_
        refine WX.callV rfl rfl rfl rfl rfl (fun _ => rfl) rfl (fun w G bs hI hΓ => f254 w n (by omega) down e1.b hokdown ((ok_Link ok1).2)) ?_
        intro hq3
        refine WX.run ttOk rfl ?_
        refine WX.cases 38 rfl (fun h4 => ?_) (fun h4 => ?_)
        · skip
          have h4d := (B.nt h4)
          refine WX.run ttOk rfl ?_
          refine WX.bld ttOk rfl rfl rfl rfl rfl rfl rfl ?_
          intro p1
          refine WX.turn [] 3 rfl (fun h hs => ol_one (α := Link) (a := e1) (x := ((), ())) hs) (gs := [MF.ol [.int .i64 (e1.a), .int .i64 (e1.b)] ([e1] : List Link)]) rfl ?_
          refine WX.know (fun G hΓ => (hΓ.get 3 rfl : OwL _ _ _).rd.one) ?_
          intro ho1
          refine WX.appR1 501 42 ((out ++ [e1]) : List Link).length ttOk rfl rfl rfl rfl rfl rfl rfl rfl rfl rfl rfl rfl rfl ho1 (by simp) (by simp; omega) (by simp; omega) (fun _ _ => rfl) ?_
          intro p2 c1
          refine WX.turn [2, 3] 4 rfl (fun h hs => ol_app hs) (gs := [MF.ol (xsout ++ [.int .i64 (e1.a), .int .i64 (e1.b)]) ((out ++ [e1]) : List Link)]) rfl ?_
          refine WX.run ttOk rfl ?_
          refine WX.see rfl rfl rfl (fun _ hΓ => looks_arith rfl rfl rfl rfl (by unfold I64; first | omega | (dsimp only; omega))) ?_
          refine WX.run ttOk rfl ?_
          refine WX.turn [4] 2 rfl (fun _ h => h) rfl ?_
          exact WX.iter (i + 1, p2, c1, (xsout ++ [.int .i64 (e1.a), .int .i64 (e1.b)]), ((out ++ [e1]) : List Link)) ⟨(by omega), (all_app v2 (all_cons (α := Link) ok1 (fun a ha => by cases ha))), (by first | assumption | omega | (simp only [List.length_append, List.length_cons, List.length_nil, List.length_set, List.length_map, List.length_take, List.length_drop]; omega) | (simp; omega)), (by rw [v4, drop_get e1h]; simp only [impl_RemoveFailed_L1, h2, h3, h4, cond_true, cond_false])⟩ (by first | (dsimp only; omega) | omega) (.cons rfl (.cons rfl (.cons rfl (.cons rfl (.cons rfl (.cons rfl (.cons rfl (.nil)))))))) (.cons rfl (.cons rfl (.nil))) (.cons rfl (.nil)) [0, 1, 2] rfl
        · skip
          have h4d := (B.nf h4)
          refine WX.run ttOk rfl ?_
          refine WX.see rfl rfl rfl (fun _ hΓ => looks_arith rfl rfl rfl rfl (by unfold I64; first | omega | (dsimp only; omega))) ?_
          refine WX.run ttOk rfl ?_
          exact WX.iter (i + 1, pout, cout, xsout, (out : List Link)) ⟨(by omega), v2, (by first | assumption | omega | (simp only [List.length_append, List.length_cons, List.length_nil, List.length_set, List.length_map, List.length_take, List.length_drop]; omega) | (simp; omega)), (by rw [v4, drop_get e1h]; simp only [impl_RemoveFailed_L1, h2, h3, h4, cond_true, cond_false])⟩ (by first | (dsimp only; omega) | omega) (.cons rfl (.cons rfl (.cons rfl (.cons rfl (.cons rfl (.cons rfl (.cons rfl (.nil)))))))) (.cons rfl (.cons rfl (.nil))) (.cons rfl (.nil)) [0, 1, 2] rfl
      · skip
        have h3d := (B.nf h3)
        refine WX.run ttOk rfl ?_
        refine WX.see rfl rfl rfl (fun _ hΓ => looks_arith rfl rfl rfl rfl (by unfold I64; first | omega | (dsimp only; omega))) ?_
        refine WX.run ttOk rfl ?_
        exact WX.iter (i + 1, pout, cout, xsout, (out : List Link)) ⟨(by omega), v2, (by first | assumption | omega | (simp only [List.length_append, List.length_cons, List.length_nil, List.length_set, List.length_map, List.length_take, List.length_drop]; omega) | (simp; omega)), (by rw [v4, drop_get e1h]; simp only [impl_RemoveFailed_L1, h2, h3, cond_true, cond_false])⟩ (by first | (dsimp only; omega) | omega) (.cons rfl (.cons rfl (.cons rfl (.cons rfl (.cons rfl (.cons rfl (.cons rfl (.nil)))))))) (.cons rfl (.cons rfl (.nil))) (.cons rfl (.nil)) [0, 1, 2] rfl
    · skip
      have h2d := (B.nf h2)
      refine WX.run ttOk rfl ?_
      refine WX.see rfl rfl rfl (fun _ hΓ => looks_arith rfl rfl rfl rfl (by unfold I64; first | omega | (dsimp only; omega))) ?_
      refine WX.run ttOk rfl ?_
      exact WX.iter (i + 1, pout, cout, xsout, (out : List Link)) ⟨(by omega), v2, (by first | assumption | omega | (simp only [List.length_append, List.length_cons, List.length_nil, List.length_set, List.length_map, List.length_take, List.length_drop]; omega) | (simp; omega)), (by rw [v4, drop_get e1h]; simp only [impl_RemoveFailed_L1, h2, cond_true, cond_false])⟩ (by first | (dsimp only; omega) | omega) (.cons rfl (.cons rfl (.cons rfl (.cons rfl (.cons rfl (.cons rfl (.cons rfl (.nil)))))))) (.cons rfl (.cons rfl (.nil))) (.cons rfl (.nil)) [0, 1, 2] rfl
  · skip
    have h1d := B.df h1
    refine WX.run ttOk rfl ?_
    have hX1 : impl_RemoveFailed_L1 failed down n_.links 0 ([] : List Link) = ((out) : List Link) := by rw [v4, List.drop_eq_nil_of_le (show (n_.links).length ≤ i by omega)]; simp only [impl_RemoveFailed_L1, cond_true, cond_false]
    refine WX.seal 501 2 5 rfl rfl rfl rfl rfl ?_
    have hP1 : impl_RemoveFailed n_ failed down = (Topology.mk n_.size out) := by simp only [impl_RemoveFailed, hX1, cond_true, cond_false]
    refine WX.ret ttOk rfl ?_
    intro w1 G bs hI hΓ
    rw [hP1]
    exact Post.of [6] ((), (pout, cout)) hI hΓ rfl rfl rfl (And.intro (ok_Topology hokn_).1 (okl_mk (by omega) v2 : GoT.ok n (out : List Link)))
theorem f146 (w : World) (n : Nat) (hn : n + 0 ≤ 9) (n_ : Topology) (pn_Links : Option Addr) (cn_Links : Nat) (hpn_Links : RdSl (hp w) pn_Links cn_Links n_.links) (dead : (List Int)) (pdead : Option Addr) (cdead : Nat) (hpdead : RdSl (hp w) pdead cdead dead) (down : Int) (hokn_ : GoT.ok n n_) (hokdead : GoT.ok n dead) (hokdown : GoT.ok n down) :
    Does Tryz.prog 146 #[.agg #[.int .i64 (n_.size), .slice pn_Links ((n_.links).length) cn_Links], .slice pdead ((dead).length) cdead, .int .i64 (down)] w emp (Post w emp (fun x : GoT.X (Topology) => .agg ⟨GoT.sh ((spec_RemoveFailed n_ dead down) : Topology) x⟩) (fun x => GoT.oa ((spec_RemoveFailed n_ dead down) : Topology) x) (GoT.ok n ((spec_RemoveFailed n_ dead down) : Topology))) := by
  have hbP := bd_pos n
  have hbB := bd_big (n := n) (by omega)
  refine WX.enter (tt := tt) (Γ := [(0, MF.rs .stb pn_Links cn_Links n_.links), (1, MF.rs .stb pdead cdead dead)]) Tryz.func146 rfl (by kernel_rfl) rfl (allS_cons rfl hpn_Links (allS_cons rfl hpdead allS_nil)) ?_
  refine WX.run ttOk rfl ?_
  refine WX.row0 501 2 none rfl ?_
  refine WX.free 2 (MF.ol [] ([] : List Link)) rfl ?_
  have r1 : (n_.links).length ≤ bd n := (okl (ok_Topology hokn_).2).1
  refine WX.loop (ι := Nat × (Option Addr) × Nat × (List Value) × (List Link)) ⟨fun | (i, pout, cout, xsout, out) => (i ≤ (n_.links).length) ∧ (∀ z_ ∈ out, GoT.ok n z_) ∧ (out.length ≤ i) ∧ (spec_RemoveFailed_L1 dead down n_.links 0 ([] : List Link) = spec_RemoveFailed_L1 dead down ((n_.links).drop i) i out), fun | (i, pout, cout, xsout, out) => (n_.links).length - i, fun | (i, pout, cout, xsout, out) => [(8, .v (.int .i64 (((i : Nat) : Int)))), (7, .p 7 0), (6, .p 6 0), (3, .p 3 0), (1, .v (.slice pdead ((dead).length) cdead)), (2, .v (.int .i64 (down)))], fun | (i, pout, cout, xsout, out) => [(7, ⟨108, [.int .i64 (n_.size), .slice pout ((out).length) cout]⟩), (6, ⟨108, [.int .i64 (0), .slice none (0) 0]⟩), (3, ⟨108, [.int .i64 (n_.size), .slice pn_Links ((n_.links).length) cn_Links]⟩)], fun | (i, pout, cout, xsout, out) => [(501, ⟨2, pout, (out).length, cout, xsout⟩)], fun | (i, pout, cout, xsout, out) => [(0, MF.rs .stb pn_Links cn_Links n_.links), (1, MF.rs .stb pdead cdead dead), (2, MF.ol xsout (out : List Link))]⟩ (0, none, 0, [], ([] : List Link)) ⟨(Nat.zero_le _), (fun a ha => by cases ha), (by simp), rfl⟩
    (.cons rfl (.cons rfl (.cons rfl (.cons rfl (.cons rfl (.cons rfl (.nil))))))) (.cons rfl (.cons rfl (.cons rfl (.nil)))) (.cons rfl (.nil)) [0, 1, 2] rfl ?_
  rintro ⟨i, pout, cout, xsout, out⟩ hpre
  have hpre_ : (i ≤ (n_.links).length) ∧ (∀ z_ ∈ out, GoT.ok n z_) ∧ (out.length ≤ i) ∧ (spec_RemoveFailed_L1 dead down n_.links 0 ([] : List Link) = spec_RemoveFailed_L1 dead down ((n_.links).drop i) i out) := hpre
  clear hpre
  obtain ⟨v1, v2, v3, v4⟩ := hpre_
  refine WX.run ttOk rfl ?_
  refine WX.cases 16 rfl (fun h1 => ?_) (fun h1 => ?_)
  · skip
    have h1d := B.dt h1
    have e1i : i < (n_.links).length := (by omega)
    obtain ⟨e1, e1h⟩ : ∃ e1, (n_.links)[i]? = some e1 := ⟨_, List.getElem?_eq_getElem e1i⟩
    have ok1 : GoT.ok n e1 := (okl (ok_Topology hokn_).2).2 _ (List.mem_of_getElem? e1h)
    refine WX.run ttOk rfl ?_
    refine WX.callV rfl rfl rfl rfl rfl (fun _ => rfl) rfl (fun w G bs hI hΓ => f251 w n (by omega) dead pdead cdead (hΓ.get 1 rfl) ((i : Nat) : Int) hokdead (show I64 ((i : Nat) : Int) from (by unfold I64; omega))) ?_
    intro hq1
    refine WX.run ttOk rfl ?_
    refine WX.cases 23 rfl (fun h2 => ?_) (fun h2 => ?_)
    · skip
      have h2d := (B.nt h2)
      refine WX.run ttOk rfl ?_
      refine WX.idx 0 i ttOk rfl rfl rfl rfl rfl rfl rfl rfl rfl rfl e1i ?_
      rintro ad1 rfl
      refine WX.run ttOk rfl ?_
      refine WX.ldE 0 3 e1 ttOk rfl rfl rfl rfl rfl rfl rfl rfl e1h (fun _ => rfl) (fun _ => rfl) ?_
      rintro ⟨⟨⟩, ⟨⟩⟩
      refine WX.callV rfl rfl rfl rfl rfl (fun _ => rfl) rfl (fun w G bs hI hΓ => f252 w n (by omega) down e1.a hokdown ((ok_Link ok1).1)) ?_
      intro hq2
      refine WX.run ttOk rfl ?_
      refine WX.cases 34 rfl (fun h3 => ?_) (fun h3 => ?_)
      · skip
        have h3d := (B.nt h3)
        refine WX.run ttOk rfl ?_
        refine WX.idx 0 i ttOk rfl rfl rfl rfl rfl rfl rfl rfl rfl rfl e1i ?_
        rintro ad2 ⟨⟩
        refine WX.run ttOk rfl ?_
        refine WX.ldE 0 3 e1 ttOk rfl rfl rfl rfl rfl rfl rfl rfl e1h (fun _ => rfl) (fun _ => rfl) ?_
        rintro ⟨⟨⟩, ⟨⟩⟩
        refine WX.callV rfl rfl rfl rfl rfl (fun _ => rfl) rfl (fun w G bs hI hΓ => f252 w n (by omega) down e1.b hokdown ((ok_Link ok1).2)) ?_
        intro hq3
        refine WX.run ttOk rfl ?_
        refine WX.cases 44 rfl (fun h4 => ?_) (fun h4 => ?_)
        · skip
          have h4d := (B.nt h4)
          refine WX.run ttOk rfl ?_
          refine WX.draw [8, 9, 10] mixed ?_
          intro bs G0 hΓ0
          refine DX.takes (fuel := 6) ttOk [(0, true), (1, false), (2, true), (3, false), (4, true)] (by kernel_rfl) rfl ?_
          refine DX.idx 5 0 i ttOk hΓ0 (by kernel_rfl) rfl rfl rfl rfl rfl rfl rfl rfl rfl rfl rfl e1i ?_
          rintro ad3 ⟨⟩
          refine DX.ldE 6 0 3 e1 ttOk hΓ0 (by kernel_rfl) rfl rfl rfl rfl rfl rfl rfl rfl e1h (fun _ => rfl) (fun _ => rfl) ?_
          rintro ⟨⟨⟩, ⟨⟩⟩
          refine DX.tail2 [7, 8, 9, 10] rfl rfl (by kernel_rfl) ?_
          refine WX.bld ttOk rfl rfl rfl rfl rfl rfl rfl ?_
          intro p1
          refine WX.turn [] 3 rfl (fun h hs => ol_one (α := Link) (a := e1) (x := ((), ())) hs) (gs := [MF.ol [.int .i64 (e1.a), .int .i64 (e1.b)] ([e1] : List Link)]) rfl ?_
          refine WX.know (fun G hΓ => (hΓ.get 3 rfl : OwL _ _ _).rd.one) ?_
          intro ho1
          refine WX.appR1 501 52 ((out ++ [e1]) : List Link).length ttOk rfl rfl rfl rfl rfl rfl rfl rfl rfl rfl rfl rfl rfl ho1 (by simp) (by simp; omega) (by simp; omega) (fun _ _ => rfl) ?_
          intro p2 c1
          refine WX.turn [2, 3] 4 rfl (fun h hs => ol_app hs) (gs := [MF.ol (xsout ++ [.int .i64 (e1.a), .int .i64 (e1.b)]) ((out ++ [e1]) : List Link)]) rfl ?_
          refine WX.run ttOk rfl ?_
          refine WX.see rfl rfl rfl (fun _ hΓ => looks_arith rfl rfl rfl rfl (by unfold I64; first | omega | (dsimp only; omega))) ?_
          refine WX.run ttOk rfl ?_
          refine WX.turn [4] 2 rfl (fun _ h => h) rfl ?_
          exact WX.iter (i + 1, p2, c1, (xsout ++ [.int .i64 (e1.a), .int .i64 (e1.b)]), ((out ++ [e1]) : List Link)) ⟨(by omega), (all_app v2 (all_cons (α := Link) ok1 (fun a ha => by cases ha))), (by first | assumption | omega | (simp only [List.length_append, List.length_cons, List.length_nil, List.length_set, List.length_map, List.length_take, List.length_drop]; omega) | (simp; omega)), (by rw [v4, drop_get e1h]; simp only [spec_RemoveFailed_L1, h2, h3, h4, cond_true, cond_false])⟩ (by first | (dsimp only; omega) | omega) (.cons rfl (.cons rfl (.cons rfl (.cons rfl (.cons rfl (.cons rfl (.nil))))))) (.cons rfl (.cons rfl (.cons rfl (.nil)))) (.cons rfl (.nil)) [0, 1, 2] rfl
        · skip
          have h4d := (B.nf h4)
          refine WX.run ttOk rfl ?_
          refine WX.see rfl rfl rfl (fun _ hΓ => looks_arith rfl rfl rfl rfl (by unfold I64; first | omega | (dsimp only; omega))) ?_
          refine WX.run ttOk rfl ?_
          exact WX.iter (i + 1, pout, cout, xsout, (out : List Link)) ⟨(by omega), v2, (by first | assumption | omega | (simp only [List.length_append, List.length_cons, List.length_nil, List.length_set, List.length_map, List.length_take, List.length_drop]; omega) | (simp; omega)), (by rw [v4, drop_get e1h]; simp only [spec_RemoveFailed_L1, h2, h3, h4, cond_true, cond_false])⟩ (by first | (dsimp only; omega) | omega) (.cons rfl (.cons rfl (.cons rfl (.cons rfl (.cons rfl (.cons rfl (.nil))))))) (.cons rfl (.cons rfl (.cons rfl (.nil)))) (.cons rfl (.nil)) [0, 1, 2] rfl
      · skip
        have h3d := (B.nf h3)
        refine WX.run ttOk rfl ?_
        refine WX.see rfl rfl rfl (fun _ hΓ => looks_arith rfl rfl rfl rfl (by unfold I64; first | omega | (dsimp only; omega))) ?_
        refine WX.run ttOk rfl ?_
        exact WX.iter (i + 1, pout, cout, xsout, (out : List Link)) ⟨(by omega), v2, (by first | assumption | omega | (simp only [List.length_append, List.length_cons, List.length_nil, List.length_set, List.length_map, List.length_take, List.length_drop]; omega) | (simp; omega)), (by rw [v4, drop_get e1h]; simp only [spec_RemoveFailed_L1, h2, h3, cond_true, cond_false])⟩ (by first | (dsimp only; omega) | omega) (.cons rfl (.cons rfl (.cons rfl (.cons rfl (.cons rfl (.cons rfl (.nil))))))) (.cons rfl (.cons rfl (.cons rfl (.nil)))) (.cons rfl (.nil)) [0, 1, 2] rfl
    · skip
      have h2d := (B.nf h2)
      refine WX.run ttOk rfl ?_
      refine WX.see rfl rfl rfl (fun _ hΓ => looks_arith rfl rfl rfl rfl (by unfold I64; first | omega | (dsimp only; omega))) ?_
      refine WX.run ttOk rfl ?_
      exact WX.iter (i + 1, pout, cout, xsout, (out : List Link)) ⟨(by omega), v2, (by first | assumption | omega | (simp only [List.length_append, List.length_cons, List.length_nil, List.length_set, List.length_map, List.length_take, List.length_drop]; omega) | (simp; omega)), (by rw [v4, drop_get e1h]; simp only [spec_RemoveFailed_L1, h2, cond_true, cond_false])⟩ (by first | (dsimp only; omega) | omega) (.cons rfl (.cons rfl (.cons rfl (.cons rfl (.cons rfl (.cons rfl (.nil))))))) (.cons rfl (.cons rfl (.cons rfl (.nil)))) (.cons rfl (.nil)) [0, 1, 2] rfl
  · skip
    have h1d := B.df h1
    refine WX.run ttOk rfl ?_
    have hX1 : spec_RemoveFailed_L1 dead down n_.links 0 ([] : List Link) = ((out) : List Link) := by rw [v4, List.drop_eq_nil_of_le (show (n_.links).length ≤ i by omega)]; simp only [spec_RemoveFailed_L1, cond_true, cond_false]
    refine WX.seal 501 2 5 rfl rfl rfl rfl rfl ?_
    have hP1 : spec_RemoveFailed n_ dead down = (Topology.mk n_.size out) := by simp only [spec_RemoveFailed, hX1, cond_true, cond_false]
    refine WX.ret ttOk rfl ?_
    intro w1 G bs hI hΓ
    rw [hP1]
    exact Post.of [6] ((), (pout, cout)) hI hΓ rfl rfl rfl (And.intro (ok_Topology hokn_).1 (okl_mk (by omega) v2 : GoT.ok n (out : List Link)))
theorem f49 (w : World) (n : Nat) (hn : n + 0 ≤ 9) (w_ : Network) (pw_TopologyLinks : Option Addr) (cw_TopologyLinks : Nat) (hpw_TopologyLinks : RdSl (hp w) pw_TopologyLinks cw_TopologyLinks w_.topology.links) (pw_TrustKeys : Option Addr) (cw_TrustKeys : Nat) (hpw_TrustKeys : RdSl (hp w) pw_TrustKeys cw_TrustKeys w_.trust.keys) (pw_TrustRules : Option Addr) (cw_TrustRules : Nat) (hpw_TrustRules : RdSl (hp w) pw_TrustRules cw_TrustRules w_.trust.rules) (pw_TrustAnchors : Option Addr) (cw_TrustAnchors : Nat) (hpw_TrustAnchors : RdSl (hp w) pw_TrustAnchors cw_TrustAnchors w_.trust.anchors) (pw_TrustCertificates : Option Addr) (cw_TrustCertificates : Nat) (hpw_TrustCertificates : RdSl (hp w) pw_TrustCertificates cw_TrustCertificates w_.trust.certificates) (pw_Producers : Option Addr) (cw_Producers : Nat) (hpw_Producers : RdSl (hp w) pw_Producers cw_Producers w_.producers) (pw_Nodes : Option Addr) (cw_Nodes : Nat) (hpw_Nodes : RdSl (hp w) pw_Nodes cw_Nodes w_.nodes) (pw_FailedLinks : Option Addr) (cw_FailedLinks : Nat) (hpw_FailedLinks : RdSl (hp w) pw_FailedLinks cw_FailedLinks w_.failedLinks) (pw_InFlight : Option Addr) (cw_InFlight : Nat) (hpw_InFlight : RdSl (hp w) pw_InFlight cw_InFlight w_.inFlight) (pw_Consumers : Option Addr) (cw_Consumers : Nat) (hpw_Consumers : RdSl (hp w) pw_Consumers cw_Consumers w_.consumers) (hokw_ : GoT.ok n w_) :
    Does Tryz.prog 49 #[.agg #[.int .i64 (w_.topology.size), .slice pw_TopologyLinks ((w_.topology.links).length) cw_TopologyLinks, .slice pw_TrustKeys ((w_.trust.keys).length) cw_TrustKeys, .slice pw_TrustRules ((w_.trust.rules).length) cw_TrustRules, .slice pw_TrustAnchors ((w_.trust.anchors).length) cw_TrustAnchors, .slice pw_TrustCertificates ((w_.trust.certificates).length) cw_TrustCertificates, .slice pw_Producers ((w_.producers).length) cw_Producers, .slice pw_Nodes ((w_.nodes).length) cw_Nodes, .int .i64 (w_.downNodes), .slice pw_FailedLinks ((w_.failedLinks).length) cw_FailedLinks, .slice pw_InFlight ((w_.inFlight).length) cw_InFlight, .slice pw_Consumers ((w_.consumers).length) cw_Consumers, .int .i64 (w_.now), .int .i64 (w_.dropped)]] w emp (Post w emp (fun x : GoT.X (Topology) => .agg ⟨GoT.sh ((impl_LiveTopology w_) : Topology) x⟩) (fun x => GoT.oa ((impl_LiveTopology w_) : Topology) x) (GoT.ok n ((impl_LiveTopology w_) : Topology))) := by
  have hbP := bd_pos n
  have hbB := bd_big (n := n) (by omega)
  refine WX.enter (tt := tt) (Γ := [(0, MF.rs .stb pw_TopologyLinks cw_TopologyLinks w_.topology.links), (1, MF.rs .stb pw_TrustKeys cw_TrustKeys w_.trust.keys), (2, MF.rs .stb pw_TrustRules cw_TrustRules w_.trust.rules), (3, MF.rs .stb pw_TrustAnchors cw_TrustAnchors w_.trust.anchors), (4, MF.rs .stb pw_TrustCertificates cw_TrustCertificates w_.trust.certificates), (5, MF.rs .stb pw_Producers cw_Producers w_.producers), (6, MF.rs .stb pw_Nodes cw_Nodes w_.nodes), (7, MF.rs .stb pw_FailedLinks cw_FailedLinks w_.failedLinks), (8, MF.rs .stb pw_InFlight cw_InFlight w_.inFlight), (9, MF.rs .stb pw_Consumers cw_Consumers w_.consumers)]) Tryz.func49 rfl (by kernel_rfl) rfl (allS_cons rfl hpw_TopologyLinks (allS_cons rfl hpw_TrustKeys (allS_cons rfl hpw_TrustRules (allS_cons rfl hpw_TrustAnchors (allS_cons rfl hpw_TrustCertificates (allS_cons rfl hpw_Producers (allS_cons rfl hpw_Nodes (allS_cons rfl hpw_FailedLinks (allS_cons rfl hpw_InFlight (allS_cons rfl hpw_Consumers allS_nil)))))))))) ?_
  refine WX.run ttOk rfl ?_
  refine WX.callF 10 (fun _ _ h => GoT.ow_rd h) (fun _ f hf => GoT.fak f hf) rfl rfl rfl rfl rfl (fun _ => rfl) rfl (fun w G bs hI hΓ => f147 w n (by omega) w_.topology pw_TopologyLinks cw_TopologyLinks (hΓ.get 0 rfl) w_.failedLinks pw_FailedLinks cw_FailedLinks (hΓ.get 7 rfl) w_.downNodes ((ok_Network hokw_).1) ((ok_Network hokw_).2.2.2.2.2.1) ((ok_Network hokw_).2.2.2.2.1)) (fun _ => rfl) (fun _ => rfl) ?_
  rintro ⟨⟨⟩, ⟨p1, c1⟩⟩ hq1
  refine WX.run ttOk rfl ?_
  have hP1 : impl_LiveTopology w_ = (impl_RemoveFailed w_.topology w_.failedLinks w_.downNodes) := by simp only [impl_LiveTopology, cond_true, cond_false]
  refine WX.ret ttOk rfl ?_
  intro w1 G bs hI hΓ
  rw [hP1]
  exact Post.of [11] ((), (p1, c1)) hI hΓ rfl rfl rfl hq1
theorem f48 (w : World) (n : Nat) (hn : n + 0 ≤ 9) (w_ : Network) (pw_TopologyLinks : Option Addr) (cw_TopologyLinks : Nat) (hpw_TopologyLinks : RdSl (hp w) pw_TopologyLinks cw_TopologyLinks w_.topology.links) (pw_TrustKeys : Option Addr) (cw_TrustKeys : Nat) (hpw_TrustKeys : RdSl (hp w) pw_TrustKeys cw_TrustKeys w_.trust.keys) (pw_TrustRules : Option Addr) (cw_TrustRules : Nat) (hpw_TrustRules : RdSl (hp w) pw_TrustRules cw_TrustRules w_.trust.rules) (pw_TrustAnchors : Option Addr) (cw_TrustAnchors : Nat) (hpw_TrustAnchors : RdSl (hp w) pw_TrustAnchors cw_TrustAnchors w_.trust.anchors) (pw_TrustCertificates : Option Addr) (cw_TrustCertificates : Nat) (hpw_TrustCertificates : RdSl (hp w) pw_TrustCertificates cw_TrustCertificates w_.trust.certificates) (pw_Producers : Option Addr) (cw_Producers : Nat) (hpw_Producers : RdSl (hp w) pw_Producers cw_Producers w_.producers) (pw_Nodes : Option Addr) (cw_Nodes : Nat) (hpw_Nodes : RdSl (hp w) pw_Nodes cw_Nodes w_.nodes) (pw_FailedLinks : Option Addr) (cw_FailedLinks : Nat) (hpw_FailedLinks : RdSl (hp w) pw_FailedLinks cw_FailedLinks w_.failedLinks) (pw_InFlight : Option Addr) (cw_InFlight : Nat) (hpw_InFlight : RdSl (hp w) pw_InFlight cw_InFlight w_.inFlight) (pw_Consumers : Option Addr) (cw_Consumers : Nat) (hpw_Consumers : RdSl (hp w) pw_Consumers cw_Consumers w_.consumers) (hokw_ : GoT.ok n w_) :
    Does Tryz.prog 48 #[.agg #[.int .i64 (w_.topology.size), .slice pw_TopologyLinks ((w_.topology.links).length) cw_TopologyLinks, .slice pw_TrustKeys ((w_.trust.keys).length) cw_TrustKeys, .slice pw_TrustRules ((w_.trust.rules).length) cw_TrustRules, .slice pw_TrustAnchors ((w_.trust.anchors).length) cw_TrustAnchors, .slice pw_TrustCertificates ((w_.trust.certificates).length) cw_TrustCertificates, .slice pw_Producers ((w_.producers).length) cw_Producers, .slice pw_Nodes ((w_.nodes).length) cw_Nodes, .int .i64 (w_.downNodes), .slice pw_FailedLinks ((w_.failedLinks).length) cw_FailedLinks, .slice pw_InFlight ((w_.inFlight).length) cw_InFlight, .slice pw_Consumers ((w_.consumers).length) cw_Consumers, .int .i64 (w_.now), .int .i64 (w_.dropped)]] w emp (Post w emp (fun x : GoT.X (Topology) => .agg ⟨GoT.sh ((spec_LiveTopology w_) : Topology) x⟩) (fun x => GoT.oa ((spec_LiveTopology w_) : Topology) x) (GoT.ok n ((spec_LiveTopology w_) : Topology))) := by
  have hbP := bd_pos n
  have hbB := bd_big (n := n) (by omega)
  refine WX.enter (tt := tt) (Γ := [(0, MF.rs .stb pw_TopologyLinks cw_TopologyLinks w_.topology.links), (1, MF.rs .stb pw_TrustKeys cw_TrustKeys w_.trust.keys), (2, MF.rs .stb pw_TrustRules cw_TrustRules w_.trust.rules), (3, MF.rs .stb pw_TrustAnchors cw_TrustAnchors w_.trust.anchors), (4, MF.rs .stb pw_TrustCertificates cw_TrustCertificates w_.trust.certificates), (5, MF.rs .stb pw_Producers cw_Producers w_.producers), (6, MF.rs .stb pw_Nodes cw_Nodes w_.nodes), (7, MF.rs .stb pw_FailedLinks cw_FailedLinks w_.failedLinks), (8, MF.rs .stb pw_InFlight cw_InFlight w_.inFlight), (9, MF.rs .stb pw_Consumers cw_Consumers w_.consumers)]) Tryz.func48 rfl (by kernel_rfl) rfl (allS_cons rfl hpw_TopologyLinks (allS_cons rfl hpw_TrustKeys (allS_cons rfl hpw_TrustRules (allS_cons rfl hpw_TrustAnchors (allS_cons rfl hpw_TrustCertificates (allS_cons rfl hpw_Producers (allS_cons rfl hpw_Nodes (allS_cons rfl hpw_FailedLinks (allS_cons rfl hpw_InFlight (allS_cons rfl hpw_Consumers allS_nil)))))))))) ?_
  refine WX.run ttOk rfl ?_
  refine WX.callF 10 (fun _ _ h => GoT.ow_rd h) (fun _ f hf => GoT.fak f hf) rfl rfl rfl rfl rfl (fun _ => rfl) rfl (fun w G bs hI hΓ => f146 w n (by omega) w_.topology pw_TopologyLinks cw_TopologyLinks (hΓ.get 0 rfl) w_.failedLinks pw_FailedLinks cw_FailedLinks (hΓ.get 7 rfl) w_.downNodes ((ok_Network hokw_).1) ((ok_Network hokw_).2.2.2.2.2.1) ((ok_Network hokw_).2.2.2.2.1)) (fun _ => rfl) (fun _ => rfl) ?_
  rintro ⟨⟨⟩, ⟨p1, c1⟩⟩ hq1
  refine WX.run ttOk rfl ?_
  have hP1 : spec_LiveTopology w_ = (spec_RemoveFailed w_.topology w_.failedLinks w_.downNodes) := by simp only [spec_LiveTopology, cond_true, cond_false]
  refine WX.ret ttOk rfl ?_
  intro w1 G bs hI hΓ
  rw [hP1]
  exact Post.of [11] ((), (p1, c1)) hI hΓ rfl rfl rfl hq1
end Go.Proofs.YtfffongneoegbaaGreat

namespace Go.Stp
theorem mid {α : Type} (p : List α) (e : α) (l : List α) : (p ++ e :: l)[p.length]? = some e := by simp
theorem mid_set {α : Type} (p : List α) (e x : α) (l : List α) : (p ++ e :: l).set p.length x = (p ++ [x]) ++ l := by simp
theorem mid_app {α : Type} (p : List α) (e : α) (l : List α) : (p ++ [e]) ++ l = p ++ e :: l := by simp
theorem mid_len {α : Type} (p : List α) (e : α) : (p ++ [e]).length = p.length + 1 := by simp
def SzR (r left : Int) (s : Nat) : Prop := r = -1 ∨ ((s : Int) ≤ left ∧ r = left - s)
theorem SzR.pos {r left : Int} {s : Nat} (h : SzR r left s) (hr : 0 ≤ r) : (s : Int) ≤ left ∧ r = left - s := by
  rcases h with h | h
  · omega
  · exact h
def SzL (r : Ctl Int Int) (left : Int) (s : Nat) : Prop := r = .ret (-1) ∨ ((s : Int) ≤ left ∧ r = .nxt (left - s))
theorem dF {x : Int} (h : 0 ≤ x) : decide (x < 0) = false := decide_eq_false (by omega)
theorem dT {x : Int} (h : x < 0) : decide (x < 0) = true := decide_eq_true h
theorem wrap_sub {x : Int} {n : Nat} (h0 : 0 ≤ x) (h1 : x ≤ 1048576) (hn : n ≤ 9223372036854775807) : IntKind.i64.wrap (x - (n : Int)) = x - n := wrap_i64 (by unfold I64; omega)
theorem wrap1 {x : Int} (h0 : 0 ≤ x) (h1 : x ≤ 4611686018427387904) : IntKind.i64.wrap (x + 1) = x + 1 := wrap_i64 (by unfold I64; omega)
theorem szL_cons {α : Type} [GoT α] [Sz α] (a : α) (l : List α) : szL (a :: l) = sz a + szL l := by simp [szL]
theorem szL_nil {α : Type} [GoT α] [Sz α] : szL ([] : List α) = 0 := rfl
theorem szL_zero {α : Type} [GoT α] [Sz α] (h : ∀ a : α, sz a = 0) : ∀ l : List α, szL l = 0
  | [] => rfl
  | a :: l => by rw [szL_cons, h a, szL_zero h l]
theorem szL_u8 (l : List UInt8) : szL l = 0 := szL_zero (fun _ => rfl) l
theorem szL_int (l : List Int) : szL l = 0 := szL_zero (fun _ => rfl) l
def MkR (k k' : Int) (s : Nat) (held : Int) : Prop := k ≤ k' ∧ k' ≤ k + 16 * (s : Int) ∧ held = k'
theorem bne_self_F {α : Type} [BEq α] [LawfulBEq α] (a : α) : (a != a) = false := by simp
theorem nbeq_self_F {α : Type} [BEq α] [LawfulBEq α] (a : α) : (!(a == a)) = false := by simp
end Go.Stp

