/-
  That functions of the program compute what the Lean functions do. No condition but what each says. Written by a program (gen2.py).
-/
import Derived.Test.YtcipekdocckfgaaC8
import Derived.Test.YtcipekdocckfgaaP13
import Derived.Test.YtcipekdocckfgaaRaw
namespace Go.Proofs.Ytcipekdocckfgaa
open Go.Stp
set_option linter.unusedVariables false
set_option linter.unusedSimpArgs false
theorem f104 (w : World) (n : Nat) (hn : n + 0 ≤ 9) (s : (List DataP)) (ps : Option Addr) (cs : Nat) (hps : RdSl (hp w) ps cs s) (fg : FuncId) (fc : List Value) (fq : DataP → Bool) (ff : ∀ w1, Kp emp w w1 → ∀ (e0 : DataP) (x0 : GoT.X DataP), GoT.ok n e0 → All (hp w1) (GoT.fa .der e0 x0) → Does Try.prog fg ([Value.agg ⟨GoT.sh e0 x0⟩] ++ fc).toArray w1 emp (fun rv _ => rv = .bool (fq e0) ∧ True)) (hoks : GoT.ok n s) :
    Does Try.prog 104 #[.slice ps ((s).length) cs, .func (.func fg) #[] fc.toArray] w emp (fun (rv : Value) (_ : World) => rv = .int .i64 ((slices_IndexFunc_Data s fq)) ∧ GoT.ok n ((slices_IndexFunc_Data s fq) : Int)) := by
  have hbP := bd_pos n
  have hbB := bd_big (n := n) (by omega)
  refine WX.enter (tt := tt) (Γ := [(0, MF.rs .stb ps cs s)]) Try.func104 rfl (by kernel_rfl) rfl (allS_cons rfl hps allS_nil) ?_
  refine WX.run ttOk rfl ?_
  have r1 : (s).length ≤ bd n := (okl hoks).1
  refine WX.loop (ι := Nat) ⟨fun i => (i ≤ (s).length) ∧ (slices_IndexFunc_Data_L1 fq s 0 = slices_IndexFunc_Data_L1 fq ((s).drop i) i), fun i => (s).length - i, fun i => [(8, .v (.int .i64 (((i : Nat) : Int)))), (7, .v (.int .i64 ((((s).length : Nat) : Int)))), (0, .v (.slice ps ((s).length) cs)), (1, .v (.func (.func fg) #[] fc.toArray))], fun i => [], fun i => [], fun i => [(0, MF.rs .stb ps cs s)]⟩ 0 ⟨(Nat.zero_le _), rfl⟩
    (.cons rfl (.cons rfl (.cons rfl (.cons rfl (.nil))))) .nil .nil [0] rfl ?_
  rintro i hpre
  have hpre_ : (i ≤ (s).length) ∧ (slices_IndexFunc_Data_L1 fq s 0 = slices_IndexFunc_Data_L1 fq ((s).drop i) i) := hpre
  clear hpre
  obtain ⟨v1, v2⟩ := hpre_
  refine WX.run ttOk rfl ?_
  refine WX.cases 9 rfl (fun h1 => ?_) (fun h1 => ?_)
  · skip
    have h1d := B.dt h1
    have e1i : i < (s).length := (by omega)
    obtain ⟨e1, e1h⟩ : ∃ e1, (s)[i]? = some e1 := ⟨_, List.getElem?_eq_getElem e1i⟩
    have ok1 : GoT.ok n e1 := (okl hoks).2 _ (List.mem_of_getElem? e1h)
    refine WX.run ttOk rfl ?_
    refine WX.idx 0 i ttOk rfl rfl rfl rfl rfl rfl rfl rfl rfl rfl e1i ?_
    rintro ad1 rfl
    refine WX.ldE 0 1 e1 ttOk rfl rfl rfl rfl rfl rfl rfl rfl e1h (fun _ => rfl) (fun _ => rfl) ?_
    rintro ⟨⟨p1, c1⟩, ⟨p2, c2⟩, ⟨p3, c3⟩, ⟨⟩, ⟨⟩⟩
    refine WX.callV rfl rfl rfl rfl rfl (fun _ => rfl) rfl (fun w G bs hI hΓ => ff w hI.keep e1 ((p1, c1), (p2, c2), (p3, c3), (), ()) ok1 (All.cons (hΓ.get 1 rfl : RdSl _ _ _ _) (All.cons (hΓ.get 2 rfl : RdSl _ _ _ _) (All.cons (hΓ.get 3 rfl : RdSl _ _ _ _) All.nil)))) ?_
    intro hq1
    refine WX.run ttOk rfl ?_
    refine WX.cases 16 rfl (fun h2 => ?_) (fun h2 => ?_)
    · skip
      refine WX.run ttOk rfl ?_
      have hP1 : slices_IndexFunc_Data_L1 fq s 0 = (some ((i : Nat) : Int)) := by rw [v2, drop_get e1h]; simp only [slices_IndexFunc_Data_L1, h2, cond_true, cond_false]
      have hP2 : slices_IndexFunc_Data s fq = ((i : Nat) : Int) := by simp only [slices_IndexFunc_Data, hP1, cond_true, cond_false]
      refine WX.ret ttOk rfl ?_
      intro w1 G bs hI hΓ
      rw [hP2]
      exact ⟨rfl, (show I64 ((i : Nat) : Int) from (by unfold I64; omega))⟩
    · skip
      refine WX.run ttOk rfl ?_
      refine WX.see rfl rfl rfl (fun _ hΓ => looks_arith rfl rfl rfl rfl (by unfold I64; omega)) ?_
      refine WX.run ttOk rfl ?_
      exact WX.iter (i + 1) ⟨(by omega), (by rw [v2, drop_get e1h]; simp only [slices_IndexFunc_Data_L1, h2, cond_true, cond_false])⟩ (by dsimp only; omega) (.cons rfl (.cons rfl (.cons rfl (.cons rfl (.nil))))) .nil .nil [0] rfl
  · skip
    have h1d := B.df h1
    refine WX.run ttOk rfl ?_
    have hX1 : slices_IndexFunc_Data_L1 fq s 0 = none := by rw [v2, List.drop_eq_nil_of_le (show (s).length ≤ i by omega)]; simp only [slices_IndexFunc_Data_L1, cond_true, cond_false]
    have hP3 : slices_IndexFunc_Data s fq = (-1) := by simp only [slices_IndexFunc_Data, hX1, cond_true, cond_false]
    refine WX.ret ttOk rfl ?_
    intro w1 G bs hI hΓ
    rw [hP3]
    exact ⟨rfl, (show I64 (-1) from (by unfold I64; omega))⟩
theorem ixN_slices_IndexFunc_Data (f : DataP → Bool) : ∀ (l : List DataP) (i : Nat), slices_IndexFunc_Data_L1 f l i = none → ∀ a ∈ l, f a = false
  | [], i, h, a, ha => by cases ha
  | x :: l, i, h, a, ha => by
    simp only [slices_IndexFunc_Data_L1] at h
    cases hx : f x
    · rw [hx, cond_false] at h
      rcases List.mem_cons.1 ha with rfl | ha
      · exact hx
      · exact ixN_slices_IndexFunc_Data f l (i + 1) h a ha
    · rw [hx, cond_true] at h; cases h
theorem ixS_slices_IndexFunc_Data (f : DataP → Bool) : ∀ (l : List DataP) (i : Nat) (j : Int), slices_IndexFunc_Data_L1 f l i = some j → ∃ m a, j = ((i + m : Nat) : Int) ∧ l[m]? = some a ∧ f a = true ∧ ∀ b ∈ l.take m, f b = false
  | [], i, j, h => by cases h
  | x :: l, i, j, h => by
    simp only [slices_IndexFunc_Data_L1] at h
    cases hx : f x
    · rw [hx, cond_false] at h
      obtain ⟨m, a, h1, h2, h3, h4⟩ := ixS_slices_IndexFunc_Data f l (i + 1) j h
      refine ⟨m + 1, a, by rw [h1]; congr 1; omega, by simpa using h2, h3, fun b hb => ?_⟩
      rw [List.take_succ_cons] at hb
      rcases List.mem_cons.1 hb with rfl | hb
      · exact hx
      · exact h4 b hb
    · rw [hx, cond_true] at h
      cases h
      exact ⟨0, x, rfl, rfl, hx, fun b hb => by simp at hb⟩
theorem ixE_slices_IndexFunc_Data {f : DataP → Bool} {l : List DataP} (h : slices_IndexFunc_Data l f = -1) : ∀ a ∈ l, f a = false := by
  unfold slices_IndexFunc_Data at h
  cases hx : slices_IndexFunc_Data_L1 f l 0 with
  | none => exact ixN_slices_IndexFunc_Data f l 0 hx
  | some j =>
    obtain ⟨m, a, h1, _⟩ := ixS_slices_IndexFunc_Data f l 0 j hx
    rw [hx] at h
    have : j = -1 := h
    omega
theorem ixT_slices_IndexFunc_Data {f : DataP → Bool} {l : List DataP} (h : ¬ slices_IndexFunc_Data l f = -1) : ∃ (m : Nat) (a : DataP), slices_IndexFunc_Data l f = (m : Int) ∧ l[m]? = some a ∧ f a = true ∧ ∀ b ∈ l.take m, f b = false := by
  unfold slices_IndexFunc_Data at h ⊢
  cases hx : slices_IndexFunc_Data_L1 f l 0 with
  | none => rw [hx] at h; exact absurd rfl h
  | some j =>
    obtain ⟨m, a, h1, h2⟩ := ixS_slices_IndexFunc_Data f l 0 j hx
    exact ⟨m, a, by rw [h1, Nat.zero_add], h2⟩
theorem len_slices_DeleteFunc_Data (s : List DataP) (delq : DataP → Bool) : (slices_DeleteFunc_Data s delq).length ≤ s.length := List.length_filter_le _ _
theorem ok_slices_DeleteFunc_Data {n : Nat} {s : List DataP} (delq : DataP → Bool) (h : GoT.ok n s) : GoT.ok n (slices_DeleteFunc_Data s delq) :=
  okl_mk (Nat.le_trans (List.length_filter_le _ _) (okl h).1) (fun a ha => (okl h).2 a (List.mem_filter.1 ha).1)
theorem f67 (w : World) (n : Nat) (hn : n + 0 ≤ 9) (H : GH) (hH : Le H (hp w)) (s : List DataP) (ps : Option Addr) (cs : Nat) (delg : FuncId) (delc : List Value) (delq : DataP → Bool) (delf : ∀ w1, Kp H w w1 → ∀ (e0 : DataP) (x0 : GoT.X DataP), GoT.ok n e0 → All (hp w1) (GoT.fa .der e0 x0) → Does Try.prog delg ([Value.agg ⟨GoT.sh e0 x0⟩] ++ delc).toArray w1 emp (fun rv _ => rv = .bool (delq e0) ∧ True)) (hown : Sep H (GoT.oa s (ps, cs))) (hoks : GoT.ok n s) :
    Does Try.prog 67 #[.slice ps ((s).length) cs, .func (.func delg) #[] delc.toArray] w H (Post w H (fun x : GoT.X (List DataP) => (GoT.sh ((slices_DeleteFunc_Data s delq) : List DataP) x).headD undef) (fun x => GoT.oa ((slices_DeleteFunc_Data s delq) : List DataP) x) (GoT.ok n ((slices_DeleteFunc_Data s delq) : List DataP))) := by
  have hbP := bd_pos n
  have hbB := bd_big (n := n) (by omega)
  have r1 : (s).length ≤ bd n := (okl hoks).1
  refine WX.enterM (tt := tt) (Γ := []) 0 Try.func67 rfl (by kernel_rfl) rfl allS_nil hH hown (fun f hf => GoT.oak f hf) rfl ?_
  refine WX.run ttOk rfl ?_
  refine WX.der 1 (MF.rs .der ps cs s) rfl (fun _ hΓ => (hΓ.get 0 rfl : OwSl _ _ _ _).rd) ?_
  refine WX.know (fun G hΓ => (hΓ.get 1 rfl : RdSl _ _ _ _).1) ?_
  intro hcap
  refine WX.callV rfl rfl rfl rfl rfl (fun _ => rfl) rfl (fun w G bs hI hΓ => f104 w n (by omega) s ps cs (hΓ.get 1 rfl) delg delc delq (fun w1_ hb_ => delf w1_ (hI.keep.lent hb_)) hoks) ?_
  intro hq1
  refine WX.run ttOk rfl ?_
  refine WX.cases 12 rfl (fun h1 => ?_) (fun h1 => ?_)
  · have hN := ixE_slices_IndexFunc_Data (B.et h1)
    have hP : slices_DeleteFunc_Data s delq = s := List.filter_eq_self.2 (fun b hb => by simp [hN b hb])
    refine WX.run ttOk rfl ?_
    refine WX.ret ttOk rfl ?_
    intro w1 G bs hI hΓ
    rw [hP]
    exact Post.of [0] (ps, cs) hI hΓ rfl rfl rfl hoks
  · obtain ⟨i0, a0, hi0, ha0, hf0, hb0⟩ := ixT_slices_IndexFunc_Data (B.ef h1)
    have hi0l := (List.getElem?_eq_some_iff.1 ha0).1
    refine WX.slot 5 (y := .v (.int .i64 ((i0 : Nat) : Int))) rfl (fun _ => by rw [hi0]) ?_
    refine WX.opn (kk := 5) 501 0 2 rfl rfl rfl ?_
    intro xs0 hx0
    refine WX.run ttOk rfl ?_
    refine WX.see rfl rfl rfl (fun _ hΓ => looks_arith rfl rfl rfl rfl (by unfold I64; omega)) ?_
    refine WX.run ttOk rfl ?_
    refine WX.loop (ι := Nat × Nat × List Value) ⟨fun | (i, j, xs) => DelInv delq s xs0 i j xs, fun | (i, j, xs) => (s).length - j, fun | (i, j, xs) => [(5, .v (.int .i64 ((i : Nat) : Int))), (6, .v (.int .i64 ((j : Nat) : Int))), (0, .v (.slice ps ((s).length) cs)), (1, .v (.func (.func delg) #[] delc.toArray))], fun | (i, j, xs) => [], fun | (i, j, xs) => [(501, ⟨5, ps, (s).length, cs, xs⟩)], fun | (i, j, xs) => [(2, MF.ol xs0 s)]⟩ (i0, i0 + 1, xs0) (DelInv.start hx0 ha0 hf0 hb0)
      (.cons rfl (.cons rfl (.cons rfl (.cons rfl (.nil))))) .nil (.cons rfl .nil) [2] rfl ?_
    rintro ⟨i, j, xs⟩ hpre
    have v1 : DelInv delq s xs0 i j xs := hpre
    clear hpre
    have v1i := v1.ij
    have v1j := v1.jn
    refine WX.run ttOk rfl ?_
    refine WX.cases 19 rfl (fun h2 => ?_) (fun h2 => ?_)
    · have h2d := B.dt h2
      have hjl : j < (s).length := by omega
      have hil : i < (s).length := by omega
      obtain ⟨e1, e1h⟩ : ∃ e1, (s)[j]? = some e1 := ⟨_, List.getElem?_eq_getElem hjl⟩
      have ok1 : GoT.ok n e1 := (okl hoks).2 _ (List.mem_of_getElem? e1h)
      refine WX.run ttOk rfl ?_
      refine WX.idxR 501 j ttOk rfl rfl rfl rfl rfl rfl rfl rfl rfl hjl ?_
      rintro ad1 rfl
      refine WX.ldW (xs0 := xs0) 501 3 e1 ttOk rfl rfl rfl rfl rfl rfl rfl rfl rfl hjl (fun G hΓ => (hΓ.get 2 rfl : OwL _ _ _).rd) e1h (fun q => v1.rest _ (Nat.le_add_right _ _)) (fun _ => rfl) (fun _ => rfl) ?_
      rintro ⟨⟨p1, c1⟩, ⟨p2, c2⟩, ⟨p3, c3⟩, ⟨⟩, ⟨⟩⟩ hx1
      refine WX.run ttOk rfl ?_
      refine WX.callV rfl rfl rfl rfl rfl (fun _ => rfl) rfl (fun w G bs hI hΓ => delf w hI.keep e1 ((p1, c1), (p2, c2), (p3, c3), (), ()) ok1 (All.cons (hΓ.get 3 rfl : RdSl _ _ _ _) (All.cons (hΓ.get 4 rfl : RdSl _ _ _ _) (All.cons (hΓ.get 5 rfl : RdSl _ _ _ _) All.nil)))) ?_
      intro hq2
      refine WX.run ttOk rfl ?_
      refine WX.cases 29 rfl (fun h3 => ?_) (fun h3 => ?_)
      · refine WX.run ttOk rfl ?_
        refine WX.idxR 501 i ttOk rfl rfl rfl rfl rfl rfl rfl rfl rfl hil ?_
        rintro ad2 ⟨⟩
        refine WX.stR 501 ttOk rfl rfl rfl rfl rfl rfl rfl rfl rfl rfl rfl rfl rfl hil rfl rfl rfl ?_
        refine WX.run ttOk rfl ?_
        refine WX.see rfl rfl rfl (fun _ hΓ => looks_arith rfl rfl rfl rfl (by unfold I64; omega)) ?_
        refine WX.run ttOk rfl ?_
        refine WX.see rfl rfl rfl (fun _ hΓ => looks_arith rfl rfl rfl rfl (by unfold I64; omega)) ?_
        refine WX.run ttOk rfl ?_
        exact WX.iter (i + 1, j + 1, _) (DelInv.keep hx0 v1 e1h (B.nt h3) rfl hx1) (by dsimp only; omega) (.cons rfl (.cons rfl (.cons rfl (.cons rfl (.nil))))) .nil (.cons rfl .nil) [2] rfl
      · refine WX.run ttOk rfl ?_
        refine WX.see rfl rfl rfl (fun _ hΓ => looks_arith rfl rfl rfl rfl (by unfold I64; omega)) ?_
        refine WX.run ttOk rfl ?_
        exact WX.iter (i, j + 1, xs) (v1.skip e1h (B.nf h3)) (by dsimp only; omega) (.cons rfl (.cons rfl (.cons rfl (.cons rfl (.nil))))) .nil (.cons rfl .nil) [2] rfl
    · have h2d := B.df h2
      obtain ⟨d1, d2⟩ := v1.done (by omega)
      refine WX.run ttOk rfl ?_
      refine WX.see rfl rfl rfl (fun _ hΓ => looks_slL i ttOk rfl rfl rfl rfl rfl (show i ≤ (s).length by omega)) ?_
      refine WX.clr 501 i ttOk rfl rfl rfl rfl rfl rfl rfl rfl (show i ≤ (s).length by omega) rfl ?_
      refine WX.run ttOk rfl ?_
      refine WX.see rfl rfl rfl (fun _ hΓ => looks_slH i ttOk rfl rfl rfl rfl rfl (show i ≤ cs by omega)) ?_
      refine WX.run ttOk rfl ?_
      refine WX.turn [2] 3 rfl (fun h hs => by rw [show xs.take (i * 5) = keepC 5 delq s xs0 from d1]; exact one_sep (OwL.keep delq (sep_one hs : OwL _ _ _))) (gs := [MF.ol (xs.take (i * 5)) (slices_DeleteFunc_Data s delq)]) rfl ?_
      refine WX.seal 501 3 4 rfl rfl (show i = (slices_DeleteFunc_Data s delq).length from d2) rfl rfl ?_
      refine WX.slot 4 (y := .v (.slice ps (slices_DeleteFunc_Data s delq).length cs)) rfl (fun _ => by rw [show i = (slices_DeleteFunc_Data s delq).length from d2]) ?_
      refine WX.ret ttOk rfl ?_
      intro w1 G bs hI hΓ
      exact Post.of [5] (ps, cs) hI hΓ rfl rfl rfl (ok_slices_DeleteFunc_Data delq hoks)
end Go.Proofs.Ytcipekdocckfgaa
