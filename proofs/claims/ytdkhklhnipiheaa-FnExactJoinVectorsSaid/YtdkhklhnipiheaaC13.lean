/-
  That functions of the program compute what the Lean functions do. No condition but what each says. Written by a program (gen2.py).
-/
import Derived.Test.YtdkhklhnipiheaaC8
import Derived.Test.YtdkhklhnipiheaaP13
import Derived.Test.YtdkhklhnipiheaaFork
namespace Go.Proofs.Ytdkhklhnipiheaa
open Go.Stp
set_option linter.unusedVariables false
set_option linter.unusedSimpArgs false
theorem f165 (w : World) (n : Nat) (hn : n + 0 ≤ 9) (s : (List DataP)) (ps : Option Addr) (cs : Nat) (hps : RdSl (hp w) ps cs s) (fg : FuncId) (fc : List Value) (fq : DataP → Bool) (ff : ∀ w1, Kp emp w w1 → ∀ (e0 : DataP) (x0 : GoT.X DataP), GoT.ok n e0 → All (hp w1) (GoT.fa .der e0 x0) → Does Try.prog fg ([Value.agg ⟨GoT.sh e0 x0⟩] ++ fc).toArray w1 emp (fun rv _ => rv = .bool (fq e0) ∧ True)) (hoks : GoT.ok n s) :
    Does Try.prog 165 #[.slice ps ((s).length) cs, .func (.func fg) #[] fc.toArray] w emp (fun (rv : Value) (_ : World) => rv = .int .i64 ((slices_IndexFunc_Data s fq)) ∧ GoT.ok n ((slices_IndexFunc_Data s fq) : Int)) := by
  have hbP := bd_pos n
  have hbB := bd_big (n := n) (by omega)
  refine WX.enter (tt := tt) (Γ := [(0, MF.rs .stb ps cs s)]) Try.func165 rfl (by kernel_rfl) rfl (allS_cons rfl hps allS_nil) ?_
  refine WX.run ttOk rfl ?_
  have r1 : (s).length ≤ bd n := (okl hoks).1
  refine WX.loop (ι := Nat) ⟨fun i => (i ≤ (s).length) ∧ (slices_IndexFunc_Data_L1 fq s 0 = slices_IndexFunc_Data_L1 fq ((s).drop i) i), fun i => (s).length - i, fun i => [(8, .v (.int .i64 (((i : Nat) : Int)))), (7, .v (.int .i64 ((((s).length : Nat) : Int)))), (0, .v (.slice ps ((s).length) cs)), (1, .v (.func (.func fg) #[] fc.toArray))], fun i => [], fun i => [], fun i => [(0, MF.rs .stb ps cs s)]⟩ 0 ⟨(Nat.zero_le _), rfl⟩
    (.cons rfl (.cons rfl (.cons rfl (.cons rfl (.nil))))) .nil .nil [0] rfl ?_
  rintro i hpre
  have hpre_ : (i ≤ (s).length) ∧ (slices_IndexFunc_Data_L1 fq s 0 = slices_IndexFunc_Data_L1 fq ((s).drop i) i) := hpre
  clear hpre
  obtain ⟨v1, v2⟩ := hpre_
  refine WX.run ttOk rfl ?_
  refine WX.cases 9 rfl (fun h1 => ?_) (fun h1 => ?_)
  · skip
    have h1d := B.dt h1
    have e1i : i < (s).length := (by omega)
    obtain ⟨e1, e1h⟩ : ∃ e1, (s)[i]? = some e1 := ⟨_, List.getElem?_eq_getElem e1i⟩
    have ok1 : GoT.ok n e1 := (okl hoks).2 _ (List.mem_of_getElem? e1h)
    refine WX.run ttOk rfl ?_
    refine WX.idx 0 i ttOk rfl rfl rfl rfl rfl rfl rfl rfl rfl rfl e1i ?_
    rintro ad1 rfl
    refine WX.ldE 0 1 e1 ttOk rfl rfl rfl rfl rfl rfl rfl rfl e1h (fun _ => rfl) (fun _ => rfl) ?_
    rintro ⟨⟨p1, c1⟩, ⟨p2, c2⟩, ⟨p3, c3⟩, ⟨⟩, ⟨⟩⟩
    refine WX.callV rfl rfl rfl rfl rfl (fun _ => rfl) rfl (fun w G bs hI hΓ => ff w hI.keep e1 ((p1, c1), (p2, c2), (p3, c3), (), ()) ok1 (All.cons (hΓ.get 1 rfl : RdSl _ _ _ _) (All.cons (hΓ.get 2 rfl : RdSl _ _ _ _) (All.cons (hΓ.get 3 rfl : RdSl _ _ _ _) All.nil)))) ?_
    intro hq1
    refine WX.run ttOk rfl ?_
    refine WX.cases 16 rfl (fun h2 => ?_) (fun h2 => ?_)
    · skip
      refine WX.run ttOk rfl ?_
      have hP1 : slices_IndexFunc_Data_L1 fq s 0 = (some ((i : Nat) : Int)) := by rw [v2, drop_get e1h]; simp only [slices_IndexFunc_Data_L1, h2, cond_true, cond_false]
      have hP2 : slices_IndexFunc_Data s fq = ((i : Nat) : Int) := by simp only [slices_IndexFunc_Data, hP1, cond_true, cond_false]
      refine WX.ret ttOk rfl ?_
      intro w1 G bs hI hΓ
      rw [hP2]
      exact ⟨rfl, (show I64 ((i : Nat) : Int) from (by unfold I64; omega))⟩
    · skip
      refine WX.run ttOk rfl ?_
      refine WX.see rfl rfl rfl (fun _ hΓ => looks_arith rfl rfl rfl rfl (by unfold I64; omega)) ?_
      refine WX.run ttOk rfl ?_
      exact WX.iter (i + 1) ⟨(by omega), (by rw [v2, drop_get e1h]; simp only [slices_IndexFunc_Data_L1, h2, cond_true, cond_false])⟩ (by dsimp only; omega) (.cons rfl (.cons rfl (.cons rfl (.cons rfl (.nil))))) .nil .nil [0] rfl
  · skip
    have h1d := B.df h1
    refine WX.run ttOk rfl ?_
    have hX1 : slices_IndexFunc_Data_L1 fq s 0 = none := by rw [v2, List.drop_eq_nil_of_le (show (s).length ≤ i by omega)]; simp only [slices_IndexFunc_Data_L1, cond_true, cond_false]
    have hP3 : slices_IndexFunc_Data s fq = (-1) := by simp only [slices_IndexFunc_Data, hX1, cond_true, cond_false]
    refine WX.ret ttOk rfl ?_
    intro w1 G bs hI hΓ
    rw [hP3]
    exact ⟨rfl, (show I64 (-1) from (by unfold I64; omega))⟩
theorem ixN_slices_IndexFunc_Data (f : DataP → Bool) : ∀ (l : List DataP) (i : Nat), slices_IndexFunc_Data_L1 f l i = none → ∀ a ∈ l, f a = false
  | [], i, h, a, ha => by cases ha
  | x :: l, i, h, a, ha => by
    simp only [slices_IndexFunc_Data_L1] at h
    cases hx : f x
    · rw [hx, cond_false] at h
      rcases List.mem_cons.1 ha with rfl | ha
      · exact hx
      · exact ixN_slices_IndexFunc_Data f l (i + 1) h a ha
    · rw [hx, cond_true] at h; cases h
theorem ixS_slices_IndexFunc_Data (f : DataP → Bool) : ∀ (l : List DataP) (i : Nat) (j : Int), slices_IndexFunc_Data_L1 f l i = some j → ∃ m a, j = ((i + m : Nat) : Int) ∧ l[m]? = some a ∧ f a = true ∧ ∀ b ∈ l.take m, f b = false
  | [], i, j, h => by cases h
  | x :: l, i, j, h => by
    simp only [slices_IndexFunc_Data_L1] at h
    cases hx : f x
    · rw [hx, cond_false] at h
      obtain ⟨m, a, h1, h2, h3, h4⟩ := ixS_slices_IndexFunc_Data f l (i + 1) j h
      refine ⟨m + 1, a, by rw [h1]; congr 1; omega, by simpa using h2, h3, fun b hb => ?_⟩
      rw [List.take_succ_cons] at hb
      rcases List.mem_cons.1 hb with rfl | hb
      · exact hx
      · exact h4 b hb
    · rw [hx, cond_true] at h
      cases h
      exact ⟨0, x, rfl, rfl, hx, fun b hb => by simp at hb⟩
theorem ixE_slices_IndexFunc_Data {f : DataP → Bool} {l : List DataP} (h : slices_IndexFunc_Data l f = -1) : ∀ a ∈ l, f a = false := by
  unfold slices_IndexFunc_Data at h
  cases hx : slices_IndexFunc_Data_L1 f l 0 with
  | none => exact ixN_slices_IndexFunc_Data f l 0 hx
  | some j =>
    obtain ⟨m, a, h1, _⟩ := ixS_slices_IndexFunc_Data f l 0 j hx
    rw [hx] at h
    have : j = -1 := h
    omega
theorem ixT_slices_IndexFunc_Data {f : DataP → Bool} {l : List DataP} (h : ¬ slices_IndexFunc_Data l f = -1) : ∃ (m : Nat) (a : DataP), slices_IndexFunc_Data l f = (m : Int) ∧ l[m]? = some a ∧ f a = true ∧ ∀ b ∈ l.take m, f b = false := by
  unfold slices_IndexFunc_Data at h ⊢
  cases hx : slices_IndexFunc_Data_L1 f l 0 with
  | none => rw [hx] at h; exact absurd rfl h
  | some j =>
    obtain ⟨m, a, h1, h2⟩ := ixS_slices_IndexFunc_Data f l 0 j hx
    exact ⟨m, a, by rw [h1, Nat.zero_add], h2⟩
theorem len_slices_DeleteFunc_Data (s : List DataP) (delq : DataP → Bool) : (slices_DeleteFunc_Data s delq).length ≤ s.length := List.length_filter_le _ _
theorem ok_slices_DeleteFunc_Data {n : Nat} {s : List DataP} (delq : DataP → Bool) (h : GoT.ok n s) : GoT.ok n (slices_DeleteFunc_Data s delq) :=
  okl_mk (Nat.le_trans (List.length_filter_le _ _) (okl h).1) (fun a ha => (okl h).2 a (List.mem_filter.1 ha).1)
theorem f154 (w : World) (n : Nat) (hn : n + 0 ≤ 9) (H : GH) (hH : Le H (hp w)) (s : List DataP) (ps : Option Addr) (cs : Nat) (delg : FuncId) (delc : List Value) (delq : DataP → Bool) (delf : ∀ w1, Kp H w w1 → ∀ (e0 : DataP) (x0 : GoT.X DataP), GoT.ok n e0 → All (hp w1) (GoT.fa .der e0 x0) → Does Try.prog delg ([Value.agg ⟨GoT.sh e0 x0⟩] ++ delc).toArray w1 emp (fun rv _ => rv = .bool (delq e0) ∧ True)) (hown : Sep H (GoT.oa s (ps, cs))) (hoks : GoT.ok n s) :
    Does Try.prog 154 #[.slice ps ((s).length) cs, .func (.func delg) #[] delc.toArray] w H (Post w H (fun x : GoT.X (List DataP) => (GoT.sh ((slices_DeleteFunc_Data s delq) : List DataP) x).headD undef) (fun x => GoT.oa ((slices_DeleteFunc_Data s delq) : List DataP) x) (GoT.ok n ((slices_DeleteFunc_Data s delq) : List DataP))) := by
  have hbP := bd_pos n
  have hbB := bd_big (n := n) (by omega)
  have r1 : (s).length ≤ bd n := (okl hoks).1
  refine WX.enterM (tt := tt) (Γ := []) 0 Try.func154 rfl (by kernel_rfl) rfl allS_nil hH hown (fun f hf => GoT.oak f hf) rfl ?_
  refine WX.run ttOk rfl ?_
  refine WX.der 1 (MF.rs .der ps cs s) rfl (fun _ hΓ => (hΓ.get 0 rfl : OwSl _ _ _ _).rd) ?_
  refine WX.know (fun G hΓ => (hΓ.get 1 rfl : RdSl _ _ _ _).1) ?_
  intro hcap
  refine WX.callV rfl rfl rfl rfl rfl (fun _ => rfl) rfl (fun w G bs hI hΓ => f165 w n (by omega) s ps cs (hΓ.get 1 rfl) delg delc delq (fun w1_ hb_ => delf w1_ (hI.keep.lent hb_)) hoks) ?_
  intro hq1
  refine WX.run ttOk rfl ?_
  refine WX.cases 12 rfl (fun h1 => ?_) (fun h1 => ?_)
  · have hN := ixE_slices_IndexFunc_Data (B.et h1)
    have hP : slices_DeleteFunc_Data s delq = s := List.filter_eq_self.2 (fun b hb => by simp [hN b hb])
    refine WX.run ttOk rfl ?_
    refine WX.ret ttOk rfl ?_
    intro w1 G bs hI hΓ
    rw [hP]
    exact Post.of [0] (ps, cs) hI hΓ rfl rfl rfl hoks
  · obtain ⟨i0, a0, hi0, ha0, hf0, hb0⟩ := ixT_slices_IndexFunc_Data (B.ef h1)
    have hi0l := (List.getElem?_eq_some_iff.1 ha0).1
    refine WX.slot 5 (y := .v (.int .i64 ((i0 : Nat) : Int))) rfl (fun _ => by rw [hi0]) ?_
    refine WX.opn (kk := 5) 501 0 2 rfl rfl rfl ?_
    intro xs0 hx0
    refine WX.run ttOk rfl ?_
    refine WX.see rfl rfl rfl (fun _ hΓ => looks_arith rfl rfl rfl rfl (by unfold I64; omega)) ?_
    refine WX.run ttOk rfl ?_
    refine WX.loop (ι := Nat × Nat × List Value) ⟨fun | (i, j, xs) => DelInv delq s xs0 i j xs, fun | (i, j, xs) => (s).length - j, fun | (i, j, xs) => [(5, .v (.int .i64 ((i : Nat) : Int))), (6, .v (.int .i64 ((j : Nat) : Int))), (0, .v (.slice ps ((s).length) cs)), (1, .v (.func (.func delg) #[] delc.toArray))], fun | (i, j, xs) => [], fun | (i, j, xs) => [(501, ⟨5, ps, (s).length, cs, xs⟩)], fun | (i, j, xs) => [(2, MF.ol xs0 s)]⟩ (i0, i0 + 1, xs0) (DelInv.start hx0 ha0 hf0 hb0)
      (.cons rfl (.cons rfl (.cons rfl (.cons rfl (.nil))))) .nil (.cons rfl .nil) [2] rfl ?_
    rintro ⟨i, j, xs⟩ hpre
    have v1 : DelInv delq s xs0 i j xs := hpre
    clear hpre
    have v1i := v1.ij
    have v1j := v1.jn
    refine WX.run ttOk rfl ?_
    refine WX.cases 19 rfl (fun h2 => ?_) (fun h2 => ?_)
    · have h2d := B.dt h2
      have hjl : j < (s).length := by omega
      have hil : i < (s).length := by omega
      obtain ⟨e1, e1h⟩ : ∃ e1, (s)[j]? = some e1 := ⟨_, List.getElem?_eq_getElem hjl⟩
      have ok1 : GoT.ok n e1 := (okl hoks).2 _ (List.mem_of_getElem? e1h)
      refine WX.run ttOk rfl ?_
      refine WX.idxR 501 j ttOk rfl rfl rfl rfl rfl rfl rfl rfl rfl hjl ?_
      rintro ad1 rfl
      refine WX.ldW (xs0 := xs0) 501 3 e1 ttOk rfl rfl rfl rfl rfl rfl rfl rfl rfl hjl (fun G hΓ => (hΓ.get 2 rfl : OwL _ _ _).rd) e1h (fun q => v1.rest _ (Nat.le_add_right _ _)) (fun _ => rfl) (fun _ => rfl) ?_
      rintro ⟨⟨p1, c1⟩, ⟨p2, c2⟩, ⟨p3, c3⟩, ⟨⟩, ⟨⟩⟩ hx1
      refine WX.run ttOk rfl ?_
      refine WX.callV rfl rfl rfl rfl rfl (fun _ => rfl) rfl (fun w G bs hI hΓ => delf w hI.keep e1 ((p1, c1), (p2, c2), (p3, c3), (), ()) ok1 (All.cons (hΓ.get 3 rfl : RdSl _ _ _ _) (All.cons (hΓ.get 4 rfl : RdSl _ _ _ _) (All.cons (hΓ.get 5 rfl : RdSl _ _ _ _) All.nil)))) ?_
      intro hq2
      refine WX.run ttOk rfl ?_
      refine WX.cases 29 rfl (fun h3 => ?_) (fun h3 => ?_)
      · refine WX.run ttOk rfl ?_
        refine WX.idxR 501 i ttOk rfl rfl rfl rfl rfl rfl rfl rfl rfl hil ?_
        rintro ad2 ⟨⟩
        refine WX.stR 501 ttOk rfl rfl rfl rfl rfl rfl rfl rfl rfl rfl rfl rfl rfl hil rfl rfl rfl ?_
        refine WX.run ttOk rfl ?_
        refine WX.see rfl rfl rfl (fun _ hΓ => looks_arith rfl rfl rfl rfl (by unfold I64; omega)) ?_
        refine WX.run ttOk rfl ?_
        refine WX.see rfl rfl rfl (fun _ hΓ => looks_arith rfl rfl rfl rfl (by unfold I64; omega)) ?_
        refine WX.run ttOk rfl ?_
        exact WX.iter (i + 1, j + 1, _) (DelInv.keep hx0 v1 e1h (B.nt h3) rfl hx1) (by dsimp only; omega) (.cons rfl (.cons rfl (.cons rfl (.cons rfl (.nil))))) .nil (.cons rfl .nil) [2] rfl
      · refine WX.run ttOk rfl ?_
        refine WX.see rfl rfl rfl (fun _ hΓ => looks_arith rfl rfl rfl rfl (by unfold I64; omega)) ?_
        refine WX.run ttOk rfl ?_
        exact WX.iter (i, j + 1, xs) (v1.skip e1h (B.nf h3)) (by dsimp only; omega) (.cons rfl (.cons rfl (.cons rfl (.cons rfl (.nil))))) .nil (.cons rfl .nil) [2] rfl
    · have h2d := B.df h2
      obtain ⟨d1, d2⟩ := v1.done (by omega)
      refine WX.run ttOk rfl ?_
      refine WX.see rfl rfl rfl (fun _ hΓ => looks_slL i ttOk rfl rfl rfl rfl rfl (show i ≤ (s).length by omega)) ?_
      refine WX.clr 501 i ttOk rfl rfl rfl rfl rfl rfl rfl rfl (show i ≤ (s).length by omega) rfl ?_
      refine WX.run ttOk rfl ?_
      refine WX.see rfl rfl rfl (fun _ hΓ => looks_slH i ttOk rfl rfl rfl rfl rfl (show i ≤ cs by omega)) ?_
      refine WX.run ttOk rfl ?_
      refine WX.turn [2] 3 rfl (fun h hs => by rw [show xs.take (i * 5) = keepC 5 delq s xs0 from d1]; exact one_sep (OwL.keep delq (sep_one hs : OwL _ _ _))) (gs := [MF.ol (xs.take (i * 5)) (slices_DeleteFunc_Data s delq)]) rfl ?_
      refine WX.seal 501 3 4 rfl rfl (show i = (slices_DeleteFunc_Data s delq).length from d2) rfl rfl ?_
      refine WX.slot 4 (y := .v (.slice ps (slices_DeleteFunc_Data s delq).length cs)) rfl (fun _ => by rw [show i = (slices_DeleteFunc_Data s delq).length from d2]) ?_
      refine WX.ret ttOk rfl ?_
      intro w1 G bs hI hΓ
      exact Post.of [5] (ps, cs) hI hΓ rfl rfl rfl (ok_slices_DeleteFunc_Data delq hoks)
theorem ok_slices_Insert_TableEntry {n : Nat} {s v : List TableEntry} (hn : n + 1 ≤ 9) (i : Int) (h : GoT.ok n s) (hv : GoT.ok n v) : GoT.ok (n + 1) (slices_Insert_TableEntry s i v) := by
  have hbS0 := bd_succ (n := n) (by omega)
  have h1 := (okl h).1
  have h2 := (okl hv).1
  refine okl_mk (by unfold slices_Insert_TableEntry; simp only [List.length_append, List.length_take, List.length_drop]; omega) (fun a ha => GoT.okm (Nat.le_succ n) ?_)
  unfold slices_Insert_TableEntry at ha
  rcases List.mem_append.1 ha with ha | ha
  · rcases List.mem_append.1 ha with ha | ha
    · exact (okl h).2 a (List.mem_of_mem_take ha)
    · exact (okl hv).2 a ha
  · exact (okl h).2 a (List.mem_of_mem_drop ha)
theorem len_slices_Insert_TableEntry (s : List TableEntry) (i : Int) (v : List TableEntry) : (slices_Insert_TableEntry s i v).length = s.length + v.length := by
  unfold slices_Insert_TableEntry; simp only [List.length_append, List.length_take, List.length_drop]; omega
theorem f105 (w : World) (n : Nat) (hn : n + 1 ≤ 9) (s : List TableEntry) (ps : Option Addr) (cs : Nat) (i : Int) (v : List TableEntry) (pv : Option Addr) (cv : Nat) (H : GH) (hH : Le H (hp w)) (hown : Sep H (GoT.oa s (ps, cs) ++ GoT.oa v (pv, cv))) (hq0 : 0 ≤ i ∧ i ≤ (s.length : Int)) (hq1 : 0 < v.length) (hoks : GoT.ok n s) (hoki : GoT.ok n i) (hokv : GoT.ok n v) :
    Does Try.prog 105 #[.slice ps ((s).length) cs, .int .i64 i, .slice pv ((v).length) cv] w H (Post w H (fun x : GoT.X (List TableEntry) => (GoT.sh ((slices_Insert_TableEntry s i v) : List TableEntry) x).headD undef) (fun x => GoT.oa ((slices_Insert_TableEntry s i v) : List TableEntry) x) (GoT.ok (n + 1) ((slices_Insert_TableEntry s i v) : List TableEntry))) := by
  obtain ⟨m, rfl⟩ : ∃ m : Nat, i = (m : Int) := ⟨i.toNat, by omega⟩
  have hms : m ≤ s.length := by omega
  have hok := ok_slices_Insert_TableEntry hn (m : Int) hoks hokv
  have hlD := (len_slices_Insert_TableEntry s (m : Int) v).symm
  have hbP := bd_pos n
  have hbS0 := bd_succ (n := n) (by omega)
  have hbB := bd_big (n := n + 1) (by omega)
  have r1 : (s).length ≤ bd n := (okl hoks).1
  have r2 : (v).length ≤ bd n := (okl hokv).1
  refine WX.enterM (tt := tt) (Γ := []) 0 Try.func105 rfl (by kernel_rfl) rfl allS_nil hH hown (fun f hf => (List.mem_append.1 hf).elim (fun hf => GoT.oak f hf) (fun hf => GoT.oak f hf)) rfl ?_
  refine WX.run ttOk rfl ?_
  refine WX.see rfl rfl rfl (fun _ hΓ => looks_slL m ttOk rfl rfl rfl rfl rfl hms) ?_
  refine WX.run ttOk rfl ?_
  refine WX.cases 16 rfl (fun h1 => ?_) (fun h1 => ?_)
  · have := B.et h1; omega
  refine WX.run ttOk rfl ?_
  refine WX.cases 22 rfl (fun h2 => ?_) (fun h2 => ?_)
  · have h2d := B.et h2
    have hm : m = s.length := by omega
    have hP : slices_Insert_TableEntry s (m : Int) v = s ++ v := by unfold slices_Insert_TableEntry; simp [hm]
    refine WX.run ttOk rfl ?_
    refine WX.opn (kk := 2) 501 0 2 rfl rfl rfl ?_
    intro xs hx
    refine WX.opn (kk := 2) 502 1 3 rfl rfl rfl ?_
    intro ys hy
    refine WX.know (fun G hΓ => (hΓ.get 3 rfl : OwL _ _ _).rd.one) ?_
    intro hone
    refine WX.appR1 501 502 (s.length + v.length) ttOk rfl rfl rfl rfl rfl rfl rfl rfl rfl rfl rfl rfl rfl hone rfl (by omega) (by omega) (fun _ _ => rfl) ?_
    intro p1 c1
    refine WX.turn [2, 3] 4 rfl (fun h hs => ol_app hs) (gs := [MF.ol (xs ++ ys) (s ++ v)]) rfl ?_
    refine WX.seal 501 4 5 rfl rfl (show s.length + v.length = (s ++ v).length by simp) rfl rfl ?_
    refine WX.run ttOk rfl ?_
    refine WX.slot 6 (y := .v (.slice p1 (s ++ v).length c1)) rfl (fun _ => by rw [List.length_append]) ?_
    refine WX.ret ttOk rfl ?_
    intro w1 G bs hI hΓ
    rw [hP] at hok ⊢
    exact Post.of [6] (p1, c1) hI hΓ rfl rfl rfl hok
  · have h2d := B.ef h2
    have hm : m < s.length := by omega
    refine WX.run ttOk rfl ?_
    refine WX.see rfl rfl rfl (fun _ hΓ => looks_arith rfl rfl rfl rfl (by unfold I64; omega)) ?_
    refine WX.run ttOk rfl ?_
    refine WX.see rfl rfl rfl (fun _ hΓ => looks_cap ttOk rfl rfl rfl rfl) ?_
    refine WX.run ttOk rfl ?_
    refine WX.opn (kk := 2) 501 0 2 rfl rfl rfl ?_
    intro xs hx
    refine WX.opn (kk := 2) 502 1 3 rfl rfl rfl ?_
    intro ys hy
    refine WX.know (fun G hΓ => (hΓ.get 2 rfl : OwL _ _ _).rd.one) ?_
    intro honx
    refine WX.know (fun G hΓ => (hΓ.get 3 rfl : OwL _ _ _).rd.one) ?_
    intro hone
    refine WX.cap 501 rfl ?_
    intro hcap
    have hcap' : s.length ≤ cs := hcap
    refine WX.cases 31 rfl (fun h3 => ?_) (fun h3 => ?_)
    · have h3d := B.dt h3
      refine WX.run ttOk rfl ?_
      refine WX.see rfl rfl rfl (fun _ hΓ => looks_slH m ttOk rfl rfl rfl rfl rfl (by omega)) ?_
      refine WX.run ttOk rfl ?_
      refine WX.see rfl rfl rfl (fun _ hΓ => looks_arith rfl rfl rfl rfl (by unfold I64; omega)) ?_
      refine WX.run ttOk rfl ?_
      refine WX.see rfl rfl rfl (fun _ hΓ => looks_arith rfl rfl rfl rfl (by unfold I64; omega)) ?_
      refine WX.appZ 501 m (s.length + v.length - m) ttOk rfl rfl rfl rfl rfl rfl rfl rfl rfl (by omega) rfl rfl hms (by omega) (show cs < m + (s.length + v.length - m) by omega) (by omega) (by omega) rfl ?_
      intro pq cq
      refine WX.run ttOk rfl ?_
      refine WX.see rfl rfl rfl (fun _ hΓ => looks_slL m ttOk rfl rfl rfl rfl rfl (by omega)) ?_
      refine WX.run ttOk rfl ?_
      refine WX.cpy 40 m v.length ys ttOk rfl rfl rfl rfl rfl rfl rfl rfl rfl (show min v.length (m + (s.length + v.length - m) - m) = v.length by omega) (show m + v.length ≤ m + (s.length + v.length - m) by omega) hy hone (fun w G bs hI => src_cells0 (σ := 502) hI rfl) rfl ?_
      refine WX.run ttOk rfl ?_
      · refine WX.draw [8] mixed ?_
        intro bs G0 hΓ0
        refine DX.takes (fuel := 6) ttOk [(0, true), (1, true), (2, true)] (by kernel_rfl) rfl ?_
        refine DX.seeP 3 (by kernel_rfl) rfl rfl rfl rfl (looksP_arith rfl rfl rfl rfl (by unfold I64; omega)) ?_
        refine DX.seeP 4 (by kernel_rfl) rfl rfl rfl rfl (looksP_slL (m + v.length) ttOk rfl rfl rfl rfl (by omega) (by omega)) ?_
        refine DX.takes (fuel := 2) ttOk [(5, true), (6, true)] (by kernel_rfl) rfl ?_
        refine DX.seeP 7 (by kernel_rfl) rfl rfl rfl rfl (looksP_slL m ttOk rfl rfl rfl rfl rfl (by omega)) ?_
        refine DX.tail2 [8] rfl rfl (by kernel_rfl) ?_
        refine WX.cpy 40 (m + v.length) (s.length - m) ((xs.drop (m * 2)).take ((s.length - m) * 2)) ttOk rfl rfl rfl rfl rfl rfl rfl rfl rfl (show min (s.length - m) (m + (s.length + v.length - m) - (m + v.length)) = s.length - m by omega) (show m + v.length + (s.length - m) ≤ m + (s.length + v.length - m) by omega) (by rw [List.length_take, List.length_drop, hx, Nat.sub_mul]; omega) (fun u hu => honx u (List.mem_of_mem_drop (List.mem_of_mem_take hu))) (fun w G bs hI => src_cells (σ := 501) hI rfl m (s.length - m) (show m + (s.length - m) ≤ s.length by omega)) rfl ?_
        have hX := ins_new (zs := zrep (s.length + v.length - m) ([.slice none (0) 0, .int .i64 (0)] : List Value)) (v := v.length) hx hy (zrep_len ([.slice none (0) 0, .int .i64 (0)] : List Value) (s.length + v.length - m)) hms
        replace hlD : m + (s.length + v.length - m) = (slices_Insert_TableEntry s (m : Int) v).length := by omega
        refine WX.run ttOk rfl ?_
        refine WX.turn [2, 3] 4 rfl (fun h hs => by rw [show (((xs.take (m * 2) ++ zrep (s.length + v.length - m) ([.slice none (0) 0, .int .i64 (0)] : List Value)).take (m * 2) ++ ys ++ (xs.take (m * 2) ++ zrep (s.length + v.length - m) ([.slice none (0) 0, .int .i64 (0)] : List Value)).drop (m * 2 + ys.length)).take ((m + v.length) * 2) ++ ((xs.drop (m * 2)).take ((s.length - m) * 2)) ++ ((xs.take (m * 2) ++ zrep (s.length + v.length - m) ([.slice none (0) 0, .int .i64 (0)] : List Value)).take (m * 2) ++ ys ++ (xs.take (m * 2) ++ zrep (s.length + v.length - m) ([.slice none (0) 0, .int .i64 (0)] : List Value)).drop (m * 2 + ys.length)).drop ((m + v.length) * 2 + ((xs.drop (m * 2)).take ((s.length - m) * 2)).length)) = xs.take (m * 2) ++ ys ++ xs.drop (m * 2) from hX]; exact ol_insert m (by omega) hs) (gs := [MF.ol (((xs.take (m * 2) ++ zrep (s.length + v.length - m) ([.slice none (0) 0, .int .i64 (0)] : List Value)).take (m * 2) ++ ys ++ (xs.take (m * 2) ++ zrep (s.length + v.length - m) ([.slice none (0) 0, .int .i64 (0)] : List Value)).drop (m * 2 + ys.length)).take ((m + v.length) * 2) ++ ((xs.drop (m * 2)).take ((s.length - m) * 2)) ++ ((xs.take (m * 2) ++ zrep (s.length + v.length - m) ([.slice none (0) 0, .int .i64 (0)] : List Value)).take (m * 2) ++ ys ++ (xs.take (m * 2) ++ zrep (s.length + v.length - m) ([.slice none (0) 0, .int .i64 (0)] : List Value)).drop (m * 2 + ys.length)).drop ((m + v.length) * 2 + ((xs.drop (m * 2)).take ((s.length - m) * 2)).length)) (slices_Insert_TableEntry s (m : Int) v)]) rfl ?_
        refine WX.seal 40 4 5 rfl rfl (show _ = (slices_Insert_TableEntry s (m : Int) v).length from hlD) rfl rfl ?_
        refine WX.slot 6 (y := .v (.slice pq (slices_Insert_TableEntry s (m : Int) v).length cq)) rfl (fun _ => by rw [show (slices_Insert_TableEntry s (m : Int) v).length = _ from hlD.symm]) ?_
        refine WX.ret ttOk rfl ?_
        intro w1 G bs hI hΓ
        exact Post.of [6] (pq, cq) hI hΓ rfl rfl rfl hok
    · have h3d := B.df h3
      refine WX.run ttOk rfl ?_
      refine WX.see rfl rfl rfl (fun _ hΓ => looks_arith rfl rfl rfl rfl (by unfold I64; omega)) ?_
      refine WX.run ttOk rfl ?_
      refine WX.see rfl rfl rfl (fun _ hΓ => looks_slH (s.length + v.length) ttOk rfl rfl rfl rfl rfl (by omega)) ?_
      refine WX.widen 501 (s.length + v.length) rfl (show s.length ≤ s.length + v.length by omega) (show s.length + v.length ≤ cs by omega) (fun _ => rfl) ?_
      intro jk hjk
      refine WX.run ttOk rfl ?_
      refine WX.see rfl rfl rfl (fun _ hΓ => looks_arith rfl rfl rfl rfl (by unfold I64; omega)) ?_
      refine WX.run ttOk rfl ?_
      refine WX.see rfl rfl rfl (fun _ hΓ => looks_slL (m + v.length) ttOk rfl rfl rfl rfl rfl (by omega)) ?_
      refine WX.ovl (T := 33) (tR := 4) 502 501 (m + v.length) ttOk rfl rfl rfl rfl rfl (fun _ => rfl) Try.func133 (by kernel_rfl) (by kernel_rfl) (by kernel_rfl) (by kernel_rfl) rfl rfl rfl rfl rfl rfl rfl (show 0 < v.length from hq1) (show m + v.length < s.length + v.length by omega) ?_
      refine WX.run ttOk rfl ?_
      · refine WX.draw [8] mixed ?_
        intro bs G0 hΓ0
        refine DX.takes (fuel := 6) ttOk [(0, true), (1, true), (2, true)] (by kernel_rfl) rfl ?_
        refine DX.seeP 3 (by kernel_rfl) rfl rfl rfl rfl (looksP_arith rfl rfl rfl rfl (by unfold I64; omega)) ?_
        refine DX.seeP 4 (by kernel_rfl) rfl rfl rfl rfl (looksP_slL (m + v.length) ttOk rfl rfl rfl rfl (by omega) (by omega)) ?_
        refine DX.takes (fuel := 2) ttOk [(5, true), (6, true)] (by kernel_rfl) rfl ?_
        refine DX.seeP 7 (by kernel_rfl) rfl rfl rfl rfl (looksP_slL m ttOk rfl rfl rfl rfl rfl (by omega)) ?_
        refine DX.tail2 [8] rfl rfl (by kernel_rfl) ?_
        refine WX.cpy 501 (m + v.length) (s.length - m) (((xs ++ jk).drop (m * 2)).take ((s.length - m) * 2)) ttOk rfl rfl rfl rfl rfl rfl rfl rfl rfl (show min (s.length + v.length - m) (s.length + v.length - (m + v.length)) = s.length - m by omega) (show m + v.length + (s.length - m) ≤ s.length + v.length by omega) (by rw [List.length_take, List.length_drop, List.length_append, hx, hjk, Nat.sub_mul]; omega) (fun u hu => ?_) (fun w G bs hI => src_cells (σ := 501) hI rfl m (s.length - m) (show m + (s.length - m) ≤ s.length + v.length by omega)) rfl ?_
        · refine honx u ?_
          have h6 : (((xs ++ jk).drop (m * 2)).take ((s.length - m) * 2)) = ((xs.drop (m * 2)).take ((s.length - m) * 2)) := by rw [List.drop_append_of_le_length (by rw [hx]; exact Nat.mul_le_mul_right _ hms), List.take_append_of_le_length (by rw [List.length_drop, hx, Nat.sub_mul]; exact Nat.le_refl _)]
          rw [h6] at hu
          exact List.mem_of_mem_drop (List.mem_of_mem_take hu)
        refine WX.run ttOk rfl ?_
        refine WX.see rfl rfl rfl (fun _ hΓ => looks_slL m ttOk rfl rfl rfl rfl rfl (by omega)) ?_
        refine WX.run ttOk rfl ?_
        refine WX.cpy 501 m v.length ys ttOk rfl rfl rfl rfl rfl rfl rfl rfl rfl (show min v.length (s.length + v.length - m) = v.length by omega) (show m + v.length ≤ s.length + v.length by omega) hy hone (fun w G bs hI => src_cells0 (σ := 502) hI rfl) rfl ?_
        have hX := ins_old (n := s.length) (v := v.length) hx hy hjk hms
        refine WX.run ttOk rfl ?_
        refine WX.turn [2, 3] 4 rfl (fun h hs => by rw [show (((xs ++ jk).take ((m + v.length) * 2) ++ (((xs ++ jk).drop (m * 2)).take ((s.length - m) * 2)) ++ (xs ++ jk).drop ((m + v.length) * 2 + (((xs ++ jk).drop (m * 2)).take ((s.length - m) * 2)).length)).take (m * 2) ++ ys ++ ((xs ++ jk).take ((m + v.length) * 2) ++ (((xs ++ jk).drop (m * 2)).take ((s.length - m) * 2)) ++ (xs ++ jk).drop ((m + v.length) * 2 + (((xs ++ jk).drop (m * 2)).take ((s.length - m) * 2)).length)).drop (m * 2 + ys.length)) = xs.take (m * 2) ++ ys ++ xs.drop (m * 2) from hX]; exact ol_insert m (by omega) hs) (gs := [MF.ol (((xs ++ jk).take ((m + v.length) * 2) ++ (((xs ++ jk).drop (m * 2)).take ((s.length - m) * 2)) ++ (xs ++ jk).drop ((m + v.length) * 2 + (((xs ++ jk).drop (m * 2)).take ((s.length - m) * 2)).length)).take (m * 2) ++ ys ++ ((xs ++ jk).take ((m + v.length) * 2) ++ (((xs ++ jk).drop (m * 2)).take ((s.length - m) * 2)) ++ (xs ++ jk).drop ((m + v.length) * 2 + (((xs ++ jk).drop (m * 2)).take ((s.length - m) * 2)).length)).drop (m * 2 + ys.length)) (slices_Insert_TableEntry s (m : Int) v)]) rfl ?_
        refine WX.seal 501 4 5 rfl rfl (show _ = (slices_Insert_TableEntry s (m : Int) v).length from hlD) rfl rfl ?_
        refine WX.slot 6 (y := .v (.slice ps (slices_Insert_TableEntry s (m : Int) v).length cs)) rfl (fun _ => by rw [show (slices_Insert_TableEntry s (m : Int) v).length = _ from hlD.symm]) ?_
        refine WX.ret ttOk rfl ?_
        intro w1 G bs hI hΓ
        exact Post.of [6] (ps, cs) hI hΓ rfl rfl rfl hok
end Go.Proofs.Ytdkhklhnipiheaa
