/-
  Contracts of functions of the program: what each returns, for all arguments. Written by a program (gen.py) out of annotations.
-/
import Derived.Test.YtkgehljhlmbdmaaC1
import Derived.Test.YtkgehljhlmbdmaaMake
namespace Go.Proofs.Ytkgehljhlmbdmaa
open Go.Stp
set_option linter.unusedVariables false
set_option linter.unusedSimpArgs false
theorem f57 (w : World) (a : (List Str)) (pa : Option Addr) (ca : Nat) (hpa : RdSl (hp w) pa ca a) (hq0 : sz a ≤ 1073741824) :
    Does Try.prog 57 #[.slice pa ((a).length) ca] w (Fr w (fun cs => cs.headD undef) (a : (List Str))) := by
  have hpaL : _ ≤ 9223372036854775807 := hpa.2.1
  have zA := sz_list a
  refine WX.enter (tt := tt) (Γ := [(0, MF.rs pa ca a)]) Try.func57 rfl (by kernel_rfl) rfl (allK_cons hpa allK_nil) ?_
  refine WX.run ttOk rfl ?_
  refine WX.mkS ((a).length) ttOk rfl rfl rfl rfl rfl rfl rfl (by omega) (by omega) rfl ?_
  intro p1
  refine WX.run ttOk rfl ?_
  refine WX.fact 90 (MF.ol (List.take (0 * 1) (zrep ((a).length) [.string (⟨#[]⟩)])) (a.take 0) []) (fun _ _ => ⟨by simp, rfl⟩) ?_
  refine WX.loop (ι := Nat × List Value × List Nat) ⟨fun | (i, xs, fp) => i ≤ a.length ∧ xs.length = a.length * 1 ∧ fp.Nodup ∧ (∀ b ∈ fp, w.heap.size ≤ b), fun | (i, xs, fp) => a.length - i, fun | (i, xs, fp) => [(4, .v (.int .i64 (((i : Nat) : Int)))), (3, .v (.slice p1 ((a).length) ((a).length))), (2, .v (.slice none (0) 0)), (0, .v (.slice pa ((a).length) ca))], fun | (i, xs, fp) => [], fun | (i, xs, fp) => [(7, ⟨1, p1, (a).length, ((a).length), xs⟩)], fun | (i, xs, fp) => [(0, MF.rs pa ca a), (90, MF.ol (xs.take (i * 1)) (a.take i) fp)]⟩ (0, (zrep ((a).length) [.string (⟨#[]⟩)]), []) ⟨by omega, by rw [zrep_len]; rfl, List.nodup_nil, by simp⟩
    (.cons rfl (.cons rfl (.cons rfl (.cons rfl (.nil))))) .nil (.cons rfl (.nil)) (.cons rfl (.cons rfl (.nil))) ?_
  rintro ⟨i, xs, fp⟩ hpre
  dsimp only at hpre
  refine WX.run ttOk rfl ?_
  refine WX.cases 11 rfl (fun h1 => ?_) (fun h1 => ?_)
  · skip
    replace h1 := B.dt h1
    refine WX.run ttOk rfl ?_
    have hi1 : i < (a).length := (by first | assumption | omega)
    obtain ⟨e1, e1h⟩ : ∃ e1, (a)[i]? = some e1 := ⟨_, List.getElem?_eq_getElem hi1⟩
    refine WX.idx 0 i ttOk rfl rfl rfl rfl rfl rfl rfl rfl rfl rfl hi1 ?_
    rintro ad1 rfl
    refine WX.ldE 0 1 e1 ttOk rfl rfl rfl rfl rfl rfl rfl e1h (fun _ => rfl) (fun _ => rfl) ?_
    rintro ⟨⟩ ok1
    have ok1s : (e1).size ≤ 9223372036854775807 := ok1
    have hr1 : i < (a).length := (by first | assumption | omega)
    refine WX.idxR 7 i ttOk rfl rfl rfl rfl rfl rfl rfl rfl rfl hr1 ?_
    rintro ad2 rfl
    refine WX.stR 7 ttOk rfl rfl rfl rfl rfl rfl rfl rfl rfl rfl rfl rfl rfl (by first | assumption | omega) rfl rfl rfl ?_
    refine WX.run ttOk rfl ?_
    refine WX.arith rfl rfl rfl rfl rfl rfl rfl (by unfold I64; omega) ?_
    refine WX.run ttOk rfl ?_
    refine WX.fact 90 (MF.ol (List.take ((i + 1) * 1) (xs.take (i * 1 + 0) ++ [.string (e1)] ++ xs.drop (i * 1 + 0 + ([.string (e1)] : List Value).length))) (a.take (i + 1)) (fp ++ [])) (fun _ hΓ => ?_) ?_
    · rw [fill_take hpre.2.1 rfl hi1, List.take_add_one, e1h]
      have := OwL.snoc (α := Str) (a := e1) (x := ()) (f := ()) All.nil (hΓ 90 _ rfl : OwL _ _ _ _)
      rw [show fo Str () = [] from (show [] = [] from by simp)] at this
      exact this
    refine WX.iter (i + 1, _, fp ++ []) ⟨by omega, fill_len hpre.2.1 rfl hi1, by simpa using hpre.2.2.1, by simpa using hpre.2.2.2⟩ (by dsimp only; omega) (.cons rfl (.cons rfl (.cons rfl (.cons rfl (.nil))))) .nil (.cons rfl (.nil)) (.cons rfl (.cons rfl (.nil)))
  · skip
    replace h1 := B.df h1
    refine WX.run ttOk rfl ?_
    refine WX.fact 92 (MF.ol xs a fp) (fun _ hΓ => by have h9 := (hΓ 90 _ rfl : OwL _ _ _ _); rwa [List.take_of_length_le (show xs.length ≤ i * 1 by rw [hpre.2.1]; exact Nat.mul_le_mul_right _ (by omega)), List.take_of_length_le (by omega)] at h9) ?_
    refine WX.know (fun _ hΓ => (hΓ 0 _ rfl : RdSl _ _ _ _).2.2.1) ?_
    intro hall
    refine WX.fixS 7 92 93 rfl rfl rfl hall (by omega) rfl rfl ?_
    intro fq hq1 hq2 hq3
    refine WX.ret ttOk rfl ?_
    intro w1 G bs hI hΓ
    show (Fr w (fun cs => cs.headD undef) (a : (List Str))) _ _
    exact Fr.of (α := (List Str)) hI (p1, ((a).length)) fq rfl trivial (All.cons (hΓ 94 _ rfl) All.nil) (show List.Nodup (fq) from hq1 hpre.2.2.1) (show ∀ b ∈ fq, w.heap.size ≤ b from fun b hb => (hq2 b hb).elim (hpre.2.2.2 b) id)
theorem f31 (w : World) (a : Name) (pa : Option Addr) (ca : Nat) (hpa : RdSl (hp w) pa ca a.parts) (hq0 : sz a ≤ 1073741824) :
    Does Try.prog 31 #[.agg #[.slice pa ((a.parts).length) ca]] w (Fr w (fun cs => .agg ⟨cs⟩) (a : Name)) := by
  have hpaL : _ ≤ 9223372036854775807 := hpa.2.1
  have zA := sz_Name a
  refine WX.enter (tt := tt) (Γ := [(0, MF.rs pa ca a.parts)]) Try.func31 rfl (by kernel_rfl) rfl (allK_cons hpa allK_nil) ?_
  refine WX.run ttOk rfl ?_
  refine WX.callO 1 rfl rfl rfl rfl rfl (fun _ => rfl) rfl (fun w G bs hI hΓ => f57 w (a.parts) pa ca (hΓ 0 _ rfl) (by first | omega | (have hm := szL_mono e1h; omega))) (fun _ => rfl) (fun _ _ => rfl) ?_
  rintro ⟨p1, c1⟩ (fp1 : List Nat) ok1 nd1 nw1 ap1
  replace nd1 : List.Nodup (fp1) := nd1
  replace ap1 : Apart _ (fp1) := ap1
  replace nw1 : ∀ b ∈ fp1, w.heap.size ≤ b := nw1
  refine WX.run ttOk rfl ?_
  refine WX.ret ttOk rfl ?_
  intro w1 G bs hI hΓ
  show (Fr w (fun cs => .agg ⟨cs⟩) (a : Name)) _ _
  exact Fr.of (α := Name) hI (p1, c1) fp1 rfl trivial (All.cons (hΓ 2 _ rfl) All.nil) (show List.Nodup (fp1) from by simpa using nd1) (show ∀ b ∈ fp1, w.heap.size ≤ b from by simpa using nw1)
theorem f65 (w : World) (a : TableEntry) (paName : Option Addr) (caName : Nat) (hpaName : RdSl (hp w) paName caName a.name.parts) (hq0 : sz a ≤ 1073741824) (hoka : GoT.ok a) :
    Does Try.prog 65 #[.agg #[.slice paName ((a.name.parts).length) caName, .int .i64 (a.value)]] w (Fr w (fun cs => .agg ⟨cs⟩) (a : TableEntry)) := by
  have hpaNameL : _ ≤ 9223372036854775807 := hpaName.2.1
  have hoka0 := hoka
  rcases hoka0 with ⟨-, hokasx1⟩
  replace hokasx1 : -9223372036854775808 ≤ a.value ∧ a.value ≤ 9223372036854775807 := hokasx1
  have zA := sz_TableEntry a
  refine WX.enter (tt := tt) (Γ := [(0, MF.rs paName caName a.name.parts)]) Try.func65 rfl (by kernel_rfl) rfl (allK_cons hpaName allK_nil) ?_
  refine WX.run ttOk rfl ?_
  refine WX.callO 1 rfl rfl rfl rfl rfl (fun _ => rfl) rfl (fun w G bs hI hΓ => f31 w a.name paName caName (hΓ 0 _ rfl) (by first | omega | (have hm := szL_mono e1h; omega))) (fun _ => rfl) (fun _ _ => rfl) ?_
  rintro ⟨p1, c1⟩ (fp1 : List Nat) ok1 nd1 nw1 ap1
  replace nd1 : List.Nodup (fp1) := nd1
  replace ap1 : Apart _ (fp1) := ap1
  replace nw1 : ∀ b ∈ fp1, w.heap.size ≤ b := nw1
  refine WX.run ttOk rfl ?_
  refine WX.ret ttOk rfl ?_
  intro w1 G bs hI hΓ
  show (Fr w (fun cs => .agg ⟨cs⟩) (a : TableEntry)) _ _
  exact Fr.of (α := TableEntry) hI ((p1, c1), ()) (fp1, ()) rfl (And.intro trivial (show I64 (a.value) from (by first | assumption | (unfold I64; omega)))) (All.cons (hΓ 2 _ rfl) All.nil) (show List.Nodup ((fp1 ++ [])) from by simpa using nd1) (show ∀ b ∈ (fp1 ++ []), w.heap.size ≤ b from by simpa using nw1)
theorem f39 (w : World) (a : (List TableEntry)) (pa : Option Addr) (ca : Nat) (hpa : RdSl (hp w) pa ca a) (hq0 : sz a ≤ 1073741824) :
    Does Try.prog 39 #[.slice pa ((a).length) ca] w (Fr w (fun cs => cs.headD undef) (a : (List TableEntry))) := by
  have hpaL : _ ≤ 9223372036854775807 := hpa.2.1
  have zA := sz_list a
  refine WX.enter (tt := tt) (Γ := [(0, MF.rs pa ca a)]) Try.func39 rfl (by kernel_rfl) rfl (allK_cons hpa allK_nil) ?_
  refine WX.run ttOk rfl ?_
  refine WX.mkS ((a).length) ttOk rfl rfl rfl rfl rfl rfl rfl (by omega) (by omega) rfl ?_
  intro p1
  refine WX.run ttOk rfl ?_
  refine WX.fact 90 (MF.ol (List.take (0 * 2) (zrep ((a).length) [.slice none (0) 0, .int .i64 (0)])) (a.take 0) []) (fun _ _ => ⟨by simp, rfl⟩) ?_
  refine WX.loop (ι := Nat × List Value × List Nat) ⟨fun | (i, xs, fp) => i ≤ a.length ∧ xs.length = a.length * 2 ∧ fp.Nodup ∧ (∀ b ∈ fp, w.heap.size ≤ b), fun | (i, xs, fp) => a.length - i, fun | (i, xs, fp) => [(4, .v (.int .i64 (((i : Nat) : Int)))), (3, .v (.slice p1 ((a).length) ((a).length))), (2, .v (.slice none (0) 0)), (0, .v (.slice pa ((a).length) ca))], fun | (i, xs, fp) => [], fun | (i, xs, fp) => [(7, ⟨2, p1, (a).length, ((a).length), xs⟩)], fun | (i, xs, fp) => [(0, MF.rs pa ca a), (90, MF.ol (xs.take (i * 2)) (a.take i) fp)]⟩ (0, (zrep ((a).length) [.slice none (0) 0, .int .i64 (0)]), []) ⟨by omega, by rw [zrep_len]; rfl, List.nodup_nil, by simp⟩
    (.cons rfl (.cons rfl (.cons rfl (.cons rfl (.nil))))) .nil (.cons rfl (.nil)) (.cons rfl (.cons rfl (.nil))) ?_
  rintro ⟨i, xs, fp⟩ hpre
  dsimp only at hpre
  refine WX.run ttOk rfl ?_
  refine WX.cases 11 rfl (fun h1 => ?_) (fun h1 => ?_)
  · skip
    replace h1 := B.dt h1
    refine WX.run ttOk rfl ?_
    have hi1 : i < (a).length := (by first | assumption | omega)
    obtain ⟨e1, e1h⟩ : ∃ e1, (a)[i]? = some e1 := ⟨_, List.getElem?_eq_getElem hi1⟩
    refine WX.idx 0 i ttOk rfl rfl rfl rfl rfl rfl rfl rfl rfl rfl hi1 ?_
    rintro ad1 rfl
    refine WX.ldE 0 1 e1 ttOk rfl rfl rfl rfl rfl rfl rfl e1h (fun _ => rfl) (fun _ => rfl) ?_
    rintro ⟨⟨p2, c1⟩, ⟨⟩⟩ ok1
    have ok10 := ok1
    rcases ok10 with ⟨-, ok1sx1⟩
    replace ok1sx1 : -9223372036854775808 ≤ e1.value ∧ e1.value ≤ 9223372036854775807 := ok1sx1
    refine WX.callO 2 rfl rfl rfl rfl rfl (fun _ => rfl) rfl (fun w G bs hI hΓ => f65 w e1 p2 c1 (hΓ 1 _ rfl) (by first | omega | (have hm := szL_mono e1h; omega)) (And.intro trivial (show I64 (e1.value) from (by first | assumption | (unfold I64; omega))))) (fun _ => rfl) (fun _ _ => rfl) ?_
    rintro ⟨⟨p3, c2⟩, ⟨⟩⟩ ⟨(fp1 : List Nat), ⟨⟩⟩ ok2 nd1 nw1 ap1
    replace nd1 : List.Nodup (fp1) := by simpa using (show List.Nodup ((fp1 ++ [])) from nd1)
    replace nw1 : ∀ b ∈ fp1, w.heap.size ≤ b := by simpa using (show ∀ b ∈ (fp1 ++ []), w.heap.size ≤ b from nw1)
    replace ap1 : Apart _ (fp1) := Apart.sub (show Apart _ ((fp1 ++ [])) from ap1) (fun b hb => by simpa using hb)
    have ok20 := ok2
    rcases ok20 with ⟨-, ok2sx1⟩
    replace ok2sx1 : -9223372036854775808 ≤ e1.value ∧ e1.value ≤ 9223372036854775807 := ok2sx1
    have hr1 : i < (a).length := (by first | assumption | omega)
    refine WX.idxR 7 i ttOk rfl rfl rfl rfl rfl rfl rfl rfl rfl hr1 ?_
    rintro ad2 rfl
    refine WX.stR 7 ttOk rfl rfl rfl rfl rfl rfl rfl rfl rfl rfl rfl rfl rfl (by first | assumption | omega) rfl rfl rfl ?_
    refine WX.run ttOk rfl ?_
    refine WX.arith rfl rfl rfl rfl rfl rfl rfl (by unfold I64; omega) ?_
    refine WX.run ttOk rfl ?_
    refine WX.fact 90 (MF.ol (List.take ((i + 1) * 2) (xs.take (i * 2 + 0) ++ [.slice p3 ((e1.name.parts).length) c2, .int .i64 (e1.value)] ++ xs.drop (i * 2 + 0 + ([.slice p3 ((e1.name.parts).length) c2, .int .i64 (e1.value)] : List Value).length))) (a.take (i + 1)) (fp ++ (fp1))) (fun _ hΓ => ?_) ?_
    · rw [fill_take hpre.2.1 rfl hi1, List.take_add_one, e1h]
      have := OwL.snoc (α := TableEntry) (a := e1) (x := ((p3, c2), ())) (f := (fp1, ())) (All.cons (hΓ 3 _ rfl) All.nil) (hΓ 90 _ rfl : OwL _ _ _ _)
      rw [show fo TableEntry (fp1, ()) = (fp1) from (show (fp1 ++ []) = (fp1) from by simp)] at this
      exact this
    refine WX.iter (i + 1, _, fp ++ (fp1)) ⟨by omega, fill_len hpre.2.1 rfl hi1, nodup_app hpre.2.2.1 nd1 (ap1 90 _ rfl), mem_app hpre.2.2.2 nw1⟩ (by dsimp only; omega) (.cons rfl (.cons rfl (.cons rfl (.cons rfl (.nil))))) .nil (.cons rfl (.nil)) (.cons rfl (.cons rfl (.nil)))
  · skip
    replace h1 := B.df h1
    refine WX.run ttOk rfl ?_
    refine WX.fact 92 (MF.ol xs a fp) (fun _ hΓ => by have h9 := (hΓ 90 _ rfl : OwL _ _ _ _); rwa [List.take_of_length_le (show xs.length ≤ i * 2 by rw [hpre.2.1]; exact Nat.mul_le_mul_right _ (by omega)), List.take_of_length_le (by omega)] at h9) ?_
    refine WX.know (fun _ hΓ => (hΓ 0 _ rfl : RdSl _ _ _ _).2.2.1) ?_
    intro hall
    refine WX.fixS 7 92 93 rfl rfl rfl hall (by omega) rfl rfl ?_
    intro fq hq1 hq2 hq3
    refine WX.ret ttOk rfl ?_
    intro w1 G bs hI hΓ
    show (Fr w (fun cs => cs.headD undef) (a : (List TableEntry))) _ _
    exact Fr.of (α := (List TableEntry)) hI (p1, ((a).length)) fq rfl trivial (All.cons (hΓ 94 _ rfl) All.nil) (show List.Nodup (fq) from hq1 hpre.2.2.1) (show ∀ b ∈ fq, w.heap.size ≤ b from fun b hb => (hq2 b hb).elim (hpre.2.2.2 b) id)
theorem f15 (w : World) (a : StateVector) (pa : Option Addr) (ca : Nat) (hpa : RdSl (hp w) pa ca a.entries) (hq0 : sz a ≤ 1073741824) :
    Does Try.prog 15 #[.agg #[.slice pa ((a.entries).length) ca]] w (Fr w (fun cs => .agg ⟨cs⟩) (a : StateVector)) := by
  have hpaL : _ ≤ 9223372036854775807 := hpa.2.1
  have zA := sz_StateVector a
  refine WX.enter (tt := tt) (Γ := [(0, MF.rs pa ca a.entries)]) Try.func15 rfl (by kernel_rfl) rfl (allK_cons hpa allK_nil) ?_
  refine WX.run ttOk rfl ?_
  refine WX.callO 1 rfl rfl rfl rfl rfl (fun _ => rfl) rfl (fun w G bs hI hΓ => f39 w (a.entries) pa ca (hΓ 0 _ rfl) (by first | omega | (have hm := szL_mono e1h; omega))) (fun _ => rfl) (fun _ _ => rfl) ?_
  rintro ⟨p1, c1⟩ (fp1 : List Nat) ok1 nd1 nw1 ap1
  replace nd1 : List.Nodup (fp1) := nd1
  replace ap1 : Apart _ (fp1) := ap1
  replace nw1 : ∀ b ∈ fp1, w.heap.size ≤ b := nw1
  refine WX.run ttOk rfl ?_
  refine WX.ret ttOk rfl ?_
  intro w1 G bs hI hΓ
  show (Fr w (fun cs => .agg ⟨cs⟩) (a : StateVector)) _ _
  exact Fr.of (α := StateVector) hI (p1, c1) fp1 rfl trivial (All.cons (hΓ 2 _ rfl) All.nil) (show List.Nodup (fp1) from by simpa using nd1) (show ∀ b ∈ fp1, w.heap.size ≤ b from by simpa using nw1)
end Go.Proofs.Ytkgehljhlmbdmaa
