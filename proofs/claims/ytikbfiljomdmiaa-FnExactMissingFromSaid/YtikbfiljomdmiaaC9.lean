/-
  That functions of the program compute what the Lean functions do. No condition but what each says. Written by a program (gen2.py).
-/
import Derived.Test.YtikbfiljomdmiaaC8
import Derived.Test.YtikbfiljomdmiaaP9
namespace Go.Proofs.Ytikbfiljomdmiaa
open Go.Stp
set_option linter.unusedVariables false
set_option linter.unusedSimpArgs false
theorem f17 (w : World) (n : Nat) (hn : n + 1 ≤ 9) (s : Repository) (psLogDurable : Option Addr) (csLogDurable : Nat) (hpsLogDurable : RdSl (hp w) psLogDurable csLogDurable s.log.durable) (psLogVolatile : Option Addr) (csLogVolatile : Nat) (hpsLogVolatile : RdSl (hp w) psLogVolatile csLogVolatile s.log.volatile) (hoks : GoT.ok n s) :
    Does Try.prog 17 #[.agg #[.slice psLogDurable ((s.log.durable).length) csLogDurable, .slice psLogVolatile ((s.log.volatile).length) csLogVolatile, .int .i64 (s.quota)]] w emp (Post w emp (fun x : GoT.X (Repository) => .agg ⟨GoT.sh ((impl_FlushRepository s) : Repository) x⟩) (fun x => GoT.oa ((impl_FlushRepository s) : Repository) x) (GoT.ok (n + 1) ((impl_FlushRepository s) : Repository))) := by
  have hbP := bd_pos n
  have hbS0 := bd_succ (n := n) (by omega)
  have hbB := bd_big (n := (n + 1)) (by omega)
  have hbM := bd_mono (show n ≤ n + 1 by omega)
  refine WX.enter (tt := tt) (Γ := [(0, MF.rs .stb psLogDurable csLogDurable s.log.durable), (1, MF.rs .stb psLogVolatile csLogVolatile s.log.volatile)]) Try.func17 rfl (by kernel_rfl) rfl (allS_cons rfl hpsLogDurable (allS_cons rfl hpsLogVolatile allS_nil)) ?_
  refine WX.run ttOk rfl ?_
  refine WX.draw [6] mixed ?_
  intro bs G0 hΓ0
  refine DX.takes (fuel := 3) ttOk [(0, true), (1, false), (3, true), (4, false)] (by kernel_rfl) rfl ?_
  refine DX.callF 2 2 (fun _ _ h => GoT.ow_rd h) (fun _ f hf => GoT.fak f hf) rfl (by kernel_rfl) rfl rfl rfl rfl rfl rfl (fun _ => rfl) rfl (fun w G bs hI hΓ => f61 w n (by omega) s.log psLogDurable csLogDurable (hΓ.get 0 rfl) psLogVolatile csLogVolatile (hΓ.get 1 rfl) ((ok_Repository hoks).1)) (fun _ => rfl) (fun _ => rfl) ?_
  rintro ⟨⟨p1, c1⟩, ⟨p2, c2⟩⟩ hq1
  refine DX.takes (fuel := 1) ttOk [(5, true)] (by kernel_rfl) rfl ?_
  refine DX.tail [6] rfl rfl (by kernel_rfl) ?_
  refine WX.run ttOk rfl ?_
  have hP1 : impl_FlushRepository s = (Repository.mk (impl_FlushLog s.log) s.quota) := by simp only [impl_FlushRepository, cond_true, cond_false]
  refine WX.ret ttOk rfl ?_
  intro w1 G bs hI hΓ
  rw [hP1]
  exact Post.of [4, 5] (((p1, c1), (p2, c2)), ()) hI hΓ rfl rfl rfl (And.intro hq1 (ok_Repository hoks).2)
theorem f15 (w : World) (n : Nat) (hn : n + 1 ≤ 9) (s : Repository) (psLogDurable : Option Addr) (csLogDurable : Nat) (hpsLogDurable : RdSl (hp w) psLogDurable csLogDurable s.log.durable) (psLogVolatile : Option Addr) (csLogVolatile : Nat) (hpsLogVolatile : RdSl (hp w) psLogVolatile csLogVolatile s.log.volatile) (hoks : GoT.ok n s) :
    Does Try.prog 15 #[.agg #[.slice psLogDurable ((s.log.durable).length) csLogDurable, .slice psLogVolatile ((s.log.volatile).length) csLogVolatile, .int .i64 (s.quota)]] w emp (Post w emp (fun x : GoT.X (Repository) => .agg ⟨GoT.sh ((spec_FlushRepository s) : Repository) x⟩) (fun x => GoT.oa ((spec_FlushRepository s) : Repository) x) (GoT.ok (n + 1) ((spec_FlushRepository s) : Repository))) := by
  have hbP := bd_pos n
  have hbS0 := bd_succ (n := n) (by omega)
  have hbB := bd_big (n := (n + 1)) (by omega)
  have hbM := bd_mono (show n ≤ n + 1 by omega)
  refine WX.enter (tt := tt) (Γ := [(0, MF.rs .stb psLogDurable csLogDurable s.log.durable), (1, MF.rs .stb psLogVolatile csLogVolatile s.log.volatile)]) Try.func15 rfl (by kernel_rfl) rfl (allS_cons rfl hpsLogDurable (allS_cons rfl hpsLogVolatile allS_nil)) ?_
  refine WX.run ttOk rfl ?_
  refine WX.draw [6] mixed ?_
  intro bs G0 hΓ0
  refine DX.takes (fuel := 3) ttOk [(0, true), (1, false), (3, true), (4, false)] (by kernel_rfl) rfl ?_
  refine DX.callF 2 2 (fun _ _ h => GoT.ow_rd h) (fun _ f hf => GoT.fak f hf) rfl (by kernel_rfl) rfl rfl rfl rfl rfl rfl (fun _ => rfl) rfl (fun w G bs hI hΓ => f59 w n (by omega) s.log psLogDurable csLogDurable (hΓ.get 0 rfl) psLogVolatile csLogVolatile (hΓ.get 1 rfl) ((ok_Repository hoks).1)) (fun _ => rfl) (fun _ => rfl) ?_
  rintro ⟨⟨p1, c1⟩, ⟨p2, c2⟩⟩ hq1
  refine DX.takes (fuel := 1) ttOk [(5, true)] (by kernel_rfl) rfl ?_
  refine DX.tail [6] rfl rfl (by kernel_rfl) ?_
  refine WX.run ttOk rfl ?_
  have hP1 : spec_FlushRepository s = (Repository.mk (spec_FlushLog s.log) s.quota) := by simp only [spec_FlushRepository, cond_true, cond_false]
  refine WX.ret ttOk rfl ?_
  intro w1 G bs hI hΓ
  rw [hP1]
  exact Post.of [4, 5] (((p1, c1), (p2, c2)), ()) hI hΓ rfl rfl rfl (And.intro hq1 (ok_Repository hoks).2)
theorem f32 (w : World) (n : Nat) (hn : n + 1 ≤ 9) (s : Repository) (psLogDurable : Option Addr) (csLogDurable : Nat) (hpsLogDurable : RdSl (hp w) psLogDurable csLogDurable s.log.durable) (psLogVolatile : Option Addr) (csLogVolatile : Nat) (hpsLogVolatile : RdSl (hp w) psLogVolatile csLogVolatile s.log.volatile) (n_ : Int) (hoks : GoT.ok n s) (hokn_ : GoT.ok n n_) :
    Does Try.prog 32 #[.agg #[.slice psLogDurable ((s.log.durable).length) csLogDurable, .slice psLogVolatile ((s.log.volatile).length) csLogVolatile, .int .i64 (s.quota)], .int .i64 (n_)] w emp (Post w emp (fun x : GoT.X (Repository) => .agg ⟨GoT.sh ((impl_CrashRepository s n_) : Repository) x⟩) (fun x => GoT.oa ((impl_CrashRepository s n_) : Repository) x) (GoT.ok (n + 1) ((impl_CrashRepository s n_) : Repository))) := by
  have hbP := bd_pos n
  have hbS0 := bd_succ (n := n) (by omega)
  have hbB := bd_big (n := (n + 1)) (by omega)
  have hbM := bd_mono (show n ≤ n + 1 by omega)
  refine WX.enter (tt := tt) (Γ := [(0, MF.rs .stb psLogDurable csLogDurable s.log.durable), (1, MF.rs .stb psLogVolatile csLogVolatile s.log.volatile)]) Try.func32 rfl (by kernel_rfl) rfl (allS_cons rfl hpsLogDurable (allS_cons rfl hpsLogVolatile allS_nil)) ?_
  refine WX.run ttOk rfl ?_
  refine WX.draw [7] mixed ?_
  intro bs G0 hΓ0
  refine DX.takes (fuel := 3) ttOk [(0, true), (1, false), (2, true), (4, true), (5, false)] (by kernel_rfl) rfl ?_
  refine DX.callF 3 2 (fun _ _ h => GoT.ow_rd h) (fun _ f hf => GoT.fak f hf) rfl (by kernel_rfl) rfl rfl rfl rfl rfl rfl (fun _ => rfl) rfl (fun w G bs hI hΓ => f74 w n (by omega) s.log psLogDurable csLogDurable (hΓ.get 0 rfl) psLogVolatile csLogVolatile (hΓ.get 1 rfl) n_ ((ok_Repository hoks).1) hokn_) (fun _ => rfl) (fun _ => rfl) ?_
  rintro ⟨⟨p1, c1⟩, ⟨p2, c2⟩⟩ hq1
  refine DX.takes (fuel := 1) ttOk [(6, true)] (by kernel_rfl) rfl ?_
  refine DX.tail [7] rfl rfl (by kernel_rfl) ?_
  refine WX.run ttOk rfl ?_
  have hP1 : impl_CrashRepository s n_ = (Repository.mk (impl_CrashLog s.log n_) s.quota) := by simp only [impl_CrashRepository, cond_true, cond_false]
  refine WX.ret ttOk rfl ?_
  intro w1 G bs hI hΓ
  rw [hP1]
  exact Post.of [4, 5] (((p1, c1), (p2, c2)), ()) hI hΓ rfl rfl rfl (And.intro hq1 (ok_Repository hoks).2)
theorem f31 (w : World) (n : Nat) (hn : n + 1 ≤ 9) (s : Repository) (psLogDurable : Option Addr) (csLogDurable : Nat) (hpsLogDurable : RdSl (hp w) psLogDurable csLogDurable s.log.durable) (psLogVolatile : Option Addr) (csLogVolatile : Nat) (hpsLogVolatile : RdSl (hp w) psLogVolatile csLogVolatile s.log.volatile) (n_ : Int) (hoks : GoT.ok n s) (hokn_ : GoT.ok n n_) :
    Does Try.prog 31 #[.agg #[.slice psLogDurable ((s.log.durable).length) csLogDurable, .slice psLogVolatile ((s.log.volatile).length) csLogVolatile, .int .i64 (s.quota)], .int .i64 (n_)] w emp (Post w emp (fun x : GoT.X (Repository) => .agg ⟨GoT.sh ((spec_CrashRepository s n_) : Repository) x⟩) (fun x => GoT.oa ((spec_CrashRepository s n_) : Repository) x) (GoT.ok (n + 1) ((spec_CrashRepository s n_) : Repository))) := by
  have hbP := bd_pos n
  have hbS0 := bd_succ (n := n) (by omega)
  have hbB := bd_big (n := (n + 1)) (by omega)
  have hbM := bd_mono (show n ≤ n + 1 by omega)
  refine WX.enter (tt := tt) (Γ := [(0, MF.rs .stb psLogDurable csLogDurable s.log.durable), (1, MF.rs .stb psLogVolatile csLogVolatile s.log.volatile)]) Try.func31 rfl (by kernel_rfl) rfl (allS_cons rfl hpsLogDurable (allS_cons rfl hpsLogVolatile allS_nil)) ?_
  refine WX.run ttOk rfl ?_
  refine WX.draw [7] mixed ?_
  intro bs G0 hΓ0
  refine DX.takes (fuel := 3) ttOk [(0, true), (1, false), (2, true), (4, true), (5, false)] (by kernel_rfl) rfl ?_
  refine DX.callF 3 2 (fun _ _ h => GoT.ow_rd h) (fun _ f hf => GoT.fak f hf) rfl (by kernel_rfl) rfl rfl rfl rfl rfl rfl (fun _ => rfl) rfl (fun w G bs hI hΓ => f73 w n (by omega) s.log psLogDurable csLogDurable (hΓ.get 0 rfl) psLogVolatile csLogVolatile (hΓ.get 1 rfl) n_ ((ok_Repository hoks).1) hokn_) (fun _ => rfl) (fun _ => rfl) ?_
  rintro ⟨⟨p1, c1⟩, ⟨p2, c2⟩⟩ hq1
  refine DX.takes (fuel := 1) ttOk [(6, true)] (by kernel_rfl) rfl ?_
  refine DX.tail [7] rfl rfl (by kernel_rfl) ?_
  refine WX.run ttOk rfl ?_
  have hP1 : spec_CrashRepository s n_ = (Repository.mk (spec_CrashLog s.log n_) s.quota) := by simp only [spec_CrashRepository, cond_true, cond_false]
  refine WX.ret ttOk rfl ?_
  intro w1 G bs hI hΓ
  rw [hP1]
  exact Post.of [4, 5] (((p1, c1), (p2, c2)), ()) hI hΓ rfl rfl rfl (And.intro hq1 (ok_Repository hoks).2)
theorem f45 (w : World) (n : Nat) (hn : n + 0 ≤ 9) (m : Member) (pmName : Option Addr) (cmName : Nat) (hpmName : RdSl (hp w) pmName cmName m.name.parts) (pmVector : Option Addr) (cmVector : Nat) (hpmVector : RdSl (hp w) pmVector cmVector m.vector.entries) (pmPublications : Option Addr) (cmPublications : Nat) (hpmPublications : RdSl (hp w) pmPublications cmPublications m.publications) (v : StateVector) (pv : Option Addr) (cv : Nat) (hpv : RdSl (hp w) pv cv v.entries) (hokm : GoT.ok n m) (hokv : GoT.ok n v) :
    Does Try.prog 45 #[.agg #[.slice pmName ((m.name.parts).length) cmName, .slice pmVector ((m.vector.entries).length) cmVector, .slice pmPublications ((m.publications).length) cmPublications], .agg #[.slice pv ((v.entries).length) cv]] w emp (Post w emp (fun x : GoT.X ((List TableEntry)) => (GoT.sh ((impl_MissingFrom m v) : (List TableEntry)) x).headD undef) (fun x => GoT.oa ((impl_MissingFrom m v) : (List TableEntry)) x) (GoT.ok n ((impl_MissingFrom m v) : (List TableEntry)))) := by
  have hbP := bd_pos n
  have hbB := bd_big (n := n) (by omega)
  refine WX.enter (tt := tt) (Γ := [(0, MF.rs .stb pmName cmName m.name.parts), (1, MF.rs .stb pmVector cmVector m.vector.entries), (2, MF.rs .stb pmPublications cmPublications m.publications), (3, MF.rs .stb pv cv v.entries)]) Try.func45 rfl (by kernel_rfl) rfl (allS_cons rfl hpmName (allS_cons rfl hpmVector (allS_cons rfl hpmPublications (allS_cons rfl hpv allS_nil)))) ?_
  refine WX.run ttOk rfl ?_
  refine WX.callF 4 (fun _ _ h => GoT.ow_rd h) (fun _ f hf => GoT.fak f hf) rfl rfl rfl rfl rfl (fun _ => rfl) rfl (fun w G bs hI hΓ => f89 w n (by omega) v pv cv (hΓ.get 3 rfl) m.vector pmVector cmVector (hΓ.get 1 rfl) hokv ((ok_Member hokm).2.1)) (fun _ => rfl) (fun _ => rfl) ?_
  rintro ⟨p1, c1⟩ hq1
  refine WX.run ttOk rfl ?_
  have hP1 : impl_MissingFrom m v = (impl_NewerThan v m.vector) := by simp only [impl_MissingFrom, cond_true, cond_false]
  refine WX.ret ttOk rfl ?_
  intro w1 G bs hI hΓ
  rw [hP1]
  exact Post.of [5] (p1, c1) hI hΓ rfl rfl rfl hq1
theorem f43 (w : World) (n : Nat) (hn : n + 0 ≤ 9) (m : Member) (pmName : Option Addr) (cmName : Nat) (hpmName : RdSl (hp w) pmName cmName m.name.parts) (pmVector : Option Addr) (cmVector : Nat) (hpmVector : RdSl (hp w) pmVector cmVector m.vector.entries) (pmPublications : Option Addr) (cmPublications : Nat) (hpmPublications : RdSl (hp w) pmPublications cmPublications m.publications) (v : StateVector) (pv : Option Addr) (cv : Nat) (hpv : RdSl (hp w) pv cv v.entries) (hokm : GoT.ok n m) (hokv : GoT.ok n v) :
    Does Try.prog 43 #[.agg #[.slice pmName ((m.name.parts).length) cmName, .slice pmVector ((m.vector.entries).length) cmVector, .slice pmPublications ((m.publications).length) cmPublications], .agg #[.slice pv ((v.entries).length) cv]] w emp (Post w emp (fun x : GoT.X ((List TableEntry)) => (GoT.sh ((spec_MissingFrom m v) : (List TableEntry)) x).headD undef) (fun x => GoT.oa ((spec_MissingFrom m v) : (List TableEntry)) x) (GoT.ok n ((spec_MissingFrom m v) : (List TableEntry)))) := by
  have hbP := bd_pos n
  have hbB := bd_big (n := n) (by omega)
  refine WX.enter (tt := tt) (Γ := [(0, MF.rs .stb pmName cmName m.name.parts), (1, MF.rs .stb pmVector cmVector m.vector.entries), (2, MF.rs .stb pmPublications cmPublications m.publications), (3, MF.rs .stb pv cv v.entries)]) Try.func43 rfl (by kernel_rfl) rfl (allS_cons rfl hpmName (allS_cons rfl hpmVector (allS_cons rfl hpmPublications (allS_cons rfl hpv allS_nil)))) ?_
  refine WX.run ttOk rfl ?_
  refine WX.callF 4 (fun _ _ h => GoT.ow_rd h) (fun _ f hf => GoT.fak f hf) rfl rfl rfl rfl rfl (fun _ => rfl) rfl (fun w G bs hI hΓ => f87 w n (by omega) v pv cv (hΓ.get 3 rfl) m.vector pmVector cmVector (hΓ.get 1 rfl) hokv ((ok_Member hokm).2.1)) (fun _ => rfl) (fun _ => rfl) ?_
  rintro ⟨p1, c1⟩ hq1
  refine WX.run ttOk rfl ?_
  have hP1 : spec_MissingFrom m v = (spec_NewerThan v m.vector) := by simp only [spec_MissingFrom, cond_true, cond_false]
  refine WX.ret ttOk rfl ?_
  intro w1 G bs hI hΓ
  rw [hP1]
  exact Post.of [5] (p1, c1) hI hΓ rfl rfl rfl hq1
theorem f95 (w : World) (n : Nat) (hn : n + 0 ≤ 9) (s1 : (List TableEntry)) (ps1 : Option Addr) (cs1 : Nat) (hps1 : RdSl (hp w) ps1 cs1 s1) (s2 : (List TableEntry)) (ps2 : Option Addr) (cs2 : Nat) (hps2 : RdSl (hp w) ps2 cs2 s2) (eqg : FuncId) (eqc : List Value) (eqq : TableEntry → TableEntry → Bool) (eqf : ∀ w1, Kp emp w w1 → ∀ (e0 : TableEntry) (x0 : GoT.X TableEntry), GoT.ok n e0 → All (hp w1) (GoT.fa .der e0 x0) → ∀ (e1 : TableEntry) (x1 : GoT.X TableEntry), GoT.ok n e1 → All (hp w1) (GoT.fa .der e1 x1) → Does Try.prog eqg ([Value.agg ⟨GoT.sh e0 x0⟩, Value.agg ⟨GoT.sh e1 x1⟩] ++ eqc).toArray w1 emp (fun rv _ => rv = .bool (eqq e0 e1) ∧ True)) (hoks1 : GoT.ok n s1) (hoks2 : GoT.ok n s2) :
    Does Try.prog 95 #[.slice ps1 ((s1).length) cs1, .slice ps2 ((s2).length) cs2, .func (.func eqg) #[] eqc.toArray] w emp (fun (rv : Value) (_ : World) => rv = .bool (slices_EqualFunc_TableEntry s1 s2 eqq) ∧ True) := by
  have hbP := bd_pos n
  have hbB := bd_big (n := n) (by omega)
  refine WX.enter (tt := tt) (Γ := [(0, MF.rs .stb ps1 cs1 s1), (1, MF.rs .stb ps2 cs2 s2)]) Try.func95 rfl (by kernel_rfl) rfl (allS_cons rfl hps1 (allS_cons rfl hps2 allS_nil)) ?_
  refine WX.run ttOk rfl ?_
  refine WX.cases 14 rfl (fun h1 => ?_) (fun h1 => ?_)
  · skip
    have h1d := B.nt' h1
    refine WX.run ttOk rfl ?_
    have hP1 : slices_EqualFunc_TableEntry s1 s2 eqq = false := by simp only [slices_EqualFunc_TableEntry, h1, cond_true, cond_false]
    refine WX.ret ttOk rfl ?_
    intro w1 G bs hI hΓ
    rw [hP1]
    exact ⟨rfl, trivial⟩
  · skip
    have h1d := B.nf' h1
    refine WX.run ttOk rfl ?_
    have r1 : (s1).length ≤ bd n := (okl hoks1).1
    refine WX.loop (ι := Nat) ⟨fun i => (i ≤ (s1).length) ∧ (slices_EqualFunc_TableEntry_L1 eqq s2 s1 0 = slices_EqualFunc_TableEntry_L1 eqq s2 ((s1).drop i) i), fun i => (s1).length - i, fun i => [(17, .v (.int .i64 (((i : Nat) : Int)))), (16, .v (.int .i64 ((((s1).length : Nat) : Int)))), (15, .v (.slice ps1 ((s1).length) cs1)), (1, .v (.slice ps2 ((s2).length) cs2)), (2, .v (.func (.func eqg) #[] eqc.toArray))], fun i => [], fun i => [], fun i => [(0, MF.rs .stb ps1 cs1 s1), (1, MF.rs .stb ps2 cs2 s2)]⟩ 0 ⟨(Nat.zero_le _), rfl⟩
      (.cons rfl (.cons rfl (.cons rfl (.cons rfl (.cons rfl (.nil)))))) .nil .nil [0, 1] rfl ?_
    rintro i hpre
    have hpre_ : (i ≤ (s1).length) ∧ (slices_EqualFunc_TableEntry_L1 eqq s2 s1 0 = slices_EqualFunc_TableEntry_L1 eqq s2 ((s1).drop i) i) := hpre
    clear hpre
    obtain ⟨v1, v2⟩ := hpre_
    refine WX.run ttOk rfl ?_
    refine WX.cases 18 rfl (fun h2 => ?_) (fun h2 => ?_)
    · skip
      have h2d := B.dt h2
      have e1i : i < (s1).length := (by omega)
      obtain ⟨e1, e1h⟩ : ∃ e1, (s1)[i]? = some e1 := ⟨_, List.getElem?_eq_getElem e1i⟩
      have ok1 : GoT.ok n e1 := (okl hoks1).2 _ (List.mem_of_getElem? e1h)
      refine WX.run ttOk rfl ?_
      refine WX.idx 0 i ttOk rfl rfl rfl rfl rfl rfl rfl rfl rfl rfl e1i ?_
      rintro ad1 rfl
      refine WX.ldE 0 2 e1 ttOk rfl rfl rfl rfl rfl rfl rfl rfl e1h (fun _ => rfl) (fun _ => rfl) ?_
      rintro ⟨⟨p1, c1⟩, ⟨⟩⟩
      refine WX.run ttOk rfl ?_
      have e2i : i < (s2).length := (by first | assumption | omega)
      obtain ⟨e2, e2h⟩ : ∃ e2, (s2)[i]? = some e2 := ⟨_, List.getElem?_eq_getElem e2i⟩
      have ok2 : GoT.ok n e2 := (okl hoks2).2 _ (List.mem_of_getElem? e2h)
      refine WX.idx 1 i ttOk rfl rfl rfl rfl rfl rfl rfl rfl rfl rfl e2i ?_
      rintro ad2 rfl
      refine WX.ldE 1 3 e2 ttOk rfl rfl rfl rfl rfl rfl rfl rfl e2h (fun _ => rfl) (fun _ => rfl) ?_
      rintro ⟨⟨p2, c2⟩, ⟨⟩⟩
      refine WX.run ttOk rfl ?_
      refine WX.callV rfl rfl rfl rfl rfl (fun _ => rfl) rfl (fun w G bs hI hΓ => eqf w hI.keep e1 ((p1, c1), ()) ok1 (All.cons (hΓ.get 2 rfl : RdSl _ _ _ _) All.nil) e2 ((p2, c2), ()) ok2 (All.cons (hΓ.get 3 rfl : RdSl _ _ _ _) All.nil)) ?_
      intro hq1
      refine WX.run ttOk rfl ?_
      refine WX.cases 30 rfl (fun h3 => ?_) (fun h3 => ?_)
      · skip
        have h3d := (B.nt h3)
        refine WX.run ttOk rfl ?_
        have hP2 : slices_EqualFunc_TableEntry_L1 eqq s2 s1 0 = (some false) := by rw [v2, drop_get e1h]; simp only [slices_EqualFunc_TableEntry_L1, e2h, h3, cond_true, cond_false]
        have hP3 : slices_EqualFunc_TableEntry s1 s2 eqq = false := by simp only [slices_EqualFunc_TableEntry, h1, hP2, cond_true, cond_false]
        refine WX.ret ttOk rfl ?_
        intro w1 G bs hI hΓ
        rw [hP3]
        exact ⟨rfl, trivial⟩
      · skip
        have h3d := (B.nf h3)
        refine WX.run ttOk rfl ?_
        refine WX.see rfl rfl rfl (fun _ hΓ => looks_arith rfl rfl rfl rfl (by unfold I64; omega)) ?_
        refine WX.run ttOk rfl ?_
        exact WX.iter (i + 1) ⟨(by omega), (by rw [v2, drop_get e1h]; simp only [slices_EqualFunc_TableEntry_L1, e2h, h3, cond_true, cond_false])⟩ (by dsimp only; omega) (.cons rfl (.cons rfl (.cons rfl (.cons rfl (.cons rfl (.nil)))))) .nil .nil [0, 1] rfl
    · skip
      have h2d := B.df h2
      refine WX.run ttOk rfl ?_
      have hX1 : slices_EqualFunc_TableEntry_L1 eqq s2 s1 0 = none := by rw [v2, List.drop_eq_nil_of_le (show (s1).length ≤ i by omega)]; simp only [slices_EqualFunc_TableEntry_L1, cond_true, cond_false]
      have hP4 : slices_EqualFunc_TableEntry s1 s2 eqq = true := by simp only [slices_EqualFunc_TableEntry, h1, hX1, cond_true, cond_false]
      refine WX.ret ttOk rfl ?_
      intro w1 G bs hI hΓ
      rw [hP4]
      exact ⟨rfl, trivial⟩
theorem f96 (w : World) (n : Nat) (hn : n + 0 ≤ 9) (x_ : TableEntry) (px_Name : Option Addr) (cx_Name : Nat) (hpx_Name : RdSl (hp w) px_Name cx_Name x_.name.parts) (y : TableEntry) (pyName : Option Addr) (cyName : Nat) (hpyName : RdSl (hp w) pyName cyName y.name.parts) (hokx_ : GoT.ok n x_) (hoky : GoT.ok n y) :
    Does Try.prog 96 #[.agg #[.slice px_Name ((x_.name.parts).length) cx_Name, .int .i64 (x_.value)], .agg #[.slice pyName ((y.name.parts).length) cyName, .int .i64 (y.value)]] w emp (fun (rv : Value) (_ : World) => rv = .bool (impl_EqualTables_c1 x_ y) ∧ True) := by
  have hbP := bd_pos n
  have hbB := bd_big (n := n) (by omega)
  refine WX.enter (tt := tt) (Γ := [(0, MF.rs .stb px_Name cx_Name x_.name.parts), (1, MF.rs .stb pyName cyName y.name.parts)]) Try.func96 rfl (by kernel_rfl) rfl (allS_cons rfl hpx_Name (allS_cons rfl hpyName allS_nil)) ?_
  refine WX.run ttOk rfl ?_
  refine WX.callV rfl rfl rfl rfl rfl (fun _ => rfl) rfl (fun w G bs hI hΓ => f81 w n (by omega) x_.name px_Name cx_Name (hΓ.get 0 rfl) y.name pyName cyName (hΓ.get 1 rfl) ((ok_TableEntry hokx_).1) ((ok_TableEntry hoky).1)) ?_
  intro hq1
  refine WX.run ttOk rfl ?_
  refine WX.cases 10 rfl (fun h1 => ?_) (fun h1 => ?_)
  · skip
    refine WX.run ttOk rfl ?_
    have hP1 : impl_EqualTables_c1 x_ y = (x_.value == y.value) := by simp only [impl_EqualTables_c1, h1, cond_true, cond_false]
    refine WX.ret ttOk rfl ?_
    intro w1 G bs hI hΓ
    rw [hP1]
    exact ⟨rfl, trivial⟩
  · skip
    refine WX.run ttOk rfl ?_
    have hP2 : impl_EqualTables_c1 x_ y = false := by simp only [impl_EqualTables_c1, h1, cond_true, cond_false]
    refine WX.ret ttOk rfl ?_
    intro w1 G bs hI hΓ
    rw [hP2]
    exact ⟨rfl, trivial⟩
theorem f55 (w : World) (n : Nat) (hn : n + 0 ≤ 9) (a : (List TableEntry)) (pa : Option Addr) (ca : Nat) (hpa : RdSl (hp w) pa ca a) (b : (List TableEntry)) (pb : Option Addr) (cb : Nat) (hpb : RdSl (hp w) pb cb b) (hoka : GoT.ok n a) (hokb : GoT.ok n b) :
    Does Try.prog 55 #[.slice pa ((a).length) ca, .slice pb ((b).length) cb] w emp (fun (rv : Value) (_ : World) => rv = .bool (impl_EqualTables a b) ∧ True) := by
  have hbP := bd_pos n
  have hbB := bd_big (n := n) (by omega)
  refine WX.enter (tt := tt) (Γ := [(0, MF.rs .stb pa ca a), (1, MF.rs .stb pb cb b)]) Try.func55 rfl (by kernel_rfl) rfl (allS_cons rfl hpa (allS_cons rfl hpb allS_nil)) ?_
  refine WX.run ttOk rfl ?_
  refine WX.callV rfl rfl rfl rfl rfl (fun _ => rfl) rfl (fun w G bs hI hΓ => f95 w n (by omega) a pa ca (hΓ.get 0 rfl) b pb cb (hΓ.get 1 rfl) 96 [] (fun e0_ e1_ => (impl_EqualTables_c1 e0_ e1_)) (fun w1_ hb_ e0_ x0_ hk0_ hx0_ e1_ x1_ hk1_ hx1_ => f96 w1_ n (by omega) e0_ x0_.1.1 x0_.1.2 (hx0_ _ List.mem_cons_self) e1_ x1_.1.1 x1_.1.2 (hx1_ _ List.mem_cons_self) hk0_ hk1_) hoka hokb) ?_
  intro hq1
  refine WX.run ttOk rfl ?_
  have hP1 : impl_EqualTables a b = (slices_EqualFunc_TableEntry a b (fun e0_ e1_ => (impl_EqualTables_c1 e0_ e1_))) := by simp only [impl_EqualTables, cond_true, cond_false]
  refine WX.ret ttOk rfl ?_
  intro w1 G bs hI hΓ
  rw [hP1]
  exact ⟨rfl, trivial⟩
theorem f52 (w : World) (n : Nat) (hn : n + 0 ≤ 9) (a : (List TableEntry)) (pa : Option Addr) (ca : Nat) (hpa : RdSl (hp w) pa ca a) (b : (List TableEntry)) (pb : Option Addr) (cb : Nat) (hpb : RdSl (hp w) pb cb b) (hoka : GoT.ok n a) (hokb : GoT.ok n b) :
    Does Try.prog 52 #[.slice pa ((a).length) ca, .slice pb ((b).length) cb] w emp (fun (rv : Value) (_ : World) => rv = .bool (spec_EqualTables a b) ∧ True) := by
  have hbP := bd_pos n
  have hbB := bd_big (n := n) (by omega)
  refine WX.enter (tt := tt) (Γ := [(0, MF.rs .stb pa ca a), (1, MF.rs .stb pb cb b)]) Try.func52 rfl (by kernel_rfl) rfl (allS_cons rfl hpa (allS_cons rfl hpb allS_nil)) ?_
  refine WX.run ttOk rfl ?_
  refine WX.cases 10 rfl (fun h1 => ?_) (fun h1 => ?_)
  · skip
    have h1d := B.nt' h1
    refine WX.run ttOk rfl ?_
    have hP1 : spec_EqualTables a b = false := by simp only [spec_EqualTables, h1, cond_true, cond_false]
    refine WX.ret ttOk rfl ?_
    intro w1 G bs hI hΓ
    rw [hP1]
    exact ⟨rfl, trivial⟩
  · skip
    have h1d := B.nf' h1
    refine WX.run ttOk rfl ?_
    have r1 : (a).length ≤ bd n := (okl hoka).1
    refine WX.loop (ι := Nat) ⟨fun i => (i ≤ (a).length) ∧ (spec_EqualTables_L1 b a 0 = spec_EqualTables_L1 b ((a).drop i) i), fun i => (a).length - i, fun i => [(5, .v (.int .i64 (((i : Nat) : Int)))), (0, .v (.slice pa ((a).length) ca)), (1, .v (.slice pb ((b).length) cb))], fun i => [], fun i => [], fun i => [(0, MF.rs .stb pa ca a), (1, MF.rs .stb pb cb b)]⟩ 0 ⟨(Nat.zero_le _), rfl⟩
      (.cons rfl (.cons rfl (.cons rfl (.nil)))) .nil .nil [0, 1] rfl ?_
    rintro i hpre
    have hpre_ : (i ≤ (a).length) ∧ (spec_EqualTables_L1 b a 0 = spec_EqualTables_L1 b ((a).drop i) i) := hpre
    clear hpre
    obtain ⟨v1, v2⟩ := hpre_
    refine WX.run ttOk rfl ?_
    refine WX.cases 14 rfl (fun h2 => ?_) (fun h2 => ?_)
    · skip
      have h2d := B.dt h2
      have e1i : i < (a).length := (by omega)
      obtain ⟨e1, e1h⟩ : ∃ e1, (a)[i]? = some e1 := ⟨_, List.getElem?_eq_getElem e1i⟩
      have ok1 : GoT.ok n e1 := (okl hoka).2 _ (List.mem_of_getElem? e1h)
      refine WX.run ttOk rfl ?_
      refine WX.draw [] mixed ?_
      intro bs G0 hΓ0
      refine DX.takes (fuel := 23) ttOk [(0, true), (1, true)] (by kernel_rfl) rfl ?_
      refine DX.idx 2 0 i ttOk hΓ0 (by kernel_rfl) rfl rfl rfl rfl rfl rfl rfl rfl rfl rfl rfl e1i ?_
      rintro ad1 rfl
      refine DX.takes (fuel := 21) ttOk [(3, true)] (by kernel_rfl) rfl ?_
      refine DX.ldE 4 0 2 e1 ttOk hΓ0 (by kernel_rfl) rfl rfl rfl rfl rfl rfl rfl rfl e1h (fun _ => rfl) (fun _ => rfl) ?_
      rintro ⟨⟨p1, c1⟩, ⟨⟩⟩
      refine DX.takes (fuel := 18) ttOk [(5, true), (6, true)] (by kernel_rfl) rfl ?_
      have e2i : i < (b).length := (by first | assumption | omega)
      obtain ⟨e2, e2h⟩ : ∃ e2, (b)[i]? = some e2 := ⟨_, List.getElem?_eq_getElem e2i⟩
      have ok2 : GoT.ok n e2 := (okl hokb).2 _ (List.mem_of_getElem? e2h)
      refine DX.idx 7 1 i ttOk hΓ0 (by kernel_rfl) rfl rfl rfl rfl rfl rfl rfl rfl rfl rfl rfl e2i ?_
      rintro ad2 rfl
      refine DX.takes (fuel := 16) ttOk [(8, true)] (by kernel_rfl) rfl ?_
      refine DX.ldE 9 1 3 e2 ttOk hΓ0 (by kernel_rfl) rfl rfl rfl rfl rfl rfl rfl rfl e2h (fun _ => rfl) (fun _ => rfl) ?_
      rintro ⟨⟨p2, c2⟩, ⟨⟩⟩
      refine DX.takes (fuel := 13) ttOk [(10, true), (11, true)] (by kernel_rfl) rfl ?_
      refine DX.cases 28 rfl (fun h3 => ?_) (fun h3 => ?_)
      · skip
        have h3d := B.nt' h3
        refine DX.takes (fuel := 0) ttOk [(12, true), (13, true), (14, true), (15, true), (16, true), (17, true), (18, true), (19, true), (20, true), (21, true), (22, true), (23, true), (24, true)] (by kernel_rfl) rfl ?_
        refine DX.tail [] rfl rfl (by kernel_rfl) ?_
        refine WX.run ttOk rfl ?_
        have hP2 : spec_EqualTables_L1 b a 0 = (some false) := by rw [v2, drop_get e1h]; simp only [spec_EqualTables_L1, e2h, h3, cond_true, cond_false]
        have hP3 : spec_EqualTables a b = false := by simp only [spec_EqualTables, h1, hP2, cond_true, cond_false]
        refine WX.ret ttOk rfl ?_
        intro w1 G bs hI hΓ
        rw [hP3]
        exact ⟨rfl, trivial⟩
      · skip
        have h3d := B.nf' h3
        refine DX.takes (fuel := 11) ttOk [(12, true), (13, true)] (by kernel_rfl) rfl ?_
        refine DX.idx 14 0 i ttOk hΓ0 (by kernel_rfl) rfl rfl rfl rfl rfl rfl rfl rfl rfl rfl rfl e1i ?_
        rintro ad3 ⟨⟩
        refine DX.takes (fuel := 9) ttOk [(15, true)] (by kernel_rfl) rfl ?_
        refine DX.ldE 16 0 4 e1 ttOk hΓ0 (by kernel_rfl) rfl rfl rfl rfl rfl rfl rfl rfl e1h (fun _ => rfl) (fun _ => rfl) ?_
        rintro ⟨⟨p3, c3⟩, ⟨⟩⟩
        refine DX.takes (fuel := 6) ttOk [(17, true), (18, true)] (by kernel_rfl) rfl ?_
        refine DX.idx 19 1 i ttOk hΓ0 (by kernel_rfl) rfl rfl rfl rfl rfl rfl rfl rfl rfl rfl rfl e2i ?_
        rintro ad4 ⟨⟩
        refine DX.takes (fuel := 4) ttOk [(20, true)] (by kernel_rfl) rfl ?_
        refine DX.ldE 21 1 5 e2 ttOk hΓ0 (by kernel_rfl) rfl rfl rfl rfl rfl rfl rfl rfl e2h (fun _ => rfl) (fun _ => rfl) ?_
        rintro ⟨⟨p4, c4⟩, ⟨⟩⟩
        refine DX.callV 22 rfl (by kernel_rfl) rfl rfl rfl rfl rfl rfl (fun _ => rfl) rfl (fun w G bs hI hΓ => f92 w n (by omega) e1.name p3 c3 (hΓ.get 4 rfl) e2.name p4 c4 (hΓ.get 5 rfl) ((ok_TableEntry ok1).1) ((ok_TableEntry ok2).1)) ?_
        intro hq1
        refine DX.takes (fuel := 0) ttOk [(23, true), (24, true)] (by kernel_rfl) rfl ?_
        refine DX.tail [] rfl rfl (by kernel_rfl) ?_
        refine WX.run ttOk rfl ?_
        refine WX.cases 41 rfl (fun h4 => ?_) (fun h4 => ?_)
        · skip
          have h4d := (B.nt h4)
          refine WX.run ttOk rfl ?_
          have hP4 : spec_EqualTables_L1 b a 0 = (some false) := by rw [v2, drop_get e1h]; simp only [spec_EqualTables_L1, e2h, h3, h4, cond_true, cond_false]
          have hP5 : spec_EqualTables a b = false := by simp only [spec_EqualTables, h1, hP4, cond_true, cond_false]
          refine WX.ret ttOk rfl ?_
          intro w1 G bs hI hΓ
          rw [hP5]
          exact ⟨rfl, trivial⟩
        · skip
          have h4d := (B.nf h4)
          refine WX.run ttOk rfl ?_
          refine WX.see rfl rfl rfl (fun _ hΓ => looks_arith rfl rfl rfl rfl (by unfold I64; omega)) ?_
          refine WX.run ttOk rfl ?_
          exact WX.iter (i + 1) ⟨(by omega), (by rw [v2, drop_get e1h]; simp only [spec_EqualTables_L1, e2h, h3, h4, cond_true, cond_false])⟩ (by dsimp only; omega) (.cons rfl (.cons rfl (.cons rfl (.nil)))) .nil .nil [0, 1] rfl
    · skip
      have h2d := B.df h2
      refine WX.run ttOk rfl ?_
      have hX1 : spec_EqualTables_L1 b a 0 = none := by rw [v2, List.drop_eq_nil_of_le (show (a).length ≤ i by omega)]; simp only [spec_EqualTables_L1, cond_true, cond_false]
      have hP6 : spec_EqualTables a b = true := by simp only [spec_EqualTables, h1, hX1, cond_true, cond_false]
      refine WX.ret ttOk rfl ?_
      intro w1 G bs hI hΓ
      rw [hP6]
      exact ⟨rfl, trivial⟩
theorem f104 (w : World) (n : Nat) (hn : n + 0 ≤ 9) (s : (List Publication)) (ps : Option Addr) (cs : Nat) (hps : RdSl (hp w) ps cs s) (fg : FuncId) (fc : List Value) (fq : Publication → Bool) (ff : ∀ w1, Kp emp w w1 → ∀ (e0 : Publication) (x0 : GoT.X Publication), GoT.ok n e0 → All (hp w1) (GoT.fa .der e0 x0) → Does Try.prog fg ([Value.agg ⟨GoT.sh e0 x0⟩] ++ fc).toArray w1 emp (fun rv _ => rv = .bool (fq e0) ∧ True)) (hoks : GoT.ok n s) :
    Does Try.prog 104 #[.slice ps ((s).length) cs, .func (.func fg) #[] fc.toArray] w emp (fun (rv : Value) (_ : World) => rv = .int .i64 ((slices_IndexFunc_Publication s fq)) ∧ GoT.ok n ((slices_IndexFunc_Publication s fq) : Int)) := by
  have hbP := bd_pos n
  have hbB := bd_big (n := n) (by omega)
  refine WX.enter (tt := tt) (Γ := [(0, MF.rs .stb ps cs s)]) Try.func104 rfl (by kernel_rfl) rfl (allS_cons rfl hps allS_nil) ?_
  refine WX.run ttOk rfl ?_
  have r1 : (s).length ≤ bd n := (okl hoks).1
  refine WX.loop (ι := Nat) ⟨fun i => (i ≤ (s).length) ∧ (slices_IndexFunc_Publication_L1 fq s 0 = slices_IndexFunc_Publication_L1 fq ((s).drop i) i), fun i => (s).length - i, fun i => [(8, .v (.int .i64 (((i : Nat) : Int)))), (7, .v (.int .i64 ((((s).length : Nat) : Int)))), (0, .v (.slice ps ((s).length) cs)), (1, .v (.func (.func fg) #[] fc.toArray))], fun i => [], fun i => [], fun i => [(0, MF.rs .stb ps cs s)]⟩ 0 ⟨(Nat.zero_le _), rfl⟩
    (.cons rfl (.cons rfl (.cons rfl (.cons rfl (.nil))))) .nil .nil [0] rfl ?_
  rintro i hpre
  have hpre_ : (i ≤ (s).length) ∧ (slices_IndexFunc_Publication_L1 fq s 0 = slices_IndexFunc_Publication_L1 fq ((s).drop i) i) := hpre
  clear hpre
  obtain ⟨v1, v2⟩ := hpre_
  refine WX.run ttOk rfl ?_
  refine WX.cases 9 rfl (fun h1 => ?_) (fun h1 => ?_)
  · skip
    have h1d := B.dt h1
    have e1i : i < (s).length := (by omega)
    obtain ⟨e1, e1h⟩ : ∃ e1, (s)[i]? = some e1 := ⟨_, List.getElem?_eq_getElem e1i⟩
    have ok1 : GoT.ok n e1 := (okl hoks).2 _ (List.mem_of_getElem? e1h)
    refine WX.run ttOk rfl ?_
    refine WX.idx 0 i ttOk rfl rfl rfl rfl rfl rfl rfl rfl rfl rfl e1i ?_
    rintro ad1 rfl
    refine WX.ldE 0 1 e1 ttOk rfl rfl rfl rfl rfl rfl rfl rfl e1h (fun _ => rfl) (fun _ => rfl) ?_
    rintro ⟨⟨p1, c1⟩, ⟨⟩, ⟨p2, c2⟩⟩
    refine WX.callV rfl rfl rfl rfl rfl (fun _ => rfl) rfl (fun w G bs hI hΓ => ff w hI.keep e1 ((p1, c1), (), (p2, c2)) ok1 (All.cons (hΓ.get 1 rfl : RdSl _ _ _ _) (All.cons (hΓ.get 2 rfl : RdSl _ _ _ _) All.nil))) ?_
    intro hq1
    refine WX.run ttOk rfl ?_
    refine WX.cases 16 rfl (fun h2 => ?_) (fun h2 => ?_)
    · skip
      refine WX.run ttOk rfl ?_
      have hP1 : slices_IndexFunc_Publication_L1 fq s 0 = (some ((i : Nat) : Int)) := by rw [v2, drop_get e1h]; simp only [slices_IndexFunc_Publication_L1, h2, cond_true, cond_false]
      have hP2 : slices_IndexFunc_Publication s fq = ((i : Nat) : Int) := by simp only [slices_IndexFunc_Publication, hP1, cond_true, cond_false]
      refine WX.ret ttOk rfl ?_
      intro w1 G bs hI hΓ
      rw [hP2]
      exact ⟨rfl, (show I64 ((i : Nat) : Int) from (by unfold I64; omega))⟩
    · skip
      refine WX.run ttOk rfl ?_
      refine WX.see rfl rfl rfl (fun _ hΓ => looks_arith rfl rfl rfl rfl (by unfold I64; omega)) ?_
      refine WX.run ttOk rfl ?_
      exact WX.iter (i + 1) ⟨(by omega), (by rw [v2, drop_get e1h]; simp only [slices_IndexFunc_Publication_L1, h2, cond_true, cond_false])⟩ (by dsimp only; omega) (.cons rfl (.cons rfl (.cons rfl (.cons rfl (.nil))))) .nil .nil [0] rfl
  · skip
    have h1d := B.df h1
    refine WX.run ttOk rfl ?_
    have hX1 : slices_IndexFunc_Publication_L1 fq s 0 = none := by rw [v2, List.drop_eq_nil_of_le (show (s).length ≤ i by omega)]; simp only [slices_IndexFunc_Publication_L1, cond_true, cond_false]
    have hP3 : slices_IndexFunc_Publication s fq = (-1) := by simp only [slices_IndexFunc_Publication, hX1, cond_true, cond_false]
    refine WX.ret ttOk rfl ?_
    intro w1 G bs hI hΓ
    rw [hP3]
    exact ⟨rfl, (show I64 (-1) from (by unfold I64; omega))⟩
theorem f97 (w : World) (n : Nat) (hn : n + 0 ≤ 9) (s : (List Publication)) (ps : Option Addr) (cs : Nat) (hps : RdSl (hp w) ps cs s) (fg : FuncId) (fc : List Value) (fq : Publication → Bool) (ff : ∀ w1, Kp emp w w1 → ∀ (e0 : Publication) (x0 : GoT.X Publication), GoT.ok n e0 → All (hp w1) (GoT.fa .der e0 x0) → Does Try.prog fg ([Value.agg ⟨GoT.sh e0 x0⟩] ++ fc).toArray w1 emp (fun rv _ => rv = .bool (fq e0) ∧ True)) (hoks : GoT.ok n s) :
    Does Try.prog 97 #[.slice ps ((s).length) cs, .func (.func fg) #[] fc.toArray] w emp (fun (rv : Value) (_ : World) => rv = .bool (slices_ContainsFunc_Publication s fq) ∧ True) := by
  have hbP := bd_pos n
  have hbB := bd_big (n := n) (by omega)
  refine WX.enter (tt := tt) (Γ := [(0, MF.rs .stb ps cs s)]) Try.func97 rfl (by kernel_rfl) rfl (allS_cons rfl hps allS_nil) ?_
  refine WX.run ttOk rfl ?_
  refine WX.callV rfl rfl rfl rfl rfl (fun _ => rfl) rfl (fun w G bs hI hΓ => f104 w n (by omega) s ps cs (hΓ.get 0 rfl) fg fc fq (fun w1_ hb_ => ff w1_ (hI.keep.trans hb_)) hoks) ?_
  intro hq1
  refine WX.run ttOk rfl ?_
  have hP1 : slices_ContainsFunc_Publication s fq = (decide ((slices_IndexFunc_Publication s fq) ≥ 0)) := by simp only [slices_ContainsFunc_Publication, cond_true, cond_false]
  refine WX.ret ttOk rfl ?_
  intro w1 G bs hI hΓ
  rw [hP1]
  exact ⟨rfl, trivial⟩
theorem f105 (w : World) (n : Nat) (hn : n + 0 ≤ 9) (p_ : Publication) (pp_Publisher : Option Addr) (cp_Publisher : Nat) (hpp_Publisher : RdSl (hp w) pp_Publisher cp_Publisher p_.publisher.parts) (pp_Content : Option Addr) (cp_Content : Nat) (hpp_Content : RdSl (hp w) pp_Content cp_Content p_.content) (i : Int) (bi : Addr) (hi : RdSl (hp w) (some bi) 1 [i]) (n_ : Name) (bn_ : Addr) (hn_ : RdSl (hp w) (some bn_) 1 [n_]) (hokp_ : GoT.ok n p_) (hoki : GoT.ok n i) (hokn_ : GoT.ok n n_) :
    Does Try.prog 105 #[.agg #[.slice pp_Publisher ((p_.publisher.parts).length) cp_Publisher, .int .i64 (p_.seq), .slice pp_Content ((p_.content).length) cp_Content], .pointer (some bi), .pointer (some bn_)] w emp (fun (rv : Value) (_ : World) => rv = .bool (impl_publishedAt_c1 i n_ p_) ∧ True) := by
  have hbP := bd_pos n
  have hbB := bd_big (n := n) (by omega)
  refine WX.enter (tt := tt) (Γ := [(0, MF.rs .stb pp_Publisher cp_Publisher p_.publisher.parts), (1, MF.rs .stb pp_Content cp_Content p_.content), (2, MF.rs .stb (some bi) 1 ([i])), (3, MF.rs .stb (some bn_) 1 ([n_]))]) Try.func105 rfl (by kernel_rfl) rfl (allS_cons rfl hpp_Publisher (allS_cons rfl hpp_Content (allS_cons rfl hi (allS_cons rfl hn_ allS_nil)))) ?_
  have ih : ([i] : List Int)[0]? = some i := rfl
  refine WX.slot 1 (y := .e (some bi) 0 1 0) rfl (fun _ => cap_eq) ?_
  have n_h : ([n_] : List Name)[0]? = some n_ := rfl
  refine WX.slot 2 (y := .e (some bn_) 0 1 0) rfl (fun _ => cap_eq) ?_
  refine WX.run ttOk rfl ?_
  refine WX.ldE 2 4 i ttOk rfl rfl rfl rfl rfl rfl rfl rfl ih (fun _ => rfl) (fun _ => rfl) ?_
  rintro ⟨⟩
  refine WX.run ttOk rfl ?_
  refine WX.cases 9 rfl (fun h1 => ?_) (fun h1 => ?_)
  · skip
    have h1d := B.et h1
    refine WX.run ttOk rfl ?_
    refine WX.ldE 3 4 n_ ttOk rfl rfl rfl rfl rfl rfl rfl rfl n_h (fun _ => rfl) (fun _ => rfl) ?_
    rintro ⟨p1, c1⟩
    refine WX.callV rfl rfl rfl rfl rfl (fun _ => rfl) rfl (fun w G bs hI hΓ => f81 w n (by omega) p_.publisher pp_Publisher cp_Publisher (hΓ.get 0 rfl) n_ p1 c1 (hΓ.get 4 rfl) ((ok_Publication hokp_).1) hokn_) ?_
    intro hq1
    refine WX.run ttOk rfl ?_
    have hP1 : impl_publishedAt_c1 i n_ p_ = (impl_EqualNames p_.publisher n_) := by simp only [impl_publishedAt_c1, h1, cond_true, cond_false]
    refine WX.ret ttOk rfl ?_
    intro w1 G bs hI hΓ
    rw [hP1]
    exact ⟨rfl, trivial⟩
  · skip
    have h1d := B.ef h1
    refine WX.run ttOk rfl ?_
    have hP2 : impl_publishedAt_c1 i n_ p_ = false := by simp only [impl_publishedAt_c1, h1, cond_true, cond_false]
    refine WX.ret ttOk rfl ?_
    intro w1 G bs hI hΓ
    rw [hP2]
    exact ⟨rfl, trivial⟩
theorem f68 (w : World) (n : Nat) (hn : n + 0 ≤ 9) (l : (List Publication)) (pl : Option Addr) (cl : Nat) (hpl : RdSl (hp w) pl cl l) (n_ : Name) (pn_ : Option Addr) (cn_ : Nat) (hpn_ : RdSl (hp w) pn_ cn_ n_.parts) (i : Int) (hokl : GoT.ok n l) (hokn_ : GoT.ok n n_) (hoki : GoT.ok n i) :
    Does Try.prog 68 #[.slice pl ((l).length) cl, .agg #[.slice pn_ ((n_.parts).length) cn_], .int .i64 (i)] w emp (fun (rv : Value) (_ : World) => rv = .int .i64 ((impl_publishedAt l n_ i)) ∧ GoT.ok n ((impl_publishedAt l n_ i) : Int)) := by
  have hbP := bd_pos n
  have hbB := bd_big (n := n) (by omega)
  refine WX.enter (tt := tt) (Γ := [(0, MF.rs .stb pl cl l), (1, MF.rs .stb pn_ cn_ n_.parts)]) Try.func68 rfl (by kernel_rfl) rfl (allS_cons rfl hpl (allS_cons rfl hpn_ allS_nil)) ?_
  refine WX.run ttOk rfl ?_
  refine WX.callV rfl rfl rfl rfl rfl (fun _ => rfl) rfl (fun w G bs hI hΓ => f104 w n (by omega) l pl cl (hΓ.get 0 rfl) 105 [Value.pointer (some ⟨bs 5, 0, none⟩), Value.pointer (some ⟨bs 4, 0, none⟩)] (fun e0_ => (impl_publishedAt_c1 i n_ e0_)) (fun w1_ hb_ e0_ x0_ hk0_ hx0_ => f105 w1_ n (by omega) e0_ x0_.1.1 x0_.1.2 (hx0_ _ List.mem_cons_self) x0_.2.2.1 x0_.2.2.2 (hx0_ (MF.rs .der x0_.2.2.1 x0_.2.2.2 e0_.content) (by simp [GoT.fa])) i ⟨bs 5, 0, none⟩ ((rd_box (α := Int) (a := i) (x := ()) (hI.loc 5 _ rfl).1 All.nil).mono (kp_le hb_)) n_ ⟨bs 4, 0, none⟩ ((rd_box (α := Name) (a := n_) (x := (pn_, cn_)) (hI.loc 4 _ rfl).1 (All.cons (hΓ.get 1 rfl : RdSl _ _ _ _) All.nil)).mono (kp_le hb_)) hk0_ hoki hokn_) hokl) ?_
  intro hq1
  refine WX.run ttOk rfl ?_
  have hP1 : impl_publishedAt l n_ i = (slices_IndexFunc_Publication l (fun e0_ => (impl_publishedAt_c1 i n_ e0_))) := by simp only [impl_publishedAt, cond_true, cond_false]
  refine WX.ret ttOk rfl ?_
  intro w1 G bs hI hΓ
  rw [hP1]
  exact ⟨rfl, hq1⟩
theorem f66 (w : World) (n : Nat) (hn : n + 0 ≤ 9) (l : (List Publication)) (pl : Option Addr) (cl : Nat) (hpl : RdSl (hp w) pl cl l) (n_ : Name) (pn_ : Option Addr) (cn_ : Nat) (hpn_ : RdSl (hp w) pn_ cn_ n_.parts) (i : Int) (hokl : GoT.ok n l) (hokn_ : GoT.ok n n_) (hoki : GoT.ok n i) :
    Does Try.prog 66 #[.slice pl ((l).length) cl, .agg #[.slice pn_ ((n_.parts).length) cn_], .int .i64 (i)] w emp (fun (rv : Value) (_ : World) => rv = .int .i64 ((spec_l28Find l n_ i)) ∧ GoT.ok n ((spec_l28Find l n_ i) : Int)) := by
  have hbP := bd_pos n
  have hbB := bd_big (n := n) (by omega)
  refine WX.enter (tt := tt) (Γ := [(0, MF.rs .stb pl cl l), (1, MF.rs .stb pn_ cn_ n_.parts)]) Try.func66 rfl (by kernel_rfl) rfl (allS_cons rfl hpl (allS_cons rfl hpn_ allS_nil)) ?_
  refine WX.run ttOk rfl ?_
  have r1 : (l).length ≤ bd n := (okl hokl).1
  refine WX.loop (ι := Nat) ⟨fun i2 => (i2 ≤ (l).length) ∧ (spec_l28Find_L1 n_ i l 0 = spec_l28Find_L1 n_ i ((l).drop i2) i2), fun i2 => (l).length - i2, fun i2 => [(7, .v (.int .i64 (((i2 : Nat) : Int)))), (4, .p 4 0), (0, .v (.slice pl ((l).length) cl)), (2, .v (.int .i64 (i)))], fun i2 => [(4, ⟨33, [.slice pn_ ((n_.parts).length) cn_]⟩)], fun i2 => [], fun i2 => [(0, MF.rs .stb pl cl l), (1, MF.rs .stb pn_ cn_ n_.parts)]⟩ 0 ⟨(Nat.zero_le _), rfl⟩
    (.cons rfl (.cons rfl (.cons rfl (.cons rfl (.nil))))) (.cons rfl (.nil)) .nil [0, 1] rfl ?_
  rintro i2 hpre
  have hpre_ : (i2 ≤ (l).length) ∧ (spec_l28Find_L1 n_ i l 0 = spec_l28Find_L1 n_ i ((l).drop i2) i2) := hpre
  clear hpre
  obtain ⟨v1, v2⟩ := hpre_
  refine WX.run ttOk rfl ?_
  refine WX.cases 11 rfl (fun h1 => ?_) (fun h1 => ?_)
  · skip
    have h1d := B.dt h1
    have e1i : i2 < (l).length := (by omega)
    obtain ⟨e1, e1h⟩ : ∃ e1, (l)[i2]? = some e1 := ⟨_, List.getElem?_eq_getElem e1i⟩
    have ok1 : GoT.ok n e1 := (okl hokl).2 _ (List.mem_of_getElem? e1h)
    refine WX.run ttOk rfl ?_
    refine WX.draw [] mixed ?_
    intro bs G0 hΓ0
    refine DX.takes (fuel := 14) ttOk [(0, true), (1, true)] (by kernel_rfl) rfl ?_
    refine DX.idx 2 0 i2 ttOk hΓ0 (by kernel_rfl) rfl rfl rfl rfl rfl rfl rfl rfl rfl rfl rfl e1i ?_
    rintro ad1 rfl
    refine DX.takes (fuel := 12) ttOk [(3, true)] (by kernel_rfl) rfl ?_
    refine DX.ldE 4 0 2 e1 ttOk hΓ0 (by kernel_rfl) rfl rfl rfl rfl rfl rfl rfl rfl e1h (fun _ => rfl) (fun _ => rfl) ?_
    rintro ⟨⟨p1, c1⟩, ⟨⟩, ⟨p2, c2⟩⟩
    refine DX.takes (fuel := 8) ttOk [(5, true), (6, true), (7, true)] (by kernel_rfl) rfl ?_
    refine DX.cases 21 rfl (fun h2 => ?_) (fun h2 => ?_)
    · skip
      have h2d := B.et h2
      refine DX.takes (fuel := 6) ttOk [(8, true), (9, true)] (by kernel_rfl) rfl ?_
      refine DX.idx 10 0 i2 ttOk hΓ0 (by kernel_rfl) rfl rfl rfl rfl rfl rfl rfl rfl rfl rfl rfl e1i ?_
      rintro ad2 ⟨⟩
      refine DX.takes (fuel := 4) ttOk [(11, true)] (by kernel_rfl) rfl ?_
      refine DX.ldE 12 0 4 e1 ttOk hΓ0 (by kernel_rfl) rfl rfl rfl rfl rfl rfl rfl rfl e1h (fun _ => rfl) (fun _ => rfl) ?_
      rintro ⟨⟨p3, c3⟩, ⟨⟩, ⟨p4, c4⟩⟩
      refine DX.takes (fuel := 2) ttOk [(13, false)] (by kernel_rfl) rfl ?_
      refine DX.callV 14 rfl (by kernel_rfl) rfl rfl rfl rfl rfl rfl (fun _ => rfl) rfl (fun w G bs hI hΓ => f92 w n (by omega) e1.publisher p3 c3 (hΓ.get 4 rfl) n_ pn_ cn_ (hΓ.get 1 rfl) ((ok_Publication ok1).1) hokn_) ?_
      intro hq1
      refine DX.takes (fuel := 0) ttOk [(15, true)] (by kernel_rfl) rfl ?_
      refine DX.tail [] rfl rfl (by kernel_rfl) ?_
      refine WX.run ttOk rfl ?_
      refine WX.cases 29 rfl (fun h3 => ?_) (fun h3 => ?_)
      · skip
        refine WX.run ttOk rfl ?_
        have hP1 : spec_l28Find_L1 n_ i l 0 = (some ((i2 : Nat) : Int)) := by rw [v2, drop_get e1h]; simp only [spec_l28Find_L1, h2, h3, cond_true, cond_false]
        have hP2 : spec_l28Find l n_ i = ((i2 : Nat) : Int) := by simp only [spec_l28Find, hP1, cond_true, cond_false]
        refine WX.ret ttOk rfl ?_
        intro w1 G bs hI hΓ
        rw [hP2]
        exact ⟨rfl, (show I64 ((i2 : Nat) : Int) from (by unfold I64; omega))⟩
      · skip
        refine WX.run ttOk rfl ?_
        refine WX.see rfl rfl rfl (fun _ hΓ => looks_arith rfl rfl rfl rfl (by unfold I64; omega)) ?_
        refine WX.run ttOk rfl ?_
        exact WX.iter (i2 + 1) ⟨(by omega), (by rw [v2, drop_get e1h]; simp only [spec_l28Find_L1, h2, h3, cond_true, cond_false])⟩ (by dsimp only; omega) (.cons rfl (.cons rfl (.cons rfl (.cons rfl (.nil))))) (.cons rfl (.nil)) .nil [0, 1] rfl
    · skip
      have h2d := B.ef h2
      refine DX.takes (fuel := 0) ttOk [(8, true), (9, true), (10, true), (11, true), (12, true), (13, true), (14, true), (15, true)] (by kernel_rfl) rfl ?_
      refine DX.tail [] rfl rfl (by kernel_rfl) ?_
      refine WX.run ttOk rfl ?_
      refine WX.see rfl rfl rfl (fun _ hΓ => looks_arith rfl rfl rfl rfl (by unfold I64; omega)) ?_
      refine WX.run ttOk rfl ?_
      exact WX.iter (i2 + 1) ⟨(by omega), (by rw [v2, drop_get e1h]; simp only [spec_l28Find_L1, h2, cond_true, cond_false])⟩ (by dsimp only; omega) (.cons rfl (.cons rfl (.cons rfl (.cons rfl (.nil))))) (.cons rfl (.nil)) .nil [0, 1] rfl
  · skip
    have h1d := B.df h1
    refine WX.run ttOk rfl ?_
    have hX1 : spec_l28Find_L1 n_ i l 0 = none := by rw [v2, List.drop_eq_nil_of_le (show (l).length ≤ i2 by omega)]; simp only [spec_l28Find_L1, cond_true, cond_false]
    have hP3 : spec_l28Find l n_ i = (-1) := by simp only [spec_l28Find, hX1, cond_true, cond_false]
    refine WX.ret ttOk rfl ?_
    intro w1 G bs hI hΓ
    rw [hP3]
    exact ⟨rfl, (show I64 (-1) from (by unfold I64; omega))⟩
theorem lt_iFP : ∀ (f : Publication → Bool) (l : List Publication) (i : Nat) (j : Int), slices_IndexFunc_Publication_L1 f l i = some j → j < ((i + l.length : Nat) : Int)
  | f, [], i, j, h => by cases h
  | f, x :: l, i, j, h => by
    simp only [slices_IndexFunc_Publication_L1] at h
    cases hx : f x
    · rw [hx, cond_false] at h
      have := lt_iFP f l (i + 1) j h
      simp only [List.length_cons]; omega
    · rw [hx, cond_true] at h
      cases h
      simp only [List.length_cons]; omega
theorem lt_publishedAt (l : List Publication) (n_ : Name) (i : Int) : impl_publishedAt l n_ i < ((l.length : Nat) : Int) := by
  unfold impl_publishedAt slices_IndexFunc_Publication
  cases h : slices_IndexFunc_Publication_L1 (fun e0_ => impl_publishedAt_c1 i n_ e0_) l 0 with
  | none => show (-1 : Int) < _; omega
  | some j => have := lt_iFP _ l 0 j h; show j < _; omega
theorem lt_l28L (n_ : Name) (i : Int) : ∀ (l : List Publication) (k : Nat) (j : Int), spec_l28Find_L1 n_ i l k = some j → j < ((k + l.length : Nat) : Int)
  | [], k, j, h => by cases h
  | x :: l, k, j, h => by
    simp only [spec_l28Find_L1] at h
    cases hx : (x.seq == i)
    · rw [hx, cond_false] at h
      have := lt_l28L n_ i l (k + 1) j h
      simp only [List.length_cons]; omega
    · rw [hx, cond_true] at h
      cases hy : spec_EqualNames x.publisher n_
      · rw [hy, cond_false] at h
        have := lt_l28L n_ i l (k + 1) j h
        simp only [List.length_cons]; omega
      · rw [hy, cond_true] at h
        cases h
        simp only [List.length_cons]; omega
theorem lt_l28Find (l : List Publication) (n_ : Name) (i : Int) : spec_l28Find l n_ i < ((l.length : Nat) : Int) := by
  unfold spec_l28Find
  cases h : spec_l28Find_L1 n_ i l 0 with
  | none => show (-1 : Int) < _; omega
  | some j => have := lt_l28L n_ i l 0 j h; show j < _; omega
theorem f24 (w : World) (n : Nat) (hn : n + 0 ≤ 9) (m : Member) (pmName : Option Addr) (cmName : Nat) (hpmName : RdSl (hp w) pmName cmName m.name.parts) (pmVector : Option Addr) (cmVector : Nat) (hpmVector : RdSl (hp w) pmVector cmVector m.vector.entries) (pmPublications : Option Addr) (cmPublications : Nat) (hpmPublications : RdSl (hp w) pmPublications cmPublications m.publications) (n_ : Name) (pn_ : Option Addr) (cn_ : Nat) (hpn_ : RdSl (hp w) pn_ cn_ n_.parts) (i : Int) (hokm : GoT.ok n m) (hokn_ : GoT.ok n n_) (hoki : GoT.ok n i) :
    Does Try.prog 24 #[.agg #[.slice pmName ((m.name.parts).length) cmName, .slice pmVector ((m.vector.entries).length) cmVector, .slice pmPublications ((m.publications).length) cmPublications], .agg #[.slice pn_ ((n_.parts).length) cn_], .int .i64 (i)] w emp (Post w emp (fun x : GoT.X ((List UInt8)) => .tuple #[(GoT.sh ((impl_FindPublication m n_ i).1 : (List UInt8)) x).headD undef, .bool ((impl_FindPublication m n_ i).2)]) (fun x => GoT.oa ((impl_FindPublication m n_ i).1 : (List UInt8)) x) (GoT.ok n ((impl_FindPublication m n_ i).1 : (List UInt8)))) := by
  have hbP := bd_pos n
  have hbB := bd_big (n := n) (by omega)
  refine WX.enter (tt := tt) (Γ := [(0, MF.rs .stb pmName cmName m.name.parts), (1, MF.rs .stb pmVector cmVector m.vector.entries), (2, MF.rs .stb pmPublications cmPublications m.publications), (3, MF.rs .stb pn_ cn_ n_.parts)]) Try.func24 rfl (by kernel_rfl) rfl (allS_cons rfl hpmName (allS_cons rfl hpmVector (allS_cons rfl hpmPublications (allS_cons rfl hpn_ allS_nil)))) ?_
  refine WX.run ttOk rfl ?_
  refine WX.callV rfl rfl rfl rfl rfl (fun _ => rfl) rfl (fun w G bs hI hΓ => f68 w n (by omega) m.publications pmPublications cmPublications (hΓ.get 2 rfl) n_ pn_ cn_ (hΓ.get 3 rfl) i ((ok_Member hokm).2.2) hokn_ hoki) ?_
  intro hq1
  have q1 := lt_publishedAt m.publications n_ i
  refine WX.run ttOk rfl ?_
  refine WX.cases 15 rfl (fun h1 => ?_) (fun h1 => ?_)
  · skip
    have h1d := B.dt h1
    refine WX.run ttOk rfl ?_
    refine WX.free 4 (MF.os none 0 ([] : List UInt8)) (owSl_nil _ _) ?_
    have hP1 : impl_FindPublication m n_ i = (([] : List UInt8), false) := by simp only [impl_FindPublication, h1, cond_true, cond_false]
    refine WX.ret ttOk rfl ?_
    intro w1 G bs hI hΓ
    rw [hP1]
    exact Post.of [4] (none, 0) hI hΓ rfl rfl rfl (ok_nil (α := UInt8))
  · skip
    have h1d := B.df h1
    refine WX.run ttOk rfl ?_
    refine WX.slot 18 (y := .v (.int .i64 ((((impl_publishedAt m.publications n_ i)).toNat : Nat) : Int))) rfl (fun _ => congrArg (Value.int .i64) (show (impl_publishedAt m.publications n_ i) = ((((impl_publishedAt m.publications n_ i)).toNat : Nat) : Int) from by omega)) ?_
    have e1i : ((impl_publishedAt m.publications n_ i)).toNat < (m.publications).length := (by first | assumption | omega)
    obtain ⟨e1, e1h⟩ : ∃ e1, (m.publications)[((impl_publishedAt m.publications n_ i)).toNat]? = some e1 := ⟨_, List.getElem?_eq_getElem e1i⟩
    have ok1 : GoT.ok n e1 := (okl (ok_Member hokm).2.2).2 _ (List.mem_of_getElem? e1h)
    refine WX.idx 2 (((impl_publishedAt m.publications n_ i)).toNat) ttOk rfl rfl rfl rfl rfl rfl rfl rfl rfl rfl e1i ?_
    rintro ad1 rfl
    refine WX.run ttOk rfl ?_
    refine WX.ldE 2 5 e1 ttOk rfl rfl rfl rfl rfl rfl rfl rfl e1h (fun _ => rfl) (fun _ => rfl) ?_
    rintro ⟨⟨p1, c1⟩, ⟨⟩, ⟨p2, c2⟩⟩
    refine WX.callF 7 (fun _ _ h => GoT.ow_rd h) (fun _ f hf => GoT.fak f hf) rfl rfl rfl rfl rfl (fun _ => rfl) rfl (fun w G bs hI hΓ => f69 w n (by omega) e1.content p2 c2 (hΓ.get 6 rfl) ((ok_Publication ok1).2.2)) (fun _ => rfl) (fun _ => rfl) ?_
    rintro ⟨p3, c3⟩ hq2
    refine WX.run ttOk rfl ?_
    have hP2 : impl_FindPublication m n_ i = (e1.content, true) := by simp only [impl_FindPublication, h1, e1h, cond_true, cond_false]
    refine WX.ret ttOk rfl ?_
    intro w1 G bs hI hΓ
    rw [hP2]
    exact Post.of [8] (p3, c3) hI hΓ rfl rfl rfl hq2
theorem f22 (w : World) (n : Nat) (hn : n + 0 ≤ 9) (m : Member) (pmName : Option Addr) (cmName : Nat) (hpmName : RdSl (hp w) pmName cmName m.name.parts) (pmVector : Option Addr) (cmVector : Nat) (hpmVector : RdSl (hp w) pmVector cmVector m.vector.entries) (pmPublications : Option Addr) (cmPublications : Nat) (hpmPublications : RdSl (hp w) pmPublications cmPublications m.publications) (n_ : Name) (pn_ : Option Addr) (cn_ : Nat) (hpn_ : RdSl (hp w) pn_ cn_ n_.parts) (i : Int) (hokm : GoT.ok n m) (hokn_ : GoT.ok n n_) (hoki : GoT.ok n i) :
    Does Try.prog 22 #[.agg #[.slice pmName ((m.name.parts).length) cmName, .slice pmVector ((m.vector.entries).length) cmVector, .slice pmPublications ((m.publications).length) cmPublications], .agg #[.slice pn_ ((n_.parts).length) cn_], .int .i64 (i)] w emp (Post w emp (fun x : GoT.X ((List UInt8)) => .tuple #[(GoT.sh ((spec_FindPublication m n_ i).1 : (List UInt8)) x).headD undef, .bool ((spec_FindPublication m n_ i).2)]) (fun x => GoT.oa ((spec_FindPublication m n_ i).1 : (List UInt8)) x) (GoT.ok n ((spec_FindPublication m n_ i).1 : (List UInt8)))) := by
  have hbP := bd_pos n
  have hbB := bd_big (n := n) (by omega)
  refine WX.enter (tt := tt) (Γ := [(0, MF.rs .stb pmName cmName m.name.parts), (1, MF.rs .stb pmVector cmVector m.vector.entries), (2, MF.rs .stb pmPublications cmPublications m.publications), (3, MF.rs .stb pn_ cn_ n_.parts)]) Try.func22 rfl (by kernel_rfl) rfl (allS_cons rfl hpmName (allS_cons rfl hpmVector (allS_cons rfl hpmPublications (allS_cons rfl hpn_ allS_nil)))) ?_
  refine WX.run ttOk rfl ?_
  refine WX.callV rfl rfl rfl rfl rfl (fun _ => rfl) rfl (fun w G bs hI hΓ => f66 w n (by omega) m.publications pmPublications cmPublications (hΓ.get 2 rfl) n_ pn_ cn_ (hΓ.get 3 rfl) i ((ok_Member hokm).2.2) hokn_ hoki) ?_
  intro hq1
  have q1 := lt_l28Find m.publications n_ i
  refine WX.run ttOk rfl ?_
  refine WX.cases 15 rfl (fun h1 => ?_) (fun h1 => ?_)
  · skip
    have h1d := B.dt h1
    refine WX.run ttOk rfl ?_
    refine WX.bld ttOk rfl rfl rfl rfl rfl rfl rfl ?_
    intro p1
    refine WX.run ttOk rfl ?_
    refine WX.free 4 (MF.ol [] ([] : List UInt8)) rfl ?_
    refine WX.seal 16 4 5 rfl rfl rfl rfl rfl ?_
    have hP1 : spec_FindPublication m n_ i = (([]), false) := by simp only [spec_FindPublication, h1, cond_true, cond_false]
    refine WX.ret ttOk rfl ?_
    intro w1 G bs hI hΓ
    rw [hP1]
    exact Post.of [6] (p1, 0) hI hΓ rfl rfl rfl (okl_mk (Nat.zero_le _) (fun a ha => by cases ha) : GoT.ok n ([] : List UInt8))
  · skip
    have h1d := B.df h1
    refine WX.run ttOk rfl ?_
    refine WX.bld ttOk rfl rfl rfl rfl rfl rfl rfl ?_
    intro p2
    refine WX.run ttOk rfl ?_
    refine WX.slot 20 (y := .v (.int .i64 ((((spec_l28Find m.publications n_ i)).toNat : Nat) : Int))) rfl (fun _ => congrArg (Value.int .i64) (show (spec_l28Find m.publications n_ i) = ((((spec_l28Find m.publications n_ i)).toNat : Nat) : Int) from by omega)) ?_
    have e1i : ((spec_l28Find m.publications n_ i)).toNat < (m.publications).length := (by first | assumption | omega)
    obtain ⟨e1, e1h⟩ : ∃ e1, (m.publications)[((spec_l28Find m.publications n_ i)).toNat]? = some e1 := ⟨_, List.getElem?_eq_getElem e1i⟩
    have ok1 : GoT.ok n e1 := (okl (ok_Member hokm).2.2).2 _ (List.mem_of_getElem? e1h)
    refine WX.idx 2 (((spec_l28Find m.publications n_ i)).toNat) ttOk rfl rfl rfl rfl rfl rfl rfl rfl rfl rfl e1i ?_
    rintro ad1 rfl
    refine WX.run ttOk rfl ?_
    refine WX.ldE 2 7 e1 ttOk rfl rfl rfl rfl rfl rfl rfl rfl e1h (fun _ => rfl) (fun _ => rfl) ?_
    rintro ⟨⟨p3, c1⟩, ⟨⟩, ⟨p4, c2⟩⟩
    refine WX.free 9 (MF.ol [] ([] : List UInt8)) rfl ?_
    have r1 : (e1.content).length ≤ bd n := (okl (ok_Publication ok1).2.2).1
    refine WX.appG1 17 8 10 (e1.content : List UInt8).length ttOk rfl rfl rfl rfl rfl rfl rfl rfl rfl rfl rfl rfl rfl (by simp) (by omega) (by omega) (fun _ _ _ => rfl) ?_
    intro ys1 p5 c3
    refine WX.know (fun G hΓ => (hΓ.get 10 rfl : RdL _ _ _).flat) ?_
    intro hf1
    refine WX.turn [9] 11 rfl (fun h hs => ol_flat hs hf1) (gs := [MF.ol ([] ++ ys1) (e1.content : List UInt8)]) rfl ?_
    refine WX.run ttOk rfl ?_
    refine WX.seal 17 11 12 rfl rfl rfl rfl rfl ?_
    have hP2 : spec_FindPublication m n_ i = (e1.content, true) := by simp only [spec_FindPublication, h1, e1h, cond_true, cond_false]
    refine WX.ret ttOk rfl ?_
    intro w1 G bs hI hΓ
    rw [hP2]
    exact Post.of [13] (p5, c3) hI hΓ rfl rfl rfl (okl_mk (by omega) (okl (ok_Publication ok1).2.2).2 : GoT.ok n (e1.content : List UInt8))
theorem f98 (w : World) (n : Nat) (hn : n + 0 ≤ 9) (p_ : Publication) (pp_Publisher : Option Addr) (cp_Publisher : Nat) (hpp_Publisher : RdSl (hp w) pp_Publisher cp_Publisher p_.publisher.parts) (pp_Content : Option Addr) (cp_Content : Nat) (hpp_Content : RdSl (hp w) pp_Content cp_Content p_.content) (a : Member) (ba : Addr) (ha : RdSl (hp w) (some ba) 1 [a]) (hokp_ : GoT.ok n p_) (hoka : GoT.ok n a) :
    Does Try.prog 98 #[.agg #[.slice pp_Publisher ((p_.publisher.parts).length) cp_Publisher, .int .i64 (p_.seq), .slice pp_Content ((p_.content).length) cp_Content], .pointer (some ba)] w emp (fun (rv : Value) (_ : World) => rv = .bool (impl_hasAllOf_c1 a p_) ∧ True) := by
  have hbP := bd_pos n
  have hbB := bd_big (n := n) (by omega)
  refine WX.enter (tt := tt) (Γ := [(0, MF.rs .stb pp_Publisher cp_Publisher p_.publisher.parts), (1, MF.rs .stb pp_Content cp_Content p_.content), (2, MF.rs .stb (some ba) 1 ([a]))]) Try.func98 rfl (by kernel_rfl) rfl (allS_cons rfl hpp_Publisher (allS_cons rfl hpp_Content (allS_cons rfl ha allS_nil))) ?_
  have ah : ([a] : List Member)[0]? = some a := rfl
  refine WX.slot 1 (y := .e (some ba) 0 3 0) rfl (fun _ => cap_eq) ?_
  refine WX.run ttOk rfl ?_
  refine WX.ldE 2 3 a ttOk rfl rfl rfl rfl rfl rfl rfl rfl ah (fun _ => rfl) (fun _ => rfl) ?_
  rintro ⟨⟨p1, c1⟩, ⟨p2, c2⟩, ⟨p3, c3⟩⟩
  refine WX.run ttOk rfl ?_
  refine WX.callF 6 (fun _ _ h => GoT.ow_rd h) (fun _ f hf => GoT.fak f hf) rfl rfl rfl rfl rfl (fun _ => rfl) rfl (fun w G bs hI hΓ => f24 w n (by omega) a p1 c1 (hΓ.get 3 rfl) p2 c2 (hΓ.get 4 rfl) p3 c3 (hΓ.get 5 rfl) p_.publisher pp_Publisher cp_Publisher (hΓ.get 0 rfl) p_.seq hoka ((ok_Publication hokp_).1) ((ok_Publication hokp_).2.1)) (fun _ => rfl) (fun _ => rfl) ?_
  rintro ⟨p4, c4⟩ hq1
  refine WX.run ttOk rfl ?_
  refine WX.cases 17 rfl (fun h1 => ?_) (fun h1 => ?_)
  · skip
    have h1d := (B.nt h1)
    refine WX.run ttOk rfl ?_
    have hP1 : impl_hasAllOf_c1 a p_ = true := by simp only [impl_hasAllOf_c1, h1, cond_true, cond_false]
    refine WX.ret ttOk rfl ?_
    intro w1 G bs hI hΓ
    rw [hP1]
    exact ⟨rfl, trivial⟩
  · skip
    have h1d := (B.nf h1)
    refine WX.run ttOk rfl ?_
    refine WX.callV rfl rfl rfl rfl rfl (fun _ => rfl) rfl (fun w G bs hI hΓ => f99 w n (by omega) ((impl_FindPublication a p_.publisher p_.seq).1) p4 c4 (hΓ.get 6 rfl) p_.content pp_Content cp_Content (hΓ.get 1 rfl) hq1 ((ok_Publication hokp_).2.2)) ?_
    intro hq2
    refine WX.run ttOk rfl ?_
    have hP2 : impl_hasAllOf_c1 a p_ = (!(slices_Equal_byte ((impl_FindPublication a p_.publisher p_.seq).1) p_.content)) := by simp only [impl_hasAllOf_c1, h1, cond_true, cond_false]
    refine WX.ret ttOk rfl ?_
    intro w1 G bs hI hΓ
    rw [hP2]
    exact ⟨rfl, trivial⟩
theorem f56 (w : World) (n : Nat) (hn : n + 0 ≤ 9) (a : Member) (paName : Option Addr) (caName : Nat) (hpaName : RdSl (hp w) paName caName a.name.parts) (paVector : Option Addr) (caVector : Nat) (hpaVector : RdSl (hp w) paVector caVector a.vector.entries) (paPublications : Option Addr) (caPublications : Nat) (hpaPublications : RdSl (hp w) paPublications caPublications a.publications) (b : Member) (pbName : Option Addr) (cbName : Nat) (hpbName : RdSl (hp w) pbName cbName b.name.parts) (pbVector : Option Addr) (cbVector : Nat) (hpbVector : RdSl (hp w) pbVector cbVector b.vector.entries) (pbPublications : Option Addr) (cbPublications : Nat) (hpbPublications : RdSl (hp w) pbPublications cbPublications b.publications) (hoka : GoT.ok n a) (hokb : GoT.ok n b) :
    Does Try.prog 56 #[.agg #[.slice paName ((a.name.parts).length) caName, .slice paVector ((a.vector.entries).length) caVector, .slice paPublications ((a.publications).length) caPublications], .agg #[.slice pbName ((b.name.parts).length) cbName, .slice pbVector ((b.vector.entries).length) cbVector, .slice pbPublications ((b.publications).length) cbPublications]] w emp (fun (rv : Value) (_ : World) => rv = .bool (impl_hasAllOf a b) ∧ True) := by
  have hbP := bd_pos n
  have hbB := bd_big (n := n) (by omega)
  refine WX.enter (tt := tt) (Γ := [(0, MF.rs .stb paName caName a.name.parts), (1, MF.rs .stb paVector caVector a.vector.entries), (2, MF.rs .stb paPublications caPublications a.publications), (3, MF.rs .stb pbName cbName b.name.parts), (4, MF.rs .stb pbVector cbVector b.vector.entries), (5, MF.rs .stb pbPublications cbPublications b.publications)]) Try.func56 rfl (by kernel_rfl) rfl (allS_cons rfl hpaName (allS_cons rfl hpaVector (allS_cons rfl hpaPublications (allS_cons rfl hpbName (allS_cons rfl hpbVector (allS_cons rfl hpbPublications allS_nil)))))) ?_
  refine WX.run ttOk rfl ?_
  refine WX.callV rfl rfl rfl rfl rfl (fun _ => rfl) rfl (fun w G bs hI hΓ => f97 w n (by omega) b.publications pbPublications cbPublications (hΓ.get 5 rfl) 98 [Value.pointer (some ⟨bs 2, 0, none⟩)] (fun e0_ => (impl_hasAllOf_c1 a e0_)) (fun w1_ hb_ e0_ x0_ hk0_ hx0_ => f98 w1_ n (by omega) e0_ x0_.1.1 x0_.1.2 (hx0_ _ List.mem_cons_self) x0_.2.2.1 x0_.2.2.2 (hx0_ (MF.rs .der x0_.2.2.1 x0_.2.2.2 e0_.content) (by simp [GoT.fa])) a ⟨bs 2, 0, none⟩ ((rd_box (α := Member) (a := a) (x := ((paName, caName), (paVector, caVector), (paPublications, caPublications))) (hI.loc 2 _ rfl).1 (All.cons (hΓ.get 0 rfl : RdSl _ _ _ _) (All.cons (hΓ.get 1 rfl : RdSl _ _ _ _) (All.cons (hΓ.get 2 rfl : RdSl _ _ _ _) All.nil)))).mono (kp_le hb_)) hk0_ hoka) ((ok_Member hokb).2.2)) ?_
  intro hq1
  refine WX.run ttOk rfl ?_
  have hP1 : impl_hasAllOf a b = (!(slices_ContainsFunc_Publication b.publications (fun e0_ => (impl_hasAllOf_c1 a e0_)))) := by simp only [impl_hasAllOf, cond_true, cond_false]
  refine WX.ret ttOk rfl ?_
  intro w1 G bs hI hΓ
  rw [hP1]
  exact ⟨rfl, trivial⟩
theorem f53 (w : World) (n : Nat) (hn : n + 0 ≤ 9) (a : Member) (paName : Option Addr) (caName : Nat) (hpaName : RdSl (hp w) paName caName a.name.parts) (paVector : Option Addr) (caVector : Nat) (hpaVector : RdSl (hp w) paVector caVector a.vector.entries) (paPublications : Option Addr) (caPublications : Nat) (hpaPublications : RdSl (hp w) paPublications caPublications a.publications) (b : Member) (pbName : Option Addr) (cbName : Nat) (hpbName : RdSl (hp w) pbName cbName b.name.parts) (pbVector : Option Addr) (cbVector : Nat) (hpbVector : RdSl (hp w) pbVector cbVector b.vector.entries) (pbPublications : Option Addr) (cbPublications : Nat) (hpbPublications : RdSl (hp w) pbPublications cbPublications b.publications) (hoka : GoT.ok n a) (hokb : GoT.ok n b) :
    Does Try.prog 53 #[.agg #[.slice paName ((a.name.parts).length) caName, .slice paVector ((a.vector.entries).length) caVector, .slice paPublications ((a.publications).length) caPublications], .agg #[.slice pbName ((b.name.parts).length) cbName, .slice pbVector ((b.vector.entries).length) cbVector, .slice pbPublications ((b.publications).length) cbPublications]] w emp (fun (rv : Value) (_ : World) => rv = .bool (spec_l28Within a b) ∧ True) := by
  have hbP := bd_pos n
  have hbB := bd_big (n := n) (by omega)
  refine WX.enter (tt := tt) (Γ := [(0, MF.rs .stb paName caName a.name.parts), (1, MF.rs .stb paVector caVector a.vector.entries), (2, MF.rs .stb paPublications caPublications a.publications), (3, MF.rs .stb pbName cbName b.name.parts), (4, MF.rs .stb pbVector cbVector b.vector.entries), (5, MF.rs .stb pbPublications cbPublications b.publications)]) Try.func53 rfl (by kernel_rfl) rfl (allS_cons rfl hpaName (allS_cons rfl hpaVector (allS_cons rfl hpaPublications (allS_cons rfl hpbName (allS_cons rfl hpbVector (allS_cons rfl hpbPublications allS_nil)))))) ?_
  refine WX.run ttOk rfl ?_
  have r1 : (a.publications).length ≤ bd n := (okl (ok_Member hoka).2.2).1
  refine WX.loop (ι := Nat) ⟨fun i => (i ≤ (a.publications).length) ∧ (spec_l28Within_L1 b a.publications = spec_l28Within_L1 b ((a.publications).drop i)), fun i => (a.publications).length - i, fun i => [(5, .v (.int .i64 (((i : Nat) : Int)))), (3, .p 3 0), (2, .p 2 0)], fun i => [(3, ⟨39, [.slice pbName ((b.name.parts).length) cbName, .slice pbVector ((b.vector.entries).length) cbVector, .slice pbPublications ((b.publications).length) cbPublications]⟩), (2, ⟨39, [.slice paName ((a.name.parts).length) caName, .slice paVector ((a.vector.entries).length) caVector, .slice paPublications ((a.publications).length) caPublications]⟩)], fun i => [], fun i => [(0, MF.rs .stb paName caName a.name.parts), (1, MF.rs .stb paVector caVector a.vector.entries), (2, MF.rs .stb paPublications caPublications a.publications), (3, MF.rs .stb pbName cbName b.name.parts), (4, MF.rs .stb pbVector cbVector b.vector.entries), (5, MF.rs .stb pbPublications cbPublications b.publications)]⟩ 0 ⟨(Nat.zero_le _), rfl⟩
    (.cons rfl (.cons rfl (.cons rfl (.nil)))) (.cons rfl (.cons rfl (.nil))) .nil [0, 1, 2, 3, 4, 5] rfl ?_
  rintro i hpre
  have hpre_ : (i ≤ (a.publications).length) ∧ (spec_l28Within_L1 b a.publications = spec_l28Within_L1 b ((a.publications).drop i)) := hpre
  clear hpre
  obtain ⟨v1, v2⟩ := hpre_
  refine WX.run ttOk rfl ?_
  refine WX.cases 12 rfl (fun h1 => ?_) (fun h1 => ?_)
  · skip
    have h1d := B.dt h1
    have e1i : i < (a.publications).length := (by omega)
    obtain ⟨e1, e1h⟩ : ∃ e1, (a.publications)[i]? = some e1 := ⟨_, List.getElem?_eq_getElem e1i⟩
    have ok1 : GoT.ok n e1 := (okl (ok_Member hoka).2.2).2 _ (List.mem_of_getElem? e1h)
    refine WX.run ttOk rfl ?_
    refine WX.draw [] mixed ?_
    intro bs G0 hΓ0
    refine DX.takes (fuel := 15) ttOk [(0, false), (1, true), (2, false), (3, true)] (by kernel_rfl) rfl ?_
    refine DX.idx 4 2 i ttOk hΓ0 (by kernel_rfl) rfl rfl rfl rfl rfl rfl rfl rfl rfl rfl rfl e1i ?_
    rintro ad1 rfl
    refine DX.takes (fuel := 13) ttOk [(5, true)] (by kernel_rfl) rfl ?_
    refine DX.ldE 6 2 6 e1 ttOk hΓ0 (by kernel_rfl) rfl rfl rfl rfl rfl rfl rfl rfl e1h (fun _ => rfl) (fun _ => rfl) ?_
    rintro ⟨⟨p1, c1⟩, ⟨⟩, ⟨p2, c2⟩⟩
    refine DX.takes (fuel := 9) ttOk [(7, true), (8, false), (9, true)] (by kernel_rfl) rfl ?_
    refine DX.idx 10 2 i ttOk hΓ0 (by kernel_rfl) rfl rfl rfl rfl rfl rfl rfl rfl rfl rfl rfl e1i ?_
    rintro ad2 ⟨⟩
    refine DX.takes (fuel := 7) ttOk [(11, true)] (by kernel_rfl) rfl ?_
    refine DX.ldE 12 2 8 e1 ttOk hΓ0 (by kernel_rfl) rfl rfl rfl rfl rfl rfl rfl rfl e1h (fun _ => rfl) (fun _ => rfl) ?_
    rintro ⟨⟨p3, c3⟩, ⟨⟩, ⟨p4, c4⟩⟩
    refine DX.callF 13 10 (fun _ _ h => GoT.ow_rd h) (fun _ f hf => GoT.fak f hf) rfl (by kernel_rfl) rfl rfl rfl rfl rfl rfl (fun _ => rfl) rfl (fun w G bs hI hΓ => f22 w n (by omega) b pbName cbName (hΓ.get 3 rfl) pbVector cbVector (hΓ.get 4 rfl) pbPublications cbPublications (hΓ.get 5 rfl) e1.publisher p1 c1 (hΓ.get 6 rfl) e1.seq hokb ((ok_Publication ok1).1) ((ok_Publication ok1).2.1)) (fun _ => rfl) (fun _ => rfl) ?_
    rintro ⟨p5, c5⟩ hq1
    refine DX.takes (fuel := 0) ttOk [(14, true), (15, true), (16, true), (17, true), (18, true)] (by kernel_rfl) rfl ?_
    refine DX.tail [] rfl rfl (by kernel_rfl) ?_
    refine WX.run ttOk rfl ?_
    refine WX.cases 34 rfl (fun h2 => ?_) (fun h2 => ?_)
    · skip
      have h2d := (B.nt h2)
      refine WX.run ttOk rfl ?_
      have hP1 : spec_l28Within_L1 b a.publications = (some false) := by rw [v2, drop_get e1h]; simp only [spec_l28Within_L1, h2, cond_true, cond_false]
      have hP2 : spec_l28Within a b = false := by simp only [spec_l28Within, hP1, cond_true, cond_false]
      refine WX.ret ttOk rfl ?_
      intro w1 G bs hI hΓ
      rw [hP2]
      exact ⟨rfl, trivial⟩
    · skip
      have h2d := (B.nf h2)
      refine WX.run ttOk rfl ?_
      refine WX.idx 2 i ttOk rfl rfl rfl rfl rfl rfl rfl rfl rfl rfl e1i ?_
      rintro ad3 ⟨⟩
      refine WX.run ttOk rfl ?_
      refine WX.ldE 2 12 e1 ttOk rfl rfl rfl rfl rfl rfl rfl rfl e1h (fun _ => rfl) (fun _ => rfl) ?_
      rintro ⟨⟨p6, c6⟩, ⟨⟩, ⟨p7, c7⟩⟩
      refine WX.callV rfl rfl rfl rfl rfl (fun _ => rfl) rfl (fun w G bs hI hΓ => f93 w n (by omega) ((spec_FindPublication b e1.publisher e1.seq).1) p5 c5 (hΓ.get 10 rfl) e1.content p7 c7 (hΓ.get 13 rfl) hq1 ((ok_Publication ok1).2.2)) ?_
      intro hq2
      refine WX.run ttOk rfl ?_
      refine WX.cases 44 rfl (fun h3 => ?_) (fun h3 => ?_)
      · skip
        have h3d := (B.nt h3)
        refine WX.run ttOk rfl ?_
        have hP3 : spec_l28Within_L1 b a.publications = (some false) := by rw [v2, drop_get e1h]; simp only [spec_l28Within_L1, h2, h3, cond_true, cond_false]
        have hP4 : spec_l28Within a b = false := by simp only [spec_l28Within, hP3, cond_true, cond_false]
        refine WX.ret ttOk rfl ?_
        intro w1 G bs hI hΓ
        rw [hP4]
        exact ⟨rfl, trivial⟩
      · skip
        have h3d := (B.nf h3)
        refine WX.run ttOk rfl ?_
        refine WX.see rfl rfl rfl (fun _ hΓ => looks_arith rfl rfl rfl rfl (by unfold I64; omega)) ?_
        refine WX.run ttOk rfl ?_
        exact WX.iter (i + 1) ⟨(by omega), (by rw [v2, drop_get e1h]; simp only [spec_l28Within_L1, h2, h3, cond_true, cond_false])⟩ (by dsimp only; omega) (.cons rfl (.cons rfl (.cons rfl (.nil)))) (.cons rfl (.cons rfl (.nil))) .nil [0, 1, 2, 3, 4, 5] rfl
  · skip
    have h1d := B.df h1
    refine WX.run ttOk rfl ?_
    have hX1 : spec_l28Within_L1 b a.publications = none := by rw [v2, List.drop_eq_nil_of_le (show (a.publications).length ≤ i by omega)]; simp only [spec_l28Within_L1, cond_true, cond_false]
    have hP5 : spec_l28Within a b = true := by simp only [spec_l28Within, hX1, cond_true, cond_false]
    refine WX.ret ttOk rfl ?_
    intro w1 G bs hI hΓ
    rw [hP5]
    exact ⟨rfl, trivial⟩
theorem f12 (w : World) (n : Nat) (hn : n + 0 ≤ 9) (a : Member) (paName : Option Addr) (caName : Nat) (hpaName : RdSl (hp w) paName caName a.name.parts) (paVector : Option Addr) (caVector : Nat) (hpaVector : RdSl (hp w) paVector caVector a.vector.entries) (paPublications : Option Addr) (caPublications : Nat) (hpaPublications : RdSl (hp w) paPublications caPublications a.publications) (b : Member) (pbName : Option Addr) (cbName : Nat) (hpbName : RdSl (hp w) pbName cbName b.name.parts) (pbVector : Option Addr) (cbVector : Nat) (hpbVector : RdSl (hp w) pbVector cbVector b.vector.entries) (pbPublications : Option Addr) (cbPublications : Nat) (hpbPublications : RdSl (hp w) pbPublications cbPublications b.publications) (hoka : GoT.ok n a) (hokb : GoT.ok n b) :
    Does Try.prog 12 #[.agg #[.slice paName ((a.name.parts).length) caName, .slice paVector ((a.vector.entries).length) caVector, .slice paPublications ((a.publications).length) caPublications], .agg #[.slice pbName ((b.name.parts).length) cbName, .slice pbVector ((b.vector.entries).length) cbVector, .slice pbPublications ((b.publications).length) cbPublications]] w emp (fun (rv : Value) (_ : World) => rv = .bool (impl_InSync a b) ∧ True) := by
  have hbP := bd_pos n
  have hbB := bd_big (n := n) (by omega)
  refine WX.enter (tt := tt) (Γ := [(0, MF.rs .stb paName caName a.name.parts), (1, MF.rs .stb paVector caVector a.vector.entries), (2, MF.rs .stb paPublications caPublications a.publications), (3, MF.rs .stb pbName cbName b.name.parts), (4, MF.rs .stb pbVector cbVector b.vector.entries), (5, MF.rs .stb pbPublications cbPublications b.publications)]) Try.func12 rfl (by kernel_rfl) rfl (allS_cons rfl hpaName (allS_cons rfl hpaVector (allS_cons rfl hpaPublications (allS_cons rfl hpbName (allS_cons rfl hpbVector (allS_cons rfl hpbPublications allS_nil)))))) ?_
  refine WX.run ttOk rfl ?_
  refine WX.callV rfl rfl rfl rfl rfl (fun _ => rfl) rfl (fun w G bs hI hΓ => f55 w n (by omega) a.vector.entries paVector caVector (hΓ.get 1 rfl) b.vector.entries pbVector cbVector (hΓ.get 4 rfl) (ok_StateVector (ok_Member hoka).2.1) (ok_StateVector (ok_Member hokb).2.1)) ?_
  intro hq1
  refine WX.run ttOk rfl ?_
  refine WX.cases 12 rfl (fun h1 => ?_) (fun h1 => ?_)
  · skip
    refine WX.run ttOk rfl ?_
    refine WX.callV rfl rfl rfl rfl rfl (fun _ => rfl) rfl (fun w G bs hI hΓ => f56 w n (by omega) a paName caName (hΓ.get 0 rfl) paVector caVector (hΓ.get 1 rfl) paPublications caPublications (hΓ.get 2 rfl) b pbName cbName (hΓ.get 3 rfl) pbVector cbVector (hΓ.get 4 rfl) pbPublications cbPublications (hΓ.get 5 rfl) hoka hokb) ?_
    intro hq2
    refine WX.run ttOk rfl ?_
    refine WX.cases 17 rfl (fun h2 => ?_) (fun h2 => ?_)
    · skip
      refine WX.run ttOk rfl ?_
      refine WX.callV rfl rfl rfl rfl rfl (fun _ => rfl) rfl (fun w G bs hI hΓ => f56 w n (by omega) b pbName cbName (hΓ.get 3 rfl) pbVector cbVector (hΓ.get 4 rfl) pbPublications cbPublications (hΓ.get 5 rfl) a paName caName (hΓ.get 0 rfl) paVector caVector (hΓ.get 1 rfl) paPublications caPublications (hΓ.get 2 rfl) hokb hoka) ?_
      intro hq3
      refine WX.run ttOk rfl ?_
      have hP1 : impl_InSync a b = (impl_hasAllOf b a) := by simp only [impl_InSync, h1, h2, cond_true, cond_false]
      refine WX.ret ttOk rfl ?_
      intro w1 G bs hI hΓ
      rw [hP1]
      exact ⟨rfl, trivial⟩
    · skip
      refine WX.run ttOk rfl ?_
      have hP2 : impl_InSync a b = false := by simp only [impl_InSync, h1, h2, cond_true, cond_false]
      refine WX.ret ttOk rfl ?_
      intro w1 G bs hI hΓ
      rw [hP2]
      exact ⟨rfl, trivial⟩
  · skip
    refine WX.run ttOk rfl ?_
    have hP3 : impl_InSync a b = false := by simp only [impl_InSync, h1, cond_true, cond_false]
    refine WX.ret ttOk rfl ?_
    intro w1 G bs hI hΓ
    rw [hP3]
    exact ⟨rfl, trivial⟩
theorem f10 (w : World) (n : Nat) (hn : n + 0 ≤ 9) (a : Member) (paName : Option Addr) (caName : Nat) (hpaName : RdSl (hp w) paName caName a.name.parts) (paVector : Option Addr) (caVector : Nat) (hpaVector : RdSl (hp w) paVector caVector a.vector.entries) (paPublications : Option Addr) (caPublications : Nat) (hpaPublications : RdSl (hp w) paPublications caPublications a.publications) (b : Member) (pbName : Option Addr) (cbName : Nat) (hpbName : RdSl (hp w) pbName cbName b.name.parts) (pbVector : Option Addr) (cbVector : Nat) (hpbVector : RdSl (hp w) pbVector cbVector b.vector.entries) (pbPublications : Option Addr) (cbPublications : Nat) (hpbPublications : RdSl (hp w) pbPublications cbPublications b.publications) (hoka : GoT.ok n a) (hokb : GoT.ok n b) :
    Does Try.prog 10 #[.agg #[.slice paName ((a.name.parts).length) caName, .slice paVector ((a.vector.entries).length) caVector, .slice paPublications ((a.publications).length) caPublications], .agg #[.slice pbName ((b.name.parts).length) cbName, .slice pbVector ((b.vector.entries).length) cbVector, .slice pbPublications ((b.publications).length) cbPublications]] w emp (fun (rv : Value) (_ : World) => rv = .bool (spec_InSync a b) ∧ True) := by
  have hbP := bd_pos n
  have hbB := bd_big (n := n) (by omega)
  refine WX.enter (tt := tt) (Γ := [(0, MF.rs .stb paName caName a.name.parts), (1, MF.rs .stb paVector caVector a.vector.entries), (2, MF.rs .stb paPublications caPublications a.publications), (3, MF.rs .stb pbName cbName b.name.parts), (4, MF.rs .stb pbVector cbVector b.vector.entries), (5, MF.rs .stb pbPublications cbPublications b.publications)]) Try.func10 rfl (by kernel_rfl) rfl (allS_cons rfl hpaName (allS_cons rfl hpaVector (allS_cons rfl hpaPublications (allS_cons rfl hpbName (allS_cons rfl hpbVector (allS_cons rfl hpbPublications allS_nil)))))) ?_
  refine WX.run ttOk rfl ?_
  refine WX.callV rfl rfl rfl rfl rfl (fun _ => rfl) rfl (fun w G bs hI hΓ => f52 w n (by omega) a.vector.entries paVector caVector (hΓ.get 1 rfl) b.vector.entries pbVector cbVector (hΓ.get 4 rfl) (ok_StateVector (ok_Member hoka).2.1) (ok_StateVector (ok_Member hokb).2.1)) ?_
  intro hq1
  refine WX.run ttOk rfl ?_
  refine WX.cases 12 rfl (fun h1 => ?_) (fun h1 => ?_)
  · skip
    refine WX.run ttOk rfl ?_
    refine WX.callV rfl rfl rfl rfl rfl (fun _ => rfl) rfl (fun w G bs hI hΓ => f53 w n (by omega) a paName caName (hΓ.get 0 rfl) paVector caVector (hΓ.get 1 rfl) paPublications caPublications (hΓ.get 2 rfl) b pbName cbName (hΓ.get 3 rfl) pbVector cbVector (hΓ.get 4 rfl) pbPublications cbPublications (hΓ.get 5 rfl) hoka hokb) ?_
    intro hq2
    refine WX.run ttOk rfl ?_
    refine WX.cases 17 rfl (fun h2 => ?_) (fun h2 => ?_)
    · skip
      refine WX.run ttOk rfl ?_
      refine WX.callV rfl rfl rfl rfl rfl (fun _ => rfl) rfl (fun w G bs hI hΓ => f53 w n (by omega) b pbName cbName (hΓ.get 3 rfl) pbVector cbVector (hΓ.get 4 rfl) pbPublications cbPublications (hΓ.get 5 rfl) a paName caName (hΓ.get 0 rfl) paVector caVector (hΓ.get 1 rfl) paPublications caPublications (hΓ.get 2 rfl) hokb hoka) ?_
      intro hq3
      refine WX.run ttOk rfl ?_
      have hP1 : spec_InSync a b = (spec_l28Within b a) := by simp only [spec_InSync, h1, h2, cond_true, cond_false]
      refine WX.ret ttOk rfl ?_
      intro w1 G bs hI hΓ
      rw [hP1]
      exact ⟨rfl, trivial⟩
    · skip
      refine WX.run ttOk rfl ?_
      have hP2 : spec_InSync a b = false := by simp only [spec_InSync, h1, h2, cond_true, cond_false]
      refine WX.ret ttOk rfl ?_
      intro w1 G bs hI hΓ
      rw [hP2]
      exact ⟨rfl, trivial⟩
  · skip
    refine WX.run ttOk rfl ?_
    have hP3 : spec_InSync a b = false := by simp only [spec_InSync, h1, cond_true, cond_false]
    refine WX.ret ttOk rfl ?_
    intro w1 G bs hI hΓ
    rw [hP3]
    exact ⟨rfl, trivial⟩
end Go.Proofs.Ytikbfiljomdmiaa
