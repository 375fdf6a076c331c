/-
  Publish: the law returns true at all arguments; conditions: those of the statement, no others. Written by a program (pack.py, mklaw2.py).
-/
import Derived.Carry
import Derived.ChangeArms
import Derived.ProofKit
import Derived.OpenShut
import Derived.JoinedCond
import Derived.Test.YtfffongneoegbaaGreatKPublish5
namespace Go.Proofs.YtfffongneoegbaaGreat
open Go.Stp
set_option linter.unusedVariables false
set_option linter.unusedSimpArgs false
theorem f68 (w : World) (n : Nat) (hn : n + 0 ≤ 9) (m : Member) (pmName : Option Addr) (cmName : Nat) (hpmName : RdSl (hp w) pmName cmName m.name.parts) (pmVector : Option Addr) (cmVector : Nat) (hpmVector : RdSl (hp w) pmVector cmVector m.vector.entries) (pmPublications : Option Addr) (cmPublications : Nat) (hpmPublications : RdSl (hp w) pmPublications cmPublications m.publications) (hokm : GoT.ok n m) :
    Does Tryz.prog 68 #[.agg #[.slice pmName ((m.name.parts).length) cmName, .slice pmVector ((m.vector.entries).length) cmVector, .slice pmPublications ((m.publications).length) cmPublications]] w emp (Post w emp (fun x : GoT.X (Member) => .agg ⟨GoT.sh ((impl_copyMember m) : Member) x⟩) (fun x => GoT.oa ((impl_copyMember m) : Member) x) (GoT.ok n ((impl_copyMember m) : Member))) := by
  have hbP := bd_pos n
  have hbB := bd_big (n := n) (by omega)
  refine WX.enter (tt := tt) (Γ := [(0, MF.rs .stb pmName cmName m.name.parts), (1, MF.rs .stb pmVector cmVector m.vector.entries), (2, MF.rs .stb pmPublications cmPublications m.publications)]) Tryz.func68 rfl (by kernel_rfl) rfl (allS_cons rfl hpmName (allS_cons rfl hpmVector (allS_cons rfl hpmPublications allS_nil))) ?_
  refine WX.run ttOk rfl ?_
  refine WX.draw [10] mixed ?_
  intro bs G0 hΓ0
  refine DX.takes (fuel := 6) ttOk [(0, true), (1, false), (3, true), (4, true), (5, false)] (by kernel_rfl) rfl ?_
  refine DX.pend 9 3 ⟨42, [.slice none (0) 0, .slice none (0) 0, .slice none (0) 0]⟩ ?_
  refine DXA.callF 2 3 (fun _ _ h => GoT.ow_rd h) (fun _ f hf => GoT.fak f hf) ttOk rfl rfl rfl rfl rfl rfl rfl (by kernel_rfl) (by kernel_rfl) (by kernel_rfl) rfl rfl rfl rfl rfl rfl rfl rfl rfl rfl (fun _ => rfl) rfl rfl (fun w G bs hI hΓ => f70 w n (by omega) m.name pmName cmName (hΓ.get 0 rfl) ((ok_Member hokm).1)) (fun _ => rfl) (fun _ => rfl) ?_
  rintro ⟨p1, c1⟩ hq1
  refine DXA.callF 6 5 (fun _ _ h => GoT.ow_rd h) (fun _ f hf => GoT.fak f hf) ttOk rfl rfl rfl rfl rfl rfl rfl (by kernel_rfl) (by kernel_rfl) (by kernel_rfl) rfl rfl rfl rfl rfl rfl rfl rfl rfl rfl (fun _ => rfl) rfl rfl (fun w G bs hI hΓ => f184 w n (by omega) m.vector.entries pmVector cmVector (hΓ.get 1 rfl) (ok_StateVector (ok_Member hokm).2.1)) (fun _ => rfl) (fun _ => rfl) ?_
  rintro ⟨p2, c2⟩ hq2
  have q1 := len_copyTable m.vector.entries
  refine DXA.take 7 (by kernel_rfl) (by kernel_rfl) rfl rfl rfl rfl rfl rfl rfl rfl (looksP_pure ttOk rfl) ?_
  refine DXA.take 8 (by kernel_rfl) (by kernel_rfl) rfl rfl rfl rfl rfl rfl rfl rfl (looksP_pure ttOk rfl) ?_
  refine DXA.tail [10] ttOk rfl rfl rfl rfl rfl rfl (by kernel_rfl) rfl rfl (by kernel_rfl) ?_
  refine WX.run ttOk rfl ?_
  refine WX.row0 501 3 none rfl ?_
  refine WX.free 7 (MF.ol [] ([] : List Publication)) rfl ?_
  have r1 : (m.publications).length ≤ bd n := (okl (ok_Member hokm).2.2).1
  refine WX.loop (ι := Nat × (Option Addr) × Nat × (List Value) × (List Publication)) ⟨fun | (i, pout, cout, xsout, out) => (i ≤ (m.publications).length) ∧ (∀ z_ ∈ out, GoT.ok n z_) ∧ (out.length ≤ i) ∧ (impl_copyMember_L1 m.publications ([] : List Publication) = impl_copyMember_L1 ((m.publications).drop i) out), fun | (i, pout, cout, xsout, out) => (m.publications).length - i, fun | (i, pout, cout, xsout, out) => [(18, .v (.int .i64 (((i : Nat) : Int)))), (17, .v (.int .i64 ((((m.publications).length : Nat) : Int)))), (16, .v (.slice pmPublications ((m.publications).length) cmPublications)), (3, .p 3 0), (2, .p 2 0)], fun | (i, pout, cout, xsout, out) => [(3, ⟨42, [.slice p1 (((impl_copyName m.name).parts).length) c1, .slice p2 (((impl_copyTable m.vector.entries)).length) c2, .slice pout ((out).length) cout]⟩), (2, ⟨42, [.slice none (0) 0, .slice none (0) 0, .slice none (0) 0]⟩)], fun | (i, pout, cout, xsout, out) => [(501, ⟨3, pout, (out).length, cout, xsout⟩)], fun | (i, pout, cout, xsout, out) => [(0, MF.rs .stb pmName cmName m.name.parts), (1, MF.rs .stb pmVector cmVector m.vector.entries), (2, MF.rs .stb pmPublications cmPublications m.publications), (4, MF.os p1 c1 ((impl_copyName m.name).parts)), (6, MF.os p2 c2 (impl_copyTable m.vector.entries)), (7, MF.ol xsout (out : List Publication))]⟩ (0, none, 0, [], ([] : List Publication)) ⟨(Nat.zero_le _), (fun a ha => by cases ha), (by simp), rfl⟩
    (.cons rfl (.cons rfl (.cons rfl (.cons rfl (.cons rfl (.nil)))))) (.cons rfl (.cons rfl (.nil))) (.cons rfl (.nil)) [0, 1, 2, 4, 6, 7] rfl ?_
  rintro ⟨i, pout, cout, xsout, out⟩ hpre
  have hpre_ : (i ≤ (m.publications).length) ∧ (∀ z_ ∈ out, GoT.ok n z_) ∧ (out.length ≤ i) ∧ (impl_copyMember_L1 m.publications ([] : List Publication) = impl_copyMember_L1 ((m.publications).drop i) out) := hpre
  clear hpre
  obtain ⟨v1, v2, v3, v4⟩ := hpre_
  refine WX.run ttOk rfl ?_
  refine WX.cases 19 rfl (fun h1 => ?_) (fun h1 => ?_)
  · skip
    have h1d := B.dt h1
    have e1i : i < (m.publications).length := (by omega)
    obtain ⟨e1, e1h⟩ : ∃ e1, (m.publications)[i]? = some e1 := ⟨_, List.getElem?_eq_getElem e1i⟩
    have ok1 : GoT.ok n e1 := (okl (ok_Member hokm).2.2).2 _ (List.mem_of_getElem? e1h)
    refine WX.run ttOk rfl ?_
    refine WX.idx 2 i ttOk rfl rfl rfl rfl rfl rfl rfl rfl rfl rfl e1i ?_
    rintro ad1 rfl
    refine WX.ldE 2 8 e1 ttOk rfl rfl rfl rfl rfl rfl rfl rfl e1h (fun _ => rfl) (fun _ => rfl) ?_
    rintro ⟨⟨p3, c3⟩, ⟨⟩, ⟨p4, c4⟩⟩
    refine WX.run ttOk rfl ?_
    refine WX.der 10 (MF.rs .der p1 c1 ((impl_copyName m.name).parts)) rfl (fun _ hΓ => (hΓ.get 4 rfl : OwSl _ _ _ _).rd) ?_
    refine WX.der 11 (MF.rs .der p2 c2 (impl_copyTable m.vector.entries)) rfl (fun _ hΓ => (hΓ.get 6 rfl : OwSl _ _ _ _).rd) ?_
    refine WX.draw [12, 13, 14] mixed ?_
    intro bs G0 hΓ0
    refine DX.takes (fuel := 7) ttOk [(0, true), (1, false), (2, true), (3, false), (5, true), (6, false), (7, true), (8, false)] (by kernel_rfl) rfl ?_
    refine DX.callF 4 12 (fun _ _ h => GoT.ow_rd h) (fun _ f hf => GoT.fak f hf) rfl (by kernel_rfl) rfl rfl rfl rfl rfl rfl (fun _ => rfl) rfl (fun w G bs hI hΓ => f70 w n (by omega) e1.publisher p3 c3 (hΓ.get 8 rfl) ((ok_Publication ok1).1)) (fun _ => rfl) (fun _ => rfl) ?_
    rintro ⟨p5, c5⟩ hq3
    refine DX.callF 9 14 (fun _ _ h => GoT.ow_rd h) (fun _ f hf => GoT.fak f hf) rfl (by kernel_rfl) rfl rfl rfl rfl rfl rfl (fun _ => rfl) rfl (fun w G bs hI hΓ => f71 w n (by omega) e1.content p4 c4 (hΓ.get 9 rfl) ((ok_Publication ok1).2.2)) (fun _ => rfl) (fun _ => rfl) ?_
    rintro ⟨p6, c6⟩ hq4
    refine DX.takes (fuel := 4) ttOk [(10, true)] (by kernel_rfl) rfl ?_
    refine DX.tail2 [11, 12, 13, 14] rfl rfl (by kernel_rfl) ?_
    refine WX.bld ttOk rfl rfl rfl rfl rfl rfl rfl ?_
    intro p7
    refine WX.turn [13, 15] 16 rfl (fun h hs => ol_one (α := Publication) (a := (Publication.mk (impl_copyName e1.publisher) e1.seq e1.content)) (x := ((p5, c5), (), (p6, c6))) hs) (gs := [MF.ol [.slice p5 (((impl_copyName e1.publisher).parts).length) c5, .int .i64 (e1.seq), .slice p6 ((e1.content).length) c6] ([(Publication.mk (impl_copyName e1.publisher) e1.seq e1.content)] : List Publication)]) rfl ?_
    have r2 : -9223372036854775808 ≤ e1.seq ∧ e1.seq ≤ 9223372036854775807 := (ok_Publication ok1).2.1
    have r3 : (e1.content).length ≤ bd n := (okl (ok_Publication ok1).2.2).1
    refine WX.know (fun G hΓ => (hΓ.get 16 rfl : OwL _ _ _).rd.one) ?_
    intro ho1
    refine WX.appR1 501 33 ((out ++ [(Publication.mk (impl_copyName e1.publisher) e1.seq e1.content)]) : List Publication).length ttOk rfl rfl rfl rfl rfl rfl rfl rfl rfl rfl rfl rfl rfl ho1 (by simp) (by simp; omega) (by simp; omega) (fun _ _ => rfl) ?_
    intro p8 c7
    refine WX.turn [7, 16] 17 rfl (fun h hs => ol_app hs) (gs := [MF.ol (xsout ++ [.slice p5 (((impl_copyName e1.publisher).parts).length) c5, .int .i64 (e1.seq), .slice p6 ((e1.content).length) c6]) ((out ++ [(Publication.mk (impl_copyName e1.publisher) e1.seq e1.content)]) : List Publication)]) rfl ?_
    refine WX.run ttOk rfl ?_
    refine WX.see rfl rfl rfl (fun _ hΓ => looks_arith rfl rfl rfl rfl (by unfold I64; first | omega | (simp only [List.length_take, List.length_drop] at *; omega) | (dsimp only; omega))) ?_
    refine WX.run ttOk rfl ?_
    refine WX.turn [17] 7 rfl (fun _ h => h) rfl ?_
    exact WX.iter (i + 1, p8, c7, (xsout ++ [.slice p5 (((impl_copyName e1.publisher).parts).length) c5, .int .i64 (e1.seq), .slice p6 ((e1.content).length) c6]), ((out ++ [(Publication.mk (impl_copyName e1.publisher) e1.seq e1.content)]) : List Publication)) ⟨(by omega), (all_app v2 (all_cons (α := Publication) (And.intro hq3 (And.intro (ok_Publication ok1).2.1 hq4)) (fun a ha => by cases ha))), (by first | assumption | omega | (simp only [List.length_append, List.length_cons, List.length_nil, List.length_set, List.length_map, List.length_take, List.length_drop]; omega) | (simp; omega)), (by rw [v4, drop_get e1h]; simp only [impl_copyMember_L1, cond_true, cond_false])⟩ (by first | (dsimp only; omega) | omega) (.cons rfl (.cons rfl (.cons rfl (.cons rfl (.cons rfl (.nil)))))) (.cons rfl (.cons rfl (.nil))) (.cons rfl (.nil)) [0, 1, 2, 4, 6, 7] rfl
  · skip
    have h1d := B.df h1
    refine WX.run ttOk rfl ?_
    have hX1 : impl_copyMember_L1 m.publications ([] : List Publication) = ((out) : List Publication) := by rw [v4, List.drop_eq_nil_of_le (show (m.publications).length ≤ i by omega)]; simp only [impl_copyMember_L1, cond_true, cond_false]
    refine WX.seal 501 7 18 rfl rfl rfl rfl rfl ?_
    have hP1 : impl_copyMember m = (Member.mk (impl_copyName m.name) (StateVector.mk (impl_copyTable m.vector.entries)) out) := by simp only [impl_copyMember, hX1, cond_true, cond_false]
    refine WX.ret ttOk rfl ?_
    intro w1 G bs hI hΓ
    rw [hP1]
    exact Post.of [4, 6, 19] ((p1, c1), (p2, c2), (pout, cout)) hI hΓ rfl rfl rfl (And.intro hq1 (And.intro hq2 (okl_mk (by omega) v2 : GoT.ok n (out : List Publication))))
theorem f60 (w : World) (n : Nat) (hn : n + 0 ≤ 9) (m : Member) (pmName : Option Addr) (cmName : Nat) (hpmName : RdSl (hp w) pmName cmName m.name.parts) (pmVector : Option Addr) (cmVector : Nat) (hpmVector : RdSl (hp w) pmVector cmVector m.vector.entries) (pmPublications : Option Addr) (cmPublications : Nat) (hpmPublications : RdSl (hp w) pmPublications cmPublications m.publications) (hokm : GoT.ok n m) :
    Does Tryz.prog 60 #[.agg #[.slice pmName ((m.name.parts).length) cmName, .slice pmVector ((m.vector.entries).length) cmVector, .slice pmPublications ((m.publications).length) cmPublications]] w emp (Post w emp (fun x : GoT.X (Member) => .agg ⟨GoT.sh ((spec_l28Copy m) : Member) x⟩) (fun x => GoT.oa ((spec_l28Copy m) : Member) x) (GoT.ok n ((spec_l28Copy m) : Member))) := by
  have hbP := bd_pos n
  have hbB := bd_big (n := n) (by omega)
  refine WX.enter (tt := tt) (Γ := [(0, MF.rs .stb pmName cmName m.name.parts), (1, MF.rs .stb pmVector cmVector m.vector.entries), (2, MF.rs .stb pmPublications cmPublications m.publications)]) Tryz.func60 rfl (by kernel_rfl) rfl (allS_cons rfl hpmName (allS_cons rfl hpmVector (allS_cons rfl hpmPublications allS_nil))) ?_
  refine WX.run ttOk rfl ?_
  refine WX.draw [10] mixed ?_
  intro bs G0 hΓ0
  refine DX.takes (fuel := 6) ttOk [(0, true), (1, false), (3, true), (4, true), (5, false)] (by kernel_rfl) rfl ?_
  refine DX.pend 9 3 ⟨42, [.slice none (0) 0, .slice none (0) 0, .slice none (0) 0]⟩ ?_
  refine DXA.callF 2 3 (fun _ _ h => GoT.ow_rd h) (fun _ f hf => GoT.fak f hf) ttOk rfl rfl rfl rfl rfl rfl rfl (by kernel_rfl) (by kernel_rfl) (by kernel_rfl) rfl rfl rfl rfl rfl rfl rfl rfl rfl rfl (fun _ => rfl) rfl rfl (fun w G bs hI hΓ => f63 w n (by omega) m.name pmName cmName (hΓ.get 0 rfl) ((ok_Member hokm).1)) (fun _ => rfl) (fun _ => rfl) ?_
  rintro ⟨p1, c1⟩ hq1
  refine DXA.callF 6 5 (fun _ _ h => GoT.ow_rd h) (fun _ f hf => GoT.fak f hf) ttOk rfl rfl rfl rfl rfl rfl rfl (by kernel_rfl) (by kernel_rfl) (by kernel_rfl) rfl rfl rfl rfl rfl rfl rfl rfl rfl rfl (fun _ => rfl) rfl rfl (fun w G bs hI hΓ => f174 w n (by omega) m.vector.entries pmVector cmVector (hΓ.get 1 rfl) (ok_StateVector (ok_Member hokm).2.1)) (fun _ => rfl) (fun _ => rfl) ?_
  rintro ⟨p2, c2⟩ hq2
  have q1 := len_l6Copy m.vector.entries
  refine DXA.take 7 (by kernel_rfl) (by kernel_rfl) rfl rfl rfl rfl rfl rfl rfl rfl (looksP_pure ttOk rfl) ?_
  refine DXA.take 8 (by kernel_rfl) (by kernel_rfl) rfl rfl rfl rfl rfl rfl rfl rfl (looksP_pure ttOk rfl) ?_
  refine DXA.tail [10] ttOk rfl rfl rfl rfl rfl rfl (by kernel_rfl) rfl rfl (by kernel_rfl) ?_
  refine WX.run ttOk rfl ?_
  refine WX.row0 501 3 none rfl ?_
  refine WX.free 7 (MF.ol [] ([] : List Publication)) rfl ?_
  have r1 : (m.publications).length ≤ bd n := (okl (ok_Member hokm).2.2).1
  refine WX.loop (ι := Nat × (Option Addr) × Nat × (List Value) × (List Publication)) ⟨fun | (i, pout, cout, xsout, out) => (i ≤ (m.publications).length) ∧ (∀ z_ ∈ out, GoT.ok n z_) ∧ (out.length ≤ i) ∧ (spec_l28Copy_L1 m.publications ([] : List Publication) = spec_l28Copy_L1 ((m.publications).drop i) out), fun | (i, pout, cout, xsout, out) => (m.publications).length - i, fun | (i, pout, cout, xsout, out) => [(4, .v (.int .i64 (((i : Nat) : Int)))), (3, .p 3 0), (2, .p 2 0), (1, .p 1 0)], fun | (i, pout, cout, xsout, out) => [(3, ⟨42, [.slice p1 (((spec_l4Copy m.name).parts).length) c1, .slice p2 (((spec_l6Copy m.vector.entries)).length) c2, .slice pout ((out).length) cout]⟩), (2, ⟨42, [.slice none (0) 0, .slice none (0) 0, .slice none (0) 0]⟩), (1, ⟨42, [.slice pmName ((m.name.parts).length) cmName, .slice pmVector ((m.vector.entries).length) cmVector, .slice pmPublications ((m.publications).length) cmPublications]⟩)], fun | (i, pout, cout, xsout, out) => [(501, ⟨3, pout, (out).length, cout, xsout⟩)], fun | (i, pout, cout, xsout, out) => [(0, MF.rs .stb pmName cmName m.name.parts), (1, MF.rs .stb pmVector cmVector m.vector.entries), (2, MF.rs .stb pmPublications cmPublications m.publications), (4, MF.os p1 c1 ((spec_l4Copy m.name).parts)), (6, MF.os p2 c2 (spec_l6Copy m.vector.entries)), (7, MF.ol xsout (out : List Publication))]⟩ (0, none, 0, [], ([] : List Publication)) ⟨(Nat.zero_le _), (fun a ha => by cases ha), (by simp), rfl⟩
    (.cons rfl (.cons rfl (.cons rfl (.cons rfl (.nil))))) (.cons rfl (.cons rfl (.cons rfl (.nil)))) (.cons rfl (.nil)) [0, 1, 2, 4, 6, 7] rfl ?_
  rintro ⟨i, pout, cout, xsout, out⟩ hpre
  have hpre_ : (i ≤ (m.publications).length) ∧ (∀ z_ ∈ out, GoT.ok n z_) ∧ (out.length ≤ i) ∧ (spec_l28Copy_L1 m.publications ([] : List Publication) = spec_l28Copy_L1 ((m.publications).drop i) out) := hpre
  clear hpre
  obtain ⟨v1, v2, v3, v4⟩ := hpre_
  refine WX.run ttOk rfl ?_
  refine WX.cases 19 rfl (fun h1 => ?_) (fun h1 => ?_)
  · skip
    have h1d := B.dt h1
    have e1i : i < (m.publications).length := (by omega)
    obtain ⟨e1, e1h⟩ : ∃ e1, (m.publications)[i]? = some e1 := ⟨_, List.getElem?_eq_getElem e1i⟩
    have ok1 : GoT.ok n e1 := (okl (ok_Member hokm).2.2).2 _ (List.mem_of_getElem? e1h)
    refine WX.run ttOk rfl ?_
    refine WX.idx 2 i ttOk rfl rfl rfl rfl rfl rfl rfl rfl rfl rfl e1i ?_
    rintro ad1 rfl
    refine WX.run ttOk rfl ?_
    refine WX.ldE 2 8 e1 ttOk rfl rfl rfl rfl rfl rfl rfl rfl e1h (fun _ => rfl) (fun _ => rfl) ?_
    rintro ⟨⟨p3, c3⟩, ⟨⟩, ⟨p4, c4⟩⟩
    refine WX.callF 10 (fun _ _ h => GoT.ow_rd h) (fun _ f hf => GoT.fak f hf) rfl rfl rfl rfl rfl (fun _ => rfl) rfl (fun w G bs hI hΓ => f63 w n (by omega) e1.publisher p3 c3 (hΓ.get 8 rfl) ((ok_Publication ok1).1)) (fun _ => rfl) (fun _ => rfl) ?_
    rintro ⟨p5, c5⟩ hq3
    refine WX.run ttOk rfl ?_
    refine WX.der 12 (MF.rs .der p1 c1 ((spec_l4Copy m.name).parts)) rfl (fun _ hΓ => (hΓ.get 4 rfl : OwSl _ _ _ _).rd) ?_
    refine WX.der 13 (MF.rs .der p2 c2 (spec_l6Copy m.vector.entries)) rfl (fun _ hΓ => (hΓ.get 6 rfl : OwSl _ _ _ _).rd) ?_
    refine WX.draw [19, 21] mixed ?_
    intro bs G0 hΓ0
    refine DX.takes (fuel := 16) ttOk [(0, true), (1, false), (2, false), (3, true), (4, false), (5, true)] (by kernel_rfl) rfl ?_
    refine DX.idx 6 2 i ttOk hΓ0 (by kernel_rfl) rfl rfl rfl rfl rfl rfl rfl rfl rfl rfl rfl e1i ?_
    rintro ad2 ⟨⟩
    refine DX.takes (fuel := 14) ttOk [(7, true)] (by kernel_rfl) rfl ?_
    refine DX.ldE 8 2 14 e1 ttOk hΓ0 (by kernel_rfl) rfl rfl rfl rfl rfl rfl rfl rfl e1h (fun _ => rfl) (fun _ => rfl) ?_
    rintro ⟨⟨p6, c6⟩, ⟨⟩, ⟨p7, c7⟩⟩
    refine DX.takes (fuel := 10) ttOk [(10, true), (11, false), (12, true)] (by kernel_rfl) rfl ?_
    refine DX.idx 13 2 i ttOk hΓ0 (by kernel_rfl) rfl rfl rfl rfl rfl rfl rfl rfl rfl rfl rfl e1i ?_
    rintro ad3 ⟨⟩
    refine DX.takes (fuel := 8) ttOk [(14, true)] (by kernel_rfl) rfl ?_
    refine DX.ldE 15 2 16 e1 ttOk hΓ0 (by kernel_rfl) rfl rfl rfl rfl rfl rfl rfl rfl e1h (fun _ => rfl) (fun _ => rfl) ?_
    rintro ⟨⟨p8, c8⟩, ⟨⟩, ⟨p9, c9⟩⟩
    refine DX.toTX ?_
    intro S_
    refine TX.all1 9 (by kernel_rfl) ?_
    refine TS.op 9 rfl (by kernel_rfl) ?_
    refine WX.bld ttOk rfl rfl rfl rfl rfl rfl rfl ?_
    intro p10
    refine WX.run ttOk rfl ?_
    refine WX.back0 ?_
    refine TX.all1 16 (by kernel_rfl) ?_
    have r2 : (e1.content).length ≤ bd n := (okl (ok_Publication ok1).2.2).1
    refine TS.opK 16 rfl (keeps_appG (α := UInt8) 38 17 (e1.content : List UInt8).length ttOk rfl rfl rfl rfl rfl rfl rfl rfl rfl (by simp) (by omega) (by omega) rfl) ?_
    refine WX.free 18 (MF.ol [] ([] : List UInt8)) rfl ?_
    refine WX.appG1 38 17 19 (e1.content : List UInt8).length ttOk rfl rfl rfl rfl rfl rfl rfl rfl rfl rfl rfl rfl rfl (by simp) (by omega) (by omega) (fun _ _ _ => rfl) ?_
    intro ys1 p11 c10
    refine WX.know (fun G hΓ => (hΓ.get 19 rfl : RdL _ _ _).flat) ?_
    intro hf1
    refine WX.turn [18] 20 rfl (fun h hs => ol_flat hs hf1) (gs := [MF.ol ([] ++ ys1) (e1.content : List UInt8)]) rfl ?_
    refine WX.run ttOk rfl ?_
    refine WX.back0 ?_
    refine TX.all1 17 (by kernel_rfl) ?_
    refine TS.opK 17 rfl (keeps_pure ttOk rfl) ?_
    refine WX.run ttOk rfl ?_
    refine WX.back0 ?_
    refine TX.all1 18 (by kernel_rfl) ?_
    refine TS.op 18 rfl (by kernel_rfl) ?_
    refine WX.seal 38 20 21 rfl rfl rfl rfl rfl ?_
    refine WX.bld ttOk rfl rfl rfl rfl rfl rfl rfl ?_
    intro p12
    refine WX.run ttOk rfl ?_
    refine WX.back0 ?_
    refine TX.all1 19 (by kernel_rfl) ?_
    refine TS.op 19 rfl (by kernel_rfl) ?_
    refine WX.turn [11, 22] 23 rfl (fun h hs => ol_one (α := Publication) (a := (Publication.mk (spec_l4Copy e1.publisher) e1.seq e1.content)) (x := ((p5, c5), (), (p11, c10))) hs) (gs := [MF.ol [.slice p5 (((spec_l4Copy e1.publisher).parts).length) c5, .int .i64 (e1.seq), .slice p11 ((e1.content).length) c10] ([(Publication.mk (spec_l4Copy e1.publisher) e1.seq e1.content)] : List Publication)]) rfl ?_
    have r3 : -9223372036854775808 ≤ e1.seq ∧ e1.seq ≤ 9223372036854775807 := (ok_Publication ok1).2.1
    refine WX.know (fun G hΓ => (hΓ.get 23 rfl : OwL _ _ _).rd.one) ?_
    intro ho1
    refine WX.appR1 501 47 ((out ++ [(Publication.mk (spec_l4Copy e1.publisher) e1.seq e1.content)]) : List Publication).length ttOk rfl rfl rfl rfl rfl rfl rfl rfl rfl rfl rfl rfl rfl ho1 (by simp) (by simp; omega) (by simp; omega) (fun _ _ => rfl) ?_
    intro p13 c11
    refine WX.turn [7, 23] 24 rfl (fun h hs => ol_app hs) (gs := [MF.ol (xsout ++ [.slice p5 (((spec_l4Copy e1.publisher).parts).length) c5, .int .i64 (e1.seq), .slice p11 ((e1.content).length) c10]) ((out ++ [(Publication.mk (spec_l4Copy e1.publisher) e1.seq e1.content)]) : List Publication)]) rfl ?_
    refine WX.run ttOk rfl ?_
    refine WX.back0 ?_
    refine TX.all1 20 (by kernel_rfl) ?_
    refine TS.opK 20 rfl (keeps_pure ttOk rfl) ?_
    refine WX.run ttOk rfl ?_
    refine WX.back0 ?_
    refine TX.tail [21] rfl rfl (by kernel_rfl) ?_
    refine WX.run ttOk rfl ?_
    refine WX.see rfl rfl rfl (fun _ hΓ => looks_arith rfl rfl rfl rfl (by unfold I64; first | omega | (simp only [List.length_take, List.length_drop] at *; omega) | (dsimp only; omega))) ?_
    refine WX.run ttOk rfl ?_
    refine WX.turn [24] 7 rfl (fun _ h => h) rfl ?_
    exact WX.iter (i + 1, p13, c11, (xsout ++ [.slice p5 (((spec_l4Copy e1.publisher).parts).length) c5, .int .i64 (e1.seq), .slice p11 ((e1.content).length) c10]), ((out ++ [(Publication.mk (spec_l4Copy e1.publisher) e1.seq e1.content)]) : List Publication)) ⟨(by omega), (all_app v2 (all_cons (α := Publication) (And.intro hq3 (And.intro (ok_Publication ok1).2.1 (okl_mk (by omega) (okl (ok_Publication ok1).2.2).2 : GoT.ok n (e1.content : List UInt8)))) (fun a ha => by cases ha))), (by first | assumption | omega | (simp only [List.length_append, List.length_cons, List.length_nil, List.length_set, List.length_map, List.length_take, List.length_drop]; omega) | (simp; omega)), (by rw [v4, drop_get e1h]; simp only [spec_l28Copy_L1, cond_true, cond_false])⟩ (by first | (dsimp only; omega) | omega) (.cons rfl (.cons rfl (.cons rfl (.cons rfl (.nil))))) (.cons rfl (.cons rfl (.cons rfl (.nil)))) (.cons rfl (.nil)) [0, 1, 2, 4, 6, 7] rfl
  · skip
    have h1d := B.df h1
    refine WX.run ttOk rfl ?_
    have hX1 : spec_l28Copy_L1 m.publications ([] : List Publication) = ((out) : List Publication) := by rw [v4, List.drop_eq_nil_of_le (show (m.publications).length ≤ i by omega)]; simp only [spec_l28Copy_L1, cond_true, cond_false]
    refine WX.seal 501 7 25 rfl rfl rfl rfl rfl ?_
    have hP1 : spec_l28Copy m = (Member.mk (spec_l4Copy m.name) (StateVector.mk (spec_l6Copy m.vector.entries)) out) := by simp only [spec_l28Copy, hX1, cond_true, cond_false]
    refine WX.ret ttOk rfl ?_
    intro w1 G bs hI hΓ
    rw [hP1]
    exact Post.of [4, 6, 26] ((p1, c1), (p2, c2), (pout, cout)) hI hΓ rfl rfl rfl (And.intro hq1 (And.intro hq2 (okl_mk (by omega) v2 : GoT.ok n (out : List Publication))))
theorem f15 (w : World) (n : Nat) (hn : n + 3 ≤ 9) (m : Member) (pmName : Option Addr) (cmName : Nat) (hpmName : RdSl (hp w) pmName cmName m.name.parts) (pmVector : Option Addr) (cmVector : Nat) (hpmVector : RdSl (hp w) pmVector cmVector m.vector.entries) (pmPublications : Option Addr) (cmPublications : Nat) (hpmPublications : RdSl (hp w) pmPublications cmPublications m.publications) (x_ : Publication) (px_Publisher : Option Addr) (cx_Publisher : Nat) (hpx_Publisher : RdSl (hp w) px_Publisher cx_Publisher x_.publisher.parts) (px_Content : Option Addr) (cx_Content : Nat) (hpx_Content : RdSl (hp w) px_Content cx_Content x_.content) (hokm : GoT.ok n m) (hokx_ : GoT.ok n x_) :
    Does Tryz.prog 15 #[.agg #[.slice pmName ((m.name.parts).length) cmName, .slice pmVector ((m.vector.entries).length) cmVector, .slice pmPublications ((m.publications).length) cmPublications], .agg #[.slice px_Publisher ((x_.publisher.parts).length) cx_Publisher, .int .i64 (x_.seq), .slice px_Content ((x_.content).length) cx_Content]] w emp (Post w emp (fun x : GoT.X (Member) => .tuple #[.agg ⟨GoT.sh ((impl_AcceptPublication m x_).1 : Member) x⟩, .bool ((impl_AcceptPublication m x_).2)]) (fun x => GoT.oa ((impl_AcceptPublication m x_).1 : Member) x) (GoT.ok (n + 3) ((impl_AcceptPublication m x_).1 : Member))) := by
  have hbP := bd_pos n
  have hbS0 : bd (n + 1) = 4 * bd (n) := bd_succ (n := n) (by omega)
  have hbS1 : bd (n + 2) = 4 * bd (n + 1) := bd_succ (n := n + 1) (by omega)
  have hbS2 : bd (n + 3) = 4 * bd (n + 2) := bd_succ (n := n + 2) (by omega)
  have hbB := bd_big (n := (n + 3)) (by omega)
  have hbM := bd_mono (show n ≤ n + 3 by omega)
  refine WX.enter (tt := tt) (Γ := [(0, MF.rs .stb pmName cmName m.name.parts), (1, MF.rs .stb pmVector cmVector m.vector.entries), (2, MF.rs .stb pmPublications cmPublications m.publications), (3, MF.rs .stb px_Publisher cx_Publisher x_.publisher.parts), (4, MF.rs .stb px_Content cx_Content x_.content)]) Tryz.func15 rfl (by kernel_rfl) rfl (allS_cons rfl hpmName (allS_cons rfl hpmVector (allS_cons rfl hpmPublications (allS_cons rfl hpx_Publisher (allS_cons rfl hpx_Content allS_nil))))) ?_
  refine WX.run ttOk rfl ?_
  refine WX.callF 5 (fun _ _ h => GoT.ow_rd h) (fun _ f hf => GoT.fak f hf) rfl rfl rfl rfl rfl (fun _ => rfl) rfl (fun w G bs hI hΓ => f68 w n (by omega) m pmName cmName (hΓ.get 0 rfl) pmVector cmVector (hΓ.get 1 rfl) pmPublications cmPublications (hΓ.get 2 rfl) hokm) (fun _ => rfl) (fun _ => rfl) ?_
  rintro ⟨⟨p1, c1⟩, ⟨p2, c2⟩, ⟨p3, c3⟩⟩ hq1
  have q1 := cM_impl m
  refine WX.run ttOk rfl ?_
  refine WX.draw [] mixed ?_
  intro bs G0 hΓ0
  refine DX.takes (fuel := 3) ttOk [(0, true), (1, false), (2, true), (3, false), (4, true), (5, false)] (by kernel_rfl) rfl ?_
  refine DX.callV 6 rfl (by kernel_rfl) rfl rfl rfl rfl rfl rfl (fun _ => rfl) rfl (fun w G bs hI hΓ => f69 w n (by omega) m.vector pmVector cmVector (hΓ.get 1 rfl) x_.publisher px_Publisher cx_Publisher (hΓ.get 3 rfl) ((ok_Member hokm).2.1) ((ok_Publication hokx_).1)) ?_
  intro hq2
  refine DX.seeP 7 (by kernel_rfl) rfl rfl rfl rfl (looksP_wrap rfl rfl rfl rfl) ?_
  refine DX.takes (fuel := 0) ttOk [(8, true)] (by kernel_rfl) rfl ?_
  refine DX.tail2 [] rfl rfl (by kernel_rfl) ?_
  refine WX.run ttOk rfl ?_
  refine WX.cases 19 rfl (fun h1 => ?_) (fun h1 => ?_)
  · skip
    have h1d := B.nt' h1
    refine WX.run ttOk rfl ?_
    have hP1 : impl_AcceptPublication m x_ = (impl_copyMember m, false) := by simp only [impl_AcceptPublication, h1, cond_true, cond_false]
    refine WX.ret ttOk rfl ?_
    intro w1 G bs hI hΓ
    rw [hP1]
    exact Post.of [8, 9, 10] ((p1, c1), (p2, c2), (p3, c3)) hI hΓ rfl rfl rfl (And.intro (GoT.okm (α := List Str) (by omega) (ok_Name (ok_Member hq1).1)) (And.intro (GoT.okm (α := List TableEntry) (by omega) (ok_StateVector (ok_Member hq1).2.1)) (GoT.okm (α := List Publication) (by omega) (ok_Member hq1).2.2)))
  · skip
    have h1d := B.nf' h1
    refine WX.run ttOk rfl ?_
    refine WX.draw [12, 13, 14] mixed ?_
    intro bs G0 hΓ0
    refine DX.takes (fuel := 7) ttOk [(0, true), (1, false), (2, true), (3, false), (5, true), (6, false), (7, true), (8, false)] (by kernel_rfl) rfl ?_
    refine DX.callF 4 11 (fun _ _ h => GoT.ow_rd h) (fun _ f hf => GoT.fak f hf) rfl (by kernel_rfl) rfl rfl rfl rfl rfl rfl (fun _ => rfl) rfl (fun w G bs hI hΓ => f70 w n (by omega) x_.publisher px_Publisher cx_Publisher (hΓ.get 3 rfl) ((ok_Publication hokx_).1)) (fun _ => rfl) (fun _ => rfl) ?_
    rintro ⟨p4, c4⟩ hq3
    refine DX.callF 9 13 (fun _ _ h => GoT.ow_rd h) (fun _ f hf => GoT.fak f hf) rfl (by kernel_rfl) rfl rfl rfl rfl rfl rfl (fun _ => rfl) rfl (fun w G bs hI hΓ => f71 w n (by omega) x_.content px_Content cx_Content (hΓ.get 4 rfl) ((ok_Publication hokx_).2.2)) (fun _ => rfl) (fun _ => rfl) ?_
    rintro ⟨p5, c5⟩ hq4
    refine DX.takes (fuel := 4) ttOk [(10, true)] (by kernel_rfl) rfl ?_
    refine DX.tail2 [11, 12, 13, 14] rfl rfl (by kernel_rfl) ?_
    refine WX.bld ttOk rfl rfl rfl rfl rfl rfl rfl ?_
    intro p6
    refine WX.opn (kk := 3) 501 10 15 rfl rfl rfl ?_
    intro xs1 hx1
    refine WX.turn [12, 14] 16 rfl (fun h hs => ol_one (α := Publication) (a := (Publication.mk (impl_copyName x_.publisher) x_.seq x_.content)) (x := ((p4, c4), (), (p5, c5))) hs) (gs := [MF.ol [.slice p4 (((impl_copyName x_.publisher).parts).length) c4, .int .i64 (x_.seq), .slice p5 ((x_.content).length) c5] ([(Publication.mk (impl_copyName x_.publisher) x_.seq x_.content)] : List Publication)]) rfl ?_
    have r1 : -9223372036854775808 ≤ x_.seq ∧ x_.seq ≤ 9223372036854775807 := (ok_Publication hokx_).2.1
    have r2 : (x_.content).length ≤ bd n := (okl (ok_Publication hokx_).2.2).1
    have r3 : ((impl_copyMember m).publications).length ≤ bd n := (okl (ok_Member hq1).2.2).1
    refine WX.know (fun G hΓ => (hΓ.get 16 rfl : OwL _ _ _).rd.one) ?_
    intro ho1
    refine WX.appR1 501 32 (((impl_copyMember m).publications ++ [(Publication.mk (impl_copyName x_.publisher) x_.seq x_.content)]) : List Publication).length ttOk rfl rfl rfl rfl rfl rfl rfl rfl rfl rfl rfl rfl rfl ho1 (by simp) (by simp; omega) (by simp; omega) (fun _ _ => rfl) ?_
    intro p7 c6
    refine WX.turn [15, 16] 17 rfl (fun h hs => ol_app hs) (gs := [MF.ol (xs1 ++ [.slice p4 (((impl_copyName x_.publisher).parts).length) c4, .int .i64 (x_.seq), .slice p5 ((x_.content).length) c5]) (((impl_copyMember m).publications ++ [(Publication.mk (impl_copyName x_.publisher) x_.seq x_.content)]) : List Publication)]) rfl ?_
    refine WX.run ttOk rfl ?_
    refine WX.callF 18 (fun _ _ h => GoT.ow_rd h) (fun _ f hf => GoT.fak f hf) rfl rfl rfl rfl rfl (fun _ => rfl) rfl (fun w G bs hI hΓ => f72 w n (by omega) m.vector.entries pmVector cmVector (hΓ.get 1 rfl) x_.publisher px_Publisher cx_Publisher (hΓ.get 3 rfl) x_.seq (ok_StateVector (ok_Member hokm).2.1) ((ok_Publication hokx_).1) ((ok_Publication hokx_).2.1)) (fun _ => rfl) (fun _ => rfl) ?_
    rintro ⟨p8, c7⟩ hq5
    have q2 := (put_impl m.vector.entries x_.publisher x_.seq).len
    have hfx1 := (put_impl m.vector.entries x_.publisher x_.seq).els (k := n) (okl (ok_StateVector (ok_Member hokm).2.1)).2 (ok_Publication hokx_).1 (ok_Publication hokx_).2.1
    refine WX.run ttOk rfl ?_
    refine WX.cases 51 rfl (fun h2 => ?_) (fun h2 => ?_)
    · skip
      have h2d := (B.nt h2)
      refine WX.run ttOk rfl ?_
      refine WX.callF 20 (fun _ _ h => GoT.ow_rd h) (fun _ f hf => GoT.fak f hf) rfl rfl rfl rfl rfl (fun _ => rfl) rfl (fun w G bs hI hΓ => f68 w n (by omega) m pmName cmName (hΓ.get 0 rfl) pmVector cmVector (hΓ.get 1 rfl) pmPublications cmPublications (hΓ.get 2 rfl) hokm) (fun _ => rfl) (fun _ => rfl) ?_
      rintro ⟨⟨p9, c8⟩, ⟨p10, c9⟩, ⟨p11, c10⟩⟩ hq6
      have q3 := cM_impl m
      refine WX.run ttOk rfl ?_
      have hP2 : impl_AcceptPublication m x_ = (impl_copyMember m, false) := by simp only [impl_AcceptPublication, h1, h2, cond_true, cond_false]
      refine WX.ret ttOk rfl ?_
      intro w1 G bs hI hΓ
      rw [hP2]
      exact Post.of [23, 24, 25] ((p9, c8), (p10, c9), (p11, c10)) hI hΓ rfl rfl rfl (And.intro (GoT.okm (α := List Str) (by omega) (ok_Name (ok_Member hq6).1)) (And.intro (GoT.okm (α := List TableEntry) (by omega) (ok_StateVector (ok_Member hq6).2.1)) (GoT.okm (α := List Publication) (by omega) (ok_Member hq6).2.2)))
    · skip
      have h2d := (B.nf h2)
      refine WX.run ttOk rfl ?_
      refine WX.seal 501 17 26 rfl rfl rfl rfl rfl ?_
      refine WX.der 28 (MF.rs .der p1 c1 ((impl_copyMember m).name.parts)) rfl (fun _ hΓ => (hΓ.get 8 rfl : OwSl _ _ _ _).rd) ?_
      refine WX.der 29 (MF.rs .der p8 c7 ((impl_PutEntry m.vector.entries x_.publisher x_.seq).1)) rfl (fun _ hΓ => (hΓ.get 19 rfl : OwSl _ _ _ _).rd) ?_
      have r4 : (m.vector.entries).length ≤ bd n := (okl (ok_StateVector (ok_Member hokm).2.1)).1
      have r5 : ((impl_PutEntry m.vector.entries x_.publisher x_.seq).1).length ≤ bd (n + 1) := (okl hq5).1
      refine WX.callV rfl rfl rfl rfl rfl (fun _ => rfl) rfl (fun w G bs hI hΓ => f73 w (n + 1) (by omega) (Member.mk ((impl_copyMember m).name) (StateVector.mk ((impl_PutEntry m.vector.entries x_.publisher x_.seq).1)) ((impl_copyMember m).publications ++ [(Publication.mk (impl_copyName x_.publisher) x_.seq x_.content)])) p1 c1 (hΓ.get 28 rfl) p8 c7 (hΓ.get 29 rfl) p7 c6 (hΓ.get 26 rfl) (And.intro (GoT.okm (α := List Str) (by omega) (ok_Name (ok_Member hq1).1)) (And.intro (okl_mk (by omega) (fun a ha => GoT.okm (by omega) (hfx1 a ha)) : GoT.ok (n + 1) ((impl_PutEntry m.vector.entries x_.publisher x_.seq).1 : List TableEntry)) (okl_mk (by simp; omega) (fun a ha => GoT.okm (show n ≤ (n + 1) by omega) ((all_app (okl (ok_Member hq1).2.2).2 (all_cons (α := Publication) (And.intro hq3 (And.intro (ok_Publication hokx_).2.1 hq4)) (fun a ha => by cases ha))) a ha)) : GoT.ok (n + 1) (((impl_copyMember m).publications ++ [(Publication.mk (impl_copyName x_.publisher) x_.seq x_.content)]) : List Publication))))) ?_
      intro hq7
      refine WX.run ttOk rfl ?_
      refine WX.cases 55 rfl (fun h3 => ?_) (fun h3 => ?_)
      · skip
        have h3d := (B.nt h3)
        refine WX.run ttOk rfl ?_
        refine WX.callF 30 (fun _ _ h => GoT.ow_rd h) (fun _ f hf => GoT.fak f hf) rfl rfl rfl rfl rfl (fun _ => rfl) rfl (fun w G bs hI hΓ => f68 w n (by omega) m pmName cmName (hΓ.get 0 rfl) pmVector cmVector (hΓ.get 1 rfl) pmPublications cmPublications (hΓ.get 2 rfl) hokm) (fun _ => rfl) (fun _ => rfl) ?_
        rintro ⟨⟨p12, c11⟩, ⟨p13, c12⟩, ⟨p14, c13⟩⟩ hq8
        have q4 := cM_impl m
        refine WX.run ttOk rfl ?_
        have hP3 : impl_AcceptPublication m x_ = (impl_copyMember m, false) := by simp only [impl_AcceptPublication, h1, h2, h3, cond_true, cond_false]
        refine WX.ret ttOk rfl ?_
        intro w1 G bs hI hΓ
        rw [hP3]
        exact Post.of [33, 34, 35] ((p12, c11), (p13, c12), (p14, c13)) hI hΓ rfl rfl rfl (And.intro (GoT.okm (α := List Str) (by omega) (ok_Name (ok_Member hq8).1)) (And.intro (GoT.okm (α := List TableEntry) (by omega) (ok_StateVector (ok_Member hq8).2.1)) (GoT.okm (α := List Publication) (by omega) (ok_Member hq8).2.2)))
      · skip
        have h3d := (B.nf h3)
        refine WX.run ttOk rfl ?_
        have hP4 : impl_AcceptPublication m x_ = (Member.mk ((impl_copyMember m).name) (StateVector.mk ((impl_PutEntry m.vector.entries x_.publisher x_.seq).1)) ((impl_copyMember m).publications ++ [(Publication.mk (impl_copyName x_.publisher) x_.seq x_.content)]), true) := by simp only [impl_AcceptPublication, h1, h2, h3, cond_true, cond_false]
        refine WX.ret ttOk rfl ?_
        intro w1 G bs hI hΓ
        rw [hP4]
        exact Post.of [8, 19, 27] ((p1, c1), (p8, c7), (p7, c6)) hI hΓ rfl rfl rfl (And.intro (GoT.okm (α := List Str) (by omega) (ok_Name (ok_Member hq1).1)) (And.intro (okl_mk (by omega) (fun a ha => GoT.okm (by omega) (hfx1 a ha)) : GoT.ok (n + 3) ((impl_PutEntry m.vector.entries x_.publisher x_.seq).1 : List TableEntry)) (okl_mk (by simp; omega) (fun a ha => GoT.okm (by omega) ((fun a ha => GoT.okm (show n ≤ (n + 1) by omega) ((all_app (okl (ok_Member hq1).2.2).2 (all_cons (α := Publication) (And.intro hq3 (And.intro (ok_Publication hokx_).2.1 hq4)) (fun a ha => by cases ha))) a ha)) a ha)) : GoT.ok (n + 3) (((impl_copyMember m).publications ++ [(Publication.mk (impl_copyName x_.publisher) x_.seq x_.content)]) : List Publication))))
theorem f12 (w : World) (n : Nat) (hn : n + 3 ≤ 9) (m : Member) (pmName : Option Addr) (cmName : Nat) (hpmName : RdSl (hp w) pmName cmName m.name.parts) (pmVector : Option Addr) (cmVector : Nat) (hpmVector : RdSl (hp w) pmVector cmVector m.vector.entries) (pmPublications : Option Addr) (cmPublications : Nat) (hpmPublications : RdSl (hp w) pmPublications cmPublications m.publications) (x_ : Publication) (px_Publisher : Option Addr) (cx_Publisher : Nat) (hpx_Publisher : RdSl (hp w) px_Publisher cx_Publisher x_.publisher.parts) (px_Content : Option Addr) (cx_Content : Nat) (hpx_Content : RdSl (hp w) px_Content cx_Content x_.content) (hokm : GoT.ok n m) (hokx_ : GoT.ok n x_) :
    Does Tryz.prog 12 #[.agg #[.slice pmName ((m.name.parts).length) cmName, .slice pmVector ((m.vector.entries).length) cmVector, .slice pmPublications ((m.publications).length) cmPublications], .agg #[.slice px_Publisher ((x_.publisher.parts).length) cx_Publisher, .int .i64 (x_.seq), .slice px_Content ((x_.content).length) cx_Content]] w emp (Post w emp (fun x : GoT.X (Member) => .tuple #[.agg ⟨GoT.sh ((spec_AcceptPublication m x_).1 : Member) x⟩, .bool ((spec_AcceptPublication m x_).2)]) (fun x => GoT.oa ((spec_AcceptPublication m x_).1 : Member) x) (GoT.ok (n + 3) ((spec_AcceptPublication m x_).1 : Member))) := by
  have hbP := bd_pos n
  have hbS0 : bd (n + 1) = 4 * bd (n) := bd_succ (n := n) (by omega)
  have hbS1 : bd (n + 2) = 4 * bd (n + 1) := bd_succ (n := n + 1) (by omega)
  have hbS2 : bd (n + 3) = 4 * bd (n + 2) := bd_succ (n := n + 2) (by omega)
  have hbB := bd_big (n := (n + 3)) (by omega)
  have hbM := bd_mono (show n ≤ n + 3 by omega)
  refine WX.enter (tt := tt) (Γ := [(0, MF.rs .stb pmName cmName m.name.parts), (1, MF.rs .stb pmVector cmVector m.vector.entries), (2, MF.rs .stb pmPublications cmPublications m.publications), (3, MF.rs .stb px_Publisher cx_Publisher x_.publisher.parts), (4, MF.rs .stb px_Content cx_Content x_.content)]) Tryz.func12 rfl (by kernel_rfl) rfl (allS_cons rfl hpmName (allS_cons rfl hpmVector (allS_cons rfl hpmPublications (allS_cons rfl hpx_Publisher (allS_cons rfl hpx_Content allS_nil))))) ?_
  refine WX.run ttOk rfl ?_
  refine WX.callF 5 (fun _ _ h => GoT.ow_rd h) (fun _ f hf => GoT.fak f hf) rfl rfl rfl rfl rfl (fun _ => rfl) rfl (fun w G bs hI hΓ => f60 w n (by omega) m pmName cmName (hΓ.get 0 rfl) pmVector cmVector (hΓ.get 1 rfl) pmPublications cmPublications (hΓ.get 2 rfl) hokm) (fun _ => rfl) (fun _ => rfl) ?_
  rintro ⟨⟨p1, c1⟩, ⟨p2, c2⟩, ⟨p3, c3⟩⟩ hq1
  have q1 := cM_spec m
  refine WX.run ttOk rfl ?_
  refine WX.draw [] mixed ?_
  intro bs G0 hΓ0
  refine DX.takes (fuel := 3) ttOk [(0, true), (1, false), (2, true), (3, false), (4, true), (5, false)] (by kernel_rfl) rfl ?_
  refine DX.callV 6 rfl (by kernel_rfl) rfl rfl rfl rfl rfl rfl (fun _ => rfl) rfl (fun w G bs hI hΓ => f61 w n (by omega) m.vector pmVector cmVector (hΓ.get 1 rfl) x_.publisher px_Publisher cx_Publisher (hΓ.get 3 rfl) ((ok_Member hokm).2.1) ((ok_Publication hokx_).1)) ?_
  intro hq2
  refine DX.seeP 7 (by kernel_rfl) rfl rfl rfl rfl (looksP_wrap rfl rfl rfl rfl) ?_
  refine DX.takes (fuel := 0) ttOk [(8, true)] (by kernel_rfl) rfl ?_
  refine DX.tail2 [] rfl rfl (by kernel_rfl) ?_
  refine WX.run ttOk rfl ?_
  refine WX.cases 19 rfl (fun h1 => ?_) (fun h1 => ?_)
  · skip
    have h1d := B.nt' h1
    refine WX.run ttOk rfl ?_
    have hP1 : spec_AcceptPublication m x_ = (spec_l28Copy m, false) := by simp only [spec_AcceptPublication, h1, cond_true, cond_false]
    refine WX.ret ttOk rfl ?_
    intro w1 G bs hI hΓ
    rw [hP1]
    exact Post.of [8, 9, 10] ((p1, c1), (p2, c2), (p3, c3)) hI hΓ rfl rfl rfl (And.intro (GoT.okm (α := List Str) (by omega) (ok_Name (ok_Member hq1).1)) (And.intro (GoT.okm (α := List TableEntry) (by omega) (ok_StateVector (ok_Member hq1).2.1)) (GoT.okm (α := List Publication) (by omega) (ok_Member hq1).2.2)))
  · skip
    have h1d := B.nf' h1
    refine WX.run ttOk rfl ?_
    refine WX.callF 11 (fun _ _ h => GoT.ow_rd h) (fun _ f hf => GoT.fak f hf) rfl rfl rfl rfl rfl (fun _ => rfl) rfl (fun w G bs hI hΓ => f62 w n (by omega) m.vector.entries pmVector cmVector (hΓ.get 1 rfl) x_.publisher px_Publisher cx_Publisher (hΓ.get 3 rfl) x_.seq (ok_StateVector (ok_Member hokm).2.1) ((ok_Publication hokx_).1) ((ok_Publication hokx_).2.1)) (fun _ => rfl) (fun _ => rfl) ?_
    rintro ⟨p4, c4⟩ hq3
    have q2 := (put_spec m.vector.entries x_.publisher x_.seq).len
    have hfx1 := (put_spec m.vector.entries x_.publisher x_.seq).els (k := n) (okl (ok_StateVector (ok_Member hokm).2.1)).2 (ok_Publication hokx_).1 (ok_Publication hokx_).2.1
    refine WX.run ttOk rfl ?_
    refine WX.draw [13, 15] mixed ?_
    intro bs G0 hΓ0
    refine DX.takes (fuel := 8) ttOk [(0, true), (1, false), (2, true), (3, false), (5, true), (6, false), (8, true), (9, false)] (by kernel_rfl) rfl ?_
    refine DX.toTX ?_
    intro S_
    refine TX.all2 4 7 (by kernel_rfl) ?_ ?_
    · skip
      refine TS.callF 4 13 (fun _ _ h => GoT.ow_rd h) (fun _ f hf => GoT.fak f hf) rfl rfl rfl rfl rfl rfl (fun _ => rfl) rfl (fun w G bs hI hΓ => f63 w n (by omega) x_.publisher px_Publisher cx_Publisher (hΓ.get 3 rfl) ((ok_Publication hokx_).1)) (fun _ => rfl) (fun _ => rfl) ?_
      rintro ⟨p5, c5⟩ hq4
      refine TX.all1 7 (by kernel_rfl) ?_
      refine TS.op 7 rfl (by kernel_rfl) ?_
      refine WX.bld ttOk rfl rfl rfl rfl rfl rfl rfl ?_
      intro p6
      refine WX.run ttOk rfl ?_
      refine WX.back0 ?_
      refine TX.all1 10 (by kernel_rfl) ?_
      have r1 : (x_.content).length ≤ bd n := (okl (ok_Publication hokx_).2.2).1
      refine TS.opK 10 rfl (keeps_appG (α := UInt8) 42 4 (x_.content : List UInt8).length ttOk rfl rfl rfl rfl rfl rfl rfl rfl rfl (by simp) (by omega) (by omega) rfl) ?_
      refine WX.free 15 (MF.ol [] ([] : List UInt8)) rfl ?_
      refine WX.appG1 42 4 16 (x_.content : List UInt8).length ttOk rfl rfl rfl rfl rfl rfl rfl rfl rfl rfl rfl rfl rfl (by simp) (by omega) (by omega) (fun _ _ _ => rfl) ?_
      intro ys1 p7 c6
      refine WX.know (fun G hΓ => (hΓ.get 16 rfl : RdL _ _ _).flat) ?_
      intro hf1
      refine WX.turn [15] 17 rfl (fun h hs => ol_flat hs hf1) (gs := [MF.ol ([] ++ ys1) (x_.content : List UInt8)]) rfl ?_
      refine WX.run ttOk rfl ?_
      refine WX.back0 ?_
      refine TX.all1 11 (by kernel_rfl) ?_
      refine TS.opK 11 rfl (keeps_pure ttOk rfl) ?_
      refine WX.run ttOk rfl ?_
      refine WX.back0 ?_
      refine TX.all1 12 (by kernel_rfl) ?_
      refine TS.op 12 rfl (by kernel_rfl) ?_
      refine WX.seal 42 17 18 rfl rfl rfl rfl rfl ?_
      refine WX.bld ttOk rfl rfl rfl rfl rfl rfl rfl ?_
      intro p8
      refine WX.run ttOk rfl ?_
      refine WX.back0 ?_
      refine TX.all1 13 (by kernel_rfl) ?_
      refine TS.op 13 rfl (by kernel_rfl) ?_
      refine WX.opn (kk := 3) 501 10 20 rfl rfl rfl ?_
      intro xs1 hx1
      refine WX.turn [14, 19] 21 rfl (fun h hs => ol_one (α := Publication) (a := (Publication.mk (spec_l4Copy x_.publisher) x_.seq x_.content)) (x := ((p5, c5), (), (p7, c6))) hs) (gs := [MF.ol [.slice p5 (((spec_l4Copy x_.publisher).parts).length) c5, .int .i64 (x_.seq), .slice p7 ((x_.content).length) c6] ([(Publication.mk (spec_l4Copy x_.publisher) x_.seq x_.content)] : List Publication)]) rfl ?_
      have r2 : -9223372036854775808 ≤ x_.seq ∧ x_.seq ≤ 9223372036854775807 := (ok_Publication hokx_).2.1
      have r3 : ((spec_l28Copy m).publications).length ≤ bd n := (okl (ok_Member hq1).2.2).1
      refine WX.know (fun G hΓ => (hΓ.get 21 rfl : OwL _ _ _).rd.one) ?_
      intro ho1
      refine WX.appR1 501 47 (((spec_l28Copy m).publications ++ [(Publication.mk (spec_l4Copy x_.publisher) x_.seq x_.content)]) : List Publication).length ttOk rfl rfl rfl rfl rfl rfl rfl rfl rfl rfl rfl rfl rfl ho1 (by simp) (by simp; omega) (by simp; omega) (fun _ _ => rfl) ?_
      intro p9 c7
      refine WX.turn [20, 21] 22 rfl (fun h hs => ol_app hs) (gs := [MF.ol (xs1 ++ [.slice p5 (((spec_l4Copy x_.publisher).parts).length) c5, .int .i64 (x_.seq), .slice p7 ((x_.content).length) c6]) (((spec_l28Copy m).publications ++ [(Publication.mk (spec_l4Copy x_.publisher) x_.seq x_.content)]) : List Publication)]) rfl ?_
      refine WX.run ttOk rfl ?_
      refine WX.back0 ?_
      refine TX.all1 14 (by kernel_rfl) ?_
      refine TS.opK 14 rfl (keeps_pure ttOk rfl) ?_
      refine WX.run ttOk rfl ?_
      refine WX.back0 ?_
      refine TX.tail [15] rfl rfl (by kernel_rfl) ?_
      refine WX.run ttOk rfl ?_
      refine WX.cases 52 rfl (fun h2 => ?_) (fun h2 => ?_)
      · skip
        have h2d := (B.nt h2)
        refine WX.run ttOk rfl ?_
        refine WX.callF 23 (fun _ _ h => GoT.ow_rd h) (fun _ f hf => GoT.fak f hf) rfl rfl rfl rfl rfl (fun _ => rfl) rfl (fun w G bs hI hΓ => f60 w n (by omega) m pmName cmName (hΓ.get 0 rfl) pmVector cmVector (hΓ.get 1 rfl) pmPublications cmPublications (hΓ.get 2 rfl) hokm) (fun _ => rfl) (fun _ => rfl) ?_
        rintro ⟨⟨p10, c8⟩, ⟨p11, c9⟩, ⟨p12, c10⟩⟩ hq5
        have q3 := cM_spec m
        refine WX.run ttOk rfl ?_
        have hP2 : spec_AcceptPublication m x_ = (spec_l28Copy m, false) := by simp only [spec_AcceptPublication, h1, h2, cond_true, cond_false]
        refine WX.ret ttOk rfl ?_
        intro w1 G bs hI hΓ
        rw [hP2]
        exact Post.of [26, 27, 28] ((p10, c8), (p11, c9), (p12, c10)) hI hΓ rfl rfl rfl (And.intro (GoT.okm (α := List Str) (by omega) (ok_Name (ok_Member hq5).1)) (And.intro (GoT.okm (α := List TableEntry) (by omega) (ok_StateVector (ok_Member hq5).2.1)) (GoT.okm (α := List Publication) (by omega) (ok_Member hq5).2.2)))
      · skip
        have h2d := (B.nf h2)
        refine WX.run ttOk rfl ?_
        refine WX.seal 501 22 29 rfl rfl rfl rfl rfl ?_
        refine WX.der 31 (MF.rs .der p1 c1 ((spec_l28Copy m).name.parts)) rfl (fun _ hΓ => (hΓ.get 8 rfl : OwSl _ _ _ _).rd) ?_
        refine WX.der 32 (MF.rs .der p4 c4 ((spec_PutEntry m.vector.entries x_.publisher x_.seq).1)) rfl (fun _ hΓ => (hΓ.get 12 rfl : OwSl _ _ _ _).rd) ?_
        have r4 : (m.vector.entries).length ≤ bd n := (okl (ok_StateVector (ok_Member hokm).2.1)).1
        have r5 : ((spec_PutEntry m.vector.entries x_.publisher x_.seq).1).length ≤ bd (n + 3) := (okl hq3).1
        refine WX.callV rfl rfl rfl rfl rfl (fun _ => rfl) rfl (fun w G bs hI hΓ => f64 w (n + 1) (by omega) (Member.mk ((spec_l28Copy m).name) (StateVector.mk ((spec_PutEntry m.vector.entries x_.publisher x_.seq).1)) ((spec_l28Copy m).publications ++ [(Publication.mk (spec_l4Copy x_.publisher) x_.seq x_.content)])) p1 c1 (hΓ.get 31 rfl) p4 c4 (hΓ.get 32 rfl) p9 c7 (hΓ.get 29 rfl) (And.intro (GoT.okm (α := List Str) (by omega) (ok_Name (ok_Member hq1).1)) (And.intro (okl_mk (by omega) (fun a ha => GoT.okm (by omega) (hfx1 a ha)) : GoT.ok (n + 1) ((spec_PutEntry m.vector.entries x_.publisher x_.seq).1 : List TableEntry)) (okl_mk (by simp; omega) (fun a ha => GoT.okm (show n ≤ (n + 1) by omega) ((all_app (okl (ok_Member hq1).2.2).2 (all_cons (α := Publication) (And.intro hq4 (And.intro (ok_Publication hokx_).2.1 (okl_mk (by omega) (okl (ok_Publication hokx_).2.2).2 : GoT.ok n (x_.content : List UInt8)))) (fun a ha => by cases ha))) a ha)) : GoT.ok (n + 1) (((spec_l28Copy m).publications ++ [(Publication.mk (spec_l4Copy x_.publisher) x_.seq x_.content)]) : List Publication))))) ?_
        intro hq6
        refine WX.run ttOk rfl ?_
        refine WX.cases 56 rfl (fun h3 => ?_) (fun h3 => ?_)
        · skip
          have h3d := (B.nt h3)
          refine WX.run ttOk rfl ?_
          refine WX.callF 33 (fun _ _ h => GoT.ow_rd h) (fun _ f hf => GoT.fak f hf) rfl rfl rfl rfl rfl (fun _ => rfl) rfl (fun w G bs hI hΓ => f60 w n (by omega) m pmName cmName (hΓ.get 0 rfl) pmVector cmVector (hΓ.get 1 rfl) pmPublications cmPublications (hΓ.get 2 rfl) hokm) (fun _ => rfl) (fun _ => rfl) ?_
          rintro ⟨⟨p13, c11⟩, ⟨p14, c12⟩, ⟨p15, c13⟩⟩ hq7
          have q4 := cM_spec m
          refine WX.run ttOk rfl ?_
          have hP3 : spec_AcceptPublication m x_ = (spec_l28Copy m, false) := by simp only [spec_AcceptPublication, h1, h2, h3, cond_true, cond_false]
          refine WX.ret ttOk rfl ?_
          intro w1 G bs hI hΓ
          rw [hP3]
          exact Post.of [36, 37, 38] ((p13, c11), (p14, c12), (p15, c13)) hI hΓ rfl rfl rfl (And.intro (GoT.okm (α := List Str) (by omega) (ok_Name (ok_Member hq7).1)) (And.intro (GoT.okm (α := List TableEntry) (by omega) (ok_StateVector (ok_Member hq7).2.1)) (GoT.okm (α := List Publication) (by omega) (ok_Member hq7).2.2)))
        · skip
          have h3d := (B.nf h3)
          refine WX.run ttOk rfl ?_
          have hP4 : spec_AcceptPublication m x_ = (Member.mk ((spec_l28Copy m).name) (StateVector.mk ((spec_PutEntry m.vector.entries x_.publisher x_.seq).1)) ((spec_l28Copy m).publications ++ [(Publication.mk (spec_l4Copy x_.publisher) x_.seq x_.content)]), true) := by simp only [spec_AcceptPublication, h1, h2, h3, cond_true, cond_false]
          refine WX.ret ttOk rfl ?_
          intro w1 G bs hI hΓ
          rw [hP4]
          exact Post.of [8, 12, 30] ((p1, c1), (p4, c4), (p9, c7)) hI hΓ rfl rfl rfl (And.intro (GoT.okm (α := List Str) (by omega) (ok_Name (ok_Member hq1).1)) (And.intro (okl_mk (by omega) (fun a ha => GoT.okm (by omega) (hfx1 a ha)) : GoT.ok (n + 3) ((spec_PutEntry m.vector.entries x_.publisher x_.seq).1 : List TableEntry)) (okl_mk (by simp; omega) (fun a ha => GoT.okm (by omega) ((fun a ha => GoT.okm (show n ≤ (n + 1) by omega) ((all_app (okl (ok_Member hq1).2.2).2 (all_cons (α := Publication) (And.intro hq4 (And.intro (ok_Publication hokx_).2.1 (okl_mk (by omega) (okl (ok_Publication hokx_).2.2).2 : GoT.ok n (x_.content : List UInt8)))) (fun a ha => by cases ha))) a ha)) a ha)) : GoT.ok (n + 3) (((spec_l28Copy m).publications ++ [(Publication.mk (spec_l4Copy x_.publisher) x_.seq x_.content)]) : List Publication))))
    · skip
      refine TS.op 7 rfl (by kernel_rfl) ?_
      refine WX.bld ttOk rfl rfl rfl rfl rfl rfl rfl ?_
      intro p16
      refine WX.run ttOk rfl ?_
      refine WX.back0 ?_
      refine TX.all1 4 (by kernel_rfl) ?_
      refine TS.callF 4 39 (fun _ _ h => GoT.ow_rd h) (fun _ f hf => GoT.fak f hf) rfl rfl rfl rfl rfl rfl (fun _ => rfl) rfl (fun w G bs hI hΓ => f63 w n (by omega) x_.publisher px_Publisher cx_Publisher (hΓ.get 3 rfl) ((ok_Publication hokx_).1)) (fun _ => rfl) (fun _ => rfl) ?_
      rintro ⟨p17, c14⟩ hq8
      refine TX.all1 10 (by kernel_rfl) ?_
      have r6 : (x_.content).length ≤ bd n := (okl (ok_Publication hokx_).2.2).1
      refine TS.opK 10 rfl (keeps_appG (α := UInt8) 42 4 (x_.content : List UInt8).length ttOk rfl rfl rfl rfl rfl rfl rfl rfl rfl (by simp) (by omega) (by omega) rfl) ?_
      refine WX.free 41 (MF.ol [] ([] : List UInt8)) rfl ?_
      refine WX.appG1 42 4 42 (x_.content : List UInt8).length ttOk rfl rfl rfl rfl rfl rfl rfl rfl rfl rfl rfl rfl rfl (by simp) (by omega) (by omega) (fun _ _ _ => rfl) ?_
      intro ys2 p18 c15
      refine WX.know (fun G hΓ => (hΓ.get 42 rfl : RdL _ _ _).flat) ?_
      intro hf2
      refine WX.turn [41] 43 rfl (fun h hs => ol_flat hs hf2) (gs := [MF.ol ([] ++ ys2) (x_.content : List UInt8)]) rfl ?_
      refine WX.run ttOk rfl ?_
      refine WX.back0 ?_
      refine TX.all1 11 (by kernel_rfl) ?_
      refine TS.opK 11 rfl (keeps_pure ttOk rfl) ?_
      refine WX.run ttOk rfl ?_
      refine WX.back0 ?_
      refine TX.all1 12 (by kernel_rfl) ?_
      refine TS.op 12 rfl (by kernel_rfl) ?_
      refine WX.seal 42 43 44 rfl rfl rfl rfl rfl ?_
      refine WX.bld ttOk rfl rfl rfl rfl rfl rfl rfl ?_
      intro p19
      refine WX.run ttOk rfl ?_
      refine WX.back0 ?_
      refine TX.all1 13 (by kernel_rfl) ?_
      refine TS.op 13 rfl (by kernel_rfl) ?_
      refine WX.opn (kk := 3) 502 10 46 rfl rfl rfl ?_
      intro xs2 hx2
      refine WX.turn [40, 45] 47 rfl (fun h hs => ol_one (α := Publication) (a := (Publication.mk (spec_l4Copy x_.publisher) x_.seq x_.content)) (x := ((p17, c14), (), (p18, c15))) hs) (gs := [MF.ol [.slice p17 (((spec_l4Copy x_.publisher).parts).length) c14, .int .i64 (x_.seq), .slice p18 ((x_.content).length) c15] ([(Publication.mk (spec_l4Copy x_.publisher) x_.seq x_.content)] : List Publication)]) rfl ?_
      have r7 : -9223372036854775808 ≤ x_.seq ∧ x_.seq ≤ 9223372036854775807 := (ok_Publication hokx_).2.1
      have r8 : ((spec_l28Copy m).publications).length ≤ bd n := (okl (ok_Member hq1).2.2).1
      refine WX.know (fun G hΓ => (hΓ.get 47 rfl : OwL _ _ _).rd.one) ?_
      intro ho2
      refine WX.appR1 502 47 (((spec_l28Copy m).publications ++ [(Publication.mk (spec_l4Copy x_.publisher) x_.seq x_.content)]) : List Publication).length ttOk rfl rfl rfl rfl rfl rfl rfl rfl rfl rfl rfl rfl rfl ho2 (by simp) (by simp; omega) (by simp; omega) (fun _ _ => rfl) ?_
      intro p20 c16
      refine WX.turn [46, 47] 48 rfl (fun h hs => ol_app hs) (gs := [MF.ol (xs2 ++ [.slice p17 (((spec_l4Copy x_.publisher).parts).length) c14, .int .i64 (x_.seq), .slice p18 ((x_.content).length) c15]) (((spec_l28Copy m).publications ++ [(Publication.mk (spec_l4Copy x_.publisher) x_.seq x_.content)]) : List Publication)]) rfl ?_
      refine WX.run ttOk rfl ?_
      refine WX.back0 ?_
      refine TX.all1 14 (by kernel_rfl) ?_
      refine TS.opK 14 rfl (keeps_pure ttOk rfl) ?_
      refine WX.run ttOk rfl ?_
      refine WX.back0 ?_
      refine TX.tail [15] rfl rfl (by kernel_rfl) ?_
      refine WX.run ttOk rfl ?_
      refine WX.cases 52 rfl (fun h4 => ?_) (fun h4 => ?_)
      · skip
        have h4d := (B.nt h4)
        refine WX.run ttOk rfl ?_
        refine WX.callF 49 (fun _ _ h => GoT.ow_rd h) (fun _ f hf => GoT.fak f hf) rfl rfl rfl rfl rfl (fun _ => rfl) rfl (fun w G bs hI hΓ => f60 w n (by omega) m pmName cmName (hΓ.get 0 rfl) pmVector cmVector (hΓ.get 1 rfl) pmPublications cmPublications (hΓ.get 2 rfl) hokm) (fun _ => rfl) (fun _ => rfl) ?_
        rintro ⟨⟨p21, c17⟩, ⟨p22, c18⟩, ⟨p23, c19⟩⟩ hq9
        have q5 := cM_spec m
        refine WX.run ttOk rfl ?_
        have hP5 : spec_AcceptPublication m x_ = (spec_l28Copy m, false) := by simp only [spec_AcceptPublication, h1, h4, cond_true, cond_false]
        refine WX.ret ttOk rfl ?_
        intro w1 G bs hI hΓ
        rw [hP5]
        exact Post.of [52, 53, 54] ((p21, c17), (p22, c18), (p23, c19)) hI hΓ rfl rfl rfl (And.intro (GoT.okm (α := List Str) (by omega) (ok_Name (ok_Member hq9).1)) (And.intro (GoT.okm (α := List TableEntry) (by omega) (ok_StateVector (ok_Member hq9).2.1)) (GoT.okm (α := List Publication) (by omega) (ok_Member hq9).2.2)))
      · skip
        have h4d := (B.nf h4)
        refine WX.run ttOk rfl ?_
        refine WX.seal 502 48 55 rfl rfl rfl rfl rfl ?_
        refine WX.der 57 (MF.rs .der p1 c1 ((spec_l28Copy m).name.parts)) rfl (fun _ hΓ => (hΓ.get 8 rfl : OwSl _ _ _ _).rd) ?_
        refine WX.der 58 (MF.rs .der p4 c4 ((spec_PutEntry m.vector.entries x_.publisher x_.seq).1)) rfl (fun _ hΓ => (hΓ.get 12 rfl : OwSl _ _ _ _).rd) ?_
        have r9 : (m.vector.entries).length ≤ bd n := (okl (ok_StateVector (ok_Member hokm).2.1)).1
        have r10 : ((spec_PutEntry m.vector.entries x_.publisher x_.seq).1).length ≤ bd (n + 3) := (okl hq3).1
        refine WX.callV rfl rfl rfl rfl rfl (fun _ => rfl) rfl (fun w G bs hI hΓ => f64 w (n + 1) (by omega) (Member.mk ((spec_l28Copy m).name) (StateVector.mk ((spec_PutEntry m.vector.entries x_.publisher x_.seq).1)) ((spec_l28Copy m).publications ++ [(Publication.mk (spec_l4Copy x_.publisher) x_.seq x_.content)])) p1 c1 (hΓ.get 57 rfl) p4 c4 (hΓ.get 58 rfl) p20 c16 (hΓ.get 55 rfl) (And.intro (GoT.okm (α := List Str) (by omega) (ok_Name (ok_Member hq1).1)) (And.intro (okl_mk (by omega) (fun a ha => GoT.okm (by omega) (hfx1 a ha)) : GoT.ok (n + 1) ((spec_PutEntry m.vector.entries x_.publisher x_.seq).1 : List TableEntry)) (okl_mk (by simp; omega) (fun a ha => GoT.okm (show n ≤ (n + 1) by omega) ((all_app (okl (ok_Member hq1).2.2).2 (all_cons (α := Publication) (And.intro hq8 (And.intro (ok_Publication hokx_).2.1 (okl_mk (by omega) (okl (ok_Publication hokx_).2.2).2 : GoT.ok n (x_.content : List UInt8)))) (fun a ha => by cases ha))) a ha)) : GoT.ok (n + 1) (((spec_l28Copy m).publications ++ [(Publication.mk (spec_l4Copy x_.publisher) x_.seq x_.content)]) : List Publication))))) ?_
        intro hq10
        refine WX.run ttOk rfl ?_
        refine WX.cases 56 rfl (fun h5 => ?_) (fun h5 => ?_)
        · skip
          have h5d := (B.nt h5)
          refine WX.run ttOk rfl ?_
          refine WX.callF 59 (fun _ _ h => GoT.ow_rd h) (fun _ f hf => GoT.fak f hf) rfl rfl rfl rfl rfl (fun _ => rfl) rfl (fun w G bs hI hΓ => f60 w n (by omega) m pmName cmName (hΓ.get 0 rfl) pmVector cmVector (hΓ.get 1 rfl) pmPublications cmPublications (hΓ.get 2 rfl) hokm) (fun _ => rfl) (fun _ => rfl) ?_
          rintro ⟨⟨p24, c20⟩, ⟨p25, c21⟩, ⟨p26, c22⟩⟩ hq11
          have q6 := cM_spec m
          refine WX.run ttOk rfl ?_
          have hP6 : spec_AcceptPublication m x_ = (spec_l28Copy m, false) := by simp only [spec_AcceptPublication, h1, h4, h5, cond_true, cond_false]
          refine WX.ret ttOk rfl ?_
          intro w1 G bs hI hΓ
          rw [hP6]
          exact Post.of [62, 63, 64] ((p24, c20), (p25, c21), (p26, c22)) hI hΓ rfl rfl rfl (And.intro (GoT.okm (α := List Str) (by omega) (ok_Name (ok_Member hq11).1)) (And.intro (GoT.okm (α := List TableEntry) (by omega) (ok_StateVector (ok_Member hq11).2.1)) (GoT.okm (α := List Publication) (by omega) (ok_Member hq11).2.2)))
        · skip
          have h5d := (B.nf h5)
          refine WX.run ttOk rfl ?_
          have hP7 : spec_AcceptPublication m x_ = (Member.mk ((spec_l28Copy m).name) (StateVector.mk ((spec_PutEntry m.vector.entries x_.publisher x_.seq).1)) ((spec_l28Copy m).publications ++ [(Publication.mk (spec_l4Copy x_.publisher) x_.seq x_.content)]), true) := by simp only [spec_AcceptPublication, h1, h4, h5, cond_true, cond_false]
          refine WX.ret ttOk rfl ?_
          intro w1 G bs hI hΓ
          rw [hP7]
          exact Post.of [8, 12, 56] ((p1, c1), (p4, c4), (p20, c16)) hI hΓ rfl rfl rfl (And.intro (GoT.okm (α := List Str) (by omega) (ok_Name (ok_Member hq1).1)) (And.intro (okl_mk (by omega) (fun a ha => GoT.okm (by omega) (hfx1 a ha)) : GoT.ok (n + 3) ((spec_PutEntry m.vector.entries x_.publisher x_.seq).1 : List TableEntry)) (okl_mk (by simp; omega) (fun a ha => GoT.okm (by omega) ((fun a ha => GoT.okm (show n ≤ (n + 1) by omega) ((all_app (okl (ok_Member hq1).2.2).2 (all_cons (α := Publication) (And.intro hq8 (And.intro (ok_Publication hokx_).2.1 (okl_mk (by omega) (okl (ok_Publication hokx_).2.2).2 : GoT.ok n (x_.content : List UInt8)))) (fun a ha => by cases ha))) a ha)) a ha)) : GoT.ok (n + 3) (((spec_l28Copy m).publications ++ [(Publication.mk (spec_l4Copy x_.publisher) x_.seq x_.content)]) : List Publication))))
theorem f23 (w : World) (n : Nat) (hn : n + 3 ≤ 9) (m : Member) (pmName : Option Addr) (cmName : Nat) (hpmName : RdSl (hp w) pmName cmName m.name.parts) (pmVector : Option Addr) (cmVector : Nat) (hpmVector : RdSl (hp w) pmVector cmVector m.vector.entries) (pmPublications : Option Addr) (cmPublications : Nat) (hpmPublications : RdSl (hp w) pmPublications cmPublications m.publications) (b : (List UInt8)) (pb : Option Addr) (cb : Nat) (hpb : RdSl (hp w) pb cb b) (hokm : GoT.ok n m) (hokb : GoT.ok n b) :
    Does Tryz.prog 23 #[.agg #[.slice pmName ((m.name.parts).length) cmName, .slice pmVector ((m.vector.entries).length) cmVector, .slice pmPublications ((m.publications).length) cmPublications], .slice pb ((b).length) cb] w emp (Post w emp (fun x : GoT.X (Member) => .tuple #[.agg ⟨GoT.sh ((impl_Publish m b).1 : Member) x⟩, .bool ((impl_Publish m b).2)]) (fun x => GoT.oa ((impl_Publish m b).1 : Member) x) (GoT.ok (n + 3) ((impl_Publish m b).1 : Member))) := by
  have hbP := bd_pos n
  have hbS0 : bd (n + 1) = 4 * bd (n) := bd_succ (n := n) (by omega)
  have hbS1 : bd (n + 2) = 4 * bd (n + 1) := bd_succ (n := n + 1) (by omega)
  have hbS2 : bd (n + 3) = 4 * bd (n + 2) := bd_succ (n := n + 2) (by omega)
  have hbB := bd_big (n := (n + 3)) (by omega)
  have hbM := bd_mono (show n ≤ n + 3 by omega)
  refine WX.enter (tt := tt) (Γ := [(0, MF.rs .stb pmName cmName m.name.parts), (1, MF.rs .stb pmVector cmVector m.vector.entries), (2, MF.rs .stb pmPublications cmPublications m.publications), (3, MF.rs .stb pb cb b)]) Tryz.func23 rfl (by kernel_rfl) rfl (allS_cons rfl hpmName (allS_cons rfl hpmVector (allS_cons rfl hpmPublications (allS_cons rfl hpb allS_nil)))) ?_
  refine WX.run ttOk rfl ?_
  refine WX.draw [14, 15] mixed ?_
  intro bs G0 hΓ0
  refine DX.takes (fuel := 8) ttOk [(0, false), (1, true), (2, false), (3, true), (4, false), (5, true), (6, false), (9, true)] (by kernel_rfl) rfl ?_
  refine DX.callV 7 rfl (by kernel_rfl) rfl rfl rfl rfl rfl rfl (fun _ => rfl) rfl (fun w G bs hI hΓ => f69 w n (by omega) m.vector pmVector cmVector (hΓ.get 1 rfl) m.name pmName cmName (hΓ.get 0 rfl) ((ok_Member hokm).2.1) ((ok_Member hokm).1)) ?_
  intro hq1
  refine DX.seeP 8 (by kernel_rfl) rfl rfl rfl rfl (looksP_wrap rfl rfl rfl rfl) ?_
  refine DX.takes (fuel := 5) ttOk [(10, true)] (by kernel_rfl) rfl ?_
  refine DX.callF 11 4 (fun _ _ h => GoT.ow_rd h) (fun _ f hf => GoT.fak f hf) rfl (by kernel_rfl) rfl rfl rfl rfl rfl rfl (fun _ => rfl) rfl (fun w G bs hI hΓ => f15 w n (by omega) m pmName cmName (hΓ.get 0 rfl) pmVector cmVector (hΓ.get 1 rfl) pmPublications cmPublications (hΓ.get 2 rfl) (Publication.mk m.name (IntKind.i64.wrap ((impl_SeqOf m.vector m.name) + 1)) b) pmName cmName (hΓ.get 0 rfl) pb cb (hΓ.get 3 rfl) hokm (And.intro (ok_Member hokm).1 (And.intro (i64_wrap _) hokb))) (fun _ => rfl) (fun _ => rfl) ?_
  rintro ⟨⟨p1, c1⟩, ⟨p2, c2⟩, ⟨p3, c3⟩⟩ hq2
  have q1 := (ap_impl m (Publication.mk m.name (IntKind.i64.wrap ((impl_SeqOf m.vector m.name) + 1)) b)).lenN
  have q2 := (ap_impl m (Publication.mk m.name (IntKind.i64.wrap ((impl_SeqOf m.vector m.name) + 1)) b)).lenE
  have q3 := (ap_impl m (Publication.mk m.name (IntKind.i64.wrap ((impl_SeqOf m.vector m.name) + 1)) b)).lenP
  have hsh1 := ap_impl m (Publication.mk m.name (IntKind.i64.wrap ((impl_SeqOf m.vector m.name) + 1)) b)
  have hfx1 := hsh1.elsN (k := n) (okl (ok_Name (ok_Member hokm).1)).2 (And.intro (ok_Member hokm).1 (And.intro (i64_wrap _) hokb))
  have hfx2 := hsh1.elsE (k := n) (okl (ok_StateVector (ok_Member hokm).2.1)).2 (And.intro (ok_Member hokm).1 (And.intro (i64_wrap _) hokb))
  have hfx3 := hsh1.elsP (k := n) (okl (ok_Member hokm).2.2).2 (And.intro (ok_Member hokm).1 (And.intro (i64_wrap _) hokb))
  refine DX.takes (fuel := 2) ttOk [(12, true), (13, true)] (by kernel_rfl) rfl ?_
  refine DX.tail2 [14, 15] rfl rfl (by kernel_rfl) ?_
  refine WX.run ttOk rfl ?_
  have hP1 : impl_Publish m b = ((impl_AcceptPublication m (Publication.mk m.name (IntKind.i64.wrap ((impl_SeqOf m.vector m.name) + 1)) b)).1, (impl_AcceptPublication m (Publication.mk m.name (IntKind.i64.wrap ((impl_SeqOf m.vector m.name) + 1)) b)).2) := by simp only [impl_Publish, cond_true, cond_false]
  have r1 : (b).length ≤ bd n := (okl hokb).1
  have r2 : -9223372036854775808 ≤ (impl_SeqOf m.vector m.name) ∧ (impl_SeqOf m.vector m.name) ≤ 9223372036854775807 := hq1
  have r3 : ((impl_AcceptPublication m (Publication.mk m.name (IntKind.i64.wrap ((impl_SeqOf m.vector m.name) + 1)) b)).1.name.parts).length ≤ bd (n + 3) := (okl (ok_Name (ok_Member hq2).1)).1
  have r4 : ((impl_AcceptPublication m (Publication.mk m.name (IntKind.i64.wrap ((impl_SeqOf m.vector m.name) + 1)) b)).1.vector.entries).length ≤ bd (n + 3) := (okl (ok_StateVector (ok_Member hq2).2.1)).1
  have r5 : ((impl_AcceptPublication m (Publication.mk m.name (IntKind.i64.wrap ((impl_SeqOf m.vector m.name) + 1)) b)).1.publications).length ≤ bd (n + 3) := (okl (ok_Member hq2).2.2).1
  refine WX.ret ttOk rfl ?_
  intro w1 G bs hI hΓ
  rw [hP1]
  exact Post.of [7, 8, 9] ((p1, c1), (p2, c2), (p3, c3)) hI hΓ rfl rfl rfl (And.intro (okl_mk (by omega) (fun a ha => GoT.okm (by omega) (hfx1 a ha)) : GoT.ok (n + 3) ((impl_AcceptPublication m (Publication.mk m.name (IntKind.i64.wrap ((impl_SeqOf m.vector m.name) + 1)) b)).1.name.parts : List Str)) (And.intro (okl_mk (by omega) (fun a ha => GoT.okm (by omega) (hfx2 a ha)) : GoT.ok (n + 3) ((impl_AcceptPublication m (Publication.mk m.name (IntKind.i64.wrap ((impl_SeqOf m.vector m.name) + 1)) b)).1.vector.entries : List TableEntry)) (okl_mk (by omega) (fun a ha => GoT.okm (by omega) (hfx3 a ha)) : GoT.ok (n + 3) ((impl_AcceptPublication m (Publication.mk m.name (IntKind.i64.wrap ((impl_SeqOf m.vector m.name) + 1)) b)).1.publications : List Publication))))
theorem f21 (w : World) (n : Nat) (hn : n + 3 ≤ 9) (m : Member) (pmName : Option Addr) (cmName : Nat) (hpmName : RdSl (hp w) pmName cmName m.name.parts) (pmVector : Option Addr) (cmVector : Nat) (hpmVector : RdSl (hp w) pmVector cmVector m.vector.entries) (pmPublications : Option Addr) (cmPublications : Nat) (hpmPublications : RdSl (hp w) pmPublications cmPublications m.publications) (b : (List UInt8)) (pb : Option Addr) (cb : Nat) (hpb : RdSl (hp w) pb cb b) (hokm : GoT.ok n m) (hokb : GoT.ok n b) :
    Does Tryz.prog 21 #[.agg #[.slice pmName ((m.name.parts).length) cmName, .slice pmVector ((m.vector.entries).length) cmVector, .slice pmPublications ((m.publications).length) cmPublications], .slice pb ((b).length) cb] w emp (Post w emp (fun x : GoT.X (Member) => .tuple #[.agg ⟨GoT.sh ((spec_Publish m b).1 : Member) x⟩, .bool ((spec_Publish m b).2)]) (fun x => GoT.oa ((spec_Publish m b).1 : Member) x) (GoT.ok (n + 3) ((spec_Publish m b).1 : Member))) := by
  have hbP := bd_pos n
  have hbS0 : bd (n + 1) = 4 * bd (n) := bd_succ (n := n) (by omega)
  have hbS1 : bd (n + 2) = 4 * bd (n + 1) := bd_succ (n := n + 1) (by omega)
  have hbS2 : bd (n + 3) = 4 * bd (n + 2) := bd_succ (n := n + 2) (by omega)
  have hbB := bd_big (n := (n + 3)) (by omega)
  have hbM := bd_mono (show n ≤ n + 3 by omega)
  refine WX.enter (tt := tt) (Γ := [(0, MF.rs .stb pmName cmName m.name.parts), (1, MF.rs .stb pmVector cmVector m.vector.entries), (2, MF.rs .stb pmPublications cmPublications m.publications), (3, MF.rs .stb pb cb b)]) Tryz.func21 rfl (by kernel_rfl) rfl (allS_cons rfl hpmName (allS_cons rfl hpmVector (allS_cons rfl hpmPublications (allS_cons rfl hpb allS_nil)))) ?_
  refine WX.run ttOk rfl ?_
  refine WX.draw [14, 15] mixed ?_
  intro bs G0 hΓ0
  refine DX.takes (fuel := 8) ttOk [(0, false), (1, true), (2, false), (3, true), (4, false), (5, true), (6, false), (9, true)] (by kernel_rfl) rfl ?_
  refine DX.callV 7 rfl (by kernel_rfl) rfl rfl rfl rfl rfl rfl (fun _ => rfl) rfl (fun w G bs hI hΓ => f61 w n (by omega) m.vector pmVector cmVector (hΓ.get 1 rfl) m.name pmName cmName (hΓ.get 0 rfl) ((ok_Member hokm).2.1) ((ok_Member hokm).1)) ?_
  intro hq1
  refine DX.seeP 8 (by kernel_rfl) rfl rfl rfl rfl (looksP_wrap rfl rfl rfl rfl) ?_
  refine DX.takes (fuel := 5) ttOk [(10, true)] (by kernel_rfl) rfl ?_
  refine DX.callF 11 4 (fun _ _ h => GoT.ow_rd h) (fun _ f hf => GoT.fak f hf) rfl (by kernel_rfl) rfl rfl rfl rfl rfl rfl (fun _ => rfl) rfl (fun w G bs hI hΓ => f12 w n (by omega) m pmName cmName (hΓ.get 0 rfl) pmVector cmVector (hΓ.get 1 rfl) pmPublications cmPublications (hΓ.get 2 rfl) (Publication.mk m.name (IntKind.i64.wrap ((spec_SeqOf m.vector m.name) + 1)) b) pmName cmName (hΓ.get 0 rfl) pb cb (hΓ.get 3 rfl) hokm (And.intro (ok_Member hokm).1 (And.intro (i64_wrap _) hokb))) (fun _ => rfl) (fun _ => rfl) ?_
  rintro ⟨⟨p1, c1⟩, ⟨p2, c2⟩, ⟨p3, c3⟩⟩ hq2
  have q1 := (ap_spec m (Publication.mk m.name (IntKind.i64.wrap ((spec_SeqOf m.vector m.name) + 1)) b)).lenN
  have q2 := (ap_spec m (Publication.mk m.name (IntKind.i64.wrap ((spec_SeqOf m.vector m.name) + 1)) b)).lenE
  have q3 := (ap_spec m (Publication.mk m.name (IntKind.i64.wrap ((spec_SeqOf m.vector m.name) + 1)) b)).lenP
  have hsh1 := ap_spec m (Publication.mk m.name (IntKind.i64.wrap ((spec_SeqOf m.vector m.name) + 1)) b)
  have hfx1 := hsh1.elsN (k := n) (okl (ok_Name (ok_Member hokm).1)).2 (And.intro (ok_Member hokm).1 (And.intro (i64_wrap _) hokb))
  have hfx2 := hsh1.elsE (k := n) (okl (ok_StateVector (ok_Member hokm).2.1)).2 (And.intro (ok_Member hokm).1 (And.intro (i64_wrap _) hokb))
  have hfx3 := hsh1.elsP (k := n) (okl (ok_Member hokm).2.2).2 (And.intro (ok_Member hokm).1 (And.intro (i64_wrap _) hokb))
  refine DX.takes (fuel := 2) ttOk [(12, true), (13, true)] (by kernel_rfl) rfl ?_
  refine DX.tail2 [14, 15] rfl rfl (by kernel_rfl) ?_
  refine WX.run ttOk rfl ?_
  have hP1 : spec_Publish m b = ((spec_AcceptPublication m (Publication.mk m.name (IntKind.i64.wrap ((spec_SeqOf m.vector m.name) + 1)) b)).1, (spec_AcceptPublication m (Publication.mk m.name (IntKind.i64.wrap ((spec_SeqOf m.vector m.name) + 1)) b)).2) := by simp only [spec_Publish, cond_true, cond_false]
  have r1 : (b).length ≤ bd n := (okl hokb).1
  have r2 : -9223372036854775808 ≤ (spec_SeqOf m.vector m.name) ∧ (spec_SeqOf m.vector m.name) ≤ 9223372036854775807 := hq1
  have r3 : ((spec_AcceptPublication m (Publication.mk m.name (IntKind.i64.wrap ((spec_SeqOf m.vector m.name) + 1)) b)).1.name.parts).length ≤ bd (n + 3) := (okl (ok_Name (ok_Member hq2).1)).1
  have r4 : ((spec_AcceptPublication m (Publication.mk m.name (IntKind.i64.wrap ((spec_SeqOf m.vector m.name) + 1)) b)).1.vector.entries).length ≤ bd (n + 3) := (okl (ok_StateVector (ok_Member hq2).2.1)).1
  have r5 : ((spec_AcceptPublication m (Publication.mk m.name (IntKind.i64.wrap ((spec_SeqOf m.vector m.name) + 1)) b)).1.publications).length ≤ bd (n + 3) := (okl (ok_Member hq2).2.2).1
  refine WX.ret ttOk rfl ?_
  intro w1 G bs hI hΓ
  rw [hP1]
  exact Post.of [7, 8, 9] ((p1, c1), (p2, c2), (p3, c3)) hI hΓ rfl rfl rfl (And.intro (okl_mk (by omega) (fun a ha => GoT.okm (by omega) (hfx1 a ha)) : GoT.ok (n + 3) ((spec_AcceptPublication m (Publication.mk m.name (IntKind.i64.wrap ((spec_SeqOf m.vector m.name) + 1)) b)).1.name.parts : List Str)) (And.intro (okl_mk (by omega) (fun a ha => GoT.okm (by omega) (hfx2 a ha)) : GoT.ok (n + 3) ((spec_AcceptPublication m (Publication.mk m.name (IntKind.i64.wrap ((spec_SeqOf m.vector m.name) + 1)) b)).1.vector.entries : List TableEntry)) (okl_mk (by omega) (fun a ha => GoT.okm (by omega) (hfx3 a ha)) : GoT.ok (n + 3) ((spec_AcceptPublication m (Publication.mk m.name (IntKind.i64.wrap ((spec_SeqOf m.vector m.name) + 1)) b)).1.publications : List Publication))))
end Go.Proofs.YtfffongneoegbaaGreat

namespace Go.Stp
theorem mid {α : Type} (p : List α) (e : α) (l : List α) : (p ++ e :: l)[p.length]? = some e := by simp
theorem mid_set {α : Type} (p : List α) (e x : α) (l : List α) : (p ++ e :: l).set p.length x = (p ++ [x]) ++ l := by simp
theorem mid_app {α : Type} (p : List α) (e : α) (l : List α) : (p ++ [e]) ++ l = p ++ e :: l := by simp
theorem mid_len {α : Type} (p : List α) (e : α) : (p ++ [e]).length = p.length + 1 := by simp
def SzR (r left : Int) (s : Nat) : Prop := r = -1 ∨ ((s : Int) ≤ left ∧ r = left - s)
theorem SzR.pos {r left : Int} {s : Nat} (h : SzR r left s) (hr : 0 ≤ r) : (s : Int) ≤ left ∧ r = left - s := by
  rcases h with h | h
  · omega
  · exact h
def SzL (r : Ctl Int Int) (left : Int) (s : Nat) : Prop := r = .ret (-1) ∨ ((s : Int) ≤ left ∧ r = .nxt (left - s))
theorem dF {x : Int} (h : 0 ≤ x) : decide (x < 0) = false := decide_eq_false (by omega)
theorem dT {x : Int} (h : x < 0) : decide (x < 0) = true := decide_eq_true h
theorem wrap_sub {x : Int} {n : Nat} (h0 : 0 ≤ x) (h1 : x ≤ 1048576) (hn : n ≤ 9223372036854775807) : IntKind.i64.wrap (x - (n : Int)) = x - n := wrap_i64 (by unfold I64; omega)
theorem wrap1 {x : Int} (h0 : 0 ≤ x) (h1 : x ≤ 4611686018427387904) : IntKind.i64.wrap (x + 1) = x + 1 := wrap_i64 (by unfold I64; omega)
theorem szL_cons {α : Type} [GoT α] [Sz α] (a : α) (l : List α) : szL (a :: l) = sz a + szL l := by simp [szL]
theorem szL_nil {α : Type} [GoT α] [Sz α] : szL ([] : List α) = 0 := rfl
theorem szL_zero {α : Type} [GoT α] [Sz α] (h : ∀ a : α, sz a = 0) : ∀ l : List α, szL l = 0
  | [] => rfl
  | a :: l => by rw [szL_cons, h a, szL_zero h l]
theorem szL_u8 (l : List UInt8) : szL l = 0 := szL_zero (fun _ => rfl) l
def MkR (k k' : Int) (s : Nat) (held : Int) : Prop := k ≤ k' ∧ k' ≤ k + 16 * (s : Int) ∧ held = k'
theorem bne_self_F {α : Type} [BEq α] [LawfulBEq α] (a : α) : (a != a) = false := by simp
theorem nbeq_self_F {α : Type} [BEq α] [LawfulBEq α] (a : α) : (!(a == a)) = false := by simp
theorem bytesLess_self : ∀ l : List UInt8, Op.bytesLess l l = false
  | [] => rfl
  | a :: l => by simp [Op.bytesLess, bytesLess_self l]
theorem l4_zero (a b : List UInt8) : ((bif Op.bytesLess a b then (-1) else bif (!(Op.bytesLess a b || a == b)) then 1 else 0 : Int) = 0) ↔ a = b := by
  cases h : Op.bytesLess a b
  · by_cases e : a = b
    · simp [e]
    · have : (a == b) = false := by simpa using e
      simp [this, e]
  · constructor
    · intro x; simp at x
    · intro e; rw [e, bytesLess_self] at h; cases h
end Go.Stp

namespace Go.Stp
set_option linter.unusedVariables false
set_option linter.unusedSimpArgs false
theorem eqL_StringS : ∀ (l p : (List Str)), laws_eqStringS_L1 (p ++ l) l p.length = none
  | [], _ => rfl
  | e :: l, p => by
    have ih := eqL_StringS l (p ++ [e])
    rw [mid_app, mid_len] at ih
    simp only [laws_eqStringS_L1, mid, bne_self_F, nbeq_self_F, cond_false]
    exact ih
theorem eq_StringS (a : (List Str)) : laws_eqStringS a a = true := by
  have h := eqL_StringS a []
  simp only [List.nil_append, List.length_nil] at h
  simp only [laws_eqStringS, bne_self_F, cond_false, h]
theorem toL_StringS : ∀ (l p z : (List Str)), z.length = l.length → laws_toStringS_L1 l p.length (p ++ z) = p ++ l
  | [], p, [], _ => rfl
  | e :: l, p, y :: z, h => by
    have ih := toL_StringS l (p ++ [e]) z (by simpa using h)
    rw [mid_app p e l, mid_len] at ih
    simp only [laws_toStringS_L1, mid, mid_set]
    exact ih
theorem to_StringS (a : (List Str)) : laws_toStringS a = a := by
  simp only [laws_toStringS]
  exact toL_StringS a [] _ (by simp)
theorem szL_StringS_R : ∀ (l : (List Str)) (left : Int), (∀ a ∈ l, GoT.ok 10 a) → 0 ≤ left → left ≤ 1048576 → SzL (laws_szStringS_L1 l left) left (szL l)
  | [], left, _, h0, _ => .inr ⟨by simp [szL_nil]; omega, by simp [szL_nil, laws_szStringS_L1]⟩
  | e :: l, left, hk, h0, h1 => by
    have he : e.size ≤ 9223372036854775807 := hk e List.mem_cons_self
    rw [szL_cons, sz_str]
    unfold laws_szStringS_L1
    rw [wrap_sub h0 h1 he]
    by_cases hc : left - (e.size : Int) < 0
    · rw [dT hc, cond_true]; exact .inl rfl
    · rw [dF (by omega), cond_false]
      rcases szL_StringS_R l (left - (e.size : Int)) (fun a ha => hk a (List.mem_cons_of_mem _ ha)) (by omega) (by omega) with r | ⟨q, r⟩
      · exact .inl r
      · exact .inr ⟨by omega, by rw [r]; congr 1; omega⟩
theorem sz_StringS_R (a : (List Str)) (left : Int) (h : GoT.ok 10 a) (h0 : 0 ≤ left) (h1 : left ≤ 1048576) : SzR (laws_szStringS a left) left (sz a) := by
  have hl : a.length ≤ 9223372036854775807 := h.1
  rw [sz_list]
  unfold laws_szStringS
  rw [wrap_sub h0 h1 hl]
  by_cases hc : left - (a.length : Int) < 0
  · rw [dT hc, cond_true]; exact .inl rfl
  · rw [dF (by omega), cond_false]
    rcases szL_StringS_R a (left - (a.length : Int)) h.2 (by omega) (by omega) with r | ⟨q, r⟩
    · rw [r]; exact .inl rfl
    · rw [r]; exact .inr ⟨by omega, by show left - (a.length : Int) - (szL a : Int) = _; omega⟩
theorem mkL_StringS : ∀ (l p : (List Str)) (k : Int), 0 ≤ k → k + 16 * ((l.length : Int) + szL l) ≤ 4611686018427387904 → ∃ l' k', laws_markStringS_L1 l.length p.length (p ++ l) k = (p ++ l', k') ∧ k ≤ k' ∧ k' ≤ k + 16 * ((l.length : Int) + szL l) ∧ laws_heldStringS_L1 l' k = .nxt k'
  | [], p, k, _, _ => ⟨[], k, rfl, by omega, by simp [szL_nil], rfl⟩
  | e :: l, p, k, h0, hb => by
    rw [szL_cons, List.length_cons] at hb
    have w1 := wrap1 (x := k) (by omega) (by omega)
    obtain ⟨l', k', r1, r2, r3, r4⟩ := mkL_StringS l (p ++ [(laws_markText k)]) (k + 1) (by omega) (by omega)
    rw [mid_len] at r1
    refine ⟨(laws_markText k) :: l', k', ?_, by omega, by rw [szL_cons, List.length_cons]; omega, ?_⟩
    · simp only [List.length_cons, laws_markStringS_L1, mid, mid_set, w1]
      rw [r1, mid_app]
    · simp only [laws_heldStringS_L1, bne_self_F, nbeq_self_F, cond_false, w1]
      exact r4
theorem mk_StringS (a : (List Str)) (k : Int) (h0 : 0 ≤ k) (hb : k + 16 * (sz a : Int) ≤ 4611686018427387904) : MkR k (laws_markStringS a k).1 (sz a) (laws_heldStringS (laws_markStringS a k).2 k) := by
  rw [sz_list] at hb ⊢
  obtain ⟨l', k', r1, r2, r3, r4⟩ := mkL_StringS a [] k h0 (by omega)
  simp only [List.nil_append, List.length_nil] at r1
  simp only [laws_markStringS, r1, laws_heldStringS, r4]
  exact ⟨r2, by omega, rfl⟩
theorem eq_Name (a : Name) : laws_eqName a a = true := by
  simp only [laws_eqName, bne_self_F, nbeq_self_F, cond_false, Bool.not_true, eq_StringS]
theorem to_Name (a : Name) : laws_toName a = a := by
  simp only [laws_toName, to_StringS]
theorem sz_Name_R (a : Name) (left : Int) (h : GoT.ok 10 a) (h0 : 0 ≤ left) (h1 : left ≤ 1048576) : SzR (laws_szName a left) left (sz a) := by
  rw [sz_Name]
  unfold laws_szName
  rcases sz_StringS_R a.parts left (ok_Name h) (by omega) (by omega) with r0 | ⟨q0, r0⟩
  · rw [r0]; exact .inl rfl
  rw [r0, dF (by omega), cond_false]
  exact .inr ⟨by omega, by omega⟩
theorem mk_Name (a : Name) (k : Int) (h0 : 0 ≤ k) (hb : k + 16 * (sz a : Int) ≤ 4611686018427387904) : MkR k (laws_markName a k).1 (sz a) (laws_heldName (laws_markName a k).2 k) := by
  rw [sz_Name] at hb ⊢
  obtain ⟨p0, q0, e0⟩ := mk_StringS a.parts (k) (by omega) (by omega)
  have d0 := dF (show 0 ≤ (laws_markStringS a.parts (k)).1 by omega)
  have f0 : (laws_markName a k).2.parts = (laws_markStringS a.parts (k)).2 := rfl
  refine ⟨show k ≤ (laws_markStringS a.parts (k)).1 by omega, show (laws_markStringS a.parts (k)).1 ≤ _ by omega, ?_⟩
  show _ = (laws_markStringS a.parts (k)).1
  simp only [laws_heldName, f0, e0, d0, cond_false]
theorem eq_TableEntry (a : TableEntry) : laws_eqTableEntry a a = true := by
  simp only [laws_eqTableEntry, bne_self_F, nbeq_self_F, cond_false, Bool.not_true, eq_Name]
theorem to_TableEntry (a : TableEntry) : laws_toTableEntry a = a := by
  simp only [laws_toTableEntry, to_Name]
theorem sz_TableEntry_R (a : TableEntry) (left : Int) (h : GoT.ok 10 a) (h0 : 0 ≤ left) (h1 : left ≤ 1048576) : SzR (laws_szTableEntry a left) left (sz a) := by
  rw [sz_TableEntry]
  unfold laws_szTableEntry
  rcases sz_Name_R a.name left (ok_TableEntry h).1 (by omega) (by omega) with r0 | ⟨q0, r0⟩
  · rw [r0]; exact .inl rfl
  rw [r0, dF (by omega), cond_false]
  exact .inr ⟨by omega, by omega⟩
theorem eqL_TableEntryS : ∀ (l p : (List TableEntry)), laws_eqTableEntryS_L1 (p ++ l) l p.length = none
  | [], _ => rfl
  | e :: l, p => by
    have ih := eqL_TableEntryS l (p ++ [e])
    rw [mid_app, mid_len] at ih
    simp only [laws_eqTableEntryS_L1, mid, eq_TableEntry e, Bool.not_true, cond_false]
    exact ih
theorem eq_TableEntryS (a : (List TableEntry)) : laws_eqTableEntryS a a = true := by
  have h := eqL_TableEntryS a []
  simp only [List.nil_append, List.length_nil] at h
  simp only [laws_eqTableEntryS, bne_self_F, cond_false, h]
theorem toL_TableEntryS : ∀ (l p z : (List TableEntry)), z.length = l.length → laws_toTableEntryS_L1 l p.length (p ++ z) = p ++ l
  | [], p, [], _ => rfl
  | e :: l, p, y :: z, h => by
    have ih := toL_TableEntryS l (p ++ [e]) z (by simpa using h)
    rw [mid_app p e l, mid_len] at ih
    simp only [laws_toTableEntryS_L1, mid, mid_set, to_TableEntry e]
    exact ih
theorem to_TableEntryS (a : (List TableEntry)) : laws_toTableEntryS a = a := by
  simp only [laws_toTableEntryS]
  exact toL_TableEntryS a [] _ (by simp)
theorem szL_TableEntryS_R : ∀ (l : (List TableEntry)) (left : Int), (∀ a ∈ l, GoT.ok 10 a) → 0 ≤ left → left ≤ 1048576 → SzL (laws_szTableEntryS_L1 l left) left (szL l)
  | [], left, _, h0, _ => .inr ⟨by simp [szL_nil]; omega, by simp [szL_nil, laws_szTableEntryS_L1]⟩
  | e :: l, left, hk, h0, h1 => by
    rw [szL_cons]
    unfold laws_szTableEntryS_L1
    rcases sz_TableEntry_R e left (hk e List.mem_cons_self) h0 h1 with r0 | ⟨q0, r0⟩
    · rw [r0]; exact .inl rfl
    · rw [r0, dF (by omega), cond_false]
      rcases szL_TableEntryS_R l (left - (sz e : Int)) (fun a ha => hk a (List.mem_cons_of_mem _ ha)) (by omega) (by omega) with r | ⟨q, r⟩
      · exact .inl r
      · exact .inr ⟨by omega, by rw [r]; congr 1; omega⟩
theorem sz_TableEntryS_R (a : (List TableEntry)) (left : Int) (h : GoT.ok 10 a) (h0 : 0 ≤ left) (h1 : left ≤ 1048576) : SzR (laws_szTableEntryS a left) left (sz a) := by
  have hl : a.length ≤ 9223372036854775807 := h.1
  rw [sz_list]
  unfold laws_szTableEntryS
  rw [wrap_sub h0 h1 hl]
  by_cases hc : left - (a.length : Int) < 0
  · rw [dT hc, cond_true]; exact .inl rfl
  · rw [dF (by omega), cond_false]
    rcases szL_TableEntryS_R a (left - (a.length : Int)) h.2 (by omega) (by omega) with r | ⟨q, r⟩
    · rw [r]; exact .inl rfl
    · rw [r]; exact .inr ⟨by omega, by show left - (a.length : Int) - (szL a : Int) = _; omega⟩
theorem sz_flat_TableEntryS (e : TableEntry) : sz e = sz e.name.parts := by
  simp only [sz_TableEntry, sz_Name, Nat.add_assoc]
theorem mkL_TableEntryS : ∀ (l p : (List TableEntry)) (k : Int), 0 ≤ k → k + 16 * ((l.length : Int) + szL l) ≤ 4611686018427387904 → ∃ l' k', laws_markTableEntryS_L1 l.length p.length (p ++ l) k = (p ++ l', k') ∧ k ≤ k' ∧ k' ≤ k + 16 * ((l.length : Int) + szL l) ∧ laws_heldTableEntryS_L1 l' k = .nxt k'
  | [], p, k, _, _ => ⟨[], k, rfl, by omega, by simp [szL_nil], rfl⟩
  | e :: l, p, k, h0, hb => by
    rw [szL_cons, List.length_cons] at hb
    have hsz := sz_flat_TableEntryS e
    obtain ⟨p1, q1, e1⟩ := mk_StringS e.name.parts (k) (by omega) (by omega)
    have d1 := dF (show 0 ≤ (laws_markStringS e.name.parts (k)).1 by omega)
    have w2 := wrap1 (x := (laws_markStringS e.name.parts (k)).1) (by omega) (by omega)
    obtain ⟨l', k', r1, r2, r3, r4⟩ := mkL_TableEntryS l (p ++ [(TableEntry.mk (Name.mk (laws_markStringS e.name.parts k).2) ((laws_markStringS e.name.parts k).1))]) ((laws_markStringS e.name.parts (k)).1 + 1) (by omega) (by omega)
    rw [mid_len] at r1
    refine ⟨(TableEntry.mk (Name.mk (laws_markStringS e.name.parts k).2) ((laws_markStringS e.name.parts k).1)) :: l', k', ?_, by omega, by rw [szL_cons, List.length_cons]; omega, ?_⟩
    · simp only [List.length_cons, laws_markTableEntryS_L1, mid, mid_set, w2]
      rw [r1, mid_app]
    · simp only [laws_heldTableEntryS_L1, bne_self_F, nbeq_self_F, cond_false, e1, d1, cond_false, w2]
      exact r4
theorem mk_TableEntryS (a : (List TableEntry)) (k : Int) (h0 : 0 ≤ k) (hb : k + 16 * (sz a : Int) ≤ 4611686018427387904) : MkR k (laws_markTableEntryS a k).1 (sz a) (laws_heldTableEntryS (laws_markTableEntryS a k).2 k) := by
  rw [sz_list] at hb ⊢
  obtain ⟨l', k', r1, r2, r3, r4⟩ := mkL_TableEntryS a [] k h0 (by omega)
  simp only [List.nil_append, List.length_nil] at r1
  simp only [laws_markTableEntryS, r1, laws_heldTableEntryS, r4]
  exact ⟨r2, by omega, rfl⟩
theorem eq_StateVector (a : StateVector) : laws_eqStateVector a a = true := by
  simp only [laws_eqStateVector, bne_self_F, nbeq_self_F, cond_false, Bool.not_true, eq_TableEntryS]
theorem to_StateVector (a : StateVector) : laws_toStateVector a = a := by
  simp only [laws_toStateVector, to_TableEntryS]
theorem sz_StateVector_R (a : StateVector) (left : Int) (h : GoT.ok 10 a) (h0 : 0 ≤ left) (h1 : left ≤ 1048576) : SzR (laws_szStateVector a left) left (sz a) := by
  rw [sz_StateVector]
  unfold laws_szStateVector
  rcases sz_TableEntryS_R a.entries left (ok_StateVector h) (by omega) (by omega) with r0 | ⟨q0, r0⟩
  · rw [r0]; exact .inl rfl
  rw [r0, dF (by omega), cond_false]
  exact .inr ⟨by omega, by omega⟩
theorem mk_StateVector (a : StateVector) (k : Int) (h0 : 0 ≤ k) (hb : k + 16 * (sz a : Int) ≤ 4611686018427387904) : MkR k (laws_markStateVector a k).1 (sz a) (laws_heldStateVector (laws_markStateVector a k).2 k) := by
  rw [sz_StateVector] at hb ⊢
  obtain ⟨p0, q0, e0⟩ := mk_TableEntryS a.entries (k) (by omega) (by omega)
  have d0 := dF (show 0 ≤ (laws_markTableEntryS a.entries (k)).1 by omega)
  have f0 : (laws_markStateVector a k).2.entries = (laws_markTableEntryS a.entries (k)).2 := rfl
  refine ⟨show k ≤ (laws_markTableEntryS a.entries (k)).1 by omega, show (laws_markTableEntryS a.entries (k)).1 ≤ _ by omega, ?_⟩
  show _ = (laws_markTableEntryS a.entries (k)).1
  simp only [laws_heldStateVector, f0, e0, d0, cond_false]
theorem eqL_ByteS : ∀ (l p : (List UInt8)), laws_eqByteS_L1 (p ++ l) l p.length = none
  | [], _ => rfl
  | e :: l, p => by
    have ih := eqL_ByteS l (p ++ [e])
    rw [mid_app, mid_len] at ih
    simp only [laws_eqByteS_L1, mid, bne_self_F, nbeq_self_F, cond_false]
    exact ih
theorem eq_ByteS (a : (List UInt8)) : laws_eqByteS a a = true := by
  have h := eqL_ByteS a []
  simp only [List.nil_append, List.length_nil] at h
  simp only [laws_eqByteS, bne_self_F, cond_false, h]
theorem toL_ByteS : ∀ (l p z : (List UInt8)), z.length = l.length → laws_toByteS_L1 l p.length (p ++ z) = p ++ l
  | [], p, [], _ => rfl
  | e :: l, p, y :: z, h => by
    have ih := toL_ByteS l (p ++ [e]) z (by simpa using h)
    rw [mid_app p e l, mid_len] at ih
    simp only [laws_toByteS_L1, mid, mid_set]
    exact ih
theorem to_ByteS (a : (List UInt8)) : laws_toByteS a = a := by
  simp only [laws_toByteS]
  exact toL_ByteS a [] _ (by simp)
theorem sz_ByteS_R (a : (List UInt8)) (left : Int) (h : GoT.ok 10 a) (h0 : 0 ≤ left) (h1 : left ≤ 1048576) : SzR (laws_szByteS a left) left (sz a) := by
  have hl : a.length ≤ 9223372036854775807 := h.1
  rw [sz_list, szL_u8]
  unfold laws_szByteS
  rw [wrap_sub h0 h1 hl]
  by_cases hc : left - (a.length : Int) < 0
  · rw [dT hc, cond_true]; exact .inl rfl
  · rw [dF (by omega), cond_false]; exact .inr ⟨by omega, rfl⟩
theorem mkL_ByteS : ∀ (l p : (List UInt8)) (k : Int), 0 ≤ k → k + 16 * ((l.length : Int) + szL l) ≤ 4611686018427387904 → ∃ l' k', laws_markByteS_L1 l.length p.length (p ++ l) k = (p ++ l', k') ∧ k ≤ k' ∧ k' ≤ k + 16 * ((l.length : Int) + szL l) ∧ laws_heldByteS_L1 l' k = .nxt k'
  | [], p, k, _, _ => ⟨[], k, rfl, by omega, by simp [szL_nil], rfl⟩
  | e :: l, p, k, h0, hb => by
    rw [szL_cons, List.length_cons] at hb
    have w1 := wrap1 (x := k) (by omega) (by omega)
    obtain ⟨l', k', r1, r2, r3, r4⟩ := mkL_ByteS l (p ++ [(toU8 k)]) (k + 1) (by omega) (by omega)
    rw [mid_len] at r1
    refine ⟨(toU8 k) :: l', k', ?_, by omega, by rw [szL_cons, List.length_cons]; omega, ?_⟩
    · simp only [List.length_cons, laws_markByteS_L1, mid, mid_set, w1]
      rw [r1, mid_app]
    · simp only [laws_heldByteS_L1, bne_self_F, nbeq_self_F, cond_false, w1]
      exact r4
theorem mk_ByteS (a : (List UInt8)) (k : Int) (h0 : 0 ≤ k) (hb : k + 16 * (sz a : Int) ≤ 4611686018427387904) : MkR k (laws_markByteS a k).1 (sz a) (laws_heldByteS (laws_markByteS a k).2 k) := by
  rw [sz_list] at hb ⊢
  obtain ⟨l', k', r1, r2, r3, r4⟩ := mkL_ByteS a [] k h0 (by omega)
  simp only [List.nil_append, List.length_nil] at r1
  simp only [laws_markByteS, r1, laws_heldByteS, r4]
  exact ⟨r2, by omega, rfl⟩
theorem eq_Publication (a : Publication) : laws_eqPublication a a = true := by
  simp only [laws_eqPublication, bne_self_F, nbeq_self_F, cond_false, Bool.not_true, eq_Name, eq_ByteS]
theorem to_Publication (a : Publication) : laws_toPublication a = a := by
  simp only [laws_toPublication, to_Name, to_ByteS]
theorem sz_Publication_R (a : Publication) (left : Int) (h : GoT.ok 10 a) (h0 : 0 ≤ left) (h1 : left ≤ 1048576) : SzR (laws_szPublication a left) left (sz a) := by
  rw [sz_Publication]
  unfold laws_szPublication
  rcases sz_Name_R a.publisher left (ok_Publication h).1 (by omega) (by omega) with r0 | ⟨q0, r0⟩
  · rw [r0]; exact .inl rfl
  rw [r0, dF (by omega), cond_false]
  rcases sz_ByteS_R a.content (left - (sz a.publisher : Int)) (ok_Publication h).2.2 (by omega) (by omega) with r1 | ⟨q1, r1⟩
  · rw [r1]; exact .inl rfl
  rw [r1, dF (by omega), cond_false]
  exact .inr ⟨by omega, by omega⟩
theorem eqL_PublicationS : ∀ (l p : (List Publication)), laws_eqPublicationS_L1 (p ++ l) l p.length = none
  | [], _ => rfl
  | e :: l, p => by
    have ih := eqL_PublicationS l (p ++ [e])
    rw [mid_app, mid_len] at ih
    simp only [laws_eqPublicationS_L1, mid, eq_Publication e, Bool.not_true, cond_false]
    exact ih
theorem eq_PublicationS (a : (List Publication)) : laws_eqPublicationS a a = true := by
  have h := eqL_PublicationS a []
  simp only [List.nil_append, List.length_nil] at h
  simp only [laws_eqPublicationS, bne_self_F, cond_false, h]
theorem toL_PublicationS : ∀ (l p z : (List Publication)), z.length = l.length → laws_toPublicationS_L1 l p.length (p ++ z) = p ++ l
  | [], p, [], _ => rfl
  | e :: l, p, y :: z, h => by
    have ih := toL_PublicationS l (p ++ [e]) z (by simpa using h)
    rw [mid_app p e l, mid_len] at ih
    simp only [laws_toPublicationS_L1, mid, mid_set, to_Publication e]
    exact ih
theorem to_PublicationS (a : (List Publication)) : laws_toPublicationS a = a := by
  simp only [laws_toPublicationS]
  exact toL_PublicationS a [] _ (by simp)
theorem szL_PublicationS_R : ∀ (l : (List Publication)) (left : Int), (∀ a ∈ l, GoT.ok 10 a) → 0 ≤ left → left ≤ 1048576 → SzL (laws_szPublicationS_L1 l left) left (szL l)
  | [], left, _, h0, _ => .inr ⟨by simp [szL_nil]; omega, by simp [szL_nil, laws_szPublicationS_L1]⟩
  | e :: l, left, hk, h0, h1 => by
    rw [szL_cons]
    unfold laws_szPublicationS_L1
    rcases sz_Publication_R e left (hk e List.mem_cons_self) h0 h1 with r0 | ⟨q0, r0⟩
    · rw [r0]; exact .inl rfl
    · rw [r0, dF (by omega), cond_false]
      rcases szL_PublicationS_R l (left - (sz e : Int)) (fun a ha => hk a (List.mem_cons_of_mem _ ha)) (by omega) (by omega) with r | ⟨q, r⟩
      · exact .inl r
      · exact .inr ⟨by omega, by rw [r]; congr 1; omega⟩
theorem sz_PublicationS_R (a : (List Publication)) (left : Int) (h : GoT.ok 10 a) (h0 : 0 ≤ left) (h1 : left ≤ 1048576) : SzR (laws_szPublicationS a left) left (sz a) := by
  have hl : a.length ≤ 9223372036854775807 := h.1
  rw [sz_list]
  unfold laws_szPublicationS
  rw [wrap_sub h0 h1 hl]
  by_cases hc : left - (a.length : Int) < 0
  · rw [dT hc, cond_true]; exact .inl rfl
  · rw [dF (by omega), cond_false]
    rcases szL_PublicationS_R a (left - (a.length : Int)) h.2 (by omega) (by omega) with r | ⟨q, r⟩
    · rw [r]; exact .inl rfl
    · rw [r]; exact .inr ⟨by omega, by show left - (a.length : Int) - (szL a : Int) = _; omega⟩
theorem sz_flat_PublicationS (e : Publication) : sz e = sz e.publisher.parts + sz e.content := by
  simp only [sz_Publication, sz_Name, Nat.add_assoc]
theorem mkL_PublicationS : ∀ (l p : (List Publication)) (k : Int), 0 ≤ k → k + 16 * ((l.length : Int) + szL l) ≤ 4611686018427387904 → ∃ l' k', laws_markPublicationS_L1 l.length p.length (p ++ l) k = (p ++ l', k') ∧ k ≤ k' ∧ k' ≤ k + 16 * ((l.length : Int) + szL l) ∧ laws_heldPublicationS_L1 l' k = .nxt k'
  | [], p, k, _, _ => ⟨[], k, rfl, by omega, by simp [szL_nil], rfl⟩
  | e :: l, p, k, h0, hb => by
    rw [szL_cons, List.length_cons] at hb
    have hsz := sz_flat_PublicationS e
    obtain ⟨p1, q1, e1⟩ := mk_StringS e.publisher.parts (k) (by omega) (by omega)
    have d1 := dF (show 0 ≤ (laws_markStringS e.publisher.parts (k)).1 by omega)
    have w2 := wrap1 (x := (laws_markStringS e.publisher.parts (k)).1) (by omega) (by omega)
    obtain ⟨p3, q3, e3⟩ := mk_ByteS e.content (((laws_markStringS e.publisher.parts (k)).1 + 1)) (by omega) (by omega)
    have d3 := dF (show 0 ≤ (laws_markByteS e.content (((laws_markStringS e.publisher.parts (k)).1 + 1))).1 by omega)
    obtain ⟨l', k', r1, r2, r3, r4⟩ := mkL_PublicationS l (p ++ [(Publication.mk (Name.mk (laws_markStringS e.publisher.parts k).2) ((laws_markStringS e.publisher.parts k).1) (laws_markByteS e.content ((laws_markStringS e.publisher.parts k).1 + 1)).2)]) (laws_markByteS e.content (((laws_markStringS e.publisher.parts (k)).1 + 1))).1 (by omega) (by omega)
    rw [mid_len] at r1
    refine ⟨(Publication.mk (Name.mk (laws_markStringS e.publisher.parts k).2) ((laws_markStringS e.publisher.parts k).1) (laws_markByteS e.content ((laws_markStringS e.publisher.parts k).1 + 1)).2) :: l', k', ?_, by omega, by rw [szL_cons, List.length_cons]; omega, ?_⟩
    · simp only [List.length_cons, laws_markPublicationS_L1, mid, mid_set, w2]
      rw [r1, mid_app]
    · simp only [laws_heldPublicationS_L1, bne_self_F, nbeq_self_F, cond_false, e1, d1, cond_false, w2, e3, d3]
      exact r4
theorem mk_PublicationS (a : (List Publication)) (k : Int) (h0 : 0 ≤ k) (hb : k + 16 * (sz a : Int) ≤ 4611686018427387904) : MkR k (laws_markPublicationS a k).1 (sz a) (laws_heldPublicationS (laws_markPublicationS a k).2 k) := by
  rw [sz_list] at hb ⊢
  obtain ⟨l', k', r1, r2, r3, r4⟩ := mkL_PublicationS a [] k h0 (by omega)
  simp only [List.nil_append, List.length_nil] at r1
  simp only [laws_markPublicationS, r1, laws_heldPublicationS, r4]
  exact ⟨r2, by omega, rfl⟩
theorem eq_Member (a : Member) : laws_eqMember a a = true := by
  simp only [laws_eqMember, bne_self_F, nbeq_self_F, cond_false, Bool.not_true, eq_Name, eq_StateVector, eq_PublicationS]
theorem to_Member (a : Member) : laws_toMember a = a := by
  simp only [laws_toMember, to_Name, to_StateVector, to_PublicationS]
theorem sz_Member_R (a : Member) (left : Int) (h : GoT.ok 10 a) (h0 : 0 ≤ left) (h1 : left ≤ 1048576) : SzR (laws_szMember a left) left (sz a) := by
  rw [sz_Member]
  unfold laws_szMember
  rcases sz_Name_R a.name left (ok_Member h).1 (by omega) (by omega) with r0 | ⟨q0, r0⟩
  · rw [r0]; exact .inl rfl
  rw [r0, dF (by omega), cond_false]
  rcases sz_StateVector_R a.vector (left - (sz a.name : Int)) (ok_Member h).2.1 (by omega) (by omega) with r1 | ⟨q1, r1⟩
  · rw [r1]; exact .inl rfl
  rw [r1, dF (by omega), cond_false]
  rcases sz_PublicationS_R a.publications ((left - (sz a.name : Int)) - (sz a.vector : Int)) (ok_Member h).2.2 (by omega) (by omega) with r2 | ⟨q2, r2⟩
  · rw [r2]; exact .inl rfl
  rw [r2, dF (by omega), cond_false]
  exact .inr ⟨by omega, by omega⟩
theorem mk_Member (a : Member) (k : Int) (h0 : 0 ≤ k) (hb : k + 16 * (sz a : Int) ≤ 4611686018427387904) : MkR k (laws_markMember a k).1 (sz a) (laws_heldMember (laws_markMember a k).2 k) := by
  rw [sz_Member] at hb ⊢
  obtain ⟨p0, q0, e0⟩ := mk_Name a.name (k) (by omega) (by omega)
  have d0 := dF (show 0 ≤ (laws_markName a.name (k)).1 by omega)
  have f0 : (laws_markMember a k).2.name = (laws_markName a.name (k)).2 := rfl
  obtain ⟨p1, q1, e1⟩ := mk_StateVector a.vector ((laws_markName a.name (k)).1) (by omega) (by omega)
  have d1 := dF (show 0 ≤ (laws_markStateVector a.vector ((laws_markName a.name (k)).1)).1 by omega)
  have f1 : (laws_markMember a k).2.vector = (laws_markStateVector a.vector ((laws_markName a.name (k)).1)).2 := rfl
  obtain ⟨p2, q2, e2⟩ := mk_PublicationS a.publications ((laws_markStateVector a.vector ((laws_markName a.name (k)).1)).1) (by omega) (by omega)
  have d2 := dF (show 0 ≤ (laws_markPublicationS a.publications ((laws_markStateVector a.vector ((laws_markName a.name (k)).1)).1)).1 by omega)
  have f2 : (laws_markMember a k).2.publications = (laws_markPublicationS a.publications ((laws_markStateVector a.vector ((laws_markName a.name (k)).1)).1)).2 := rfl
  refine ⟨show k ≤ (laws_markPublicationS a.publications ((laws_markStateVector a.vector ((laws_markName a.name (k)).1)).1)).1 by omega, show (laws_markPublicationS a.publications ((laws_markStateVector a.vector ((laws_markName a.name (k)).1)).1)).1 ≤ _ by omega, ?_⟩
  show _ = (laws_markPublicationS a.publications ((laws_markStateVector a.vector ((laws_markName a.name (k)).1)).1)).1
  simp only [laws_heldMember, f0, e0, d0, f1, e1, d1, f2, e2, d2, cond_false]
end Go.Stp

namespace Go.Stp
set_option linter.unusedVariables false
set_option linter.unusedSimpArgs false
def laws_FnExactPublish (aM : Member) (aB : (List UInt8)) : Bool :=
  bif decide ((((aB).length : Nat) : Int) > 1048576) then
    true
  else
    bif decide ((laws_szMember aM 1048576) < 0) then
      true
    else
      bif (!(laws_eqMember ((impl_Publish (laws_toMember aM) (laws_toByteS aB)).1) ((spec_Publish (laws_toMember aM) (laws_toByteS aB)).1))) then
        false
      else
        bif (!(((impl_Publish (laws_toMember aM) (laws_toByteS aB)).2) == ((spec_Publish (laws_toMember aM) (laws_toByteS aB)).2))) then
          false
        else
          bif (!(laws_eqMember (laws_toMember aM) (laws_toMember aM))) then
            false
          else
            bif (!(laws_eqByteS (laws_toByteS aB) (laws_toByteS aB))) then
              false
            else
              bif decide ((laws_markByteS (laws_toByteS aB) ((laws_markMember (laws_toMember aM) 1).1)).1 < 0) then
                false
              else
                bif decide ((laws_heldMember ((laws_markMember ((impl_Publish (laws_toMember aM) (laws_toByteS aB)).1) 1).2) 1) < 0) then
                  false
                else
                  bif ((laws_heldMember ((laws_markMember ((impl_Publish (laws_toMember aM) (laws_toByteS aB)).1) 1).2) 1) != (laws_markMember ((impl_Publish (laws_toMember aM) (laws_toByteS aB)).1) 1).1) then
                    false
                  else
                    true
end Go.Stp

namespace Go.Proofs.YtfffongneoegbaaGreat
open Go.Stp
set_option linter.unusedVariables false
set_option linter.unusedSimpArgs false
theorem f4 (w : World) (n : Nat) (hn : n + 3 ≤ 9) (aM : Member) (paMName : Option Addr) (caMName : Nat) (hpaMName : RdSl (hp w) paMName caMName aM.name.parts) (paMVector : Option Addr) (caMVector : Nat) (hpaMVector : RdSl (hp w) paMVector caMVector aM.vector.entries) (paMPublications : Option Addr) (caMPublications : Nat) (hpaMPublications : RdSl (hp w) paMPublications caMPublications aM.publications) (aB : (List UInt8)) (paB : Option Addr) (caB : Nat) (hpaB : RdSl (hp w) paB caB aB) (hokaM : GoT.ok 10 aM) (hokaB : GoT.ok 10 aB) :
    Does Tryz.prog 4 #[.agg #[.slice paMName ((aM.name.parts).length) caMName, .slice paMVector ((aM.vector.entries).length) caMVector, .slice paMPublications ((aM.publications).length) caMPublications], .slice paB ((aB).length) caB] w emp (fun (rv : Value) (_ : World) => rv = .bool (laws_FnExactPublish aM aB) ∧ True) := by
  have hbP := bd_pos n
  have hbS0 : bd (n + 1) = 4 * bd (n) := bd_succ (n := n) (by omega)
  have hbS1 : bd (n + 2) = 4 * bd (n + 1) := bd_succ (n := n + 1) (by omega)
  have hbS2 : bd (n + 3) = 4 * bd (n + 2) := bd_succ (n := n + 2) (by omega)
  have hbB := bd_big (n := (n + 3)) (by omega)
  have hbM := bd_mono (show n ≤ n + 3 by omega)
  refine WX.enter (tt := tt) (Γ := [(0, MF.rs .stb paMName caMName aM.name.parts), (1, MF.rs .stb paMVector caMVector aM.vector.entries), (2, MF.rs .stb paMPublications caMPublications aM.publications), (3, MF.rs .stb paB caB aB)]) Tryz.func4 rfl (by kernel_rfl) rfl (allS_cons rfl hpaMName (allS_cons rfl hpaMVector (allS_cons rfl hpaMPublications (allS_cons rfl hpaB allS_nil)))) ?_
  refine WX.run ttOk rfl ?_
  refine WX.cases 19 rfl (fun h1 => ?_) (fun h1 => ?_)
  · skip
    have h1d := B.dt h1
    refine WX.run ttOk rfl ?_
    have hP1 : laws_FnExactPublish aM aB = true := by simp only [laws_FnExactPublish, h1, cond_true, cond_false]
    refine WX.ret ttOk rfl ?_
    intro w1 G bs hI hΓ
    rw [hP1]
    exact ⟨rfl, trivial⟩
  · skip
    have h1d := B.df h1
    have hk1 : GoT.ok n aB := okl_mk (show (aB).length ≤ bd n by omega) (fun _ _ => trivial)
    refine WX.run ttOk rfl ?_
    refine WX.callV rfl rfl rfl rfl rfl (fun _ => rfl) rfl (fun w G bs hI hΓ => f10 w 10 aM paMName caMName (hΓ.get 0 rfl) paMVector caMVector (hΓ.get 1 rfl) paMPublications caMPublications (hΓ.get 2 rfl) 1048576 hokaM (show I64 1048576 from (by unfold I64; omega))) ?_
    intro hq1
    refine WX.run ttOk rfl ?_
    refine WX.cases 24 rfl (fun h2 => ?_) (fun h2 => ?_)
    · skip
      have h2d := B.dt h2
      refine WX.run ttOk rfl ?_
      have hP2 : laws_FnExactPublish aM aB = true := by simp only [laws_FnExactPublish, h1, h2, cond_true, cond_false]
      refine WX.ret ttOk rfl ?_
      intro w1 G bs hI hΓ
      rw [hP2]
      exact ⟨rfl, trivial⟩
    · skip
      have h2d := B.df h2
      obtain ⟨hs1, ht1⟩ := (sz_Member_R aM 1048576 hokaM (by omega) (by omega)).pos (by omega)
      have hk2 : GoT.ok n aM := GoT.okm (Nat.zero_le n) (Sz.low hokaM (show sz aM ≤ 1048576 by omega))
      refine WX.run ttOk rfl ?_
      refine WX.callF 4 (fun _ _ h => GoT.ow_rd h) (fun _ f hf => GoT.fak f hf) rfl rfl rfl rfl rfl (fun _ => rfl) rfl (fun w G bs hI hΓ => f13 w n (by omega) aM paMName caMName (hΓ.get 0 rfl) paMVector caMVector (hΓ.get 1 rfl) paMPublications caMPublications (hΓ.get 2 rfl) hk2) (fun _ => rfl) (fun _ => rfl) ?_
      rintro ⟨⟨p1, c1⟩, ⟨p2, c2⟩, ⟨p3, c3⟩⟩ hq2
      refine WX.run ttOk rfl ?_
      refine WX.callF 10 (fun _ _ h => GoT.ow_rd h) (fun _ f hf => GoT.fak f hf) rfl rfl rfl rfl rfl (fun _ => rfl) rfl (fun w G bs hI hΓ => f22 w n (by omega) aB paB caB (hΓ.get 3 rfl) hk1) (fun _ => rfl) (fun _ => rfl) ?_
      rintro ⟨p4, c4⟩ hq3
      refine WX.callF 12 (fun _ _ h => GoT.ow_rd h) (fun _ f hf => GoT.fak f hf) rfl rfl rfl rfl rfl (fun _ => rfl) rfl (fun w G bs hI hΓ => f21 w n (by omega) (laws_toMember aM) p1 c1 (hΓ.get 4 rfl) p2 c2 (hΓ.get 5 rfl) p3 c3 (hΓ.get 6 rfl) (laws_toByteS aB) p4 c4 (hΓ.get 10 rfl) hq2 hq3) (fun _ => rfl) (fun _ => rfl) ?_
      rintro ⟨⟨p5, c5⟩, ⟨p6, c6⟩, ⟨p7, c7⟩⟩ hq4
      refine WX.run ttOk rfl ?_
      refine WX.callF 18 (fun _ _ h => GoT.ow_rd h) (fun _ f hf => GoT.fak f hf) rfl rfl rfl rfl rfl (fun _ => rfl) rfl (fun w G bs hI hΓ => f13 w n (by omega) aM paMName caMName (hΓ.get 0 rfl) paMVector caMVector (hΓ.get 1 rfl) paMPublications caMPublications (hΓ.get 2 rfl) hk2) (fun _ => rfl) (fun _ => rfl) ?_
      rintro ⟨⟨p8, c8⟩, ⟨p9, c9⟩, ⟨p10, c10⟩⟩ hq5
      refine WX.run ttOk rfl ?_
      refine WX.callF 24 (fun _ _ h => GoT.ow_rd h) (fun _ f hf => GoT.fak f hf) rfl rfl rfl rfl rfl (fun _ => rfl) rfl (fun w G bs hI hΓ => f22 w n (by omega) aB paB caB (hΓ.get 3 rfl) hk1) (fun _ => rfl) (fun _ => rfl) ?_
      rintro ⟨p11, c11⟩ hq6
      refine WX.run ttOk rfl ?_
      refine WX.callF 26 (fun _ _ h => GoT.ow_rd h) (fun _ f hf => GoT.fak f hf) rfl rfl rfl rfl rfl (fun _ => rfl) rfl (fun w G bs hI hΓ => f23 w n (by omega) (laws_toMember aM) p8 c8 (hΓ.get 18 rfl) p9 c9 (hΓ.get 19 rfl) p10 c10 (hΓ.get 20 rfl) (laws_toByteS aB) p11 c11 (hΓ.get 24 rfl) hq5 hq6) (fun _ => rfl) (fun _ => rfl) ?_
      rintro ⟨⟨p12, c12⟩, ⟨p13, c13⟩, ⟨p14, c14⟩⟩ hq7
      refine WX.run ttOk rfl ?_
      refine WX.callV rfl rfl rfl rfl rfl (fun _ => rfl) rfl (fun w G bs hI hΓ => f16 w (n + 3) (by omega) ((impl_Publish (laws_toMember aM) (laws_toByteS aB)).1) p12 c12 (hΓ.get 26 rfl) p13 c13 (hΓ.get 27 rfl) p14 c14 (hΓ.get 28 rfl) ((spec_Publish (laws_toMember aM) (laws_toByteS aB)).1) p5 c5 (hΓ.get 12 rfl) p6 c6 (hΓ.get 13 rfl) p7 c7 (hΓ.get 14 rfl) hq7 hq4) ?_
      intro hq8
      refine WX.run ttOk rfl ?_
      refine WX.cases 47 rfl (fun h3 => ?_) (fun h3 => ?_)
      · skip
        have h3d := (B.nt h3)
        refine WX.run ttOk rfl ?_
        have hP3 : laws_FnExactPublish aM aB = false := by simp only [laws_FnExactPublish, h1, h2, h3, cond_true, cond_false]
        refine WX.ret ttOk rfl ?_
        intro w1 G bs hI hΓ
        rw [hP3]
        exact ⟨rfl, trivial⟩
      · skip
        have h3d := (B.nf h3)
        refine WX.run ttOk rfl ?_
        refine WX.see rfl rfl rfl (fun _ hΓ => looks_beq ttOk rfl rfl rfl rfl rfl rfl) ?_
        refine WX.run ttOk rfl ?_
        refine WX.cases 51 rfl (fun h4 => ?_) (fun h4 => ?_)
        · skip
          have h4d := (B.nt h4)
          refine WX.run ttOk rfl ?_
          have hP4 : laws_FnExactPublish aM aB = false := by simp only [laws_FnExactPublish, h1, h2, h3, h4, cond_true, cond_false]
          refine WX.ret ttOk rfl ?_
          intro w1 G bs hI hΓ
          rw [hP4]
          exact ⟨rfl, trivial⟩
        · skip
          have h4d := (B.nf h4)
          refine WX.run ttOk rfl ?_
          refine WX.draw [] mixed ?_
          intro bs G0 hΓ0
          refine DX.takes (fuel := 3) ttOk [(0, false), (1, false)] (by kernel_rfl) rfl ?_
          refine DX.callF 2 32 (fun _ _ h => GoT.ow_rd h) (fun _ f hf => GoT.fak f hf) rfl (by kernel_rfl) rfl rfl rfl rfl rfl rfl (fun _ => rfl) rfl (fun w G bs hI hΓ => f13 w n (by omega) aM paMName caMName (hΓ.get 0 rfl) paMVector caMVector (hΓ.get 1 rfl) paMPublications caMPublications (hΓ.get 2 rfl) hk2) (fun _ => rfl) (fun _ => rfl) ?_
          rintro ⟨⟨p15, c15⟩, ⟨p16, c16⟩, ⟨p17, c17⟩⟩ hq9
          refine DX.callV 3 rfl (by kernel_rfl) rfl rfl rfl rfl rfl rfl (fun _ => rfl) rfl (fun w G bs hI hΓ => f16 w n (by omega) (laws_toMember aM) p8 c8 (hΓ.get 18 rfl) p9 c9 (hΓ.get 19 rfl) p10 c10 (hΓ.get 20 rfl) (laws_toMember aM) p15 c15 (hΓ.get 32 rfl) p16 c16 (hΓ.get 33 rfl) p17 c17 (hΓ.get 34 rfl) hq5 hq9) ?_
          intro hq10
          refine DX.takes (fuel := 0) ttOk [(4, true)] (by kernel_rfl) rfl ?_
          refine DX.tail2 [] rfl rfl (by kernel_rfl) ?_
          refine WX.run ttOk rfl ?_
          refine WX.cases 56 rfl (fun h5 => ?_) (fun h5 => ?_)
          · skip
            have h5d := (B.nt h5)
            refine WX.run ttOk rfl ?_
            have hP5 : laws_FnExactPublish aM aB = false := by simp only [laws_FnExactPublish, h1, h2, h3, h4, h5, cond_true, cond_false]
            refine WX.ret ttOk rfl ?_
            intro w1 G bs hI hΓ
            rw [hP5]
            exact ⟨rfl, trivial⟩
          · skip
            have h5d := (B.nf h5)
            refine WX.run ttOk rfl ?_
            refine WX.callF 38 (fun _ _ h => GoT.ow_rd h) (fun _ f hf => GoT.fak f hf) rfl rfl rfl rfl rfl (fun _ => rfl) rfl (fun w G bs hI hΓ => f22 w n (by omega) aB paB caB (hΓ.get 3 rfl) hk1) (fun _ => rfl) (fun _ => rfl) ?_
            rintro ⟨p18, c18⟩ hq11
            refine WX.callV rfl rfl rfl rfl rfl (fun _ => rfl) rfl (fun w G bs hI hΓ => f24 w n (by omega) (laws_toByteS aB) p11 c11 (hΓ.get 24 rfl) (laws_toByteS aB) p18 c18 (hΓ.get 38 rfl) hq6 hq11) ?_
            intro hq12
            refine WX.run ttOk rfl ?_
            refine WX.cases 61 rfl (fun h6 => ?_) (fun h6 => ?_)
            · skip
              have h6d := (B.nt h6)
              refine WX.run ttOk rfl ?_
              have hP6 : laws_FnExactPublish aM aB = false := by simp only [laws_FnExactPublish, h1, h2, h3, h4, h5, h6, cond_true, cond_false]
              refine WX.ret ttOk rfl ?_
              intro w1 G bs hI hΓ
              rw [hP6]
              exact ⟨rfl, trivial⟩
            · skip
              have h6d := (B.nf h6)
              refine WX.run ttOk rfl ?_
              refine WX.callM [21, 22, 23] 40 rfl (fun _ _ h => GoT.ow_rd h) (fun _ f hf => GoT.fak f hf) rfl rfl rfl rfl rfl (fun _ => rfl) rfl (fun w G bs H hI hH hs hΓ => f18 w n (by omega) (laws_toMember aM) p8 c8 p9 c9 p10 c10 1 H hH hs hq5 (show I64 1 from (by unfold I64; omega))) (fun _ => rfl) (fun _ => rfl) ?_
              rintro ⟨⟩ hq13
              have hl1 : ((laws_markMember (laws_toMember aM) 1).2.name.parts).length = ((laws_toMember aM).name.parts).length := hq13.2.1
              have hl2 : ((laws_markMember (laws_toMember aM) 1).2.vector.entries).length = ((laws_toMember aM).vector.entries).length := hq13.2.2.1
              have hl3 : ((laws_markMember (laws_toMember aM) 1).2.publications).length = ((laws_toMember aM).publications).length := hq13.2.2.2
              refine WX.run ttOk rfl ?_
              refine WX.callM [25] 46 rfl (fun _ _ h => GoT.ow_rd h) (fun _ f hf => GoT.fak f hf) rfl rfl rfl rfl rfl (fun _ => rfl) rfl (fun w G bs H hI hH hs hΓ => f25 w n (by omega) (laws_toByteS aB) p11 c11 ((laws_markMember (laws_toMember aM) 1).1) H hH hs hq6 hq13.1.1) (fun _ => rfl) (fun _ => rfl) ?_
              rintro ⟨⟩ hq14
              have hl4 : ((laws_markByteS (laws_toByteS aB) ((laws_markMember (laws_toMember aM) 1).1)).2).length = ((laws_toByteS aB)).length := hq14.2
              refine WX.run ttOk rfl ?_
              refine WX.cases 70 rfl (fun h7 => ?_) (fun h7 => ?_)
              · skip
                have h7d := B.dt h7
                refine WX.run ttOk rfl ?_
                have hP7 : laws_FnExactPublish aM aB = false := by simp only [laws_FnExactPublish, h1, h2, h3, h4, h5, h6, h7, cond_true, cond_false]
                refine WX.ret ttOk rfl ?_
                intro w1 G bs hI hΓ
                rw [hP7]
                exact ⟨rfl, trivial⟩
              · skip
                have h7d := B.df h7
                refine WX.run ttOk rfl ?_
                refine WX.der 48 (MF.rs .der p12 c12 ((impl_Publish (laws_toMember aM) (laws_toByteS aB)).1.name.parts)) rfl (fun _ hΓ => (hΓ.get 29 rfl : OwSl _ _ _ _).rd) ?_
                refine WX.der 49 (MF.rs .der p13 c13 ((impl_Publish (laws_toMember aM) (laws_toByteS aB)).1.vector.entries)) rfl (fun _ hΓ => (hΓ.get 30 rfl : OwSl _ _ _ _).rd) ?_
                refine WX.der 50 (MF.rs .der p14 c14 ((impl_Publish (laws_toMember aM) (laws_toByteS aB)).1.publications)) rfl (fun _ hΓ => (hΓ.get 31 rfl : OwSl _ _ _ _).rd) ?_
                refine WX.der 51 (MF.rs .der p5 c5 ((spec_Publish (laws_toMember aM) (laws_toByteS aB)).1.name.parts)) rfl (fun _ hΓ => (hΓ.get 15 rfl : OwSl _ _ _ _).rd) ?_
                refine WX.der 52 (MF.rs .der p6 c6 ((spec_Publish (laws_toMember aM) (laws_toByteS aB)).1.vector.entries)) rfl (fun _ hΓ => (hΓ.get 16 rfl : OwSl _ _ _ _).rd) ?_
                refine WX.der 53 (MF.rs .der p7 c7 ((spec_Publish (laws_toMember aM) (laws_toByteS aB)).1.publications)) rfl (fun _ hΓ => (hΓ.get 17 rfl : OwSl _ _ _ _).rd) ?_
                refine WX.callV rfl rfl rfl rfl rfl (fun _ => rfl) rfl (fun w G bs hI hΓ => f16 w (n + 3) (by omega) ((impl_Publish (laws_toMember aM) (laws_toByteS aB)).1) p12 c12 (hΓ.get 48 rfl) p13 c13 (hΓ.get 49 rfl) p14 c14 (hΓ.get 50 rfl) ((spec_Publish (laws_toMember aM) (laws_toByteS aB)).1) p5 c5 (hΓ.get 51 rfl) p6 c6 (hΓ.get 52 rfl) p7 c7 (hΓ.get 53 rfl) hq7 hq4) ?_
                intro hq15
                refine WX.run ttOk rfl ?_
                refine WX.cases 76 rfl (fun h8 => ?_) (fun h8 => ?_)
                · skip
                  have h8d := (B.nt h8)
                  exact absurd (h3.symm.trans h8) Bool.false_ne_true
                · skip
                  have h8d := (B.nf h8)
                  refine WX.run ttOk rfl ?_
                  refine WX.see rfl rfl rfl (fun _ hΓ => looks_beq ttOk rfl rfl rfl rfl rfl rfl) ?_
                  refine WX.run ttOk rfl ?_
                  refine WX.cases 80 rfl (fun h9 => ?_) (fun h9 => ?_)
                  · skip
                    have h9d := (B.nt h9)
                    exact absurd (h4.symm.trans h9) Bool.false_ne_true
                  · skip
                    have h9d := (B.nf h9)
                    refine WX.run ttOk rfl ?_
                    refine WX.callM [29, 30, 31] 54 rfl (fun _ _ h => GoT.ow_rd h) (fun _ f hf => GoT.fak f hf) rfl rfl rfl rfl rfl (fun _ => rfl) rfl (fun w G bs H hI hH hs hΓ => f18 w (n + 3) (by omega) ((impl_Publish (laws_toMember aM) (laws_toByteS aB)).1) p12 c12 p13 c13 p14 c14 1 H hH hs hq7 (show I64 1 from (by unfold I64; omega))) (fun _ => rfl) (fun _ => rfl) ?_
                    rintro ⟨⟩ hq16
                    have hl5 : ((laws_markMember ((impl_Publish (laws_toMember aM) (laws_toByteS aB)).1) 1).2.name.parts).length = ((impl_Publish (laws_toMember aM) (laws_toByteS aB)).1.name.parts).length := hq16.2.1
                    have hl6 : ((laws_markMember ((impl_Publish (laws_toMember aM) (laws_toByteS aB)).1) 1).2.vector.entries).length = ((impl_Publish (laws_toMember aM) (laws_toByteS aB)).1.vector.entries).length := hq16.2.2.1
                    have hl7 : ((laws_markMember ((impl_Publish (laws_toMember aM) (laws_toByteS aB)).1) 1).2.publications).length = ((impl_Publish (laws_toMember aM) (laws_toByteS aB)).1.publications).length := hq16.2.2.2
                    refine WX.run ttOk rfl ?_
                    refine WX.slot 84 (y := .v (.agg #[.slice p12 (((laws_markMember ((impl_Publish (laws_toMember aM) (laws_toByteS aB)).1) 1).2.name.parts).length) c12, .slice p13 (((laws_markMember ((impl_Publish (laws_toMember aM) (laws_toByteS aB)).1) 1).2.vector.entries).length) c13, .slice p14 (((laws_markMember ((impl_Publish (laws_toMember aM) (laws_toByteS aB)).1) 1).2.publications).length) c14])) rfl (fun _ => by show (.agg #[.slice p12 (((impl_Publish (laws_toMember aM) (laws_toByteS aB)).1.name.parts).length) c12, .slice p13 (((impl_Publish (laws_toMember aM) (laws_toByteS aB)).1.vector.entries).length) c13, .slice p14 (((impl_Publish (laws_toMember aM) (laws_toByteS aB)).1.publications).length) c14] : Value) = .agg #[.slice p12 (((laws_markMember ((impl_Publish (laws_toMember aM) (laws_toByteS aB)).1) 1).2.name.parts).length) c12, .slice p13 (((laws_markMember ((impl_Publish (laws_toMember aM) (laws_toByteS aB)).1) 1).2.vector.entries).length) c13, .slice p14 (((laws_markMember ((impl_Publish (laws_toMember aM) (laws_toByteS aB)).1) 1).2.publications).length) c14]; simp only [hl5, hl6, hl7]) ?_
                    refine WX.callV rfl rfl rfl rfl rfl (fun _ => rfl) rfl (fun w G bs hI hΓ => f20 w (n + 3) (by omega) ((laws_markMember ((impl_Publish (laws_toMember aM) (laws_toByteS aB)).1) 1).2) p12 c12 (hΓ.get 54 rfl) p13 c13 (hΓ.get 55 rfl) p14 c14 (hΓ.get 56 rfl) 1 hq16.1.2 (show I64 1 from (by unfold I64; omega))) ?_
                    intro hq17
                    refine WX.run ttOk rfl ?_
                    refine WX.cases 88 rfl (fun h10 => ?_) (fun h10 => ?_)
                    · skip
                      have h10d := B.dt h10
                      refine WX.run ttOk rfl ?_
                      have hP8 : laws_FnExactPublish aM aB = false := by simp only [laws_FnExactPublish, h1, h2, h3, h4, h5, h6, h7, h8, h9, h10, cond_true, cond_false]
                      refine WX.ret ttOk rfl ?_
                      intro w1 G bs hI hΓ
                      rw [hP8]
                      exact ⟨rfl, trivial⟩
                    · skip
                      have h10d := B.df h10
                      refine WX.run ttOk rfl ?_
                      refine WX.cases 91 rfl (fun h11 => ?_) (fun h11 => ?_)
                      · skip
                        have h11d := B.nt' h11
                        refine WX.run ttOk rfl ?_
                        have hP9 : laws_FnExactPublish aM aB = false := by simp only [laws_FnExactPublish, h1, h2, h3, h4, h5, h6, h7, h8, h9, h10, h11, cond_true, cond_false]
                        refine WX.ret ttOk rfl ?_
                        intro w1 G bs hI hΓ
                        rw [hP9]
                        exact ⟨rfl, trivial⟩
                      · skip
                        have h11d := B.nf' h11
                        refine WX.run ttOk rfl ?_
                        refine WX.callF 60 (fun _ _ h => GoT.ow_rd h) (fun _ f hf => GoT.fak f hf) rfl rfl rfl rfl rfl (fun _ => rfl) rfl (fun w G bs hI hΓ => f13 w n (by omega) aM paMName caMName (hΓ.get 0 rfl) paMVector caMVector (hΓ.get 1 rfl) paMPublications caMPublications (hΓ.get 2 rfl) hk2) (fun _ => rfl) (fun _ => rfl) ?_
                        rintro ⟨⟨p19, c19⟩, ⟨p20, c20⟩, ⟨p21, c21⟩⟩ hq18
                        refine WX.run ttOk rfl ?_
                        refine WX.callF 66 (fun _ _ h => GoT.ow_rd h) (fun _ f hf => GoT.fak f hf) rfl rfl rfl rfl rfl (fun _ => rfl) rfl (fun w G bs hI hΓ => f22 w n (by omega) aB paB caB (hΓ.get 3 rfl) hk1) (fun _ => rfl) (fun _ => rfl) ?_
                        rintro ⟨p22, c22⟩ hq19
                        refine WX.callF 68 (fun _ _ h => GoT.ow_rd h) (fun _ f hf => GoT.fak f hf) rfl rfl rfl rfl rfl (fun _ => rfl) rfl (fun w G bs hI hΓ => f23 w n (by omega) (laws_toMember aM) p19 c19 (hΓ.get 60 rfl) p20 c20 (hΓ.get 61 rfl) p21 c21 (hΓ.get 62 rfl) (laws_toByteS aB) p22 c22 (hΓ.get 66 rfl) hq18 hq19) (fun _ => rfl) (fun _ => rfl) ?_
                        rintro ⟨⟨p23, c23⟩, ⟨p24, c24⟩, ⟨p25, c25⟩⟩ hq20
                        refine WX.run ttOk rfl ?_
                        refine WX.der 74 (MF.rs .der p5 c5 ((spec_Publish (laws_toMember aM) (laws_toByteS aB)).1.name.parts)) rfl (fun _ hΓ => (hΓ.get 15 rfl : OwSl _ _ _ _).rd) ?_
                        refine WX.der 75 (MF.rs .der p6 c6 ((spec_Publish (laws_toMember aM) (laws_toByteS aB)).1.vector.entries)) rfl (fun _ hΓ => (hΓ.get 16 rfl : OwSl _ _ _ _).rd) ?_
                        refine WX.der 76 (MF.rs .der p7 c7 ((spec_Publish (laws_toMember aM) (laws_toByteS aB)).1.publications)) rfl (fun _ hΓ => (hΓ.get 17 rfl : OwSl _ _ _ _).rd) ?_
                        refine WX.callV rfl rfl rfl rfl rfl (fun _ => rfl) rfl (fun w G bs hI hΓ => f16 w (n + 3) (by omega) ((impl_Publish (laws_toMember aM) (laws_toByteS aB)).1) p23 c23 (hΓ.get 68 rfl) p24 c24 (hΓ.get 69 rfl) p25 c25 (hΓ.get 70 rfl) ((spec_Publish (laws_toMember aM) (laws_toByteS aB)).1) p5 c5 (hΓ.get 74 rfl) p6 c6 (hΓ.get 75 rfl) p7 c7 (hΓ.get 76 rfl) hq20 hq4) ?_
                        intro hq21
                        refine WX.run ttOk rfl ?_
                        refine WX.cases 104 rfl (fun h12 => ?_) (fun h12 => ?_)
                        · skip
                          have h12d := (B.nt h12)
                          exact absurd (h3.symm.trans h12) Bool.false_ne_true
                        · skip
                          have h12d := (B.nf h12)
                          refine WX.run ttOk rfl ?_
                          refine WX.see rfl rfl rfl (fun _ hΓ => looks_beq ttOk rfl rfl rfl rfl rfl rfl) ?_
                          refine WX.run ttOk rfl ?_
                          refine WX.cases 108 rfl (fun h13 => ?_) (fun h13 => ?_)
                          · skip
                            have h13d := (B.nt h13)
                            exact absurd (h4.symm.trans h13) Bool.false_ne_true
                          · skip
                            have h13d := (B.nf h13)
                            refine WX.run ttOk rfl ?_
                            refine WX.slot 109 (y := .v (.agg #[.slice p12 (((laws_markMember ((impl_Publish (laws_toMember aM) (laws_toByteS aB)).1) 1).2.name.parts).length) c12, .slice p13 (((laws_markMember ((impl_Publish (laws_toMember aM) (laws_toByteS aB)).1) 1).2.vector.entries).length) c13, .slice p14 (((laws_markMember ((impl_Publish (laws_toMember aM) (laws_toByteS aB)).1) 1).2.publications).length) c14])) rfl (fun _ => by show (.agg #[.slice p12 (((impl_Publish (laws_toMember aM) (laws_toByteS aB)).1.name.parts).length) c12, .slice p13 (((impl_Publish (laws_toMember aM) (laws_toByteS aB)).1.vector.entries).length) c13, .slice p14 (((impl_Publish (laws_toMember aM) (laws_toByteS aB)).1.publications).length) c14] : Value) = .agg #[.slice p12 (((laws_markMember ((impl_Publish (laws_toMember aM) (laws_toByteS aB)).1) 1).2.name.parts).length) c12, .slice p13 (((laws_markMember ((impl_Publish (laws_toMember aM) (laws_toByteS aB)).1) 1).2.vector.entries).length) c13, .slice p14 (((laws_markMember ((impl_Publish (laws_toMember aM) (laws_toByteS aB)).1) 1).2.publications).length) c14]; simp only [hl5, hl6, hl7]) ?_
                            refine WX.callV rfl rfl rfl rfl rfl (fun _ => rfl) rfl (fun w G bs hI hΓ => f20 w (n + 3) (by omega) ((laws_markMember ((impl_Publish (laws_toMember aM) (laws_toByteS aB)).1) 1).2) p12 c12 (hΓ.get 54 rfl) p13 c13 (hΓ.get 55 rfl) p14 c14 (hΓ.get 56 rfl) 1 hq16.1.2 (show I64 1 from (by unfold I64; omega))) ?_
                            intro hq22
                            refine WX.run ttOk rfl ?_
                            refine WX.cases 113 rfl (fun h14 => ?_) (fun h14 => ?_)
                            · skip
                              have h14d := B.dt h14
                              exact absurd (h10.symm.trans h14) Bool.false_ne_true
                            · skip
                              have h14d := B.df h14
                              refine WX.run ttOk rfl ?_
                              refine WX.cases 116 rfl (fun h15 => ?_) (fun h15 => ?_)
                              · skip
                                have h15d := B.nt' h15
                                exact absurd (h11.symm.trans h15) Bool.false_ne_true
                              · skip
                                have h15d := B.nf' h15
                                refine WX.run ttOk rfl ?_
                                have hP10 : laws_FnExactPublish aM aB = true := by simp only [laws_FnExactPublish, h1, h2, h3, h4, h5, h6, h7, h8, h9, h10, h11, h12, h13, h14, h15, cond_true, cond_false]
                                refine WX.ret ttOk rfl ?_
                                intro w1 G bs hI hΓ
                                rw [hP10]
                                exact ⟨rfl, trivial⟩
end Go.Proofs.YtfffongneoegbaaGreat

namespace Go.Stp
set_option linter.unusedVariables false
set_option linter.unusedSimpArgs false
instance ctlInh22 {α β : Type} [Inhabited α] : Inhabited (Ctl α β) := ⟨.ret default⟩
end Go.Stp

namespace Go.Stp
set_option linter.unusedVariables false
set_option linter.unusedSimpArgs false
theorem same_In (a b c : Int) : impl_InRange a b c = spec_l1In a b c := rfl
theorem sEqL_string : ∀ (a b p : List Str), a.length = b.length → slices_Equal_string_L1 (p ++ b) a p.length = (if a.map (fun z : Str => z.toList) = b.map (fun z : Str => z.toList) then none else some false)
  | [], [], p, _ => by simp [slices_Equal_string_L1]
  | x :: a, y :: b, p, h => by
    have ih := sEqL_string a b (p ++ [y]) (by simpa using h)
    rw [mid_app, mid_len] at ih
    simp only [slices_Equal_string_L1, mid]
    by_cases hxy : x.toList = y.toList
    · simp [hxy, ih]
    · have hb : (x.toList == y.toList) = false := by simpa using hxy
      simp [hb, hxy]
theorem sEq_string (a b : List Str) : slices_Equal_string a b = decide (a.map (fun z : Str => z.toList) = b.map (fun z : Str => z.toList)) := by
  unfold slices_Equal_string
  by_cases hl : a.length = b.length
  · have h := sEqL_string a b [] hl
    simp only [List.nil_append, List.length_nil] at h
    simp only [hl, bne_self_F, cond_false, h]
    split <;> simp_all
  · have hne : a.map (fun z : Str => z.toList) ≠ b.map (fun z : Str => z.toList) := fun h => hl (by simpa using congrArg List.length h)
    have hn : ((a.length : Int) != (b.length : Int)) = true := by simp; omega
    simp [hn, hne]
theorem cNL : ∀ (a b p : List Str), match spec_CompareNames_L1 ⟨p ++ b⟩ a p.length with
    | some k => k ≠ 0 ∧ a.map (fun z : Str => z.toList) ≠ b.map (fun z : Str => z.toList)
    | none => a.length = b.length → a.map (fun z : Str => z.toList) = b.map (fun z : Str => z.toList)
  | [], b, p => by
    simp only [spec_CompareNames_L1]
    intro h
    cases b with
    | nil => rfl
    | cons => simp at h
  | x :: a, [], p => by simp [spec_CompareNames_L1]
  | x :: a, y :: b, p => by
    have ih := cNL a b (p ++ [y])
    rw [mid_app, mid_len] at ih
    have hlt : decide (((p.length : Nat) : Int) < (((p ++ y :: b).length : Nat) : Int)) = true := by simp; omega
    simp only [spec_CompareNames_L1, hlt, cond_true, mid]
    by_cases hk : spec_l4Cmp x y = 0
    · have e : x.toList = y.toList := (l4_zero _ _).1 hk
      rw [hk]
      simp only [bne_self_F, cond_false]
      revert ih
      cases spec_CompareNames_L1 ⟨p ++ y :: b⟩ a (p.length + 1) with
      | none => intro ih h; simp [e, ih (by simpa using h)]
      | some k => intro ih; exact ⟨ih.1, fun h => ih.2 (by simpa [e] using h)⟩
    · have hn : (spec_l4Cmp x y != 0) = true := by simpa using hk
      simp only [hn, cond_true]
      exact ⟨hk, fun h => hk ((l4_zero _ _).2 (by simp at h; exact h.1))⟩
theorem same_EqualNames (a b : Name) : impl_EqualNames a b = spec_EqualNames a b := by
  unfold impl_EqualNames spec_EqualNames spec_CompareNames
  rw [sEq_string]
  have h : match spec_CompareNames_L1 b a.parts 0 with
    | some k => k ≠ 0 ∧ a.parts.map (fun z : Str => z.toList) ≠ b.parts.map (fun z : Str => z.toList)
    | none => a.parts.length = b.parts.length → a.parts.map (fun z : Str => z.toList) = b.parts.map (fun z : Str => z.toList) := cNL a.parts b.parts []
  revert h
  cases spec_CompareNames_L1 b a.parts 0 with
  | some k => intro ⟨h1, h2⟩; simp [h1, h2]
  | none =>
    intro h
    by_cases hl : a.parts.length = b.parts.length
    · simp [h hl, hl]
    · have ne : a.parts.map (fun z : Str => z.toList) ≠ b.parts.map (fun z : Str => z.toList) := fun h => hl (by simpa using congrArg List.length h)
      rcases Nat.lt_or_gt_of_ne hl with c | c
      · simp [ne, c]
      · have c' : ¬ a.parts.length < b.parts.length := by omega
        simp [ne, c, c']
theorem vPL : ∀ l : List UInt8, impl_ValidPart_L1 l = spec_ValidPart_L1 l ∧ (spec_ValidPart_L1 l = none ∨ spec_ValidPart_L1 l = some false)
  | [] => ⟨rfl, .inl rfl⟩
  | c :: l => by
    obtain ⟨h1, h2⟩ := vPL l
    simp only [impl_ValidPart_L1, spec_ValidPart_L1, h1, spec_l1In, ge_iff_le]
    cases decide ((97 : Int) ≤ (c.toNat : Int)) <;> cases decide ((c.toNat : Int) ≤ 122) <;> cases decide ((48 : Int) ≤ (c.toNat : Int)) <;> cases decide ((c.toNat : Int) ≤ 57) <;> cases hc : ((c.toNat : Int) == 45) <;> simp [bne, hc, h2]
theorem same_ValidPart (s : Str) : impl_ValidPart s = spec_ValidPart s := by
  unfold impl_ValidPart spec_ValidPart
  obtain ⟨h1, h2⟩ := vPL s.data.toList
  rw [h1, same_In]
  rcases h2 with h | h <;> rw [h] <;> cases spec_l1In (((s).size : Nat) : Int) 1 8 <;> rfl
theorem iF_string : ∀ (f : Str → Bool) (l : List Str) (i : Nat), (slices_IndexFunc_string_L1 f l i = none ∧ l.any f = false) ∨ ∃ j : Nat, slices_IndexFunc_string_L1 f l i = some (j : Int) ∧ l.any f = true
  | f, [], i => .inl ⟨rfl, rfl⟩
  | f, x :: l, i => by
    simp only [slices_IndexFunc_string_L1, List.any_cons]
    cases hx : f x
    · simpa using iF_string f l (i + 1)
    · exact .inr ⟨i, rfl, rfl⟩
theorem cF_string (l : List Str) (f : Str → Bool) : slices_ContainsFunc_string l f = l.any f := by
  unfold slices_ContainsFunc_string slices_IndexFunc_string
  rcases iF_string f l 0 with ⟨h1, h2⟩ | ⟨j, h1, h2⟩ <;> simp [h1, h2]
theorem vNL : ∀ l : List Str, spec_ValidName_L1 l = bif l.any (fun e => !(spec_ValidPart e)) then some false else none
  | [] => rfl
  | x :: l => by
    simp only [spec_ValidName_L1, List.any_cons]
    cases (!(spec_ValidPart x)) <;> simp [vNL l]
theorem same_ValidName (a : Name) : impl_ValidName a = spec_ValidName a := by
  unfold impl_ValidName spec_ValidName impl_ValidName_c1
  rw [cF_string, vNL]
  simp only [same_ValidPart]
  cases a.parts.any (fun e => !(spec_ValidPart e)) <;> cases decide ((((a.parts).length : Nat) : Int) ≤ 6) <;> rfl
theorem cmp_l4 (x y : Str) : cmp_Compare_string x y = spec_l4Cmp x y := by
  simp [cmp_Compare_string, cmp_isNaN_string, spec_l4Cmp]
theorem cCL : ∀ (a b p : List Str), (slices_Compare_string_L1 (p ++ b) a p.length = spec_CompareNames_L1 ⟨p ++ b⟩ a p.length ∧ (spec_CompareNames_L1 ⟨p ++ b⟩ a p.length = none → a.length ≤ b.length)) ∨ (slices_Compare_string_L1 (p ++ b) a p.length = some 1 ∧ spec_CompareNames_L1 ⟨p ++ b⟩ a p.length = none ∧ b.length < a.length)
  | [], b, p => .inl ⟨rfl, fun _ => Nat.zero_le _⟩
  | x :: a, [], p => .inr (by simp [slices_Compare_string_L1, spec_CompareNames_L1])
  | x :: a, y :: b, p => by
    have ih := cCL a b (p ++ [y])
    rw [mid_app, mid_len] at ih
    have hlt : decide (((p.length : Nat) : Int) < (((p ++ y :: b).length : Nat) : Int)) = true := by simp; omega
    have hge : decide (((p.length : Nat) : Int) ≥ (((p ++ y :: b).length : Nat) : Int)) = false := by simp; omega
    simp only [spec_CompareNames_L1, slices_Compare_string_L1, hlt, hge, cond_true, cond_false, mid, cmp_l4, List.length_cons]
    cases (spec_l4Cmp x y != 0)
    · simp only [cond_false]
      rcases ih with ⟨h1, h2⟩ | ⟨h1, h2, h3⟩
      · exact .inl ⟨h1, fun h => by have := h2 h; omega⟩
      · exact .inr ⟨h1, h2, by omega⟩
    · exact .inl ⟨rfl, fun h => by cases h⟩
theorem same_CompareNames (a b : Name) : impl_CompareNames a b = spec_CompareNames a b := by
  unfold impl_CompareNames slices_Compare_string spec_CompareNames
  have h : (slices_Compare_string_L1 b.parts a.parts 0 = spec_CompareNames_L1 b a.parts 0 ∧ (spec_CompareNames_L1 b a.parts 0 = none → a.parts.length ≤ b.parts.length)) ∨ (slices_Compare_string_L1 b.parts a.parts 0 = some 1 ∧ spec_CompareNames_L1 b a.parts 0 = none ∧ b.parts.length < a.parts.length) := cCL a.parts b.parts []
  rcases h with ⟨h1, h2⟩ | ⟨h1, h2, h3⟩
  · rw [h1]
    cases hs : spec_CompareNames_L1 b a.parts 0 with
    | some k => rfl
    | none =>
      have := h2 hs
      have c : decide ((((a.parts).length : Nat) : Int) > (((b.parts).length : Nat) : Int)) = false := by simp; omega
      simp only [c, cond_false]
  · rw [h1, h2]
    have c : decide ((((a.parts).length : Nat) : Int) > (((b.parts).length : Nat) : Int)) = true := by simp; omega
    have d : decide ((((a.parts).length : Nat) : Int) < (((b.parts).length : Nat) : Int)) = false := by simp; omega
    simp only [c, d, cond_false, cond_true]
theorem vTL (l : List TableEntry) : ∀ (r : List TableEntry) (i : Nat), impl_ValidTable_L1 l r i = spec_ValidTable_L1 l r i
  | [], _ => rfl
  | x :: r, i => by simp only [impl_ValidTable_L1, spec_ValidTable_L1, same_ValidName, same_CompareNames, vTL l r]
theorem same_ValidTable (l : List TableEntry) : impl_ValidTable l = spec_ValidTable l := by
  unfold impl_ValidTable spec_ValidTable
  rw [vTL]
theorem iF_TableEntry : ∀ (f : TableEntry → Bool) (l : List TableEntry) (i : Nat), (slices_IndexFunc_TableEntry_L1 f l i = none ∧ l.any f = false) ∨ ∃ j : Nat, slices_IndexFunc_TableEntry_L1 f l i = some (j : Int) ∧ l.any f = true
  | f, [], i => .inl ⟨rfl, rfl⟩
  | f, x :: l, i => by
    simp only [slices_IndexFunc_TableEntry_L1, List.any_cons]
    cases hx : f x
    · simpa using iF_TableEntry f l (i + 1)
    · exact .inr ⟨i, rfl, rfl⟩
theorem cF_TableEntry (l : List TableEntry) (f : TableEntry → Bool) : slices_ContainsFunc_TableEntry l f = l.any f := by
  unfold slices_ContainsFunc_TableEntry slices_IndexFunc_TableEntry
  rcases iF_TableEntry f l 0 with ⟨h1, h2⟩ | ⟨j, h1, h2⟩ <;> simp [h1, h2]
theorem vVL : ∀ l : List TableEntry, spec_ValidVector_L1 l = bif l.any (fun e => !(spec_l1In e.value 1 1000)) then some false else none
  | [] => rfl
  | x :: l => by
    simp only [spec_ValidVector_L1, List.any_cons]
    cases (!(spec_l1In x.value 1 1000)) <;> simp [vVL l]
theorem same_ValidVector' (a : StateVector) : impl_ValidVector a = spec_ValidVector a := by
  unfold impl_ValidVector spec_ValidVector impl_ValidVector_c1
  rw [cF_TableEntry, vVL, same_ValidTable]
  simp only [same_In]
  cases a.entries.any (fun e => !(spec_l1In e.value 1 1000)) <;> cases spec_ValidTable a.entries <;> rfl
theorem ixL (n_ : Name) : ∀ (l : List TableEntry) (i : Nat), slices_IndexFunc_TableEntry_L1 (fun e0_ => impl_indexOfName_c1 n_ e0_) l i = spec_l6Find_L1 n_ l i
  | [], i => rfl
  | x :: l, i => by
    simp only [slices_IndexFunc_TableEntry_L1, spec_l6Find_L1]
    rw [ixL n_ l (i + 1), show impl_indexOfName_c1 n_ x = spec_EqualNames x.name n_ from same_EqualNames _ _]
theorem same_indexOfName (l : List TableEntry) (n_ : Name) : impl_indexOfName l n_ = spec_l6Find l n_ := by
  unfold impl_indexOfName slices_IndexFunc_TableEntry spec_l6Find
  rw [ixL] <;> (cases spec_l6Find_L1 n_ l 0 <;> rfl)
theorem same_LookupEntry (l : List TableEntry) (n_ : Name) : impl_LookupEntry l n_ = spec_LookupEntry l n_ := by
  simp only [impl_LookupEntry, spec_LookupEntry, same_indexOfName]
theorem same_SeqOf' (v : StateVector) (n_ : Name) : impl_SeqOf v n_ = spec_SeqOf v n_ := by
  simp only [impl_SeqOf, spec_SeqOf, same_LookupEntry]
theorem pAL (n_ : Name) (i : Int) : ∀ (l : List Publication) (k : Nat), slices_IndexFunc_Publication_L1 (fun e0_ => impl_publishedAt_c1 i n_ e0_) l k = spec_l28Find_L1 n_ i l k
  | [], k => rfl
  | x :: l, k => by
    have ih := pAL n_ i l (k + 1)
    have h : impl_publishedAt_c1 i n_ x = (bif (x.seq == i) then spec_EqualNames x.publisher n_ else false) := by rw [← same_EqualNames]; rfl
    simp only [slices_IndexFunc_Publication_L1, spec_l28Find_L1, h]
    cases (x.seq == i) <;> cases spec_EqualNames x.publisher n_ <;> first | rfl | exact ih
theorem same_publishedAt (l : List Publication) (n_ : Name) (i : Int) : impl_publishedAt l n_ i = spec_l28Find l n_ i := by
  unfold impl_publishedAt slices_IndexFunc_Publication spec_l28Find
  rw [pAL] <;> (cases spec_l28Find_L1 n_ i l 0 <;> rfl)
theorem vSL : ∀ (l : List TableEntry) (s : Int), impl_VectorSum_L1 l s = spec_VectorSum_L1 l s
  | [], _ => rfl
  | x :: l, s => vSL l _
theorem same_VectorSum' (v : StateVector) : impl_VectorSum v = spec_VectorSum v := vSL v.entries 0
theorem vML (m : Member) : ∀ (l : List Publication) (i : Nat), impl_ValidMember_L1 m l i = spec_ValidMember_L1 m l i ∧ (spec_ValidMember_L1 m l i = none ∨ spec_ValidMember_L1 m l i = some false)
  | [], i => ⟨rfl, .inl rfl⟩
  | x :: l, i => by
    obtain ⟨h1, h2⟩ := vML m l (i + 1)
    simp only [impl_ValidMember_L1, spec_ValidMember_L1, same_In, same_SeqOf', same_publishedAt, h1]
    refine ⟨trivial, ?_⟩
    cases (!(spec_l1In x.seq 1 (spec_SeqOf m.vector x.publisher))) <;> cases decide ((((x.content).length : Nat) : Int) > 60) <;> cases decide ((spec_l28Find (List.take i m.publications) x.publisher x.seq) ≥ 0) <;> first | exact h2 | exact .inr rfl
theorem same_ValidMember' (m : Member) : impl_ValidMember m = spec_ValidMember m := by
  obtain ⟨h1, h2⟩ := vML m m.publications 0
  have hb : ((((m.publications).length : Nat) : Int) != (spec_VectorSum m.vector)) = !((spec_VectorSum m.vector) == (((m.publications).length : Nat) : Int)) := by rw [bne, BEq.comm]
  simp only [impl_ValidMember, spec_ValidMember, same_ValidName, same_ValidVector', same_VectorSum', h1, hb]
  rcases h2 with h | h <;> rw [h] <;> cases ((spec_VectorSum m.vector) == (((m.publications).length : Nat) : Int)) <;> rfl
theorem spL1 (l : List TableEntry) (n_ : Name) : ∀ (m i : Nat), l.length - i = m → i ≤ l.length → spec_PutEntry_L1 l n_ i = i + (l.drop i).findIdx (fun e => !decide (spec_CompareNames e.name n_ < 0))
  | 0, i, hm, hi => by
    rw [spec_PutEntry_L1, cT_spec]
    rw [if_neg (by omega), List.drop_eq_nil_of_le (by omega)]
    simp
  | m + 1, i, hm, hi => by
    have hlt : i < l.length := by omega
    have hg : l[i]? = some l[i] := List.getElem?_eq_getElem hlt
    rw [spec_PutEntry_L1, cT_spec]
    rw [if_pos (by omega), List.drop_eq_getElem_cons hlt, List.findIdx_cons]
    simp only [hg]
    by_cases hc : spec_CompareNames l[i].name n_ < 0
    · rw [if_pos hc, spL1 l n_ m (i + 1) (by omega) (by omega)]
      simp only [hc, decide_true, Bool.not_true, cond_false]
      omega
    · rw [if_neg hc]
      simp only [hc, decide_false, Bool.not_false, cond_true, Nat.add_zero]
theorem ifF (f : TableEntry → Bool) : ∀ (l : List TableEntry) (i : Nat), slices_IndexFunc_TableEntry_L1 f l i = if l.findIdx f < l.length then some ((i + l.findIdx f : Nat) : Int) else none
  | [], i => by simp [slices_IndexFunc_TableEntry_L1]
  | x :: l, i => by
    simp only [slices_IndexFunc_TableEntry_L1, List.findIdx_cons, List.length_cons]
    cases hx : f x
    · simp only [cond_false]
      rw [ifF f l (i + 1)]
      by_cases h : l.findIdx f < l.length
      · rw [if_pos h, if_pos (by omega), show i + 1 + l.findIdx f = i + (l.findIdx f + 1) by omega]
      · rw [if_neg h, if_neg (by omega)]
    · simp only [cond_true, Nat.add_zero]
      rw [if_pos (by omega)]
theorem fiC {f g : TableEntry → Bool} : ∀ {l : List TableEntry}, (∀ a ∈ l, f a = g a) → l.findIdx f = l.findIdx g
  | [], _ => rfl
  | x :: l, h => by
    rw [List.findIdx_cons, List.findIdx_cons, h x List.mem_cons_self, fiC (fun a ha => h a (List.mem_cons_of_mem _ ha))]
theorem l6N (n_ : Name) : ∀ (l : List TableEntry) (i : Nat), spec_l6Find_L1 n_ l i = none → ∀ a ∈ l, spec_EqualNames a.name n_ = false
  | [], i, h, a, ha => by cases ha
  | x :: l, i, h, a, ha => by
    simp only [spec_l6Find_L1] at h
    cases hx : spec_EqualNames x.name n_
    · rw [hx, cond_false] at h
      rcases List.mem_cons.1 ha with rfl | ha
      · exact hx
      · exact l6N n_ l (i + 1) h a ha
    · rw [hx, cond_true] at h
      cases h
theorem l6S (n_ : Name) : ∀ (l : List TableEntry) (i : Nat) (j : Int), spec_l6Find_L1 n_ l i = some j → 0 ≤ j
  | [], i, j, h => by cases h
  | x :: l, i, j, h => by
    simp only [spec_l6Find_L1] at h
    cases hx : spec_EqualNames x.name n_
    · rw [hx, cond_false] at h
      exact l6S n_ l (i + 1) j h
    · rw [hx, cond_true] at h
      cases h
      omega
theorem same_PutEntry (l : List TableEntry) (n_ : Name) (v : Int) : impl_PutEntry l n_ v = spec_PutEntry l n_ v := by
  unfold impl_PutEntry spec_PutEntry
  rw [cT_impl, cT_spec, same_indexOfName]
  cases hd : decide (spec_l6Find l n_ ≥ 0)
  · have hno : ∀ a ∈ l, spec_EqualNames a.name n_ = false := by
      cases hx : spec_l6Find_L1 n_ l 0 with
      | none => exact l6N n_ l 0 hx
      | some j =>
        have h1 := l6S n_ l 0 j hx
        have h2 := of_decide_eq_false hd
        have h3 : spec_l6Find l n_ = j := by unfold spec_l6Find; rw [hx]
        omega
    have hF : l.findIdx (fun e0_ => impl_PutEntry_c1 n_ e0_) = l.findIdx (fun e => !decide (spec_CompareNames e.name n_ < 0)) := fiC fun a ha => by
      have h1 := hno a ha
      unfold spec_EqualNames at h1
      have h2 : spec_CompareNames a.name n_ ≠ 0 := by simpa using h1
      unfold impl_PutEntry_c1
      rw [same_CompareNames]
      by_cases hc : spec_CompareNames a.name n_ < 0
      · rw [decide_eq_false (show ¬ spec_CompareNames a.name n_ > 0 by omega), decide_eq_true hc]; rfl
      · rw [decide_eq_true (show spec_CompareNames a.name n_ > 0 by omega), decide_eq_false hc]; rfl
    have hS := spL1 l n_ l.length 0 (Nat.sub_zero _) (Nat.zero_le _)
    rw [Nat.zero_add, List.drop_zero, ← hF] at hS
    have hle : l.findIdx (fun e0_ => impl_PutEntry_c1 n_ e0_) ≤ l.length := List.findIdx_le_length
    have hI := ifF (fun e0_ => impl_PutEntry_c1 n_ e0_) l 0
    simp only [cond_false, same_ValidTable, hS]
    by_cases hlt : l.findIdx (fun e0_ => impl_PutEntry_c1 n_ e0_) < l.length
    · rw [if_pos hlt, Nat.zero_add] at hI
      have hJ : slices_IndexFunc_TableEntry l (fun e0_ => impl_PutEntry_c1 n_ e0_) = ((l.findIdx (fun e0_ => impl_PutEntry_c1 n_ e0_) : Nat) : Int) := by unfold slices_IndexFunc_TableEntry; rw [hI]
      rw [hJ, decide_eq_false (show ¬ ((l.findIdx (fun e0_ => impl_PutEntry_c1 n_ e0_) : Nat) : Int) < 0 by omega), cond_false]
      unfold slices_Insert_TableEntry
      rw [Int.toNat_natCast]
      rfl
    · rw [if_neg hlt] at hI
      have hJ : slices_IndexFunc_TableEntry l (fun e0_ => impl_PutEntry_c1 n_ e0_) = -1 := by unfold slices_IndexFunc_TableEntry; rw [hI]
      have hE : l.findIdx (fun e0_ => impl_PutEntry_c1 n_ e0_) = l.length := by omega
      rw [hJ, show decide ((-1 : Int) < 0) = true from rfl, cond_true, hE]
      unfold slices_Insert_TableEntry
      rw [Int.toNat_natCast]
      rfl
  · simp only [cond_true, same_ValidTable]
theorem szL_append {α : Type} [GoT α] [Sz α] (a b : List α) : szL (a ++ b) = szL a + szL b := by simp [szL]
theorem szL_set {α : Type} [GoT α] [Sz α] (x y : α) (hxy : sz x = sz y) : ∀ (l : List α) (i : Nat), l[i]? = some y → szL (l.set i x) = szL l
  | [], i, h => by simp at h
  | z :: l, 0, h => by
    simp at h; subst h
    rw [List.set_cons_zero, szL_cons, szL_cons, hxy]
  | z :: l, i + 1, h => by
    rw [List.set_cons_succ, szL_cons, szL_cons, szL_set x y hxy l i (by simpa using h)]
theorem PutShape.size {l r : List TableEntry} {n_ : Name} {v : Int} (h : PutShape l n_ v r) : sz r ≤ sz l + 1 + sz n_ := by
  cases h with
  | same => omega
  | nil => simp [sz_list, szL_nil]
  | set i e h =>
    have := szL_set ⟨e.name, v⟩ e (by rw [sz_TableEntry, sz_TableEntry]) l i h
    rw [sz_list, sz_list, List.length_set, this]; omega
  | ins i =>
    have h1 := szL_append (l.take i) (l.drop i)
    rw [List.take_append_drop] at h1
    have h2 : szL [(⟨n_, v⟩ : TableEntry)] = sz n_ := by simp [szL, sz_TableEntry]
    rw [sz_list, sz_list, szL_append, szL_append, h2]
    simp only [List.length_append, List.length_take, List.length_drop, List.length_cons, List.length_nil]
    omega
theorem same_AcceptPublication' (m : Member) (x_ : Publication) : impl_AcceptPublication m x_ = spec_AcceptPublication m x_ := by
  simp only [impl_AcceptPublication, spec_AcceptPublication, cM_impl, cM_spec, same_SeqOf', same_PutEntry, same_ValidMember', impl_copyName, spec_l4Copy]
theorem bif_elim {α : Type} {P : α → Prop} {c : Bool} {a b : α} (h1 : P a) (h2 : P b) : P (bif c then a else b) := by
  cases c
  · exact h2
  · exact h1
theorem bnd_AcceptPublication (m : Member) (x_ : Publication) : sz (spec_AcceptPublication m x_).1 ≤ sz m + 2 * sz x_ + 2 := by
  unfold spec_AcceptPublication
  rw [cM_spec]
  have h := (put_spec m.vector.entries x_.publisher x_.seq).size
  have h0 : sz m ≤ sz m + 2 * sz x_ + 2 := by omega
  have h1 : sz (Member.mk m.name (StateVector.mk (spec_PutEntry m.vector.entries x_.publisher x_.seq).1) (m.publications ++ [Publication.mk (spec_l4Copy x_.publisher) x_.seq x_.content])) ≤ sz m + 2 * sz x_ + 2 := by
    simp only [spec_l4Copy]
    rw [sz_Member, sz_Member, sz_StateVector, sz_StateVector, sz_Publication, sz_list (m.publications ++ _), sz_list m.publications, szL_append]
    have h2 : szL [Publication.mk x_.publisher x_.seq x_.content] = sz x_.publisher + sz x_.content := by simp [szL, sz_Publication]
    simp only [h2, List.length_append, List.length_cons, List.length_nil]
    omega
  refine bif_elim (P := fun z : Member × Bool => sz z.1 ≤ sz m + 2 * sz x_ + 2) h0 (bif_elim (P := fun z : Member × Bool => sz z.1 ≤ sz m + 2 * sz x_ + 2) h0 (bif_elim (P := fun z : Member × Bool => sz z.1 ≤ sz m + 2 * sz x_ + 2) h0 h1))
theorem same_Publish' (m : Member) (b : List UInt8) : impl_Publish m b = spec_Publish m b := by
  simp only [impl_Publish, spec_Publish, same_AcceptPublication', same_SeqOf']
theorem bnd_Publish (m : Member) (b : List UInt8) : sz (spec_Publish m b).1 ≤ 3 * sz m + 2 * sz b + 2 := by
  have h := bnd_AcceptPublication m (Publication.mk m.name (IntKind.i64.wrap ((spec_SeqOf m.vector m.name) + 1)) b)
  rw [sz_Publication] at h
  have h1 : sz m.name ≤ sz m := by rw [sz_Member]; omega
  have h2 : (spec_Publish m b).1 = (spec_AcceptPublication m (Publication.mk m.name (IntKind.i64.wrap ((spec_SeqOf m.vector m.name) + 1)) b)).1 := rfl
  rw [h2]
  dsimp only at h
  omega
end Go.Stp

namespace Go.Stp
open Go.RowKit (Below)
open GoT (X k ok sh fa oa)
def Opens (P : Program) (T : TypeId) (α : Type) [GoT α] : Prop :=
  P.cellsOf T = k α ∧ ∀ {H : Type} {enc : TypeId × Value → H} {w : World} {spare : Nat → Bool} {held : Bool} {fuel : Nat} {cs : List Value} {x : DataW H × List MemPlace}, DataW.trod enc P w 0 spare held fuel T cs = some x →
    ∃ (a : α) (y : X α), cs = sh a y ∧ ok 10 a ∧ All (hp w) (fa .der a y)
theorem opens_int {P : Program} {T : TypeId} (h : P.underlying T = some (.int .i64)) (hc : P.cellsOf T = 1) : Opens P T Int := ⟨hc, fun h' => by
  obtain ⟨n, rfl, _, hw⟩ := DataW.trod_int h h'
  exact ⟨n, (), rfl, by simpa [Lit.wf, IntKind.min, IntKind.max, IntKind.signed, IntKind.bits, ok, I64] using hw, (fun _ h_ => by cases h_)⟩⟩
theorem opens_str {P : Program} {T : TypeId} (h : P.underlying T = some .string) (hc : P.cellsOf T = 1) : Opens P T ByteArray := ⟨hc, fun h' => by
  obtain ⟨n, rfl, _, hw⟩ := DataW.trod_string h h'
  exact ⟨n, (), rfl, (by simp only [maxLen] at hw; omega : n.size ≤ 9223372036854775807), (fun _ h_ => by cases h_)⟩⟩
theorem opens_byte {P : Program} {T : TypeId} (h : P.underlying T = some (.int .u8)) (hc : P.cellsOf T = 1) : Opens P T UInt8 := ⟨hc, fun h' => by
  obtain ⟨n, rfl, _, hw⟩ := DataW.trod_int h h'
  have hn : 0 ≤ n ∧ n ≤ 255 := by simpa [Lit.wf, IntKind.min, IntKind.max, IntKind.signed, IntKind.bits] using hw
  refine ⟨UInt8.ofNat n.toNat, (), ?_, trivial, (fun _ h_ => by cases h_)⟩
  have : ((UInt8.ofNat n.toNat).toNat : Int) = n := by
    rw [UInt8.toNat_ofNat', Nat.mod_eq_of_lt (by omega)]; omega
  simp only [sh]
  rw [this]⟩
theorem cells?_each {w : World} {a : Addr} {n : Nat} {cs : List Value} (h : w.cells? 0 a n = some cs) : ∀ j u, cs[j]? = some u → w.cell? (a.add j) = some u := by
  intro j u hj
  obtain ⟨_, h1, h2⟩ := World.cells?_some h
  rw [h2 j (by rw [← h1]; exact (List.getElem?_eq_some_iff.1 hj).1)]; exact hj
theorem opens_slice {P : Program} {T E : TypeId} {α : Type} [GoT α] (h : P.underlying T = some (.slice E)) (hc : P.cellsOf T = 1) (he : Opens P E α) : Opens P T (List α) := ⟨hc, fun {H enc w spare held fuel cs x} h' => by
  rcases DataW.trod_slice h h' with ⟨rfl, _⟩ | ⟨a, len, cap, elems, rest, n, _, rfl, _, _, hl, hm, hlen, hel, _, _⟩
  · exact ⟨[], (none, 0), rfl, ⟨Nat.zero_le _, fun _ h_ => by cases h_⟩, fun f hf => by
      obtain rfl := List.mem_singleton.1 hf
      exact ⟨Nat.zero_le _, Nat.zero_le _, [], fun j u h => by simp at h, rfl⟩⟩
  · have key : ∀ m, m ≤ len → ∃ (l : List α) (xs : List Value), l.length = m ∧ xs.length = m * k α ∧ RdL (hp w) xs l ∧ (∀ b ∈ l, ok 10 b) ∧ CellsAt (hp w) (some a) xs := by
      intro m
      induction m with
      | zero => exact fun _ => ⟨[], [], rfl, by simp, rfl, by simp, fun j u h => by simp at h⟩
      | succ m ih =>
        intro hmle
        obtain ⟨l, xs, h1, h2, h3, h4, h5⟩ := ih (by omega)
        have hm' := hel m (by omega)
        rw [he.1] at hm'
        obtain ⟨y, hy⟩ : ∃ y, elems[m]? = some y := ⟨_, List.getElem?_eq_getElem (by omega)⟩
        rw [hy, Option.bind_eq_some_iff] at hm'
        obtain ⟨cs', hcs, htr⟩ := hm'
        obtain ⟨b, yb, rfl, hok, hfa⟩ := he.2 htr
        refine ⟨l ++ [b], xs ++ sh b yb, by simp [h1], by rw [List.length_append, h2, GoT.len, Nat.add_mul]; omega, h3.snoc hfa, ?_, ?_⟩
        · intro c hc
          rcases List.mem_append.1 hc with hc | hc
          · exact h4 c hc
          · simp at hc; subst hc; exact hok
        · intro j u hj
          refine ⟨a, rfl, ?_⟩
          by_cases hlt : j < xs.length
          · rw [List.getElem?_append_left hlt] at hj
            obtain ⟨a', ha', hg⟩ := h5 j u hj
            simp at ha'; subst ha'; exact hg
          · rw [List.getElem?_append_right (by omega)] at hj
            have := cells?_each hcs _ _ hj
            rw [addr_add_add, h2, show m * k α + (j - m * k α) = j by omega] at this
            exact this
    obtain ⟨l, xs, h1, h2, h3, h4, h5⟩ := key len (Nat.le_refl _)
    have hm' : len ≤ 9223372036854775807 := by simp only [maxLen] at hm; omega
    refine ⟨l, (some a, cap), by simp [sh, h1], ⟨by show l.length ≤ 9223372036854775807; omega, h4⟩, fun f hf => ?_⟩
    obtain rfl := List.mem_singleton.1 hf
    exact ⟨by omega, by omega, xs, h5, h3⟩⟩
def OpensF (P : Program) (fs : List Field) (off : Nat) (β : Type) [GoT β] : Prop :=
  ∀ {H : Type} {enc : TypeId × Value → H} {w : World} {spare : Nat → Bool} {held : Bool} {n : Nat} {cs : List Value},
    (∀ (i : Nat) (f : Field), fs[i]? = some f → ∃ y, DataW.trod enc P w 0 spare held n f.type ((cs.drop f.offset).take (P.cellsOf f.type)) = some y) →
    ∃ (b : β) (y : X β), (cs.drop off).take (k β) = sh b y ∧ ok 10 b ∧ All (hp w) (fa .der b y)
theorem opensF_one {P : Program} {f : Field} {off : Nat} {α : Type} [GoT α] (ho : f.offset = off) (hf : Opens P f.type α) : OpensF P [f] off α := fun {H enc w spare held n cs} h => by
  obtain ⟨y, hy⟩ := h 0 f rfl
  obtain ⟨a, ya, h1, h2, h3⟩ := hf.2 hy
  rw [hf.1, ho] at h1
  exact ⟨a, ya, h1, h2, h3⟩
theorem opensF_cons {P : Program} {f : Field} {fs : List Field} {off : Nat} {α β : Type} [GoT α] [GoT β] (ho : f.offset = off) (hf : Opens P f.type α) (hr : OpensF P fs (off + k α) β) : OpensF P (f :: fs) off (α × β) := fun {H enc w spare held n cs} h => by
  obtain ⟨y, hy⟩ := h 0 f rfl
  obtain ⟨a, ya, h1, h2, h3⟩ := hf.2 hy
  obtain ⟨b, yb, k1, k2, k3⟩ := hr (cs := cs) (fun i g hg => h (i + 1) g (by simpa using hg))
  rw [hf.1, ho] at h1
  refine ⟨(a, b), (ya, yb), ?_, ⟨h2, k2⟩, All.append h3 k3⟩
  show (cs.drop off).take (k α + k β) = sh a ya ++ sh b yb
  rw [← h1, ← k1, List.take_add, List.drop_drop]
theorem opens_struct {P : Program} {T : TypeId} {fs : Array Field} {α β : Type} [GoT β] (e : α → β) (mk : β → α) (hm : ∀ b, e (mk b) = b) (h : P.underlying T = some (.struct fs)) (hc : P.cellsOf T = k β) (hf : OpensF P fs.toList 0 β) :
    @Opens P T α (GoT.via e) := by
  letI : GoT α := GoT.via e
  refine ⟨hc, fun {H enc w spare held fuel cs x} h' => ?_⟩
  obtain ⟨xs, n, _, _, hcl, hxl, hall⟩ := DataW.trod_struct h h'
  obtain ⟨b, y, h1, h2, h3⟩ := hf (cs := cs) (fun i f hi => by
    have hi' : fs[i]? = some f := by simpa using hi
    have := hall i f hi'
    obtain ⟨z, hz⟩ : ∃ z, xs[i]? = some z := ⟨_, List.getElem?_eq_getElem (by rw [hxl]; exact (Array.getElem?_eq_some_iff.1 hi').1)⟩
    exact ⟨z, by rw [this, hz]⟩)
  rw [List.drop_zero, List.take_of_length_le (by rw [hcl, hc]; exact Nat.le_refl _)] at h1
  refine ⟨mk b, y, ?_, ?_, ?_⟩
  · show cs = sh (e (mk b)) y; rw [hm]; exact h1
  · show ok 10 (e (mk b)); rw [hm]; exact h2
  · show All (hp w) (fa .der (e (mk b)) y); rw [hm]; exact h3

def Arg (P : Program) (T : TypeId) (α : Type) [GoT α] (mk : List Value → Value) : Prop :=
  ∀ {H : Type} {enc : TypeId × Value → H} {W : World} {b0 : Nat} {spare : Nat → Bool} {held : Bool} {v : Value} {d : DataW H} {ps : List MemPlace}, Value.okWide P W .any b0 T v → DataW.Trod enc P W 0 spare held T v d ps →
    ∃ (a : α) (y : X α), v = mk (sh a y) ∧ ok 10 a ∧ All (hp W) (fa .der a y)
theorem arg_struct {P : Program} {T : TypeId} {α : Type} [GoT α] {fs : Array Field} (h : P.underlying T = some (.struct fs)) (ho : Opens P T α) : Arg P T α (fun cs => .agg ⟨cs⟩) := by
  intro H enc W b0 spare held v d ps hval ⟨fuel, hf⟩
  simp only [Value.okWide, h] at hval
  obtain ⟨cs, rfl, _⟩ := hval
  obtain ⟨a, y, h1, h2, h3⟩ := ho.2 hf
  refine ⟨a, y, ?_, h2, h3⟩
  have : cs.toList = sh a y := by simpa [Value.cells] using h1
  rw [← this]
theorem arg_slice {P : Program} {T E : TypeId} {α : Type} [GoT α] (h : P.underlying T = some (.slice E)) (ho : Opens P T (List α)) : Arg P T (List α) (fun cs => cs.headD undef) := by
  intro H enc W b0 spare held v d ps hval ⟨fuel, hf⟩
  obtain ⟨a, y, h1, h2, h3⟩ := ho.2 hf
  refine ⟨a, y, ?_, h2, h3⟩
  cases v with
  | agg cs => simp [Value.okWide, h, Cell.okWide, Cell.ok] at hval
  | _ => first | (simp [Value.cells, sh] at h1; done) | (simp [Value.cells, sh] at h1; simp [sh, h1])
theorem trodAll_stays {H : Type} {enc : TypeId × Value → H} {P : Program} (hl : laidOutB P = true) {W W' : World} {sp : Nat → Bool} : ∀ {ts : List TypeId} {vs : List Value} {ds : List (DataW H)} {ps : List MemPlace},
    ts.all (fun t => P.readableRec t && decide (t < P.types.size)) = true → DataW.TrodAll enc P W 0 (fun _ => true) true ts vs ds ps → (∀ p ∈ ps, W.sameAt W' p) → (∀ p ∈ ps, sp p.block = true) → DataW.TrodAll enc P W' 0 sp true ts vs ds ps
  | [], [], [], _, _, h, _, _ => h
  | t :: ts, v :: vs, d :: ds, ps, ha, ⟨p, q, h1, h2, e⟩, hs, hsp => by
    simp only [List.all_cons, Bool.and_eq_true, decide_eq_true_eq] at ha
    subst e
    exact ⟨p, q, WideElems.Trod_stays hl ha.1.1 ha.1.2 h1 (fun x hx => hs x (List.mem_append_left _ hx)) (fun x hx => hsp x (List.mem_append_left _ hx)),
      trodAll_stays hl ha.2 h2 (fun x hx => hs x (List.mem_append_right _ hx)) (fun x hx => hsp x (List.mem_append_right _ hx)), rfl⟩
theorem trodAll_len {H : Type} {enc : TypeId × Value → H} {P : Program} {W : World} {b : Nat} {sp : Nat → Bool} {hd : Bool} : ∀ {ts : List TypeId} {vs : List Value} {ds : List (DataW H)} {ps : List MemPlace}, DataW.TrodAll enc P W b sp hd ts vs ds ps → ds.length = ts.length
  | [], [], [], _, _ => rfl
  | _ :: _, _ :: _, _ :: _, _, ⟨_, _, _, h2, _⟩ => by simp [trodAll_len h2]
theorem law_post {H : Type} {enc : TypeId × Value → H} {P : Program} {f : Func} {s : ChangeSpec} {W W' : World} {args : Array Value} {ds gs : List (DataW H)} {before : List MemPlace} {B : TypeId}
    (hl : laidOutB P = true) (hpar : f.params.toList.all (fun t => P.readableRec t && decide (t < P.types.size)) = true) (hvars : s.vars = []) (hB : f.resultTypes = #[B]) (hu : P.underlying B = some .bool)
    (hfn : ∀ ds : List (DataW H), ds.length = f.params.size → s.fn H ds = { results := [.lit (.bool true)], args := ds })
    (hW : DataW.Whole enc P f.params.toList s.vars false W args.toList ds gs before) (hb : Below W.heap.size W W') : s.post enc P f false true false false W args (.bool true) W' := by
  have hW' := hW
  have hlt : ∀ p ∈ before, p.block < W.heap.size := fun p hp => hW.lt p hp
  obtain ⟨p, q, hA, hV, rfl, hfz, hnd⟩ := hW'
  rw [hvars] at hV
  obtain ⟨rfl, rfl⟩ := ChangeShapes.trodVars_none hV
  have hlen : ds.length = f.params.size := by simpa using trodAll_len hA
  have hdd : s.fn H (ds ++ []) = { results := [.lit (.bool true)], args := ds } := by rw [List.append_nil]; exact hfn ds hlen
  have hres : ∀ (b : Nat) (sp : Nat → Bool) (hd : Bool), DataW.TrodAll enc P W' b sp hd f.resultTypes.toList ((Value.bool true).resultList f.resultTypes.size) (s.fn H (ds ++ [])).results [] := by
    intro b sp hd
    rw [hdd, hB]
    exact trodAll_cons_mk (RowKit.shut_bool hu _) ChangeShapes.trodAll_mk0
  have hargs : ∀ sp : Nat → Bool, (∀ x ∈ p ++ [], sp x.block = true) → DataW.TrodAll enc P W' 0 sp true f.params.toList args.toList (s.fn H (ds ++ [])).args p := by
    intro sp hsp
    rw [hdd]
    exact trodAll_stays hl hpar hA (fun x hx => hb.same (hlt x (by simpa using hx))) (fun x hx => hsp x (by simpa using hx))
  have hvars' : ∀ sp : Nat → Bool, DataW.TrodVars enc P W' sp s.vars (s.fn H (ds ++ [])).vars [] := by
    intro sp; rw [hvars, hdd]; rfl
  have hold : ∀ x ∈ p ++ [], (fun b => decide (b < W.heap.size)) x.block = true := fun x hx => by simpa using hlt x hx
  refine ⟨ds, [], p ++ [], [], p, [], hW, hres _ _ _, hargs _ hold, hvars' _, World.keptBut_mono (fun x hx => ⟨hx, Or.inr (by simpa using hx)⟩) (hb.frame (· ∈ p ++ [])), fun h => (by cases h)⟩
end Go.Stp

namespace Go.Proofs.YtfffongneoegbaaGreat.Facts
set_option maxRecDepth 100000
theorem laid : laidOutB Tryz.prog = true := by kernel_rfl
theorem rowed : mapsRowed Tryz.prog = true := by kernel_rfl
end Go.Proofs.YtfffongneoegbaaGreat.Facts

namespace Go.Stp
set_option linter.unusedVariables false
set_option linter.unusedSimpArgs false
theorem same_Publish (aM : Member) (aB : (List UInt8)) : impl_Publish aM aB = spec_Publish aM aB := same_Publish' aM aB
theorem bound_Publish (aM : Member) (aB : (List UInt8)) : sz (spec_Publish aM aB).1 ≤ 3 * sz aM + 2 * sz aB + 2 := bnd_Publish aM aB
theorem true_Publish (aM : Member) (aB : (List UInt8)) (haM : GoT.ok 10 aM) (haB : GoT.ok 10 aB) : laws_FnExactPublish aM aB = true := by
  unfold laws_FnExactPublish
  by_cases sf0 : (((aB).length : Nat) : Int) > 1048576
  · simp only [decide_eq_true sf0, cond_true]
  have df0 := decide_eq_false sf0
  have zf0 : sz aB = (aB).length := by rw [sz_list, szL_u8]; rfl
  by_cases s0 : laws_szMember aM 1048576 < 0
  · simp only [dT s0, cond_true, df0, cond_false]
  have d0 := dF (show 0 ≤ laws_szMember aM 1048576 by omega)
  obtain ⟨t0, z0⟩ := (sz_Member_R aM 1048576 haM (by omega) (by omega)).pos (by omega)
  obtain ⟨mp0, mq0, me0⟩ := mk_Member aM (1) (by omega) (by omega)
  obtain ⟨mp1, mq1, me1⟩ := mk_ByteS aB ((laws_markMember aM (1)).1) (by omega) (by omega)
  have dk := dF (show 0 ≤ (laws_markByteS aB ((laws_markMember aM (1)).1)).1 by omega)
  have hb := bound_Publish aM aB
  have hb0 := hb
  obtain ⟨gp0, gq0, ge0⟩ := mk_Member (spec_Publish aM aB).1 (1) (by omega) (by omega)
  have dg0 := dF (show 0 ≤ (laws_markMember (spec_Publish aM aB).1 (1)).1 by omega)
  simp only [df0, cond_false, d0, to_Member, to_ByteS, same_Publish, eq_Member, eq_ByteS, dk, ge0, dg0, Bool.not_true, bne_self_F, nbeq_self_F, beq_self_eq_true]
end Go.Stp
namespace Go.Proofs.YtfffongneoegbaaGreat
open Go.Stp
open Go.RowKit (Below)
open Go.ChangeShapes Go.WideShapes Go.ChangeAt
namespace LawPublish
theorem own : ownKnob Tryz.prog.godebug = none := by kernel_rfl
theorem laid : laidOutB Tryz.prog = true := Facts.laid
set_option maxRecDepth 100000 in
theorem op24 : Opens Tryz.prog 24 Name := opens_struct (fun e : Name => e.parts) (fun b => ⟨b⟩) (fun _ => rfl) Tryz.underlying24 (show Tryz.prog.cellsOf 24 = 1 by kernel_rfl) (opensF_one rfl (opens_slice Tryz.underlying22 (by kernel_rfl) (opens_str Tryz.underlying9 (by kernel_rfl))))
set_option maxRecDepth 100000 in
theorem op255 : Opens Tryz.prog 255 TableEntry := opens_struct (fun e : TableEntry => (e.name, e.value)) (fun b => ⟨b.1, b.2⟩) (fun _ => rfl) Tryz.underlying255 (show Tryz.prog.cellsOf 255 = 2 by kernel_rfl) (opensF_cons rfl op24 (opensF_one rfl (opens_int Tryz.underlying3 (by kernel_rfl))))
set_option maxRecDepth 100000 in
theorem op27 : Opens Tryz.prog 27 StateVector := opens_struct (fun e : StateVector => e.entries) (fun b => ⟨b⟩) (fun _ => rfl) Tryz.underlying27 (show Tryz.prog.cellsOf 27 = 1 by kernel_rfl) (opensF_one rfl (opens_slice Tryz.underlying25 (by kernel_rfl) op255))
set_option maxRecDepth 100000 in
theorem op33 : Opens Tryz.prog 33 Publication := opens_struct (fun e : Publication => (e.publisher, e.seq, e.content)) (fun b => ⟨b.1, b.2.1, b.2.2⟩) (fun _ => rfl) Tryz.underlying33 (show Tryz.prog.cellsOf 33 = 3 by kernel_rfl) (opensF_cons rfl op24 (opensF_cons rfl (opens_int Tryz.underlying3 (by kernel_rfl)) (opensF_one rfl (opens_slice Tryz.underlying31 (by kernel_rfl) (opens_byte Tryz.underlying5 (by kernel_rfl))))))
set_option maxRecDepth 100000 in
theorem op30 : Opens Tryz.prog 30 Member := opens_struct (fun e : Member => (e.name, e.vector, e.publications)) (fun b => ⟨b.1, b.2.1, b.2.2⟩) (fun _ => rfl) Tryz.underlying30 (show Tryz.prog.cellsOf 30 = 3 by kernel_rfl) (opensF_cons rfl op24 (opensF_cons rfl op27 (opensF_one rfl (opens_slice Tryz.underlying28 (by kernel_rfl) op33))))
set_option maxRecDepth 100000 in
theorem lifted (os : Os) (started : os.Started) (H : Type) (enc : TypeId × Value → H) :
    ReturnsInHanded {} Tryz.checked os 4 .any (Rows.fnExactPublishSpec.pre6 enc Tryz.prog Tryz.f4 Rows.fnExactPublishRow.domain false) (Rows.fnExactPublishSpec.post enc Tryz.prog Tryz.f4 false true false false) := by
  refine returnsInHanded_of_change (C := Tryz.checked) own started (by kernel_rfl) Tryz.func4
    (ChangeSpec.witness6 (enc := enc) (C := Tryz.checked) false ⟨#[], #[.agg #[.slice none 0 0, .slice none 0 0, .slice none 0 0], .slice none 0 0], []⟩ 8 (by kernel_rfl) (by kernel_rfl) (by kernel_rfl) (by kernel_rfl)) ?_
  intro W base args ds gs before hval0 hW _ _
  have hval : ∀ (j : Nat) t v, Tryz.f4.params[j]? = some t → args[j]? = some v → Value.okWide Tryz.prog W .any base t v := hval0
  have hW' := hW
  obtain ⟨p, q, hA0, _⟩ := hW
  have hA : DataW.TrodAll enc Tryz.prog W 0 (fun _ => true) true Tryz.f4.params.toList args.toList ds p := hA0
  rw [Tryz.params4] at hA hval
  obtain ⟨v0, vs0, d0, ds0, p0, q0, hargs, rfl, rfl, h0, r0⟩ := ChangeShapes.trodAll_cons hA
  obtain ⟨v1, vs1, d1, ds1, p1, q1, rfl, rfl, rfl, h1, r1⟩ := ChangeShapes.trodAll_cons r0
  obtain ⟨rfl, rfl, rfl⟩ := trodAll_nil r1
  obtain rfl : args = #[v0, v1] := by cases args; simp_all
  obtain ⟨a0, x0, rfl, k0, g0⟩ := (arg_struct Tryz.underlying30 op30) (hval 0 30 _ rfl rfl) h0
  obtain ⟨a1, x1, rfl, k1, g1⟩ := (arg_slice Tryz.underlying31 (opens_slice Tryz.underlying31 (by kernel_rfl) (opens_byte Tryz.underlying5 (by kernel_rfl)))) (hval 1 31 _ rfl rfl) h1
  have ht := true_Publish a0 a1 k0 k1
  refine (f4 W 0 (by decide) a0 x0.1.1 x0.1.2 (g0 (MF.rs .der x0.1.1 x0.1.2 a0.name.parts) (List.mem_cons_self)) x0.2.1.1 x0.2.1.2 (g0 (MF.rs .der x0.2.1.1 x0.2.1.2 a0.vector.entries) (by simp [GoT.fa])) x0.2.2.1 x0.2.2.2 (g0 (MF.rs .der x0.2.2.1 x0.2.2.2 a0.publications) (by simp [GoT.fa])) a1 x1.1 x1.2 (g1 (MF.rs .der x1.1 x1.2 a1) (List.mem_cons_self)) k0 k1).2.mono fun e W1 ⟨v, he, hb, hv⟩ => ?_
  rw [ht] at hv
  obtain ⟨rfl, _⟩ := hv
  subst he
  exact ⟨_, rfl, law_post laid (by kernel_rfl) rfl rfl Tryz.underlying4 (fun ds h => by match ds, h with | [_, _], _ => rfl) hW' hb.below⟩
set_option maxRecDepth 100000 in
theorem c_inPlace : (Rows.fnExactPublishRow.inPlace == Tryz.prog.inPlace 4) = true := by kernel_rfl
set_option maxRecDepth 100000 in
theorem c_unfollowed : (Rows.fnExactPublishRow.unfollowed == Tryz.prog.unfollowed 4) = true := by kernel_rfl
set_option maxRecDepth 100000 in
theorem c_recurses : (Rows.fnExactPublishRow.recurses == Tryz.prog.recurses 4) = true := by kernel_rfl
set_option maxRecDepth 100000 in
theorem c_named : (Rows.fnExactPublishRow.named == Tryz.prog.varsNamed 4) = true := by kernel_rfl
set_option maxRecDepth 100000 in
theorem closed : joinedFacts Tryz.pinned.checked.prog 4 Tryz.f4 Rows.fnExactPublishSpec Rows.fnExactPublishRow = true := by
  unfold joinedFacts
  rw [show laidOutB Tryz.pinned.checked.prog = true from laid, show mapsRowed Tryz.pinned.checked.prog = true from Facts.rowed, show (Rows.fnExactPublishRow.inPlace == Tryz.pinned.checked.prog.inPlace 4) = true from c_inPlace, show (Rows.fnExactPublishRow.unfollowed == Tryz.pinned.checked.prog.unfollowed 4) = true from c_unfollowed, show (Rows.fnExactPublishRow.recurses == Tryz.pinned.checked.prog.recurses 4) = true from c_recurses, show (Rows.fnExactPublishRow.named == Tryz.pinned.checked.prog.varsNamed 4) = true from c_named]
  kernel_rfl
theorem over : Rows.fnExactPublishRow.holds Tryz.pinned (OpenSpec.ofChange Rows.fnExactPublishSpec) :=
  OpenClaim.holds_of_wide 4 Tryz.f4 rfl rfl rfl rfl rfl rfl rfl ⟨rfl, rfl, rfl, rfl, rfl⟩ rfl rfl rfl rfl rfl (by kernel_rfl) Tryz.func4 closed
    (of_decide_eq_true (by kernel_rfl)) (by unfold Func.isWrapper; first | (rw [if_pos (by decide +kernel)]; kernel_rfl) | (rw [if_neg (by decide +kernel)]; exact ⟨rfl, rfl⟩))
    (fun os started H enc _ => lifted os started H enc)
theorem proved : Rows.FnExactPublishSaid := over
#print axioms proved
end LawPublish
end Go.Proofs.YtfffongneoegbaaGreat

