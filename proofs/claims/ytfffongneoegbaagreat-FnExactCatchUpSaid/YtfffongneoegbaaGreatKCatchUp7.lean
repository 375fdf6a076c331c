/-
  What the proof of one law needs: rules of the program logic, functions as Lean functions, contracts. No condition but what each says. Written by a program (pack.py) out of my own texts.
-/
import Derived.Carry
import Derived.ChangeArms
import Derived.ProofKit
import Derived.OpenShut
import Derived.JoinedCond
import Derived.Test.YtfffongneoegbaaGreatKCatchUp6
namespace Go.Proofs.YtfffongneoegbaaGreat
open Go.Stp
set_option linter.unusedVariables false
set_option linter.unusedSimpArgs false
theorem f68 (w : World) (n : Nat) (hn : n + 0 ≤ 9) (m : Member) (pmName : Option Addr) (cmName : Nat) (hpmName : RdSl (hp w) pmName cmName m.name.parts) (pmVector : Option Addr) (cmVector : Nat) (hpmVector : RdSl (hp w) pmVector cmVector m.vector.entries) (pmPublications : Option Addr) (cmPublications : Nat) (hpmPublications : RdSl (hp w) pmPublications cmPublications m.publications) (hokm : GoT.ok n m) :
    Does Tryz.prog 68 #[.agg #[.slice pmName ((m.name.parts).length) cmName, .slice pmVector ((m.vector.entries).length) cmVector, .slice pmPublications ((m.publications).length) cmPublications]] w emp (Post w emp (fun x : GoT.X (Member) => .agg ⟨GoT.sh ((impl_copyMember m) : Member) x⟩) (fun x => GoT.oa ((impl_copyMember m) : Member) x) (GoT.ok n ((impl_copyMember m) : Member))) := by
  have hbP := bd_pos n
  have hbB := bd_big (n := n) (by omega)
  refine WX.enter (tt := tt) (Γ := [(0, MF.rs .stb pmName cmName m.name.parts), (1, MF.rs .stb pmVector cmVector m.vector.entries), (2, MF.rs .stb pmPublications cmPublications m.publications)]) Tryz.func68 rfl (by kernel_rfl) rfl (allS_cons rfl hpmName (allS_cons rfl hpmVector (allS_cons rfl hpmPublications allS_nil))) ?_
  refine WX.run ttOk rfl ?_
  refine WX.draw [10] mixed ?_
  intro bs G0 hΓ0
  refine DX.takes (fuel := 6) ttOk [(0, true), (1, false), (3, true), (4, true), (5, false)] (by kernel_rfl) rfl ?_
  refine DX.pend 9 3 ⟨42, [.slice none (0) 0, .slice none (0) 0, .slice none (0) 0]⟩ ?_
  refine DXA.callF 2 3 (fun _ _ h => GoT.ow_rd h) (fun _ f hf => GoT.fak f hf) ttOk rfl rfl rfl rfl rfl rfl rfl (by kernel_rfl) (by kernel_rfl) (by kernel_rfl) rfl rfl rfl rfl rfl rfl rfl rfl rfl rfl (fun _ => rfl) rfl rfl (fun w G bs hI hΓ => f70 w n (by omega) m.name pmName cmName (hΓ.get 0 rfl) ((ok_Member hokm).1)) (fun _ => rfl) (fun _ => rfl) ?_
  rintro ⟨p1, c1⟩ hq1
  refine DXA.callF 6 5 (fun _ _ h => GoT.ow_rd h) (fun _ f hf => GoT.fak f hf) ttOk rfl rfl rfl rfl rfl rfl rfl (by kernel_rfl) (by kernel_rfl) (by kernel_rfl) rfl rfl rfl rfl rfl rfl rfl rfl rfl rfl (fun _ => rfl) rfl rfl (fun w G bs hI hΓ => f184 w n (by omega) m.vector.entries pmVector cmVector (hΓ.get 1 rfl) (ok_StateVector (ok_Member hokm).2.1)) (fun _ => rfl) (fun _ => rfl) ?_
  rintro ⟨p2, c2⟩ hq2
  have q1 := len_copyTable m.vector.entries
  refine DXA.take 7 (by kernel_rfl) (by kernel_rfl) rfl rfl rfl rfl rfl rfl rfl rfl (looksP_pure ttOk rfl) ?_
  refine DXA.take 8 (by kernel_rfl) (by kernel_rfl) rfl rfl rfl rfl rfl rfl rfl rfl (looksP_pure ttOk rfl) ?_
  refine DXA.tail [10] ttOk rfl rfl rfl rfl rfl rfl (by kernel_rfl) rfl rfl (by kernel_rfl) ?_
  refine WX.run ttOk rfl ?_
  refine WX.row0 501 3 none rfl ?_
  refine WX.free 7 (MF.ol [] ([] : List Publication)) rfl ?_
  have r1 : (m.publications).length ≤ bd n := (okl (ok_Member hokm).2.2).1
  refine WX.loop (ι := Nat × (Option Addr) × Nat × (List Value) × (List Publication)) ⟨fun | (i, pout, cout, xsout, out) => (i ≤ (m.publications).length) ∧ (∀ z_ ∈ out, GoT.ok n z_) ∧ (out.length ≤ i) ∧ (impl_copyMember_L1 m.publications ([] : List Publication) = impl_copyMember_L1 ((m.publications).drop i) out), fun | (i, pout, cout, xsout, out) => (m.publications).length - i, fun | (i, pout, cout, xsout, out) => [(18, .v (.int .i64 (((i : Nat) : Int)))), (17, .v (.int .i64 ((((m.publications).length : Nat) : Int)))), (16, .v (.slice pmPublications ((m.publications).length) cmPublications)), (3, .p 3 0), (2, .p 2 0)], fun | (i, pout, cout, xsout, out) => [(3, ⟨42, [.slice p1 (((impl_copyName m.name).parts).length) c1, .slice p2 (((impl_copyTable m.vector.entries)).length) c2, .slice pout ((out).length) cout]⟩), (2, ⟨42, [.slice none (0) 0, .slice none (0) 0, .slice none (0) 0]⟩)], fun | (i, pout, cout, xsout, out) => [(501, ⟨3, pout, (out).length, cout, xsout⟩)], fun | (i, pout, cout, xsout, out) => [(0, MF.rs .stb pmName cmName m.name.parts), (1, MF.rs .stb pmVector cmVector m.vector.entries), (2, MF.rs .stb pmPublications cmPublications m.publications), (4, MF.os p1 c1 ((impl_copyName m.name).parts)), (6, MF.os p2 c2 (impl_copyTable m.vector.entries)), (7, MF.ol xsout (out : List Publication))]⟩ (0, none, 0, [], ([] : List Publication)) ⟨(Nat.zero_le _), (fun a ha => by cases ha), (by simp), rfl⟩
    (.cons rfl (.cons rfl (.cons rfl (.cons rfl (.cons rfl (.nil)))))) (.cons rfl (.cons rfl (.nil))) (.cons rfl (.nil)) [0, 1, 2, 4, 6, 7] rfl ?_
  rintro ⟨i, pout, cout, xsout, out⟩ hpre
  have hpre_ : (i ≤ (m.publications).length) ∧ (∀ z_ ∈ out, GoT.ok n z_) ∧ (out.length ≤ i) ∧ (impl_copyMember_L1 m.publications ([] : List Publication) = impl_copyMember_L1 ((m.publications).drop i) out) := hpre
  clear hpre
  obtain ⟨v1, v2, v3, v4⟩ := hpre_
  refine WX.run ttOk rfl ?_
  refine WX.cases 19 rfl (fun h1 => ?_) (fun h1 => ?_)
  · skip
    have h1d := B.dt h1
    have e1i : i < (m.publications).length := (by omega)
    obtain ⟨e1, e1h⟩ : ∃ e1, (m.publications)[i]? = some e1 := ⟨_, List.getElem?_eq_getElem e1i⟩
    have ok1 : GoT.ok n e1 := (okl (ok_Member hokm).2.2).2 _ (List.mem_of_getElem? e1h)
    refine WX.run ttOk rfl ?_
    refine WX.idx 2 i ttOk rfl rfl rfl rfl rfl rfl rfl rfl rfl rfl e1i ?_
    rintro ad1 rfl
    refine WX.ldE 2 8 e1 ttOk rfl rfl rfl rfl rfl rfl rfl rfl e1h (fun _ => rfl) (fun _ => rfl) ?_
    rintro ⟨⟨p3, c3⟩, ⟨⟩, ⟨p4, c4⟩⟩
    refine WX.run ttOk rfl ?_
    refine WX.der 10 (MF.rs .der p1 c1 ((impl_copyName m.name).parts)) rfl (fun _ hΓ => (hΓ.get 4 rfl : OwSl _ _ _ _).rd) ?_
    refine WX.der 11 (MF.rs .der p2 c2 (impl_copyTable m.vector.entries)) rfl (fun _ hΓ => (hΓ.get 6 rfl : OwSl _ _ _ _).rd) ?_
    refine WX.draw [12, 13, 14] mixed ?_
    intro bs G0 hΓ0
    refine DX.takes (fuel := 7) ttOk [(0, true), (1, false), (2, true), (3, false), (5, true), (6, false), (7, true), (8, false)] (by kernel_rfl) rfl ?_
    refine DX.callF 4 12 (fun _ _ h => GoT.ow_rd h) (fun _ f hf => GoT.fak f hf) rfl (by kernel_rfl) rfl rfl rfl rfl rfl rfl (fun _ => rfl) rfl (fun w G bs hI hΓ => f70 w n (by omega) e1.publisher p3 c3 (hΓ.get 8 rfl) ((ok_Publication ok1).1)) (fun _ => rfl) (fun _ => rfl) ?_
    rintro ⟨p5, c5⟩ hq3
    refine DX.callF 9 14 (fun _ _ h => GoT.ow_rd h) (fun _ f hf => GoT.fak f hf) rfl (by kernel_rfl) rfl rfl rfl rfl rfl rfl (fun _ => rfl) rfl (fun w G bs hI hΓ => f71 w n (by omega) e1.content p4 c4 (hΓ.get 9 rfl) ((ok_Publication ok1).2.2)) (fun _ => rfl) (fun _ => rfl) ?_
    rintro ⟨p6, c6⟩ hq4
    refine DX.takes (fuel := 4) ttOk [(10, true)] (by kernel_rfl) rfl ?_
    refine DX.tail2 [11, 12, 13, 14] rfl rfl (by kernel_rfl) ?_
    refine WX.bld ttOk rfl rfl rfl rfl rfl rfl rfl ?_
    intro p7
    refine WX.turn [13, 15] 16 rfl (fun h hs => ol_one (α := Publication) (a := (Publication.mk (impl_copyName e1.publisher) e1.seq e1.content)) (x := ((p5, c5), (), (p6, c6))) hs) (gs := [MF.ol [.slice p5 (((impl_copyName e1.publisher).parts).length) c5, .int .i64 (e1.seq), .slice p6 ((e1.content).length) c6] ([(Publication.mk (impl_copyName e1.publisher) e1.seq e1.content)] : List Publication)]) rfl ?_
    have r2 : -9223372036854775808 ≤ e1.seq ∧ e1.seq ≤ 9223372036854775807 := (ok_Publication ok1).2.1
    have r3 : (e1.content).length ≤ bd n := (okl (ok_Publication ok1).2.2).1
    refine WX.know (fun G hΓ => (hΓ.get 16 rfl : OwL _ _ _).rd.one) ?_
    intro ho1
    refine WX.appR1 501 33 ((out ++ [(Publication.mk (impl_copyName e1.publisher) e1.seq e1.content)]) : List Publication).length ttOk rfl rfl rfl rfl rfl rfl rfl rfl rfl rfl rfl rfl rfl ho1 (by simp) (by simp; omega) (by simp; omega) (fun _ _ => rfl) ?_
    intro p8 c7
    refine WX.turn [7, 16] 17 rfl (fun h hs => ol_app hs) (gs := [MF.ol (xsout ++ [.slice p5 (((impl_copyName e1.publisher).parts).length) c5, .int .i64 (e1.seq), .slice p6 ((e1.content).length) c6]) ((out ++ [(Publication.mk (impl_copyName e1.publisher) e1.seq e1.content)]) : List Publication)]) rfl ?_
    refine WX.run ttOk rfl ?_
    refine WX.see rfl rfl rfl (fun _ hΓ => looks_arith rfl rfl rfl rfl (by unfold I64; first | omega | (simp only [List.length_take, List.length_drop] at *; omega) | (dsimp only; omega))) ?_
    refine WX.run ttOk rfl ?_
    refine WX.turn [17] 7 rfl (fun _ h => h) rfl ?_
    exact WX.iter (i + 1, p8, c7, (xsout ++ [.slice p5 (((impl_copyName e1.publisher).parts).length) c5, .int .i64 (e1.seq), .slice p6 ((e1.content).length) c6]), ((out ++ [(Publication.mk (impl_copyName e1.publisher) e1.seq e1.content)]) : List Publication)) ⟨(by omega), (all_app v2 (all_cons (α := Publication) (And.intro hq3 (And.intro (ok_Publication ok1).2.1 hq4)) (fun a ha => by cases ha))), (by first | assumption | omega | (simp only [List.length_append, List.length_cons, List.length_nil, List.length_set, List.length_map, List.length_take, List.length_drop]; omega) | (simp; omega)), (by rw [v4, drop_get e1h]; simp only [impl_copyMember_L1, cond_true, cond_false])⟩ (by first | (dsimp only; omega) | omega) (.cons rfl (.cons rfl (.cons rfl (.cons rfl (.cons rfl (.nil)))))) (.cons rfl (.cons rfl (.nil))) (.cons rfl (.nil)) [0, 1, 2, 4, 6, 7] rfl
  · skip
    have h1d := B.df h1
    refine WX.run ttOk rfl ?_
    have hX1 : impl_copyMember_L1 m.publications ([] : List Publication) = ((out) : List Publication) := by rw [v4, List.drop_eq_nil_of_le (show (m.publications).length ≤ i by omega)]; simp only [impl_copyMember_L1, cond_true, cond_false]
    refine WX.seal 501 7 18 rfl rfl rfl rfl rfl ?_
    have hP1 : impl_copyMember m = (Member.mk (impl_copyName m.name) (StateVector.mk (impl_copyTable m.vector.entries)) out) := by simp only [impl_copyMember, hX1, cond_true, cond_false]
    refine WX.ret ttOk rfl ?_
    intro w1 G bs hI hΓ
    rw [hP1]
    exact Post.of [4, 6, 19] ((p1, c1), (p2, c2), (pout, cout)) hI hΓ rfl rfl rfl (And.intro hq1 (And.intro hq2 (okl_mk (by omega) v2 : GoT.ok n (out : List Publication))))
theorem f60 (w : World) (n : Nat) (hn : n + 0 ≤ 9) (m : Member) (pmName : Option Addr) (cmName : Nat) (hpmName : RdSl (hp w) pmName cmName m.name.parts) (pmVector : Option Addr) (cmVector : Nat) (hpmVector : RdSl (hp w) pmVector cmVector m.vector.entries) (pmPublications : Option Addr) (cmPublications : Nat) (hpmPublications : RdSl (hp w) pmPublications cmPublications m.publications) (hokm : GoT.ok n m) :
    Does Tryz.prog 60 #[.agg #[.slice pmName ((m.name.parts).length) cmName, .slice pmVector ((m.vector.entries).length) cmVector, .slice pmPublications ((m.publications).length) cmPublications]] w emp (Post w emp (fun x : GoT.X (Member) => .agg ⟨GoT.sh ((spec_l28Copy m) : Member) x⟩) (fun x => GoT.oa ((spec_l28Copy m) : Member) x) (GoT.ok n ((spec_l28Copy m) : Member))) := by
  have hbP := bd_pos n
  have hbB := bd_big (n := n) (by omega)
  refine WX.enter (tt := tt) (Γ := [(0, MF.rs .stb pmName cmName m.name.parts), (1, MF.rs .stb pmVector cmVector m.vector.entries), (2, MF.rs .stb pmPublications cmPublications m.publications)]) Tryz.func60 rfl (by kernel_rfl) rfl (allS_cons rfl hpmName (allS_cons rfl hpmVector (allS_cons rfl hpmPublications allS_nil))) ?_
  refine WX.run ttOk rfl ?_
  refine WX.draw [10] mixed ?_
  intro bs G0 hΓ0
  refine DX.takes (fuel := 6) ttOk [(0, true), (1, false), (3, true), (4, true), (5, false)] (by kernel_rfl) rfl ?_
  refine DX.pend 9 3 ⟨42, [.slice none (0) 0, .slice none (0) 0, .slice none (0) 0]⟩ ?_
  refine DXA.callF 2 3 (fun _ _ h => GoT.ow_rd h) (fun _ f hf => GoT.fak f hf) ttOk rfl rfl rfl rfl rfl rfl rfl (by kernel_rfl) (by kernel_rfl) (by kernel_rfl) rfl rfl rfl rfl rfl rfl rfl rfl rfl rfl (fun _ => rfl) rfl rfl (fun w G bs hI hΓ => f63 w n (by omega) m.name pmName cmName (hΓ.get 0 rfl) ((ok_Member hokm).1)) (fun _ => rfl) (fun _ => rfl) ?_
  rintro ⟨p1, c1⟩ hq1
  refine DXA.callF 6 5 (fun _ _ h => GoT.ow_rd h) (fun _ f hf => GoT.fak f hf) ttOk rfl rfl rfl rfl rfl rfl rfl (by kernel_rfl) (by kernel_rfl) (by kernel_rfl) rfl rfl rfl rfl rfl rfl rfl rfl rfl rfl (fun _ => rfl) rfl rfl (fun w G bs hI hΓ => f174 w n (by omega) m.vector.entries pmVector cmVector (hΓ.get 1 rfl) (ok_StateVector (ok_Member hokm).2.1)) (fun _ => rfl) (fun _ => rfl) ?_
  rintro ⟨p2, c2⟩ hq2
  have q1 := len_l6Copy m.vector.entries
  refine DXA.take 7 (by kernel_rfl) (by kernel_rfl) rfl rfl rfl rfl rfl rfl rfl rfl (looksP_pure ttOk rfl) ?_
  refine DXA.take 8 (by kernel_rfl) (by kernel_rfl) rfl rfl rfl rfl rfl rfl rfl rfl (looksP_pure ttOk rfl) ?_
  refine DXA.tail [10] ttOk rfl rfl rfl rfl rfl rfl (by kernel_rfl) rfl rfl (by kernel_rfl) ?_
  refine WX.run ttOk rfl ?_
  refine WX.row0 501 3 none rfl ?_
  refine WX.free 7 (MF.ol [] ([] : List Publication)) rfl ?_
  have r1 : (m.publications).length ≤ bd n := (okl (ok_Member hokm).2.2).1
  refine WX.loop (ι := Nat × (Option Addr) × Nat × (List Value) × (List Publication)) ⟨fun | (i, pout, cout, xsout, out) => (i ≤ (m.publications).length) ∧ (∀ z_ ∈ out, GoT.ok n z_) ∧ (out.length ≤ i) ∧ (spec_l28Copy_L1 m.publications ([] : List Publication) = spec_l28Copy_L1 ((m.publications).drop i) out), fun | (i, pout, cout, xsout, out) => (m.publications).length - i, fun | (i, pout, cout, xsout, out) => [(4, .v (.int .i64 (((i : Nat) : Int)))), (3, .p 3 0), (2, .p 2 0), (1, .p 1 0)], fun | (i, pout, cout, xsout, out) => [(3, ⟨42, [.slice p1 (((spec_l4Copy m.name).parts).length) c1, .slice p2 (((spec_l6Copy m.vector.entries)).length) c2, .slice pout ((out).length) cout]⟩), (2, ⟨42, [.slice none (0) 0, .slice none (0) 0, .slice none (0) 0]⟩), (1, ⟨42, [.slice pmName ((m.name.parts).length) cmName, .slice pmVector ((m.vector.entries).length) cmVector, .slice pmPublications ((m.publications).length) cmPublications]⟩)], fun | (i, pout, cout, xsout, out) => [(501, ⟨3, pout, (out).length, cout, xsout⟩)], fun | (i, pout, cout, xsout, out) => [(0, MF.rs .stb pmName cmName m.name.parts), (1, MF.rs .stb pmVector cmVector m.vector.entries), (2, MF.rs .stb pmPublications cmPublications m.publications), (4, MF.os p1 c1 ((spec_l4Copy m.name).parts)), (6, MF.os p2 c2 (spec_l6Copy m.vector.entries)), (7, MF.ol xsout (out : List Publication))]⟩ (0, none, 0, [], ([] : List Publication)) ⟨(Nat.zero_le _), (fun a ha => by cases ha), (by simp), rfl⟩
    (.cons rfl (.cons rfl (.cons rfl (.cons rfl (.nil))))) (.cons rfl (.cons rfl (.cons rfl (.nil)))) (.cons rfl (.nil)) [0, 1, 2, 4, 6, 7] rfl ?_
  rintro ⟨i, pout, cout, xsout, out⟩ hpre
  have hpre_ : (i ≤ (m.publications).length) ∧ (∀ z_ ∈ out, GoT.ok n z_) ∧ (out.length ≤ i) ∧ (spec_l28Copy_L1 m.publications ([] : List Publication) = spec_l28Copy_L1 ((m.publications).drop i) out) := hpre
  clear hpre
  obtain ⟨v1, v2, v3, v4⟩ := hpre_
  refine WX.run ttOk rfl ?_
  refine WX.cases 19 rfl (fun h1 => ?_) (fun h1 => ?_)
  · skip
    have h1d := B.dt h1
    have e1i : i < (m.publications).length := (by omega)
    obtain ⟨e1, e1h⟩ : ∃ e1, (m.publications)[i]? = some e1 := ⟨_, List.getElem?_eq_getElem e1i⟩
    have ok1 : GoT.ok n e1 := (okl (ok_Member hokm).2.2).2 _ (List.mem_of_getElem? e1h)
    refine WX.run ttOk rfl ?_
    refine WX.idx 2 i ttOk rfl rfl rfl rfl rfl rfl rfl rfl rfl rfl e1i ?_
    rintro ad1 rfl
    refine WX.run ttOk rfl ?_
    refine WX.ldE 2 8 e1 ttOk rfl rfl rfl rfl rfl rfl rfl rfl e1h (fun _ => rfl) (fun _ => rfl) ?_
    rintro ⟨⟨p3, c3⟩, ⟨⟩, ⟨p4, c4⟩⟩
    refine WX.callF 10 (fun _ _ h => GoT.ow_rd h) (fun _ f hf => GoT.fak f hf) rfl rfl rfl rfl rfl (fun _ => rfl) rfl (fun w G bs hI hΓ => f63 w n (by omega) e1.publisher p3 c3 (hΓ.get 8 rfl) ((ok_Publication ok1).1)) (fun _ => rfl) (fun _ => rfl) ?_
    rintro ⟨p5, c5⟩ hq3
    refine WX.run ttOk rfl ?_
    refine WX.der 12 (MF.rs .der p1 c1 ((spec_l4Copy m.name).parts)) rfl (fun _ hΓ => (hΓ.get 4 rfl : OwSl _ _ _ _).rd) ?_
    refine WX.der 13 (MF.rs .der p2 c2 (spec_l6Copy m.vector.entries)) rfl (fun _ hΓ => (hΓ.get 6 rfl : OwSl _ _ _ _).rd) ?_
    refine WX.draw [19, 21] mixed ?_
    intro bs G0 hΓ0
    refine DX.takes (fuel := 16) ttOk [(0, true), (1, false), (2, false), (3, true), (4, false), (5, true)] (by kernel_rfl) rfl ?_
    refine DX.idx 6 2 i ttOk hΓ0 (by kernel_rfl) rfl rfl rfl rfl rfl rfl rfl rfl rfl rfl rfl e1i ?_
    rintro ad2 ⟨⟩
    refine DX.takes (fuel := 14) ttOk [(7, true)] (by kernel_rfl) rfl ?_
    refine DX.ldE 8 2 14 e1 ttOk hΓ0 (by kernel_rfl) rfl rfl rfl rfl rfl rfl rfl rfl e1h (fun _ => rfl) (fun _ => rfl) ?_
    rintro ⟨⟨p6, c6⟩, ⟨⟩, ⟨p7, c7⟩⟩
    refine DX.takes (fuel := 10) ttOk [(10, true), (11, false), (12, true)] (by kernel_rfl) rfl ?_
    refine DX.idx 13 2 i ttOk hΓ0 (by kernel_rfl) rfl rfl rfl rfl rfl rfl rfl rfl rfl rfl rfl e1i ?_
    rintro ad3 ⟨⟩
    refine DX.takes (fuel := 8) ttOk [(14, true)] (by kernel_rfl) rfl ?_
    refine DX.ldE 15 2 16 e1 ttOk hΓ0 (by kernel_rfl) rfl rfl rfl rfl rfl rfl rfl rfl e1h (fun _ => rfl) (fun _ => rfl) ?_
    rintro ⟨⟨p8, c8⟩, ⟨⟩, ⟨p9, c9⟩⟩
    refine DX.toTX ?_
    intro S_
    refine TX.all1 9 (by kernel_rfl) ?_
    refine TS.op 9 rfl (by kernel_rfl) ?_
    refine WX.bld ttOk rfl rfl rfl rfl rfl rfl rfl ?_
    intro p10
    refine WX.run ttOk rfl ?_
    refine WX.back0 ?_
    refine TX.all1 16 (by kernel_rfl) ?_
    have r2 : (e1.content).length ≤ bd n := (okl (ok_Publication ok1).2.2).1
    refine TS.opK 16 rfl (keeps_appG (α := UInt8) 38 17 (e1.content : List UInt8).length ttOk rfl rfl rfl rfl rfl rfl rfl rfl rfl (by simp) (by omega) (by omega) rfl) ?_
    refine WX.free 18 (MF.ol [] ([] : List UInt8)) rfl ?_
    refine WX.appG1 38 17 19 (e1.content : List UInt8).length ttOk rfl rfl rfl rfl rfl rfl rfl rfl rfl rfl rfl rfl rfl (by simp) (by omega) (by omega) (fun _ _ _ => rfl) ?_
    intro ys1 p11 c10
    refine WX.know (fun G hΓ => (hΓ.get 19 rfl : RdL _ _ _).flat) ?_
    intro hf1
    refine WX.turn [18] 20 rfl (fun h hs => ol_flat hs hf1) (gs := [MF.ol ([] ++ ys1) (e1.content : List UInt8)]) rfl ?_
    refine WX.run ttOk rfl ?_
    refine WX.back0 ?_
    refine TX.all1 17 (by kernel_rfl) ?_
    refine TS.opK 17 rfl (keeps_pure ttOk rfl) ?_
    refine WX.run ttOk rfl ?_
    refine WX.back0 ?_
    refine TX.all1 18 (by kernel_rfl) ?_
    refine TS.op 18 rfl (by kernel_rfl) ?_
    refine WX.seal 38 20 21 rfl rfl rfl rfl rfl ?_
    refine WX.bld ttOk rfl rfl rfl rfl rfl rfl rfl ?_
    intro p12
    refine WX.run ttOk rfl ?_
    refine WX.back0 ?_
    refine TX.all1 19 (by kernel_rfl) ?_
    refine TS.op 19 rfl (by kernel_rfl) ?_
    refine WX.turn [11, 22] 23 rfl (fun h hs => ol_one (α := Publication) (a := (Publication.mk (spec_l4Copy e1.publisher) e1.seq e1.content)) (x := ((p5, c5), (), (p11, c10))) hs) (gs := [MF.ol [.slice p5 (((spec_l4Copy e1.publisher).parts).length) c5, .int .i64 (e1.seq), .slice p11 ((e1.content).length) c10] ([(Publication.mk (spec_l4Copy e1.publisher) e1.seq e1.content)] : List Publication)]) rfl ?_
    have r3 : -9223372036854775808 ≤ e1.seq ∧ e1.seq ≤ 9223372036854775807 := (ok_Publication ok1).2.1
    refine WX.know (fun G hΓ => (hΓ.get 23 rfl : OwL _ _ _).rd.one) ?_
    intro ho1
    refine WX.appR1 501 47 ((out ++ [(Publication.mk (spec_l4Copy e1.publisher) e1.seq e1.content)]) : List Publication).length ttOk rfl rfl rfl rfl rfl rfl rfl rfl rfl rfl rfl rfl rfl ho1 (by simp) (by simp; omega) (by simp; omega) (fun _ _ => rfl) ?_
    intro p13 c11
    refine WX.turn [7, 23] 24 rfl (fun h hs => ol_app hs) (gs := [MF.ol (xsout ++ [.slice p5 (((spec_l4Copy e1.publisher).parts).length) c5, .int .i64 (e1.seq), .slice p11 ((e1.content).length) c10]) ((out ++ [(Publication.mk (spec_l4Copy e1.publisher) e1.seq e1.content)]) : List Publication)]) rfl ?_
    refine WX.run ttOk rfl ?_
    refine WX.back0 ?_
    refine TX.all1 20 (by kernel_rfl) ?_
    refine TS.opK 20 rfl (keeps_pure ttOk rfl) ?_
    refine WX.run ttOk rfl ?_
    refine WX.back0 ?_
    refine TX.tail [21] rfl rfl (by kernel_rfl) ?_
    refine WX.run ttOk rfl ?_
    refine WX.see rfl rfl rfl (fun _ hΓ => looks_arith rfl rfl rfl rfl (by unfold I64; first | omega | (simp only [List.length_take, List.length_drop] at *; omega) | (dsimp only; omega))) ?_
    refine WX.run ttOk rfl ?_
    refine WX.turn [24] 7 rfl (fun _ h => h) rfl ?_
    exact WX.iter (i + 1, p13, c11, (xsout ++ [.slice p5 (((spec_l4Copy e1.publisher).parts).length) c5, .int .i64 (e1.seq), .slice p11 ((e1.content).length) c10]), ((out ++ [(Publication.mk (spec_l4Copy e1.publisher) e1.seq e1.content)]) : List Publication)) ⟨(by omega), (all_app v2 (all_cons (α := Publication) (And.intro hq3 (And.intro (ok_Publication ok1).2.1 (okl_mk (by omega) (okl (ok_Publication ok1).2.2).2 : GoT.ok n (e1.content : List UInt8)))) (fun a ha => by cases ha))), (by first | assumption | omega | (simp only [List.length_append, List.length_cons, List.length_nil, List.length_set, List.length_map, List.length_take, List.length_drop]; omega) | (simp; omega)), (by rw [v4, drop_get e1h]; simp only [spec_l28Copy_L1, cond_true, cond_false])⟩ (by first | (dsimp only; omega) | omega) (.cons rfl (.cons rfl (.cons rfl (.cons rfl (.nil))))) (.cons rfl (.cons rfl (.cons rfl (.nil)))) (.cons rfl (.nil)) [0, 1, 2, 4, 6, 7] rfl
  · skip
    have h1d := B.df h1
    refine WX.run ttOk rfl ?_
    have hX1 : spec_l28Copy_L1 m.publications ([] : List Publication) = ((out) : List Publication) := by rw [v4, List.drop_eq_nil_of_le (show (m.publications).length ≤ i by omega)]; simp only [spec_l28Copy_L1, cond_true, cond_false]
    refine WX.seal 501 7 25 rfl rfl rfl rfl rfl ?_
    have hP1 : spec_l28Copy m = (Member.mk (spec_l4Copy m.name) (StateVector.mk (spec_l6Copy m.vector.entries)) out) := by simp only [spec_l28Copy, hX1, cond_true, cond_false]
    refine WX.ret ttOk rfl ?_
    intro w1 G bs hI hΓ
    rw [hP1]
    exact Post.of [4, 6, 26] ((p1, c1), (p2, c2), (pout, cout)) hI hΓ rfl rfl rfl (And.intro hq1 (And.intro hq2 (okl_mk (by omega) v2 : GoT.ok n (out : List Publication))))
theorem f15 (w : World) (n : Nat) (hn : n + 3 ≤ 9) (m : Member) (pmName : Option Addr) (cmName : Nat) (hpmName : RdSl (hp w) pmName cmName m.name.parts) (pmVector : Option Addr) (cmVector : Nat) (hpmVector : RdSl (hp w) pmVector cmVector m.vector.entries) (pmPublications : Option Addr) (cmPublications : Nat) (hpmPublications : RdSl (hp w) pmPublications cmPublications m.publications) (x_ : Publication) (px_Publisher : Option Addr) (cx_Publisher : Nat) (hpx_Publisher : RdSl (hp w) px_Publisher cx_Publisher x_.publisher.parts) (px_Content : Option Addr) (cx_Content : Nat) (hpx_Content : RdSl (hp w) px_Content cx_Content x_.content) (hokm : GoT.ok n m) (hokx_ : GoT.ok n x_) :
    Does Tryz.prog 15 #[.agg #[.slice pmName ((m.name.parts).length) cmName, .slice pmVector ((m.vector.entries).length) cmVector, .slice pmPublications ((m.publications).length) cmPublications], .agg #[.slice px_Publisher ((x_.publisher.parts).length) cx_Publisher, .int .i64 (x_.seq), .slice px_Content ((x_.content).length) cx_Content]] w emp (Post w emp (fun x : GoT.X (Member) => .tuple #[.agg ⟨GoT.sh ((impl_AcceptPublication m x_).1 : Member) x⟩, .bool ((impl_AcceptPublication m x_).2)]) (fun x => GoT.oa ((impl_AcceptPublication m x_).1 : Member) x) (GoT.ok (n + 3) ((impl_AcceptPublication m x_).1 : Member))) := by
  have hbP := bd_pos n
  have hbS0 : bd (n + 1) = 4 * bd (n) := bd_succ (n := n) (by omega)
  have hbS1 : bd (n + 2) = 4 * bd (n + 1) := bd_succ (n := n + 1) (by omega)
  have hbS2 : bd (n + 3) = 4 * bd (n + 2) := bd_succ (n := n + 2) (by omega)
  have hbB := bd_big (n := (n + 3)) (by omega)
  have hbM := bd_mono (show n ≤ n + 3 by omega)
  refine WX.enter (tt := tt) (Γ := [(0, MF.rs .stb pmName cmName m.name.parts), (1, MF.rs .stb pmVector cmVector m.vector.entries), (2, MF.rs .stb pmPublications cmPublications m.publications), (3, MF.rs .stb px_Publisher cx_Publisher x_.publisher.parts), (4, MF.rs .stb px_Content cx_Content x_.content)]) Tryz.func15 rfl (by kernel_rfl) rfl (allS_cons rfl hpmName (allS_cons rfl hpmVector (allS_cons rfl hpmPublications (allS_cons rfl hpx_Publisher (allS_cons rfl hpx_Content allS_nil))))) ?_
  refine WX.run ttOk rfl ?_
  refine WX.callF 5 (fun _ _ h => GoT.ow_rd h) (fun _ f hf => GoT.fak f hf) rfl rfl rfl rfl rfl (fun _ => rfl) rfl (fun w G bs hI hΓ => f68 w n (by omega) m pmName cmName (hΓ.get 0 rfl) pmVector cmVector (hΓ.get 1 rfl) pmPublications cmPublications (hΓ.get 2 rfl) hokm) (fun _ => rfl) (fun _ => rfl) ?_
  rintro ⟨⟨p1, c1⟩, ⟨p2, c2⟩, ⟨p3, c3⟩⟩ hq1
  have q1 := cM_impl m
  refine WX.run ttOk rfl ?_
  refine WX.draw [] mixed ?_
  intro bs G0 hΓ0
  refine DX.takes (fuel := 3) ttOk [(0, true), (1, false), (2, true), (3, false), (4, true), (5, false)] (by kernel_rfl) rfl ?_
  refine DX.callV 6 rfl (by kernel_rfl) rfl rfl rfl rfl rfl rfl (fun _ => rfl) rfl (fun w G bs hI hΓ => f69 w n (by omega) m.vector pmVector cmVector (hΓ.get 1 rfl) x_.publisher px_Publisher cx_Publisher (hΓ.get 3 rfl) ((ok_Member hokm).2.1) ((ok_Publication hokx_).1)) ?_
  intro hq2
  refine DX.seeP 7 (by kernel_rfl) rfl rfl rfl rfl (looksP_wrap rfl rfl rfl rfl) ?_
  refine DX.takes (fuel := 0) ttOk [(8, true)] (by kernel_rfl) rfl ?_
  refine DX.tail2 [] rfl rfl (by kernel_rfl) ?_
  refine WX.run ttOk rfl ?_
  refine WX.cases 19 rfl (fun h1 => ?_) (fun h1 => ?_)
  · skip
    have h1d := B.nt' h1
    refine WX.run ttOk rfl ?_
    have hP1 : impl_AcceptPublication m x_ = (impl_copyMember m, false) := by simp only [impl_AcceptPublication, h1, cond_true, cond_false]
    refine WX.ret ttOk rfl ?_
    intro w1 G bs hI hΓ
    rw [hP1]
    exact Post.of [8, 9, 10] ((p1, c1), (p2, c2), (p3, c3)) hI hΓ rfl rfl rfl (And.intro (GoT.okm (α := List Str) (by omega) (ok_Name (ok_Member hq1).1)) (And.intro (GoT.okm (α := List TableEntry) (by omega) (ok_StateVector (ok_Member hq1).2.1)) (GoT.okm (α := List Publication) (by omega) (ok_Member hq1).2.2)))
  · skip
    have h1d := B.nf' h1
    refine WX.run ttOk rfl ?_
    refine WX.draw [12, 13, 14] mixed ?_
    intro bs G0 hΓ0
    refine DX.takes (fuel := 7) ttOk [(0, true), (1, false), (2, true), (3, false), (5, true), (6, false), (7, true), (8, false)] (by kernel_rfl) rfl ?_
    refine DX.callF 4 11 (fun _ _ h => GoT.ow_rd h) (fun _ f hf => GoT.fak f hf) rfl (by kernel_rfl) rfl rfl rfl rfl rfl rfl (fun _ => rfl) rfl (fun w G bs hI hΓ => f70 w n (by omega) x_.publisher px_Publisher cx_Publisher (hΓ.get 3 rfl) ((ok_Publication hokx_).1)) (fun _ => rfl) (fun _ => rfl) ?_
    rintro ⟨p4, c4⟩ hq3
    refine DX.callF 9 13 (fun _ _ h => GoT.ow_rd h) (fun _ f hf => GoT.fak f hf) rfl (by kernel_rfl) rfl rfl rfl rfl rfl rfl (fun _ => rfl) rfl (fun w G bs hI hΓ => f71 w n (by omega) x_.content px_Content cx_Content (hΓ.get 4 rfl) ((ok_Publication hokx_).2.2)) (fun _ => rfl) (fun _ => rfl) ?_
    rintro ⟨p5, c5⟩ hq4
    refine DX.takes (fuel := 4) ttOk [(10, true)] (by kernel_rfl) rfl ?_
    refine DX.tail2 [11, 12, 13, 14] rfl rfl (by kernel_rfl) ?_
    refine WX.bld ttOk rfl rfl rfl rfl rfl rfl rfl ?_
    intro p6
    refine WX.opn (kk := 3) 501 10 15 rfl rfl rfl ?_
    intro xs1 hx1
    refine WX.turn [12, 14] 16 rfl (fun h hs => ol_one (α := Publication) (a := (Publication.mk (impl_copyName x_.publisher) x_.seq x_.content)) (x := ((p4, c4), (), (p5, c5))) hs) (gs := [MF.ol [.slice p4 (((impl_copyName x_.publisher).parts).length) c4, .int .i64 (x_.seq), .slice p5 ((x_.content).length) c5] ([(Publication.mk (impl_copyName x_.publisher) x_.seq x_.content)] : List Publication)]) rfl ?_
    have r1 : -9223372036854775808 ≤ x_.seq ∧ x_.seq ≤ 9223372036854775807 := (ok_Publication hokx_).2.1
    have r2 : (x_.content).length ≤ bd n := (okl (ok_Publication hokx_).2.2).1
    have r3 : ((impl_copyMember m).publications).length ≤ bd n := (okl (ok_Member hq1).2.2).1
    refine WX.know (fun G hΓ => (hΓ.get 16 rfl : OwL _ _ _).rd.one) ?_
    intro ho1
    refine WX.appR1 501 32 (((impl_copyMember m).publications ++ [(Publication.mk (impl_copyName x_.publisher) x_.seq x_.content)]) : List Publication).length ttOk rfl rfl rfl rfl rfl rfl rfl rfl rfl rfl rfl rfl rfl ho1 (by simp) (by simp; omega) (by simp; omega) (fun _ _ => rfl) ?_
    intro p7 c6
    refine WX.turn [15, 16] 17 rfl (fun h hs => ol_app hs) (gs := [MF.ol (xs1 ++ [.slice p4 (((impl_copyName x_.publisher).parts).length) c4, .int .i64 (x_.seq), .slice p5 ((x_.content).length) c5]) (((impl_copyMember m).publications ++ [(Publication.mk (impl_copyName x_.publisher) x_.seq x_.content)]) : List Publication)]) rfl ?_
    refine WX.run ttOk rfl ?_
    refine WX.callF 18 (fun _ _ h => GoT.ow_rd h) (fun _ f hf => GoT.fak f hf) rfl rfl rfl rfl rfl (fun _ => rfl) rfl (fun w G bs hI hΓ => f72 w n (by omega) m.vector.entries pmVector cmVector (hΓ.get 1 rfl) x_.publisher px_Publisher cx_Publisher (hΓ.get 3 rfl) x_.seq (ok_StateVector (ok_Member hokm).2.1) ((ok_Publication hokx_).1) ((ok_Publication hokx_).2.1)) (fun _ => rfl) (fun _ => rfl) ?_
    rintro ⟨p8, c7⟩ hq5
    have q2 := (put_impl m.vector.entries x_.publisher x_.seq).len
    have hfx1 := (put_impl m.vector.entries x_.publisher x_.seq).els (k := n) (okl (ok_StateVector (ok_Member hokm).2.1)).2 (ok_Publication hokx_).1 (ok_Publication hokx_).2.1
    refine WX.run ttOk rfl ?_
    refine WX.cases 51 rfl (fun h2 => ?_) (fun h2 => ?_)
    · skip
      have h2d := (B.nt h2)
      refine WX.run ttOk rfl ?_
      refine WX.callF 20 (fun _ _ h => GoT.ow_rd h) (fun _ f hf => GoT.fak f hf) rfl rfl rfl rfl rfl (fun _ => rfl) rfl (fun w G bs hI hΓ => f68 w n (by omega) m pmName cmName (hΓ.get 0 rfl) pmVector cmVector (hΓ.get 1 rfl) pmPublications cmPublications (hΓ.get 2 rfl) hokm) (fun _ => rfl) (fun _ => rfl) ?_
      rintro ⟨⟨p9, c8⟩, ⟨p10, c9⟩, ⟨p11, c10⟩⟩ hq6
      have q3 := cM_impl m
      refine WX.run ttOk rfl ?_
      have hP2 : impl_AcceptPublication m x_ = (impl_copyMember m, false) := by simp only [impl_AcceptPublication, h1, h2, cond_true, cond_false]
      refine WX.ret ttOk rfl ?_
      intro w1 G bs hI hΓ
      rw [hP2]
      exact Post.of [23, 24, 25] ((p9, c8), (p10, c9), (p11, c10)) hI hΓ rfl rfl rfl (And.intro (GoT.okm (α := List Str) (by omega) (ok_Name (ok_Member hq6).1)) (And.intro (GoT.okm (α := List TableEntry) (by omega) (ok_StateVector (ok_Member hq6).2.1)) (GoT.okm (α := List Publication) (by omega) (ok_Member hq6).2.2)))
    · skip
      have h2d := (B.nf h2)
      refine WX.run ttOk rfl ?_
      refine WX.seal 501 17 26 rfl rfl rfl rfl rfl ?_
      refine WX.der 28 (MF.rs .der p1 c1 ((impl_copyMember m).name.parts)) rfl (fun _ hΓ => (hΓ.get 8 rfl : OwSl _ _ _ _).rd) ?_
      refine WX.der 29 (MF.rs .der p8 c7 ((impl_PutEntry m.vector.entries x_.publisher x_.seq).1)) rfl (fun _ hΓ => (hΓ.get 19 rfl : OwSl _ _ _ _).rd) ?_
      have r4 : (m.vector.entries).length ≤ bd n := (okl (ok_StateVector (ok_Member hokm).2.1)).1
      have r5 : ((impl_PutEntry m.vector.entries x_.publisher x_.seq).1).length ≤ bd (n + 1) := (okl hq5).1
      refine WX.callV rfl rfl rfl rfl rfl (fun _ => rfl) rfl (fun w G bs hI hΓ => f73 w (n + 1) (by omega) (Member.mk ((impl_copyMember m).name) (StateVector.mk ((impl_PutEntry m.vector.entries x_.publisher x_.seq).1)) ((impl_copyMember m).publications ++ [(Publication.mk (impl_copyName x_.publisher) x_.seq x_.content)])) p1 c1 (hΓ.get 28 rfl) p8 c7 (hΓ.get 29 rfl) p7 c6 (hΓ.get 26 rfl) (And.intro (GoT.okm (α := List Str) (by omega) (ok_Name (ok_Member hq1).1)) (And.intro (okl_mk (by omega) (fun a ha => GoT.okm (by omega) (hfx1 a ha)) : GoT.ok (n + 1) ((impl_PutEntry m.vector.entries x_.publisher x_.seq).1 : List TableEntry)) (okl_mk (by simp; omega) (fun a ha => GoT.okm (show n ≤ (n + 1) by omega) ((all_app (okl (ok_Member hq1).2.2).2 (all_cons (α := Publication) (And.intro hq3 (And.intro (ok_Publication hokx_).2.1 hq4)) (fun a ha => by cases ha))) a ha)) : GoT.ok (n + 1) (((impl_copyMember m).publications ++ [(Publication.mk (impl_copyName x_.publisher) x_.seq x_.content)]) : List Publication))))) ?_
      intro hq7
      refine WX.run ttOk rfl ?_
      refine WX.cases 55 rfl (fun h3 => ?_) (fun h3 => ?_)
      · skip
        have h3d := (B.nt h3)
        refine WX.run ttOk rfl ?_
        refine WX.callF 30 (fun _ _ h => GoT.ow_rd h) (fun _ f hf => GoT.fak f hf) rfl rfl rfl rfl rfl (fun _ => rfl) rfl (fun w G bs hI hΓ => f68 w n (by omega) m pmName cmName (hΓ.get 0 rfl) pmVector cmVector (hΓ.get 1 rfl) pmPublications cmPublications (hΓ.get 2 rfl) hokm) (fun _ => rfl) (fun _ => rfl) ?_
        rintro ⟨⟨p12, c11⟩, ⟨p13, c12⟩, ⟨p14, c13⟩⟩ hq8
        have q4 := cM_impl m
        refine WX.run ttOk rfl ?_
        have hP3 : impl_AcceptPublication m x_ = (impl_copyMember m, false) := by simp only [impl_AcceptPublication, h1, h2, h3, cond_true, cond_false]
        refine WX.ret ttOk rfl ?_
        intro w1 G bs hI hΓ
        rw [hP3]
        exact Post.of [33, 34, 35] ((p12, c11), (p13, c12), (p14, c13)) hI hΓ rfl rfl rfl (And.intro (GoT.okm (α := List Str) (by omega) (ok_Name (ok_Member hq8).1)) (And.intro (GoT.okm (α := List TableEntry) (by omega) (ok_StateVector (ok_Member hq8).2.1)) (GoT.okm (α := List Publication) (by omega) (ok_Member hq8).2.2)))
      · skip
        have h3d := (B.nf h3)
        refine WX.run ttOk rfl ?_
        have hP4 : impl_AcceptPublication m x_ = (Member.mk ((impl_copyMember m).name) (StateVector.mk ((impl_PutEntry m.vector.entries x_.publisher x_.seq).1)) ((impl_copyMember m).publications ++ [(Publication.mk (impl_copyName x_.publisher) x_.seq x_.content)]), true) := by simp only [impl_AcceptPublication, h1, h2, h3, cond_true, cond_false]
        refine WX.ret ttOk rfl ?_
        intro w1 G bs hI hΓ
        rw [hP4]
        exact Post.of [8, 19, 27] ((p1, c1), (p8, c7), (p7, c6)) hI hΓ rfl rfl rfl (And.intro (GoT.okm (α := List Str) (by omega) (ok_Name (ok_Member hq1).1)) (And.intro (okl_mk (by omega) (fun a ha => GoT.okm (by omega) (hfx1 a ha)) : GoT.ok (n + 3) ((impl_PutEntry m.vector.entries x_.publisher x_.seq).1 : List TableEntry)) (okl_mk (by simp; omega) (fun a ha => GoT.okm (by omega) ((fun a ha => GoT.okm (show n ≤ (n + 1) by omega) ((all_app (okl (ok_Member hq1).2.2).2 (all_cons (α := Publication) (And.intro hq3 (And.intro (ok_Publication hokx_).2.1 hq4)) (fun a ha => by cases ha))) a ha)) a ha)) : GoT.ok (n + 3) (((impl_copyMember m).publications ++ [(Publication.mk (impl_copyName x_.publisher) x_.seq x_.content)]) : List Publication))))
theorem f12 (w : World) (n : Nat) (hn : n + 3 ≤ 9) (m : Member) (pmName : Option Addr) (cmName : Nat) (hpmName : RdSl (hp w) pmName cmName m.name.parts) (pmVector : Option Addr) (cmVector : Nat) (hpmVector : RdSl (hp w) pmVector cmVector m.vector.entries) (pmPublications : Option Addr) (cmPublications : Nat) (hpmPublications : RdSl (hp w) pmPublications cmPublications m.publications) (x_ : Publication) (px_Publisher : Option Addr) (cx_Publisher : Nat) (hpx_Publisher : RdSl (hp w) px_Publisher cx_Publisher x_.publisher.parts) (px_Content : Option Addr) (cx_Content : Nat) (hpx_Content : RdSl (hp w) px_Content cx_Content x_.content) (hokm : GoT.ok n m) (hokx_ : GoT.ok n x_) :
    Does Tryz.prog 12 #[.agg #[.slice pmName ((m.name.parts).length) cmName, .slice pmVector ((m.vector.entries).length) cmVector, .slice pmPublications ((m.publications).length) cmPublications], .agg #[.slice px_Publisher ((x_.publisher.parts).length) cx_Publisher, .int .i64 (x_.seq), .slice px_Content ((x_.content).length) cx_Content]] w emp (Post w emp (fun x : GoT.X (Member) => .tuple #[.agg ⟨GoT.sh ((spec_AcceptPublication m x_).1 : Member) x⟩, .bool ((spec_AcceptPublication m x_).2)]) (fun x => GoT.oa ((spec_AcceptPublication m x_).1 : Member) x) (GoT.ok (n + 3) ((spec_AcceptPublication m x_).1 : Member))) := by
  have hbP := bd_pos n
  have hbS0 : bd (n + 1) = 4 * bd (n) := bd_succ (n := n) (by omega)
  have hbS1 : bd (n + 2) = 4 * bd (n + 1) := bd_succ (n := n + 1) (by omega)
  have hbS2 : bd (n + 3) = 4 * bd (n + 2) := bd_succ (n := n + 2) (by omega)
  have hbB := bd_big (n := (n + 3)) (by omega)
  have hbM := bd_mono (show n ≤ n + 3 by omega)
  refine WX.enter (tt := tt) (Γ := [(0, MF.rs .stb pmName cmName m.name.parts), (1, MF.rs .stb pmVector cmVector m.vector.entries), (2, MF.rs .stb pmPublications cmPublications m.publications), (3, MF.rs .stb px_Publisher cx_Publisher x_.publisher.parts), (4, MF.rs .stb px_Content cx_Content x_.content)]) Tryz.func12 rfl (by kernel_rfl) rfl (allS_cons rfl hpmName (allS_cons rfl hpmVector (allS_cons rfl hpmPublications (allS_cons rfl hpx_Publisher (allS_cons rfl hpx_Content allS_nil))))) ?_
  refine WX.run ttOk rfl ?_
  refine WX.callF 5 (fun _ _ h => GoT.ow_rd h) (fun _ f hf => GoT.fak f hf) rfl rfl rfl rfl rfl (fun _ => rfl) rfl (fun w G bs hI hΓ => f60 w n (by omega) m pmName cmName (hΓ.get 0 rfl) pmVector cmVector (hΓ.get 1 rfl) pmPublications cmPublications (hΓ.get 2 rfl) hokm) (fun _ => rfl) (fun _ => rfl) ?_
  rintro ⟨⟨p1, c1⟩, ⟨p2, c2⟩, ⟨p3, c3⟩⟩ hq1
  have q1 := cM_spec m
  refine WX.run ttOk rfl ?_
  refine WX.draw [] mixed ?_
  intro bs G0 hΓ0
  refine DX.takes (fuel := 3) ttOk [(0, true), (1, false), (2, true), (3, false), (4, true), (5, false)] (by kernel_rfl) rfl ?_
  refine DX.callV 6 rfl (by kernel_rfl) rfl rfl rfl rfl rfl rfl (fun _ => rfl) rfl (fun w G bs hI hΓ => f61 w n (by omega) m.vector pmVector cmVector (hΓ.get 1 rfl) x_.publisher px_Publisher cx_Publisher (hΓ.get 3 rfl) ((ok_Member hokm).2.1) ((ok_Publication hokx_).1)) ?_
  intro hq2
  refine DX.seeP 7 (by kernel_rfl) rfl rfl rfl rfl (looksP_wrap rfl rfl rfl rfl) ?_
  refine DX.takes (fuel := 0) ttOk [(8, true)] (by kernel_rfl) rfl ?_
  refine DX.tail2 [] rfl rfl (by kernel_rfl) ?_
  refine WX.run ttOk rfl ?_
  refine WX.cases 19 rfl (fun h1 => ?_) (fun h1 => ?_)
  · skip
    have h1d := B.nt' h1
    refine WX.run ttOk rfl ?_
    have hP1 : spec_AcceptPublication m x_ = (spec_l28Copy m, false) := by simp only [spec_AcceptPublication, h1, cond_true, cond_false]
    refine WX.ret ttOk rfl ?_
    intro w1 G bs hI hΓ
    rw [hP1]
    exact Post.of [8, 9, 10] ((p1, c1), (p2, c2), (p3, c3)) hI hΓ rfl rfl rfl (And.intro (GoT.okm (α := List Str) (by omega) (ok_Name (ok_Member hq1).1)) (And.intro (GoT.okm (α := List TableEntry) (by omega) (ok_StateVector (ok_Member hq1).2.1)) (GoT.okm (α := List Publication) (by omega) (ok_Member hq1).2.2)))
  · skip
    have h1d := B.nf' h1
    refine WX.run ttOk rfl ?_
    refine WX.callF 11 (fun _ _ h => GoT.ow_rd h) (fun _ f hf => GoT.fak f hf) rfl rfl rfl rfl rfl (fun _ => rfl) rfl (fun w G bs hI hΓ => f62 w n (by omega) m.vector.entries pmVector cmVector (hΓ.get 1 rfl) x_.publisher px_Publisher cx_Publisher (hΓ.get 3 rfl) x_.seq (ok_StateVector (ok_Member hokm).2.1) ((ok_Publication hokx_).1) ((ok_Publication hokx_).2.1)) (fun _ => rfl) (fun _ => rfl) ?_
    rintro ⟨p4, c4⟩ hq3
    have q2 := (put_spec m.vector.entries x_.publisher x_.seq).len
    have hfx1 := (put_spec m.vector.entries x_.publisher x_.seq).els (k := n) (okl (ok_StateVector (ok_Member hokm).2.1)).2 (ok_Publication hokx_).1 (ok_Publication hokx_).2.1
    refine WX.run ttOk rfl ?_
    refine WX.draw [13, 15] mixed ?_
    intro bs G0 hΓ0
    refine DX.takes (fuel := 8) ttOk [(0, true), (1, false), (2, true), (3, false), (5, true), (6, false), (8, true), (9, false)] (by kernel_rfl) rfl ?_
    refine DX.toTX ?_
    intro S_
    refine TX.all2 4 7 (by kernel_rfl) ?_ ?_
    · skip
      refine TS.callF 4 13 (fun _ _ h => GoT.ow_rd h) (fun _ f hf => GoT.fak f hf) rfl rfl rfl rfl rfl rfl (fun _ => rfl) rfl (fun w G bs hI hΓ => f63 w n (by omega) x_.publisher px_Publisher cx_Publisher (hΓ.get 3 rfl) ((ok_Publication hokx_).1)) (fun _ => rfl) (fun _ => rfl) ?_
      rintro ⟨p5, c5⟩ hq4
      refine TX.all1 7 (by kernel_rfl) ?_
      refine TS.op 7 rfl (by kernel_rfl) ?_
      refine WX.bld ttOk rfl rfl rfl rfl rfl rfl rfl ?_
      intro p6
      refine WX.run ttOk rfl ?_
      refine WX.back0 ?_
      refine TX.all1 10 (by kernel_rfl) ?_
      have r1 : (x_.content).length ≤ bd n := (okl (ok_Publication hokx_).2.2).1
      refine TS.opK 10 rfl (keeps_appG (α := UInt8) 42 4 (x_.content : List UInt8).length ttOk rfl rfl rfl rfl rfl rfl rfl rfl rfl (by simp) (by omega) (by omega) rfl) ?_
      refine WX.free 15 (MF.ol [] ([] : List UInt8)) rfl ?_
      refine WX.appG1 42 4 16 (x_.content : List UInt8).length ttOk rfl rfl rfl rfl rfl rfl rfl rfl rfl rfl rfl rfl rfl (by simp) (by omega) (by omega) (fun _ _ _ => rfl) ?_
      intro ys1 p7 c6
      refine WX.know (fun G hΓ => (hΓ.get 16 rfl : RdL _ _ _).flat) ?_
      intro hf1
      refine WX.turn [15] 17 rfl (fun h hs => ol_flat hs hf1) (gs := [MF.ol ([] ++ ys1) (x_.content : List UInt8)]) rfl ?_
      refine WX.run ttOk rfl ?_
      refine WX.back0 ?_
      refine TX.all1 11 (by kernel_rfl) ?_
      refine TS.opK 11 rfl (keeps_pure ttOk rfl) ?_
      refine WX.run ttOk rfl ?_
      refine WX.back0 ?_
      refine TX.all1 12 (by kernel_rfl) ?_
      refine TS.op 12 rfl (by kernel_rfl) ?_
      refine WX.seal 42 17 18 rfl rfl rfl rfl rfl ?_
      refine WX.bld ttOk rfl rfl rfl rfl rfl rfl rfl ?_
      intro p8
      refine WX.run ttOk rfl ?_
      refine WX.back0 ?_
      refine TX.all1 13 (by kernel_rfl) ?_
      refine TS.op 13 rfl (by kernel_rfl) ?_
      refine WX.opn (kk := 3) 501 10 20 rfl rfl rfl ?_
      intro xs1 hx1
      refine WX.turn [14, 19] 21 rfl (fun h hs => ol_one (α := Publication) (a := (Publication.mk (spec_l4Copy x_.publisher) x_.seq x_.content)) (x := ((p5, c5), (), (p7, c6))) hs) (gs := [MF.ol [.slice p5 (((spec_l4Copy x_.publisher).parts).length) c5, .int .i64 (x_.seq), .slice p7 ((x_.content).length) c6] ([(Publication.mk (spec_l4Copy x_.publisher) x_.seq x_.content)] : List Publication)]) rfl ?_
      have r2 : -9223372036854775808 ≤ x_.seq ∧ x_.seq ≤ 9223372036854775807 := (ok_Publication hokx_).2.1
      have r3 : ((spec_l28Copy m).publications).length ≤ bd n := (okl (ok_Member hq1).2.2).1
      refine WX.know (fun G hΓ => (hΓ.get 21 rfl : OwL _ _ _).rd.one) ?_
      intro ho1
      refine WX.appR1 501 47 (((spec_l28Copy m).publications ++ [(Publication.mk (spec_l4Copy x_.publisher) x_.seq x_.content)]) : List Publication).length ttOk rfl rfl rfl rfl rfl rfl rfl rfl rfl rfl rfl rfl rfl ho1 (by simp) (by simp; omega) (by simp; omega) (fun _ _ => rfl) ?_
      intro p9 c7
      refine WX.turn [20, 21] 22 rfl (fun h hs => ol_app hs) (gs := [MF.ol (xs1 ++ [.slice p5 (((spec_l4Copy x_.publisher).parts).length) c5, .int .i64 (x_.seq), .slice p7 ((x_.content).length) c6]) (((spec_l28Copy m).publications ++ [(Publication.mk (spec_l4Copy x_.publisher) x_.seq x_.content)]) : List Publication)]) rfl ?_
      refine WX.run ttOk rfl ?_
      refine WX.back0 ?_
      refine TX.all1 14 (by kernel_rfl) ?_
      refine TS.opK 14 rfl (keeps_pure ttOk rfl) ?_
      refine WX.run ttOk rfl ?_
      refine WX.back0 ?_
      refine TX.tail [15] rfl rfl (by kernel_rfl) ?_
      refine WX.run ttOk rfl ?_
      refine WX.cases 52 rfl (fun h2 => ?_) (fun h2 => ?_)
      · skip
        have h2d := (B.nt h2)
        refine WX.run ttOk rfl ?_
        refine WX.callF 23 (fun _ _ h => GoT.ow_rd h) (fun _ f hf => GoT.fak f hf) rfl rfl rfl rfl rfl (fun _ => rfl) rfl (fun w G bs hI hΓ => f60 w n (by omega) m pmName cmName (hΓ.get 0 rfl) pmVector cmVector (hΓ.get 1 rfl) pmPublications cmPublications (hΓ.get 2 rfl) hokm) (fun _ => rfl) (fun _ => rfl) ?_
        rintro ⟨⟨p10, c8⟩, ⟨p11, c9⟩, ⟨p12, c10⟩⟩ hq5
        have q3 := cM_spec m
        refine WX.run ttOk rfl ?_
        have hP2 : spec_AcceptPublication m x_ = (spec_l28Copy m, false) := by simp only [spec_AcceptPublication, h1, h2, cond_true, cond_false]
        refine WX.ret ttOk rfl ?_
        intro w1 G bs hI hΓ
        rw [hP2]
        exact Post.of [26, 27, 28] ((p10, c8), (p11, c9), (p12, c10)) hI hΓ rfl rfl rfl (And.intro (GoT.okm (α := List Str) (by omega) (ok_Name (ok_Member hq5).1)) (And.intro (GoT.okm (α := List TableEntry) (by omega) (ok_StateVector (ok_Member hq5).2.1)) (GoT.okm (α := List Publication) (by omega) (ok_Member hq5).2.2)))
      · skip
        have h2d := (B.nf h2)
        refine WX.run ttOk rfl ?_
        refine WX.seal 501 22 29 rfl rfl rfl rfl rfl ?_
        refine WX.der 31 (MF.rs .der p1 c1 ((spec_l28Copy m).name.parts)) rfl (fun _ hΓ => (hΓ.get 8 rfl : OwSl _ _ _ _).rd) ?_
        refine WX.der 32 (MF.rs .der p4 c4 ((spec_PutEntry m.vector.entries x_.publisher x_.seq).1)) rfl (fun _ hΓ => (hΓ.get 12 rfl : OwSl _ _ _ _).rd) ?_
        have r4 : (m.vector.entries).length ≤ bd n := (okl (ok_StateVector (ok_Member hokm).2.1)).1
        have r5 : ((spec_PutEntry m.vector.entries x_.publisher x_.seq).1).length ≤ bd (n + 3) := (okl hq3).1
        refine WX.callV rfl rfl rfl rfl rfl (fun _ => rfl) rfl (fun w G bs hI hΓ => f64 w (n + 1) (by omega) (Member.mk ((spec_l28Copy m).name) (StateVector.mk ((spec_PutEntry m.vector.entries x_.publisher x_.seq).1)) ((spec_l28Copy m).publications ++ [(Publication.mk (spec_l4Copy x_.publisher) x_.seq x_.content)])) p1 c1 (hΓ.get 31 rfl) p4 c4 (hΓ.get 32 rfl) p9 c7 (hΓ.get 29 rfl) (And.intro (GoT.okm (α := List Str) (by omega) (ok_Name (ok_Member hq1).1)) (And.intro (okl_mk (by omega) (fun a ha => GoT.okm (by omega) (hfx1 a ha)) : GoT.ok (n + 1) ((spec_PutEntry m.vector.entries x_.publisher x_.seq).1 : List TableEntry)) (okl_mk (by simp; omega) (fun a ha => GoT.okm (show n ≤ (n + 1) by omega) ((all_app (okl (ok_Member hq1).2.2).2 (all_cons (α := Publication) (And.intro hq4 (And.intro (ok_Publication hokx_).2.1 (okl_mk (by omega) (okl (ok_Publication hokx_).2.2).2 : GoT.ok n (x_.content : List UInt8)))) (fun a ha => by cases ha))) a ha)) : GoT.ok (n + 1) (((spec_l28Copy m).publications ++ [(Publication.mk (spec_l4Copy x_.publisher) x_.seq x_.content)]) : List Publication))))) ?_
        intro hq6
        refine WX.run ttOk rfl ?_
        refine WX.cases 56 rfl (fun h3 => ?_) (fun h3 => ?_)
        · skip
          have h3d := (B.nt h3)
          refine WX.run ttOk rfl ?_
          refine WX.callF 33 (fun _ _ h => GoT.ow_rd h) (fun _ f hf => GoT.fak f hf) rfl rfl rfl rfl rfl (fun _ => rfl) rfl (fun w G bs hI hΓ => f60 w n (by omega) m pmName cmName (hΓ.get 0 rfl) pmVector cmVector (hΓ.get 1 rfl) pmPublications cmPublications (hΓ.get 2 rfl) hokm) (fun _ => rfl) (fun _ => rfl) ?_
          rintro ⟨⟨p13, c11⟩, ⟨p14, c12⟩, ⟨p15, c13⟩⟩ hq7
          have q4 := cM_spec m
          refine WX.run ttOk rfl ?_
          have hP3 : spec_AcceptPublication m x_ = (spec_l28Copy m, false) := by simp only [spec_AcceptPublication, h1, h2, h3, cond_true, cond_false]
          refine WX.ret ttOk rfl ?_
          intro w1 G bs hI hΓ
          rw [hP3]
          exact Post.of [36, 37, 38] ((p13, c11), (p14, c12), (p15, c13)) hI hΓ rfl rfl rfl (And.intro (GoT.okm (α := List Str) (by omega) (ok_Name (ok_Member hq7).1)) (And.intro (GoT.okm (α := List TableEntry) (by omega) (ok_StateVector (ok_Member hq7).2.1)) (GoT.okm (α := List Publication) (by omega) (ok_Member hq7).2.2)))
        · skip
          have h3d := (B.nf h3)
          refine WX.run ttOk rfl ?_
          have hP4 : spec_AcceptPublication m x_ = (Member.mk ((spec_l28Copy m).name) (StateVector.mk ((spec_PutEntry m.vector.entries x_.publisher x_.seq).1)) ((spec_l28Copy m).publications ++ [(Publication.mk (spec_l4Copy x_.publisher) x_.seq x_.content)]), true) := by simp only [spec_AcceptPublication, h1, h2, h3, cond_true, cond_false]
          refine WX.ret ttOk rfl ?_
          intro w1 G bs hI hΓ
          rw [hP4]
          exact Post.of [8, 12, 30] ((p1, c1), (p4, c4), (p9, c7)) hI hΓ rfl rfl rfl (And.intro (GoT.okm (α := List Str) (by omega) (ok_Name (ok_Member hq1).1)) (And.intro (okl_mk (by omega) (fun a ha => GoT.okm (by omega) (hfx1 a ha)) : GoT.ok (n + 3) ((spec_PutEntry m.vector.entries x_.publisher x_.seq).1 : List TableEntry)) (okl_mk (by simp; omega) (fun a ha => GoT.okm (by omega) ((fun a ha => GoT.okm (show n ≤ (n + 1) by omega) ((all_app (okl (ok_Member hq1).2.2).2 (all_cons (α := Publication) (And.intro hq4 (And.intro (ok_Publication hokx_).2.1 (okl_mk (by omega) (okl (ok_Publication hokx_).2.2).2 : GoT.ok n (x_.content : List UInt8)))) (fun a ha => by cases ha))) a ha)) a ha)) : GoT.ok (n + 3) (((spec_l28Copy m).publications ++ [(Publication.mk (spec_l4Copy x_.publisher) x_.seq x_.content)]) : List Publication))))
    · skip
      refine TS.op 7 rfl (by kernel_rfl) ?_
      refine WX.bld ttOk rfl rfl rfl rfl rfl rfl rfl ?_
      intro p16
      refine WX.run ttOk rfl ?_
      refine WX.back0 ?_
      refine TX.all1 4 (by kernel_rfl) ?_
      refine TS.callF 4 39 (fun _ _ h => GoT.ow_rd h) (fun _ f hf => GoT.fak f hf) rfl rfl rfl rfl rfl rfl (fun _ => rfl) rfl (fun w G bs hI hΓ => f63 w n (by omega) x_.publisher px_Publisher cx_Publisher (hΓ.get 3 rfl) ((ok_Publication hokx_).1)) (fun _ => rfl) (fun _ => rfl) ?_
      rintro ⟨p17, c14⟩ hq8
      refine TX.all1 10 (by kernel_rfl) ?_
      have r6 : (x_.content).length ≤ bd n := (okl (ok_Publication hokx_).2.2).1
      refine TS.opK 10 rfl (keeps_appG (α := UInt8) 42 4 (x_.content : List UInt8).length ttOk rfl rfl rfl rfl rfl rfl rfl rfl rfl (by simp) (by omega) (by omega) rfl) ?_
      refine WX.free 41 (MF.ol [] ([] : List UInt8)) rfl ?_
      refine WX.appG1 42 4 42 (x_.content : List UInt8).length ttOk rfl rfl rfl rfl rfl rfl rfl rfl rfl rfl rfl rfl rfl (by simp) (by omega) (by omega) (fun _ _ _ => rfl) ?_
      intro ys2 p18 c15
      refine WX.know (fun G hΓ => (hΓ.get 42 rfl : RdL _ _ _).flat) ?_
      intro hf2
      refine WX.turn [41] 43 rfl (fun h hs => ol_flat hs hf2) (gs := [MF.ol ([] ++ ys2) (x_.content : List UInt8)]) rfl ?_
      refine WX.run ttOk rfl ?_
      refine WX.back0 ?_
      refine TX.all1 11 (by kernel_rfl) ?_
      refine TS.opK 11 rfl (keeps_pure ttOk rfl) ?_
      refine WX.run ttOk rfl ?_
      refine WX.back0 ?_
      refine TX.all1 12 (by kernel_rfl) ?_
      refine TS.op 12 rfl (by kernel_rfl) ?_
      refine WX.seal 42 43 44 rfl rfl rfl rfl rfl ?_
      refine WX.bld ttOk rfl rfl rfl rfl rfl rfl rfl ?_
      intro p19
      refine WX.run ttOk rfl ?_
      refine WX.back0 ?_
      refine TX.all1 13 (by kernel_rfl) ?_
      refine TS.op 13 rfl (by kernel_rfl) ?_
      refine WX.opn (kk := 3) 502 10 46 rfl rfl rfl ?_
      intro xs2 hx2
      refine WX.turn [40, 45] 47 rfl (fun h hs => ol_one (α := Publication) (a := (Publication.mk (spec_l4Copy x_.publisher) x_.seq x_.content)) (x := ((p17, c14), (), (p18, c15))) hs) (gs := [MF.ol [.slice p17 (((spec_l4Copy x_.publisher).parts).length) c14, .int .i64 (x_.seq), .slice p18 ((x_.content).length) c15] ([(Publication.mk (spec_l4Copy x_.publisher) x_.seq x_.content)] : List Publication)]) rfl ?_
      have r7 : -9223372036854775808 ≤ x_.seq ∧ x_.seq ≤ 9223372036854775807 := (ok_Publication hokx_).2.1
      have r8 : ((spec_l28Copy m).publications).length ≤ bd n := (okl (ok_Member hq1).2.2).1
      refine WX.know (fun G hΓ => (hΓ.get 47 rfl : OwL _ _ _).rd.one) ?_
      intro ho2
      refine WX.appR1 502 47 (((spec_l28Copy m).publications ++ [(Publication.mk (spec_l4Copy x_.publisher) x_.seq x_.content)]) : List Publication).length ttOk rfl rfl rfl rfl rfl rfl rfl rfl rfl rfl rfl rfl rfl ho2 (by simp) (by simp; omega) (by simp; omega) (fun _ _ => rfl) ?_
      intro p20 c16
      refine WX.turn [46, 47] 48 rfl (fun h hs => ol_app hs) (gs := [MF.ol (xs2 ++ [.slice p17 (((spec_l4Copy x_.publisher).parts).length) c14, .int .i64 (x_.seq), .slice p18 ((x_.content).length) c15]) (((spec_l28Copy m).publications ++ [(Publication.mk (spec_l4Copy x_.publisher) x_.seq x_.content)]) : List Publication)]) rfl ?_
      refine WX.run ttOk rfl ?_
      refine WX.back0 ?_
      refine TX.all1 14 (by kernel_rfl) ?_
      refine TS.opK 14 rfl (keeps_pure ttOk rfl) ?_
      refine WX.run ttOk rfl ?_
      refine WX.back0 ?_
      refine TX.tail [15] rfl rfl (by kernel_rfl) ?_
      refine WX.run ttOk rfl ?_
      refine WX.cases 52 rfl (fun h4 => ?_) (fun h4 => ?_)
      · skip
        have h4d := (B.nt h4)
        refine WX.run ttOk rfl ?_
        refine WX.callF 49 (fun _ _ h => GoT.ow_rd h) (fun _ f hf => GoT.fak f hf) rfl rfl rfl rfl rfl (fun _ => rfl) rfl (fun w G bs hI hΓ => f60 w n (by omega) m pmName cmName (hΓ.get 0 rfl) pmVector cmVector (hΓ.get 1 rfl) pmPublications cmPublications (hΓ.get 2 rfl) hokm) (fun _ => rfl) (fun _ => rfl) ?_
        rintro ⟨⟨p21, c17⟩, ⟨p22, c18⟩, ⟨p23, c19⟩⟩ hq9
        have q5 := cM_spec m
        refine WX.run ttOk rfl ?_
        have hP5 : spec_AcceptPublication m x_ = (spec_l28Copy m, false) := by simp only [spec_AcceptPublication, h1, h4, cond_true, cond_false]
        refine WX.ret ttOk rfl ?_
        intro w1 G bs hI hΓ
        rw [hP5]
        exact Post.of [52, 53, 54] ((p21, c17), (p22, c18), (p23, c19)) hI hΓ rfl rfl rfl (And.intro (GoT.okm (α := List Str) (by omega) (ok_Name (ok_Member hq9).1)) (And.intro (GoT.okm (α := List TableEntry) (by omega) (ok_StateVector (ok_Member hq9).2.1)) (GoT.okm (α := List Publication) (by omega) (ok_Member hq9).2.2)))
      · skip
        have h4d := (B.nf h4)
        refine WX.run ttOk rfl ?_
        refine WX.seal 502 48 55 rfl rfl rfl rfl rfl ?_
        refine WX.der 57 (MF.rs .der p1 c1 ((spec_l28Copy m).name.parts)) rfl (fun _ hΓ => (hΓ.get 8 rfl : OwSl _ _ _ _).rd) ?_
        refine WX.der 58 (MF.rs .der p4 c4 ((spec_PutEntry m.vector.entries x_.publisher x_.seq).1)) rfl (fun _ hΓ => (hΓ.get 12 rfl : OwSl _ _ _ _).rd) ?_
        have r9 : (m.vector.entries).length ≤ bd n := (okl (ok_StateVector (ok_Member hokm).2.1)).1
        have r10 : ((spec_PutEntry m.vector.entries x_.publisher x_.seq).1).length ≤ bd (n + 3) := (okl hq3).1
        refine WX.callV rfl rfl rfl rfl rfl (fun _ => rfl) rfl (fun w G bs hI hΓ => f64 w (n + 1) (by omega) (Member.mk ((spec_l28Copy m).name) (StateVector.mk ((spec_PutEntry m.vector.entries x_.publisher x_.seq).1)) ((spec_l28Copy m).publications ++ [(Publication.mk (spec_l4Copy x_.publisher) x_.seq x_.content)])) p1 c1 (hΓ.get 57 rfl) p4 c4 (hΓ.get 58 rfl) p20 c16 (hΓ.get 55 rfl) (And.intro (GoT.okm (α := List Str) (by omega) (ok_Name (ok_Member hq1).1)) (And.intro (okl_mk (by omega) (fun a ha => GoT.okm (by omega) (hfx1 a ha)) : GoT.ok (n + 1) ((spec_PutEntry m.vector.entries x_.publisher x_.seq).1 : List TableEntry)) (okl_mk (by simp; omega) (fun a ha => GoT.okm (show n ≤ (n + 1) by omega) ((all_app (okl (ok_Member hq1).2.2).2 (all_cons (α := Publication) (And.intro hq8 (And.intro (ok_Publication hokx_).2.1 (okl_mk (by omega) (okl (ok_Publication hokx_).2.2).2 : GoT.ok n (x_.content : List UInt8)))) (fun a ha => by cases ha))) a ha)) : GoT.ok (n + 1) (((spec_l28Copy m).publications ++ [(Publication.mk (spec_l4Copy x_.publisher) x_.seq x_.content)]) : List Publication))))) ?_
        intro hq10
        refine WX.run ttOk rfl ?_
        refine WX.cases 56 rfl (fun h5 => ?_) (fun h5 => ?_)
        · skip
          have h5d := (B.nt h5)
          refine WX.run ttOk rfl ?_
          refine WX.callF 59 (fun _ _ h => GoT.ow_rd h) (fun _ f hf => GoT.fak f hf) rfl rfl rfl rfl rfl (fun _ => rfl) rfl (fun w G bs hI hΓ => f60 w n (by omega) m pmName cmName (hΓ.get 0 rfl) pmVector cmVector (hΓ.get 1 rfl) pmPublications cmPublications (hΓ.get 2 rfl) hokm) (fun _ => rfl) (fun _ => rfl) ?_
          rintro ⟨⟨p24, c20⟩, ⟨p25, c21⟩, ⟨p26, c22⟩⟩ hq11
          have q6 := cM_spec m
          refine WX.run ttOk rfl ?_
          have hP6 : spec_AcceptPublication m x_ = (spec_l28Copy m, false) := by simp only [spec_AcceptPublication, h1, h4, h5, cond_true, cond_false]
          refine WX.ret ttOk rfl ?_
          intro w1 G bs hI hΓ
          rw [hP6]
          exact Post.of [62, 63, 64] ((p24, c20), (p25, c21), (p26, c22)) hI hΓ rfl rfl rfl (And.intro (GoT.okm (α := List Str) (by omega) (ok_Name (ok_Member hq11).1)) (And.intro (GoT.okm (α := List TableEntry) (by omega) (ok_StateVector (ok_Member hq11).2.1)) (GoT.okm (α := List Publication) (by omega) (ok_Member hq11).2.2)))
        · skip
          have h5d := (B.nf h5)
          refine WX.run ttOk rfl ?_
          have hP7 : spec_AcceptPublication m x_ = (Member.mk ((spec_l28Copy m).name) (StateVector.mk ((spec_PutEntry m.vector.entries x_.publisher x_.seq).1)) ((spec_l28Copy m).publications ++ [(Publication.mk (spec_l4Copy x_.publisher) x_.seq x_.content)]), true) := by simp only [spec_AcceptPublication, h1, h4, h5, cond_true, cond_false]
          refine WX.ret ttOk rfl ?_
          intro w1 G bs hI hΓ
          rw [hP7]
          exact Post.of [8, 12, 56] ((p1, c1), (p4, c4), (p20, c16)) hI hΓ rfl rfl rfl (And.intro (GoT.okm (α := List Str) (by omega) (ok_Name (ok_Member hq1).1)) (And.intro (okl_mk (by omega) (fun a ha => GoT.okm (by omega) (hfx1 a ha)) : GoT.ok (n + 3) ((spec_PutEntry m.vector.entries x_.publisher x_.seq).1 : List TableEntry)) (okl_mk (by simp; omega) (fun a ha => GoT.okm (by omega) ((fun a ha => GoT.okm (show n ≤ (n + 1) by omega) ((all_app (okl (ok_Member hq1).2.2).2 (all_cons (α := Publication) (And.intro hq8 (And.intro (ok_Publication hokx_).2.1 (okl_mk (by omega) (okl (ok_Publication hokx_).2.2).2 : GoT.ok n (x_.content : List UInt8)))) (fun a ha => by cases ha))) a ha)) a ha)) : GoT.ok (n + 3) (((spec_l28Copy m).publications ++ [(Publication.mk (spec_l4Copy x_.publisher) x_.seq x_.content)]) : List Publication))))
end Go.Proofs.YtfffongneoegbaaGreat

namespace Go.Stp
set_option linter.unusedVariables false
set_option linter.unusedSimpArgs false
def impl_CatchUp_L1 (from_ : Member) : List TableEntry → (List Str) → (List TableEntry) → (List Publication) → (List Str) × (List TableEntry) × (List Publication)
  | [], out, out2, out3 => (((out) : List Str), ((out2) : List TableEntry), ((out3) : List Publication))
  | e1 :: rest_, out, out2, out3 =>
    bif (impl_FindPublication from_ e1.name e1.value).2 then
      impl_CatchUp_L1 from_ rest_ (((impl_AcceptPublication (Member.mk (Name.mk out) (StateVector.mk out2) out3) (Publication.mk e1.name e1.value ((impl_FindPublication from_ e1.name e1.value).1))).1.name.parts) : List Str) (((impl_AcceptPublication (Member.mk (Name.mk out) (StateVector.mk out2) out3) (Publication.mk e1.name e1.value ((impl_FindPublication from_ e1.name e1.value).1))).1.vector.entries) : List TableEntry) (((impl_AcceptPublication (Member.mk (Name.mk out) (StateVector.mk out2) out3) (Publication.mk e1.name e1.value ((impl_FindPublication from_ e1.name e1.value).1))).1.publications) : List Publication)
    else
      impl_CatchUp_L1 from_ rest_ ((out) : List Str) ((out2) : List TableEntry) ((out3) : List Publication)
def impl_CatchUp (m : Member) (from_ : Member) : Member :=
  match impl_CatchUp_L1 from_ (impl_MissingFrom m from_.vector) ((impl_copyMember m).name.parts : List Str) ((impl_copyMember m).vector.entries : List TableEntry) ((impl_copyMember m).publications : List Publication) with
    | (out, out2, out3) =>
      (Member.mk (Name.mk out) (StateVector.mk out2) out3)
def spec_CatchUp_L1 (from_ : Member) : List TableEntry → (List Str) → (List TableEntry) → (List Publication) → (List Str) × (List TableEntry) × (List Publication)
  | [], out, out2, out3 => (((out) : List Str), ((out2) : List TableEntry), ((out3) : List Publication))
  | e1 :: rest_, out, out2, out3 =>
    bif (spec_FindPublication from_ e1.name e1.value).2 then
      spec_CatchUp_L1 from_ rest_ (((spec_AcceptPublication (Member.mk (Name.mk out) (StateVector.mk out2) out3) (Publication.mk e1.name e1.value ((spec_FindPublication from_ e1.name e1.value).1))).1.name.parts) : List Str) (((spec_AcceptPublication (Member.mk (Name.mk out) (StateVector.mk out2) out3) (Publication.mk e1.name e1.value ((spec_FindPublication from_ e1.name e1.value).1))).1.vector.entries) : List TableEntry) (((spec_AcceptPublication (Member.mk (Name.mk out) (StateVector.mk out2) out3) (Publication.mk e1.name e1.value ((spec_FindPublication from_ e1.name e1.value).1))).1.publications) : List Publication)
    else
      spec_CatchUp_L1 from_ rest_ ((out) : List Str) ((out2) : List TableEntry) ((out3) : List Publication)
def spec_CatchUp (m : Member) (from_ : Member) : Member :=
  match spec_CatchUp_L1 from_ (spec_MissingFrom m from_.vector) ((spec_l28Copy m).name.parts : List Str) ((spec_l28Copy m).vector.entries : List TableEntry) ((spec_l28Copy m).publications : List Publication) with
    | (out, out2, out3) =>
      (Member.mk (Name.mk out) (StateVector.mk out2) out3)
end Go.Stp

namespace Go.Proofs.YtfffongneoegbaaGreat
open Go.Stp
set_option linter.unusedVariables false
set_option linter.unusedSimpArgs false
theorem f27 (w : World) (n : Nat) (hn : n + 4 ≤ 9) (m : Member) (pmName : Option Addr) (cmName : Nat) (hpmName : RdSl (hp w) pmName cmName m.name.parts) (pmVector : Option Addr) (cmVector : Nat) (hpmVector : RdSl (hp w) pmVector cmVector m.vector.entries) (pmPublications : Option Addr) (cmPublications : Nat) (hpmPublications : RdSl (hp w) pmPublications cmPublications m.publications) (from_ : Member) (pfrom_Name : Option Addr) (cfrom_Name : Nat) (hpfrom_Name : RdSl (hp w) pfrom_Name cfrom_Name from_.name.parts) (pfrom_Vector : Option Addr) (cfrom_Vector : Nat) (hpfrom_Vector : RdSl (hp w) pfrom_Vector cfrom_Vector from_.vector.entries) (pfrom_Publications : Option Addr) (cfrom_Publications : Nat) (hpfrom_Publications : RdSl (hp w) pfrom_Publications cfrom_Publications from_.publications) (hokm : GoT.ok n m) (hokfrom_ : GoT.ok n from_) :
    Does Tryz.prog 27 #[.agg #[.slice pmName ((m.name.parts).length) cmName, .slice pmVector ((m.vector.entries).length) cmVector, .slice pmPublications ((m.publications).length) cmPublications], .agg #[.slice pfrom_Name ((from_.name.parts).length) cfrom_Name, .slice pfrom_Vector ((from_.vector.entries).length) cfrom_Vector, .slice pfrom_Publications ((from_.publications).length) cfrom_Publications]] w emp (Post w emp (fun x : GoT.X (Member) => .agg ⟨GoT.sh ((impl_CatchUp m from_) : Member) x⟩) (fun x => GoT.oa ((impl_CatchUp m from_) : Member) x) (GoT.ok (n + 1) ((impl_CatchUp m from_) : Member))) := by
  have hbP := bd_pos n
  have hbS0 : bd (n + 1) = 4 * bd (n) := bd_succ (n := n) (by omega)
  have hbS1 : bd (n + 2) = 4 * bd (n + 1) := bd_succ (n := n + 1) (by omega)
  have hbS2 : bd (n + 3) = 4 * bd (n + 2) := bd_succ (n := n + 2) (by omega)
  have hbS3 : bd (n + 4) = 4 * bd (n + 3) := bd_succ (n := n + 3) (by omega)
  have hbB := bd_big (n := (n + 4)) (by omega)
  have hbM := bd_mono (show n ≤ n + 4 by omega)
  refine WX.enter (tt := tt) (Γ := [(0, MF.rs .stb pmName cmName m.name.parts), (1, MF.rs .stb pmVector cmVector m.vector.entries), (2, MF.rs .stb pmPublications cmPublications m.publications), (3, MF.rs .stb pfrom_Name cfrom_Name from_.name.parts), (4, MF.rs .stb pfrom_Vector cfrom_Vector from_.vector.entries), (5, MF.rs .stb pfrom_Publications cfrom_Publications from_.publications)]) Tryz.func27 rfl (by kernel_rfl) rfl (allS_cons rfl hpmName (allS_cons rfl hpmVector (allS_cons rfl hpmPublications (allS_cons rfl hpfrom_Name (allS_cons rfl hpfrom_Vector (allS_cons rfl hpfrom_Publications allS_nil)))))) ?_
  refine WX.run ttOk rfl ?_
  refine WX.callF 6 (fun _ _ h => GoT.ow_rd h) (fun _ f hf => GoT.fak f hf) rfl rfl rfl rfl rfl (fun _ => rfl) rfl (fun w G bs hI hΓ => f68 w n (by omega) m pmName cmName (hΓ.get 0 rfl) pmVector cmVector (hΓ.get 1 rfl) pmPublications cmPublications (hΓ.get 2 rfl) hokm) (fun _ => rfl) (fun _ => rfl) ?_
  rintro ⟨⟨p1, c1⟩, ⟨p2, c2⟩, ⟨p3, c3⟩⟩ hq1
  have q1 := cM_impl m
  refine WX.run ttOk rfl ?_
  refine WX.callF 12 (fun _ _ h => GoT.ow_rd h) (fun _ f hf => GoT.fak f hf) rfl rfl rfl rfl rfl (fun _ => rfl) rfl (fun w G bs hI hΓ => f85 w n (by omega) m pmName cmName (hΓ.get 0 rfl) pmVector cmVector (hΓ.get 1 rfl) pmPublications cmPublications (hΓ.get 2 rfl) from_.vector pfrom_Vector cfrom_Vector (hΓ.get 4 rfl) hokm ((ok_Member hokfrom_).2.1)) (fun _ => rfl) (fun _ => rfl) ?_
  rintro ⟨p4, c4⟩ hq2
  refine WX.run ttOk rfl ?_
  have r1 : (impl_MissingFrom m from_.vector).length ≤ bd n := (okl hq2).1
  have hA0 : (impl_copyMember m).vector.entries.length ≤ bd n := by rw [cM_impl]; exact (okl (ok_StateVector (ok_Member hokm).2.1)).1
  have hA1 : (impl_copyMember m).publications.length ≤ bd n := by rw [cM_impl]; exact (okl (ok_Member hokm).2.2).1
  have hA2 : (impl_copyMember m).name.parts.length ≤ bd n := by rw [cM_impl]; exact (okl (ok_Name (ok_Member hokm).1)).1
  refine WX.loop (ι := Nat × (Option Addr) × Nat × (List Str) × (Option Addr) × Nat × (List TableEntry) × (Option Addr) × Nat × (List Publication)) ⟨fun | (i, pout, cout, out, pout2, cout2, out2, pout3, cout3, out3) => (i ≤ ((impl_MissingFrom m from_.vector)).length) ∧ (out.length ≤ bd (n + 1) ∧ ∀ z_ ∈ out, GoT.ok (n + 1) z_) ∧ (out2.length ≤ bd (n + 1) ∧ ∀ z_ ∈ out2, GoT.ok (n + 1) z_) ∧ (out3.length ≤ bd (n + 1) ∧ ∀ z_ ∈ out3, GoT.ok (n + 1) z_) ∧ (out.length ≤ i + ((impl_copyMember m).name.parts).length) ∧ (out2.length ≤ i + ((impl_copyMember m).vector.entries).length) ∧ (out3.length ≤ i + ((impl_copyMember m).publications).length) ∧ (impl_CatchUp_L1 from_ (impl_MissingFrom m from_.vector) ((impl_copyMember m).name.parts : List Str) ((impl_copyMember m).vector.entries : List TableEntry) ((impl_copyMember m).publications : List Publication) = impl_CatchUp_L1 from_ (((impl_MissingFrom m from_.vector)).drop i) out out2 out3), fun | (i, pout, cout, out, pout2, cout2, out2, pout3, cout3, out3) => ((impl_MissingFrom m from_.vector)).length - i, fun | (i, pout, cout, out, pout2, cout2, out2, pout3, cout3, out3) => [(17, .v (.int .i64 (((i : Nat) : Int)))), (16, .v (.int .i64 (((((impl_MissingFrom m from_.vector)).length : Nat) : Int)))), (15, .v (.slice p4 (((impl_MissingFrom m from_.vector)).length) c4)), (5, .p 5 0), (4, .p 4 0), (3, .p 3 0)], fun | (i, pout, cout, out, pout2, cout2, out2, pout3, cout3, out3) => [(5, ⟨42, [.slice pout ((out).length) cout, .slice pout2 ((out2).length) cout2, .slice pout3 ((out3).length) cout3]⟩), (4, ⟨42, [.slice none (0) 0, .slice none (0) 0, .slice none (0) 0]⟩), (3, ⟨42, [.slice pfrom_Name ((from_.name.parts).length) cfrom_Name, .slice pfrom_Vector ((from_.vector.entries).length) cfrom_Vector, .slice pfrom_Publications ((from_.publications).length) cfrom_Publications]⟩)], fun | (i, pout, cout, out, pout2, cout2, out2, pout3, cout3, out3) => [], fun | (i, pout, cout, out, pout2, cout2, out2, pout3, cout3, out3) => [(0, MF.rs .stb pmName cmName m.name.parts), (1, MF.rs .stb pmVector cmVector m.vector.entries), (2, MF.rs .stb pmPublications cmPublications m.publications), (3, MF.rs .stb pfrom_Name cfrom_Name from_.name.parts), (4, MF.rs .stb pfrom_Vector cfrom_Vector from_.vector.entries), (5, MF.rs .stb pfrom_Publications cfrom_Publications from_.publications), (9, MF.os pout cout out), (10, MF.os pout2 cout2 out2), (11, MF.os pout3 cout3 out3), (13, MF.os p4 c4 (impl_MissingFrom m from_.vector))]⟩ (0, p1, c1, ((impl_copyMember m).name.parts : List Str), p2, c2, ((impl_copyMember m).vector.entries : List TableEntry), p3, c3, ((impl_copyMember m).publications : List Publication)) ⟨(Nat.zero_le _), (GoT.okm (α := List Str) (by omega) (ok_Name (ok_Member hq1).1)), (GoT.okm (α := List TableEntry) (by omega) (ok_StateVector (ok_Member hq1).2.1)), (GoT.okm (α := List Publication) (by omega) (ok_Member hq1).2.2), (by simp), (by simp), (by simp), rfl⟩
    (.cons rfl (.cons rfl (.cons rfl (.cons rfl (.cons rfl (.cons rfl (.nil))))))) (.cons rfl (.cons rfl (.cons rfl (.nil)))) .nil [0, 1, 2, 3, 4, 5, 9, 10, 11, 13] rfl ?_
  rintro ⟨i, pout, cout, out, pout2, cout2, out2, pout3, cout3, out3⟩ hpre
  have hpre_ : (i ≤ ((impl_MissingFrom m from_.vector)).length) ∧ (out.length ≤ bd (n + 1) ∧ ∀ z_ ∈ out, GoT.ok (n + 1) z_) ∧ (out2.length ≤ bd (n + 1) ∧ ∀ z_ ∈ out2, GoT.ok (n + 1) z_) ∧ (out3.length ≤ bd (n + 1) ∧ ∀ z_ ∈ out3, GoT.ok (n + 1) z_) ∧ (out.length ≤ i + ((impl_copyMember m).name.parts).length) ∧ (out2.length ≤ i + ((impl_copyMember m).vector.entries).length) ∧ (out3.length ≤ i + ((impl_copyMember m).publications).length) ∧ (impl_CatchUp_L1 from_ (impl_MissingFrom m from_.vector) ((impl_copyMember m).name.parts : List Str) ((impl_copyMember m).vector.entries : List TableEntry) ((impl_copyMember m).publications : List Publication) = impl_CatchUp_L1 from_ (((impl_MissingFrom m from_.vector)).drop i) out out2 out3) := hpre
  clear hpre
  obtain ⟨v1, v2, v3, v4, v5, v6, v7, v8⟩ := hpre_
  have v2L := v2.1
  have v3L := v3.1
  have v4L := v4.1
  refine WX.run ttOk rfl ?_
  refine WX.cases 18 rfl (fun h1 => ?_) (fun h1 => ?_)
  · skip
    have h1d := B.dt h1
    have e1i : i < ((impl_MissingFrom m from_.vector)).length := (by omega)
    obtain ⟨e1, e1h⟩ : ∃ e1, ((impl_MissingFrom m from_.vector))[i]? = some e1 := ⟨_, List.getElem?_eq_getElem e1i⟩
    have ok1 : GoT.ok n e1 := (okl hq2).2 _ (List.mem_of_getElem? e1h)
    refine WX.run ttOk rfl ?_
    refine WX.der 14 (MF.rs .der p4 c4 (impl_MissingFrom m from_.vector)) rfl (fun _ hΓ => (hΓ.get 13 rfl : OwSl _ _ _ _).rd) ?_
    refine WX.idx 14 i ttOk rfl rfl rfl rfl rfl rfl rfl rfl rfl rfl e1i ?_
    rintro ad1 rfl
    refine WX.ldE 14 15 e1 ttOk rfl rfl rfl rfl rfl rfl rfl rfl e1h (fun _ => rfl) (fun _ => rfl) ?_
    rintro ⟨⟨p5, c5⟩, ⟨⟩⟩
    refine WX.run ttOk rfl ?_
    refine WX.callF 16 (fun _ _ h => GoT.ow_rd h) (fun _ f hf => GoT.fak f hf) rfl rfl rfl rfl rfl (fun _ => rfl) rfl (fun w G bs hI hΓ => f86 w n (by omega) from_ pfrom_Name cfrom_Name (hΓ.get 3 rfl) pfrom_Vector cfrom_Vector (hΓ.get 4 rfl) pfrom_Publications cfrom_Publications (hΓ.get 5 rfl) e1.name p5 c5 (hΓ.get 15 rfl) e1.value hokfrom_ ((ok_TableEntry ok1).1) ((ok_TableEntry ok1).2)) (fun _ => rfl) (fun _ => rfl) ?_
    rintro ⟨p6, c6⟩ hq3
    refine WX.run ttOk rfl ?_
    refine WX.cases 30 rfl (fun h2 => ?_) (fun h2 => ?_)
    · skip
      refine WX.run ttOk rfl ?_
      refine WX.der 18 (MF.rs .der pout cout out) rfl (fun _ hΓ => (hΓ.get 9 rfl : OwSl _ _ _ _).rd) ?_
      refine WX.der 19 (MF.rs .der pout2 cout2 out2) rfl (fun _ hΓ => (hΓ.get 10 rfl : OwSl _ _ _ _).rd) ?_
      refine WX.der 20 (MF.rs .der pout3 cout3 out3) rfl (fun _ hΓ => (hΓ.get 11 rfl : OwSl _ _ _ _).rd) ?_
      refine WX.callF 21 (fun _ _ h => GoT.ow_rd h) (fun _ f hf => GoT.fak f hf) rfl rfl rfl rfl rfl (fun _ => rfl) rfl (fun w G bs hI hΓ => f15 w (n + 1) (by omega) (Member.mk (Name.mk out) (StateVector.mk out2) out3) pout cout (hΓ.get 18 rfl) pout2 cout2 (hΓ.get 19 rfl) pout3 cout3 (hΓ.get 20 rfl) (Publication.mk e1.name e1.value ((impl_FindPublication from_ e1.name e1.value).1)) p5 c5 (hΓ.get 15 rfl) p6 c6 (hΓ.get 16 rfl) (And.intro (okl_of v2) (And.intro (okl_of v3) (okl_of v4))) (And.intro (GoT.okm (α := List Str) (by omega) (ok_Name (ok_TableEntry ok1).1)) (And.intro (ok_TableEntry ok1).2 (GoT.okm (α := List UInt8) (by omega) hq3)))) (fun _ => rfl) (fun _ => rfl) ?_
      rintro ⟨⟨p7, c7⟩, ⟨p8, c8⟩, ⟨p9, c9⟩⟩ hq4
      have q2 := (ap_impl (Member.mk (Name.mk out) (StateVector.mk out2) out3) (Publication.mk e1.name e1.value ((impl_FindPublication from_ e1.name e1.value).1))).lenN
      have q3 := (ap_impl (Member.mk (Name.mk out) (StateVector.mk out2) out3) (Publication.mk e1.name e1.value ((impl_FindPublication from_ e1.name e1.value).1))).lenE
      have q4 := (ap_impl (Member.mk (Name.mk out) (StateVector.mk out2) out3) (Publication.mk e1.name e1.value ((impl_FindPublication from_ e1.name e1.value).1))).lenP
      try dsimp only at q2
      try dsimp only at q3
      try dsimp only at q4
      have hsh1 := ap_impl (Member.mk (Name.mk out) (StateVector.mk out2) out3) (Publication.mk e1.name e1.value ((impl_FindPublication from_ e1.name e1.value).1))
      have hfx1 := hsh1.elsN (k := (n + 1)) v2.2 (And.intro (GoT.okm (α := List Str) (by omega) (ok_Name (ok_TableEntry ok1).1)) (And.intro (ok_TableEntry ok1).2 (GoT.okm (α := List UInt8) (by omega) hq3)))
      have hfx2 := hsh1.elsE (k := (n + 1)) v3.2 (And.intro (GoT.okm (α := List Str) (by omega) (ok_Name (ok_TableEntry ok1).1)) (And.intro (ok_TableEntry ok1).2 (GoT.okm (α := List UInt8) (by omega) hq3)))
      have hfx3 := hsh1.elsP (k := (n + 1)) v4.2 (And.intro (GoT.okm (α := List Str) (by omega) (ok_Name (ok_TableEntry ok1).1)) (And.intro (ok_TableEntry ok1).2 (GoT.okm (α := List UInt8) (by omega) hq3)))
      refine WX.run ttOk rfl ?_
      refine WX.see rfl rfl rfl (fun _ hΓ => looks_arith rfl rfl rfl rfl (by unfold I64; first | omega | (simp only [List.length_take, List.length_drop] at *; omega) | (dsimp only; omega))) ?_
      refine WX.run ttOk rfl ?_
      refine WX.turn [24] 9 rfl (fun _ h => h) rfl ?_
      refine WX.turn [25] 10 rfl (fun _ h => h) rfl ?_
      refine WX.turn [26] 11 rfl (fun _ h => h) rfl ?_
      have r2 : -9223372036854775808 ≤ e1.value ∧ e1.value ≤ 9223372036854775807 := (ok_TableEntry ok1).2
      have r3 : ((impl_FindPublication from_ e1.name e1.value).1).length ≤ bd n := (okl hq3).1
      have r4 : ((impl_AcceptPublication (Member.mk (Name.mk out) (StateVector.mk out2) out3) (Publication.mk e1.name e1.value ((impl_FindPublication from_ e1.name e1.value).1))).1.name.parts).length ≤ bd (n + 4) := (okl (ok_Name (ok_Member hq4).1)).1
      have r5 : ((impl_AcceptPublication (Member.mk (Name.mk out) (StateVector.mk out2) out3) (Publication.mk e1.name e1.value ((impl_FindPublication from_ e1.name e1.value).1))).1.vector.entries).length ≤ bd (n + 4) := (okl (ok_StateVector (ok_Member hq4).2.1)).1
      have r6 : ((impl_AcceptPublication (Member.mk (Name.mk out) (StateVector.mk out2) out3) (Publication.mk e1.name e1.value ((impl_FindPublication from_ e1.name e1.value).1))).1.publications).length ≤ bd (n + 4) := (okl (ok_Member hq4).2.2).1
      exact WX.iter (i + 1, p7, c7, (impl_AcceptPublication (Member.mk (Name.mk out) (StateVector.mk out2) out3) (Publication.mk e1.name e1.value ((impl_FindPublication from_ e1.name e1.value).1))).1.name.parts, p8, c8, (impl_AcceptPublication (Member.mk (Name.mk out) (StateVector.mk out2) out3) (Publication.mk e1.name e1.value ((impl_FindPublication from_ e1.name e1.value).1))).1.vector.entries, p9, c9, (impl_AcceptPublication (Member.mk (Name.mk out) (StateVector.mk out2) out3) (Publication.mk e1.name e1.value ((impl_FindPublication from_ e1.name e1.value).1))).1.publications) ⟨(by omega), (okl_mk (by omega) hfx1 : GoT.ok (n + 1) ((impl_AcceptPublication (Member.mk (Name.mk out) (StateVector.mk out2) out3) (Publication.mk e1.name e1.value ((impl_FindPublication from_ e1.name e1.value).1))).1.name.parts : List Str)), (okl_mk (by omega) hfx2 : GoT.ok (n + 1) ((impl_AcceptPublication (Member.mk (Name.mk out) (StateVector.mk out2) out3) (Publication.mk e1.name e1.value ((impl_FindPublication from_ e1.name e1.value).1))).1.vector.entries : List TableEntry)), (okl_mk (by omega) hfx3 : GoT.ok (n + 1) ((impl_AcceptPublication (Member.mk (Name.mk out) (StateVector.mk out2) out3) (Publication.mk e1.name e1.value ((impl_FindPublication from_ e1.name e1.value).1))).1.publications : List Publication)), (by first | assumption | omega | (simp only [List.length_append, List.length_cons, List.length_nil, List.length_set, List.length_map, List.length_take, List.length_drop]; omega) | (simp; omega)), (by first | assumption | omega | (simp only [List.length_append, List.length_cons, List.length_nil, List.length_set, List.length_map, List.length_take, List.length_drop]; omega) | (simp; omega)), (by first | assumption | omega | (simp only [List.length_append, List.length_cons, List.length_nil, List.length_set, List.length_map, List.length_take, List.length_drop]; omega) | (simp; omega)), (by rw [v8, drop_get e1h]; simp only [impl_CatchUp_L1, h2, cond_true, cond_false])⟩ (by first | (dsimp only; omega) | omega) (.cons rfl (.cons rfl (.cons rfl (.cons rfl (.cons rfl (.cons rfl (.nil))))))) (.cons rfl (.cons rfl (.cons rfl (.nil)))) .nil [0, 1, 2, 3, 4, 5, 9, 10, 11, 13] rfl
    · skip
      refine WX.run ttOk rfl ?_
      refine WX.see rfl rfl rfl (fun _ hΓ => looks_arith rfl rfl rfl rfl (by unfold I64; first | omega | (simp only [List.length_take, List.length_drop] at *; omega) | (dsimp only; omega))) ?_
      refine WX.run ttOk rfl ?_
      exact WX.iter (i + 1, pout, cout, out, pout2, cout2, out2, pout3, cout3, out3) ⟨(by omega), (okl_of v2), (okl_of v3), (okl_of v4), (by first | assumption | omega | (simp only [List.length_append, List.length_cons, List.length_nil, List.length_set, List.length_map, List.length_take, List.length_drop]; omega) | (simp; omega)), (by first | assumption | omega | (simp only [List.length_append, List.length_cons, List.length_nil, List.length_set, List.length_map, List.length_take, List.length_drop]; omega) | (simp; omega)), (by first | assumption | omega | (simp only [List.length_append, List.length_cons, List.length_nil, List.length_set, List.length_map, List.length_take, List.length_drop]; omega) | (simp; omega)), (by rw [v8, drop_get e1h]; simp only [impl_CatchUp_L1, h2, cond_true, cond_false])⟩ (by first | (dsimp only; omega) | omega) (.cons rfl (.cons rfl (.cons rfl (.cons rfl (.cons rfl (.cons rfl (.nil))))))) (.cons rfl (.cons rfl (.cons rfl (.nil)))) .nil [0, 1, 2, 3, 4, 5, 9, 10, 11, 13] rfl
  · skip
    have h1d := B.df h1
    refine WX.run ttOk rfl ?_
    have hX1 : impl_CatchUp_L1 from_ (impl_MissingFrom m from_.vector) ((impl_copyMember m).name.parts : List Str) ((impl_copyMember m).vector.entries : List TableEntry) ((impl_copyMember m).publications : List Publication) = (((out) : List Str), ((out2) : List TableEntry), ((out3) : List Publication)) := by rw [v8, List.drop_eq_nil_of_le (show ((impl_MissingFrom m from_.vector)).length ≤ i by omega)]; simp only [impl_CatchUp_L1, cond_true, cond_false]
    have hP1 : impl_CatchUp m from_ = (Member.mk (Name.mk out) (StateVector.mk out2) out3) := by simp only [impl_CatchUp, hX1, cond_true, cond_false]
    refine WX.ret ttOk rfl ?_
    intro w1 G bs hI hΓ
    rw [hP1]
    exact Post.of [9, 10, 11] ((pout, cout), (pout2, cout2), (pout3, cout3)) hI hΓ rfl rfl rfl (And.intro (okl_of v2) (And.intro (okl_of v3) (okl_of v4)))
theorem f26 (w : World) (n : Nat) (hn : n + 4 ≤ 9) (m : Member) (pmName : Option Addr) (cmName : Nat) (hpmName : RdSl (hp w) pmName cmName m.name.parts) (pmVector : Option Addr) (cmVector : Nat) (hpmVector : RdSl (hp w) pmVector cmVector m.vector.entries) (pmPublications : Option Addr) (cmPublications : Nat) (hpmPublications : RdSl (hp w) pmPublications cmPublications m.publications) (from_ : Member) (pfrom_Name : Option Addr) (cfrom_Name : Nat) (hpfrom_Name : RdSl (hp w) pfrom_Name cfrom_Name from_.name.parts) (pfrom_Vector : Option Addr) (cfrom_Vector : Nat) (hpfrom_Vector : RdSl (hp w) pfrom_Vector cfrom_Vector from_.vector.entries) (pfrom_Publications : Option Addr) (cfrom_Publications : Nat) (hpfrom_Publications : RdSl (hp w) pfrom_Publications cfrom_Publications from_.publications) (hokm : GoT.ok n m) (hokfrom_ : GoT.ok n from_) :
    Does Tryz.prog 26 #[.agg #[.slice pmName ((m.name.parts).length) cmName, .slice pmVector ((m.vector.entries).length) cmVector, .slice pmPublications ((m.publications).length) cmPublications], .agg #[.slice pfrom_Name ((from_.name.parts).length) cfrom_Name, .slice pfrom_Vector ((from_.vector.entries).length) cfrom_Vector, .slice pfrom_Publications ((from_.publications).length) cfrom_Publications]] w emp (Post w emp (fun x : GoT.X (Member) => .agg ⟨GoT.sh ((spec_CatchUp m from_) : Member) x⟩) (fun x => GoT.oa ((spec_CatchUp m from_) : Member) x) (GoT.ok (n + 1) ((spec_CatchUp m from_) : Member))) := by
  have hbP := bd_pos n
  have hbS0 : bd (n + 1) = 4 * bd (n) := bd_succ (n := n) (by omega)
  have hbS1 : bd (n + 2) = 4 * bd (n + 1) := bd_succ (n := n + 1) (by omega)
  have hbS2 : bd (n + 3) = 4 * bd (n + 2) := bd_succ (n := n + 2) (by omega)
  have hbS3 : bd (n + 4) = 4 * bd (n + 3) := bd_succ (n := n + 3) (by omega)
  have hbB := bd_big (n := (n + 4)) (by omega)
  have hbM := bd_mono (show n ≤ n + 4 by omega)
  refine WX.enter (tt := tt) (Γ := [(0, MF.rs .stb pmName cmName m.name.parts), (1, MF.rs .stb pmVector cmVector m.vector.entries), (2, MF.rs .stb pmPublications cmPublications m.publications), (3, MF.rs .stb pfrom_Name cfrom_Name from_.name.parts), (4, MF.rs .stb pfrom_Vector cfrom_Vector from_.vector.entries), (5, MF.rs .stb pfrom_Publications cfrom_Publications from_.publications)]) Tryz.func26 rfl (by kernel_rfl) rfl (allS_cons rfl hpmName (allS_cons rfl hpmVector (allS_cons rfl hpmPublications (allS_cons rfl hpfrom_Name (allS_cons rfl hpfrom_Vector (allS_cons rfl hpfrom_Publications allS_nil)))))) ?_
  refine WX.run ttOk rfl ?_
  refine WX.callF 6 (fun _ _ h => GoT.ow_rd h) (fun _ f hf => GoT.fak f hf) rfl rfl rfl rfl rfl (fun _ => rfl) rfl (fun w G bs hI hΓ => f60 w n (by omega) m pmName cmName (hΓ.get 0 rfl) pmVector cmVector (hΓ.get 1 rfl) pmPublications cmPublications (hΓ.get 2 rfl) hokm) (fun _ => rfl) (fun _ => rfl) ?_
  rintro ⟨⟨p1, c1⟩, ⟨p2, c2⟩, ⟨p3, c3⟩⟩ hq1
  have q1 := cM_spec m
  refine WX.run ttOk rfl ?_
  refine WX.callF 12 (fun _ _ h => GoT.ow_rd h) (fun _ f hf => GoT.fak f hf) rfl rfl rfl rfl rfl (fun _ => rfl) rfl (fun w G bs hI hΓ => f83 w n (by omega) m pmName cmName (hΓ.get 0 rfl) pmVector cmVector (hΓ.get 1 rfl) pmPublications cmPublications (hΓ.get 2 rfl) from_.vector pfrom_Vector cfrom_Vector (hΓ.get 4 rfl) hokm ((ok_Member hokfrom_).2.1)) (fun _ => rfl) (fun _ => rfl) ?_
  rintro ⟨p4, c4⟩ hq2
  refine WX.run ttOk rfl ?_
  have r1 : (spec_MissingFrom m from_.vector).length ≤ bd n := (okl hq2).1
  have hA0 : (spec_l28Copy m).vector.entries.length ≤ bd n := by rw [cM_spec]; exact (okl (ok_StateVector (ok_Member hokm).2.1)).1
  have hA1 : (spec_l28Copy m).publications.length ≤ bd n := by rw [cM_spec]; exact (okl (ok_Member hokm).2.2).1
  have hA2 : (spec_l28Copy m).name.parts.length ≤ bd n := by rw [cM_spec]; exact (okl (ok_Name (ok_Member hokm).1)).1
  refine WX.loop (ι := Nat × (Option Addr) × Nat × (List Str) × (Option Addr) × Nat × (List TableEntry) × (Option Addr) × Nat × (List Publication)) ⟨fun | (i, pout, cout, out, pout2, cout2, out2, pout3, cout3, out3) => (i ≤ ((spec_MissingFrom m from_.vector)).length) ∧ (out.length ≤ bd (n + 1) ∧ ∀ z_ ∈ out, GoT.ok (n + 1) z_) ∧ (out2.length ≤ bd (n + 1) ∧ ∀ z_ ∈ out2, GoT.ok (n + 1) z_) ∧ (out3.length ≤ bd (n + 1) ∧ ∀ z_ ∈ out3, GoT.ok (n + 1) z_) ∧ (out.length ≤ i + ((spec_l28Copy m).name.parts).length) ∧ (out2.length ≤ i + ((spec_l28Copy m).vector.entries).length) ∧ (out3.length ≤ i + ((spec_l28Copy m).publications).length) ∧ (spec_CatchUp_L1 from_ (spec_MissingFrom m from_.vector) ((spec_l28Copy m).name.parts : List Str) ((spec_l28Copy m).vector.entries : List TableEntry) ((spec_l28Copy m).publications : List Publication) = spec_CatchUp_L1 from_ (((spec_MissingFrom m from_.vector)).drop i) out out2 out3), fun | (i, pout, cout, out, pout2, cout2, out2, pout3, cout3, out3) => ((spec_MissingFrom m from_.vector)).length - i, fun | (i, pout, cout, out, pout2, cout2, out2, pout3, cout3, out3) => [(7, .v (.int .i64 (((i : Nat) : Int)))), (6, .v (.slice p4 (((spec_MissingFrom m from_.vector)).length) c4)), (5, .p 5 0), (4, .p 4 0), (3, .p 3 0)], fun | (i, pout, cout, out, pout2, cout2, out2, pout3, cout3, out3) => [(5, ⟨42, [.slice pout ((out).length) cout, .slice pout2 ((out2).length) cout2, .slice pout3 ((out3).length) cout3]⟩), (4, ⟨42, [.slice none (0) 0, .slice none (0) 0, .slice none (0) 0]⟩), (3, ⟨42, [.slice pfrom_Name ((from_.name.parts).length) cfrom_Name, .slice pfrom_Vector ((from_.vector.entries).length) cfrom_Vector, .slice pfrom_Publications ((from_.publications).length) cfrom_Publications]⟩)], fun | (i, pout, cout, out, pout2, cout2, out2, pout3, cout3, out3) => [], fun | (i, pout, cout, out, pout2, cout2, out2, pout3, cout3, out3) => [(0, MF.rs .stb pmName cmName m.name.parts), (1, MF.rs .stb pmVector cmVector m.vector.entries), (2, MF.rs .stb pmPublications cmPublications m.publications), (3, MF.rs .stb pfrom_Name cfrom_Name from_.name.parts), (4, MF.rs .stb pfrom_Vector cfrom_Vector from_.vector.entries), (5, MF.rs .stb pfrom_Publications cfrom_Publications from_.publications), (9, MF.os pout cout out), (10, MF.os pout2 cout2 out2), (11, MF.os pout3 cout3 out3), (13, MF.os p4 c4 (spec_MissingFrom m from_.vector))]⟩ (0, p1, c1, ((spec_l28Copy m).name.parts : List Str), p2, c2, ((spec_l28Copy m).vector.entries : List TableEntry), p3, c3, ((spec_l28Copy m).publications : List Publication)) ⟨(Nat.zero_le _), (GoT.okm (α := List Str) (by omega) (ok_Name (ok_Member hq1).1)), (GoT.okm (α := List TableEntry) (by omega) (ok_StateVector (ok_Member hq1).2.1)), (GoT.okm (α := List Publication) (by omega) (ok_Member hq1).2.2), (by simp), (by simp), (by simp), rfl⟩
    (.cons rfl (.cons rfl (.cons rfl (.cons rfl (.cons rfl (.nil)))))) (.cons rfl (.cons rfl (.cons rfl (.nil)))) .nil [0, 1, 2, 3, 4, 5, 9, 10, 11, 13] rfl ?_
  rintro ⟨i, pout, cout, out, pout2, cout2, out2, pout3, cout3, out3⟩ hpre
  have hpre_ : (i ≤ ((spec_MissingFrom m from_.vector)).length) ∧ (out.length ≤ bd (n + 1) ∧ ∀ z_ ∈ out, GoT.ok (n + 1) z_) ∧ (out2.length ≤ bd (n + 1) ∧ ∀ z_ ∈ out2, GoT.ok (n + 1) z_) ∧ (out3.length ≤ bd (n + 1) ∧ ∀ z_ ∈ out3, GoT.ok (n + 1) z_) ∧ (out.length ≤ i + ((spec_l28Copy m).name.parts).length) ∧ (out2.length ≤ i + ((spec_l28Copy m).vector.entries).length) ∧ (out3.length ≤ i + ((spec_l28Copy m).publications).length) ∧ (spec_CatchUp_L1 from_ (spec_MissingFrom m from_.vector) ((spec_l28Copy m).name.parts : List Str) ((spec_l28Copy m).vector.entries : List TableEntry) ((spec_l28Copy m).publications : List Publication) = spec_CatchUp_L1 from_ (((spec_MissingFrom m from_.vector)).drop i) out out2 out3) := hpre
  clear hpre
  obtain ⟨v1, v2, v3, v4, v5, v6, v7, v8⟩ := hpre_
  have v2L := v2.1
  have v3L := v3.1
  have v4L := v4.1
  refine WX.run ttOk rfl ?_
  refine WX.cases 21 rfl (fun h1 => ?_) (fun h1 => ?_)
  · skip
    have h1d := B.dt h1
    have e1i : i < ((spec_MissingFrom m from_.vector)).length := (by omega)
    obtain ⟨e1, e1h⟩ : ∃ e1, ((spec_MissingFrom m from_.vector))[i]? = some e1 := ⟨_, List.getElem?_eq_getElem e1i⟩
    have ok1 : GoT.ok n e1 := (okl hq2).2 _ (List.mem_of_getElem? e1h)
    refine WX.run ttOk rfl ?_
    refine WX.der 14 (MF.rs .der p4 c4 (spec_MissingFrom m from_.vector)) rfl (fun _ hΓ => (hΓ.get 13 rfl : OwSl _ _ _ _).rd) ?_
    refine WX.der 15 (MF.rs .der pout cout out) rfl (fun _ hΓ => (hΓ.get 9 rfl : OwSl _ _ _ _).rd) ?_
    refine WX.der 16 (MF.rs .der pout2 cout2 out2) rfl (fun _ hΓ => (hΓ.get 10 rfl : OwSl _ _ _ _).rd) ?_
    refine WX.der 17 (MF.rs .der pout3 cout3 out3) rfl (fun _ hΓ => (hΓ.get 11 rfl : OwSl _ _ _ _).rd) ?_
    refine WX.draw [] mixed ?_
    intro bs G0 hΓ0
    refine DX.takes (fuel := 14) ttOk [(0, false), (1, true), (2, true)] (by kernel_rfl) rfl ?_
    refine DX.idx 3 14 i ttOk hΓ0 (by kernel_rfl) rfl rfl rfl rfl rfl rfl rfl rfl rfl rfl rfl e1i ?_
    rintro ad1 rfl
    refine DX.takes (fuel := 12) ttOk [(4, true)] (by kernel_rfl) rfl ?_
    refine DX.ldE 5 14 18 e1 ttOk hΓ0 (by kernel_rfl) rfl rfl rfl rfl rfl rfl rfl rfl e1h (fun _ => rfl) (fun _ => rfl) ?_
    rintro ⟨⟨p5, c5⟩, ⟨⟩⟩
    refine DX.takes (fuel := 9) ttOk [(6, true), (7, true)] (by kernel_rfl) rfl ?_
    refine DX.idx 8 14 i ttOk hΓ0 (by kernel_rfl) rfl rfl rfl rfl rfl rfl rfl rfl rfl rfl rfl e1i ?_
    rintro ad2 ⟨⟩
    refine DX.takes (fuel := 7) ttOk [(9, true)] (by kernel_rfl) rfl ?_
    refine DX.ldE 10 14 19 e1 ttOk hΓ0 (by kernel_rfl) rfl rfl rfl rfl rfl rfl rfl rfl e1h (fun _ => rfl) (fun _ => rfl) ?_
    rintro ⟨⟨p6, c6⟩, ⟨⟩⟩
    refine DX.callF 11 20 (fun _ _ h => GoT.ow_rd h) (fun _ f hf => GoT.fak f hf) rfl (by kernel_rfl) rfl rfl rfl rfl rfl rfl (fun _ => rfl) rfl (fun w G bs hI hΓ => f84 w n (by omega) from_ pfrom_Name cfrom_Name (hΓ.get 3 rfl) pfrom_Vector cfrom_Vector (hΓ.get 4 rfl) pfrom_Publications cfrom_Publications (hΓ.get 5 rfl) e1.name p5 c5 (hΓ.get 18 rfl) e1.value hokfrom_ ((ok_TableEntry ok1).1) ((ok_TableEntry ok1).2)) (fun _ => rfl) (fun _ => rfl) ?_
    rintro ⟨p7, c7⟩ hq3
    refine DX.takes (fuel := 0) ttOk [(12, true), (13, true), (14, true), (15, true), (16, true)] (by kernel_rfl) rfl ?_
    refine DX.tail2 [] rfl rfl (by kernel_rfl) ?_
    refine WX.run ttOk rfl ?_
    refine WX.cases 39 rfl (fun h2 => ?_) (fun h2 => ?_)
    · skip
      refine WX.run ttOk rfl ?_
      refine WX.draw [18, 19] mixed ?_
      intro bs G0 hΓ0
      refine DX.takes (fuel := 17) ttOk [(0, false), (1, true), (2, true)] (by kernel_rfl) rfl ?_
      refine DX.idx 3 14 i ttOk hΓ0 (by kernel_rfl) rfl rfl rfl rfl rfl rfl rfl rfl rfl rfl rfl e1i ?_
      rintro ad3 ⟨⟩
      refine DX.takes (fuel := 15) ttOk [(4, true)] (by kernel_rfl) rfl ?_
      refine DX.ldE 5 14 22 e1 ttOk hΓ0 (by kernel_rfl) rfl rfl rfl rfl rfl rfl rfl rfl e1h (fun _ => rfl) (fun _ => rfl) ?_
      rintro ⟨⟨p8, c8⟩, ⟨⟩⟩
      refine DX.takes (fuel := 12) ttOk [(6, true), (7, true)] (by kernel_rfl) rfl ?_
      refine DX.idx 8 14 i ttOk hΓ0 (by kernel_rfl) rfl rfl rfl rfl rfl rfl rfl rfl rfl rfl rfl e1i ?_
      rintro ad4 ⟨⟩
      refine DX.takes (fuel := 10) ttOk [(9, true)] (by kernel_rfl) rfl ?_
      refine DX.ldE 10 14 23 e1 ttOk hΓ0 (by kernel_rfl) rfl rfl rfl rfl rfl rfl rfl rfl e1h (fun _ => rfl) (fun _ => rfl) ?_
      rintro ⟨⟨p9, c9⟩, ⟨⟩⟩
      refine DX.takes (fuel := 7) ttOk [(11, true), (12, true)] (by kernel_rfl) rfl ?_
      refine DX.pend 17 10 ⟨42, [.slice none (0) 0, .slice none (0) 0, .slice none (0) 0]⟩ ?_
      refine DXA.callF 13 24 (fun _ _ h => GoT.ow_rd h) (fun _ f hf => GoT.fak f hf) ttOk rfl rfl rfl rfl rfl rfl rfl (by kernel_rfl) (by kernel_rfl) (by kernel_rfl) rfl rfl rfl rfl rfl rfl rfl rfl rfl rfl (fun _ => rfl) rfl rfl (fun w G bs hI hΓ => f12 w (n + 1) (by omega) (Member.mk (Name.mk out) (StateVector.mk out2) out3) pout cout (hΓ.get 15 rfl) pout2 cout2 (hΓ.get 16 rfl) pout3 cout3 (hΓ.get 17 rfl) (Publication.mk e1.name e1.value ((spec_FindPublication from_ e1.name e1.value).1)) p8 c8 (hΓ.get 22 rfl) p7 c7 (hΓ.get 20 rfl) (And.intro (okl_of v2) (And.intro (okl_of v3) (okl_of v4))) (And.intro (GoT.okm (α := List Str) (by omega) (ok_Name (ok_TableEntry ok1).1)) (And.intro (ok_TableEntry ok1).2 (GoT.okm (α := List UInt8) (by omega) hq3)))) (fun _ => rfl) (fun _ => rfl) ?_
      rintro ⟨⟨p10, c10⟩, ⟨p11, c11⟩, ⟨p12, c12⟩⟩ hq4
      have q2 := (ap_spec (Member.mk (Name.mk out) (StateVector.mk out2) out3) (Publication.mk e1.name e1.value ((spec_FindPublication from_ e1.name e1.value).1))).lenN
      have q3 := (ap_spec (Member.mk (Name.mk out) (StateVector.mk out2) out3) (Publication.mk e1.name e1.value ((spec_FindPublication from_ e1.name e1.value).1))).lenE
      have q4 := (ap_spec (Member.mk (Name.mk out) (StateVector.mk out2) out3) (Publication.mk e1.name e1.value ((spec_FindPublication from_ e1.name e1.value).1))).lenP
      try dsimp only at q2
      try dsimp only at q3
      try dsimp only at q4
      have hsh1 := ap_spec (Member.mk (Name.mk out) (StateVector.mk out2) out3) (Publication.mk e1.name e1.value ((spec_FindPublication from_ e1.name e1.value).1))
      have hfx1 := hsh1.elsN (k := (n + 1)) v2.2 (And.intro (GoT.okm (α := List Str) (by omega) (ok_Name (ok_TableEntry ok1).1)) (And.intro (ok_TableEntry ok1).2 (GoT.okm (α := List UInt8) (by omega) hq3)))
      have hfx2 := hsh1.elsE (k := (n + 1)) v3.2 (And.intro (GoT.okm (α := List Str) (by omega) (ok_Name (ok_TableEntry ok1).1)) (And.intro (ok_TableEntry ok1).2 (GoT.okm (α := List UInt8) (by omega) hq3)))
      have hfx3 := hsh1.elsP (k := (n + 1)) v4.2 (And.intro (GoT.okm (α := List Str) (by omega) (ok_Name (ok_TableEntry ok1).1)) (And.intro (ok_TableEntry ok1).2 (GoT.okm (α := List UInt8) (by omega) hq3)))
      refine DXA.take 14 (by kernel_rfl) (by kernel_rfl) rfl rfl rfl rfl rfl rfl rfl rfl (looksP_pure ttOk rfl) ?_
      refine DXA.take 15 (by kernel_rfl) (by kernel_rfl) rfl rfl rfl rfl rfl rfl rfl rfl (looksP_pure ttOk rfl) ?_
      refine DXA.take 16 (by kernel_rfl) (by kernel_rfl) rfl rfl rfl rfl rfl rfl rfl rfl (looksP_pure ttOk rfl) ?_
      refine DXA.tail [18, 19] ttOk rfl rfl rfl rfl rfl rfl (by kernel_rfl) rfl rfl (by kernel_rfl) ?_
      refine WX.run ttOk rfl ?_
      refine WX.see rfl rfl rfl (fun _ hΓ => looks_arith rfl rfl rfl rfl (by unfold I64; first | omega | (simp only [List.length_take, List.length_drop] at *; omega) | (dsimp only; omega))) ?_
      refine WX.run ttOk rfl ?_
      refine WX.turn [27] 9 rfl (fun _ h => h) rfl ?_
      refine WX.turn [28] 10 rfl (fun _ h => h) rfl ?_
      refine WX.turn [29] 11 rfl (fun _ h => h) rfl ?_
      have r2 : -9223372036854775808 ≤ e1.value ∧ e1.value ≤ 9223372036854775807 := (ok_TableEntry ok1).2
      have r3 : ((spec_FindPublication from_ e1.name e1.value).1).length ≤ bd n := (okl hq3).1
      have r4 : ((spec_AcceptPublication (Member.mk (Name.mk out) (StateVector.mk out2) out3) (Publication.mk e1.name e1.value ((spec_FindPublication from_ e1.name e1.value).1))).1.name.parts).length ≤ bd (n + 4) := (okl (ok_Name (ok_Member hq4).1)).1
      have r5 : ((spec_AcceptPublication (Member.mk (Name.mk out) (StateVector.mk out2) out3) (Publication.mk e1.name e1.value ((spec_FindPublication from_ e1.name e1.value).1))).1.vector.entries).length ≤ bd (n + 4) := (okl (ok_StateVector (ok_Member hq4).2.1)).1
      have r6 : ((spec_AcceptPublication (Member.mk (Name.mk out) (StateVector.mk out2) out3) (Publication.mk e1.name e1.value ((spec_FindPublication from_ e1.name e1.value).1))).1.publications).length ≤ bd (n + 4) := (okl (ok_Member hq4).2.2).1
      exact WX.iter (i + 1, p10, c10, (spec_AcceptPublication (Member.mk (Name.mk out) (StateVector.mk out2) out3) (Publication.mk e1.name e1.value ((spec_FindPublication from_ e1.name e1.value).1))).1.name.parts, p11, c11, (spec_AcceptPublication (Member.mk (Name.mk out) (StateVector.mk out2) out3) (Publication.mk e1.name e1.value ((spec_FindPublication from_ e1.name e1.value).1))).1.vector.entries, p12, c12, (spec_AcceptPublication (Member.mk (Name.mk out) (StateVector.mk out2) out3) (Publication.mk e1.name e1.value ((spec_FindPublication from_ e1.name e1.value).1))).1.publications) ⟨(by omega), (okl_mk (by omega) hfx1 : GoT.ok (n + 1) ((spec_AcceptPublication (Member.mk (Name.mk out) (StateVector.mk out2) out3) (Publication.mk e1.name e1.value ((spec_FindPublication from_ e1.name e1.value).1))).1.name.parts : List Str)), (okl_mk (by omega) hfx2 : GoT.ok (n + 1) ((spec_AcceptPublication (Member.mk (Name.mk out) (StateVector.mk out2) out3) (Publication.mk e1.name e1.value ((spec_FindPublication from_ e1.name e1.value).1))).1.vector.entries : List TableEntry)), (okl_mk (by omega) hfx3 : GoT.ok (n + 1) ((spec_AcceptPublication (Member.mk (Name.mk out) (StateVector.mk out2) out3) (Publication.mk e1.name e1.value ((spec_FindPublication from_ e1.name e1.value).1))).1.publications : List Publication)), (by first | assumption | omega | (simp only [List.length_append, List.length_cons, List.length_nil, List.length_set, List.length_map, List.length_take, List.length_drop]; omega) | (simp; omega)), (by first | assumption | omega | (simp only [List.length_append, List.length_cons, List.length_nil, List.length_set, List.length_map, List.length_take, List.length_drop]; omega) | (simp; omega)), (by first | assumption | omega | (simp only [List.length_append, List.length_cons, List.length_nil, List.length_set, List.length_map, List.length_take, List.length_drop]; omega) | (simp; omega)), (by rw [v8, drop_get e1h]; simp only [spec_CatchUp_L1, h2, cond_true, cond_false])⟩ (by first | (dsimp only; omega) | omega) (.cons rfl (.cons rfl (.cons rfl (.cons rfl (.cons rfl (.nil)))))) (.cons rfl (.cons rfl (.cons rfl (.nil)))) .nil [0, 1, 2, 3, 4, 5, 9, 10, 11, 13] rfl
    · skip
      refine WX.run ttOk rfl ?_
      refine WX.see rfl rfl rfl (fun _ hΓ => looks_arith rfl rfl rfl rfl (by unfold I64; first | omega | (simp only [List.length_take, List.length_drop] at *; omega) | (dsimp only; omega))) ?_
      refine WX.run ttOk rfl ?_
      exact WX.iter (i + 1, pout, cout, out, pout2, cout2, out2, pout3, cout3, out3) ⟨(by omega), (okl_of v2), (okl_of v3), (okl_of v4), (by first | assumption | omega | (simp only [List.length_append, List.length_cons, List.length_nil, List.length_set, List.length_map, List.length_take, List.length_drop]; omega) | (simp; omega)), (by first | assumption | omega | (simp only [List.length_append, List.length_cons, List.length_nil, List.length_set, List.length_map, List.length_take, List.length_drop]; omega) | (simp; omega)), (by first | assumption | omega | (simp only [List.length_append, List.length_cons, List.length_nil, List.length_set, List.length_map, List.length_take, List.length_drop]; omega) | (simp; omega)), (by rw [v8, drop_get e1h]; simp only [spec_CatchUp_L1, h2, cond_true, cond_false])⟩ (by first | (dsimp only; omega) | omega) (.cons rfl (.cons rfl (.cons rfl (.cons rfl (.cons rfl (.nil)))))) (.cons rfl (.cons rfl (.cons rfl (.nil)))) .nil [0, 1, 2, 3, 4, 5, 9, 10, 11, 13] rfl
  · skip
    have h1d := B.df h1
    refine WX.run ttOk rfl ?_
    have hX1 : spec_CatchUp_L1 from_ (spec_MissingFrom m from_.vector) ((spec_l28Copy m).name.parts : List Str) ((spec_l28Copy m).vector.entries : List TableEntry) ((spec_l28Copy m).publications : List Publication) = (((out) : List Str), ((out2) : List TableEntry), ((out3) : List Publication)) := by rw [v8, List.drop_eq_nil_of_le (show ((spec_MissingFrom m from_.vector)).length ≤ i by omega)]; simp only [spec_CatchUp_L1, cond_true, cond_false]
    have hP1 : spec_CatchUp m from_ = (Member.mk (Name.mk out) (StateVector.mk out2) out3) := by simp only [spec_CatchUp, hX1, cond_true, cond_false]
    refine WX.ret ttOk rfl ?_
    intro w1 G bs hI hΓ
    rw [hP1]
    exact Post.of [9, 10, 11] ((pout, cout), (pout2, cout2), (pout3, cout3)) hI hΓ rfl rfl rfl (And.intro (okl_of v2) (And.intro (okl_of v3) (okl_of v4)))
end Go.Proofs.YtfffongneoegbaaGreat

namespace Go.Stp
theorem mid {α : Type} (p : List α) (e : α) (l : List α) : (p ++ e :: l)[p.length]? = some e := by simp
theorem mid_set {α : Type} (p : List α) (e x : α) (l : List α) : (p ++ e :: l).set p.length x = (p ++ [x]) ++ l := by simp
theorem mid_app {α : Type} (p : List α) (e : α) (l : List α) : (p ++ [e]) ++ l = p ++ e :: l := by simp
theorem mid_len {α : Type} (p : List α) (e : α) : (p ++ [e]).length = p.length + 1 := by simp
def SzR (r left : Int) (s : Nat) : Prop := r = -1 ∨ ((s : Int) ≤ left ∧ r = left - s)
theorem SzR.pos {r left : Int} {s : Nat} (h : SzR r left s) (hr : 0 ≤ r) : (s : Int) ≤ left ∧ r = left - s := by
  rcases h with h | h
  · omega
  · exact h
def SzL (r : Ctl Int Int) (left : Int) (s : Nat) : Prop := r = .ret (-1) ∨ ((s : Int) ≤ left ∧ r = .nxt (left - s))
theorem dF {x : Int} (h : 0 ≤ x) : decide (x < 0) = false := decide_eq_false (by omega)
theorem dT {x : Int} (h : x < 0) : decide (x < 0) = true := decide_eq_true h
theorem wrap_sub {x : Int} {n : Nat} (h0 : 0 ≤ x) (h1 : x ≤ 1048576) (hn : n ≤ 9223372036854775807) : IntKind.i64.wrap (x - (n : Int)) = x - n := wrap_i64 (by unfold I64; omega)
theorem wrap1 {x : Int} (h0 : 0 ≤ x) (h1 : x ≤ 4611686018427387904) : IntKind.i64.wrap (x + 1) = x + 1 := wrap_i64 (by unfold I64; omega)
theorem szL_cons {α : Type} [GoT α] [Sz α] (a : α) (l : List α) : szL (a :: l) = sz a + szL l := by simp [szL]
theorem szL_nil {α : Type} [GoT α] [Sz α] : szL ([] : List α) = 0 := rfl
theorem szL_zero {α : Type} [GoT α] [Sz α] (h : ∀ a : α, sz a = 0) : ∀ l : List α, szL l = 0
  | [] => rfl
  | a :: l => by rw [szL_cons, h a, szL_zero h l]
theorem szL_u8 (l : List UInt8) : szL l = 0 := szL_zero (fun _ => rfl) l
def MkR (k k' : Int) (s : Nat) (held : Int) : Prop := k ≤ k' ∧ k' ≤ k + 16 * (s : Int) ∧ held = k'
theorem bne_self_F {α : Type} [BEq α] [LawfulBEq α] (a : α) : (a != a) = false := by simp
theorem nbeq_self_F {α : Type} [BEq α] [LawfulBEq α] (a : α) : (!(a == a)) = false := by simp
theorem bytesLess_self : ∀ l : List UInt8, Op.bytesLess l l = false
  | [] => rfl
  | a :: l => by simp [Op.bytesLess, bytesLess_self l]
theorem l4_zero (a b : List UInt8) : ((bif Op.bytesLess a b then (-1) else bif (!(Op.bytesLess a b || a == b)) then 1 else 0 : Int) = 0) ↔ a = b := by
  cases h : Op.bytesLess a b
  · by_cases e : a = b
    · simp [e]
    · have : (a == b) = false := by simpa using e
      simp [this, e]
  · constructor
    · intro x; simp at x
    · intro e; rw [e, bytesLess_self] at h; cases h
end Go.Stp

namespace Go.Stp
set_option linter.unusedVariables false
set_option linter.unusedSimpArgs false
theorem eqL_StringS : ∀ (l p : (List Str)), laws_eqStringS_L1 (p ++ l) l p.length = none
  | [], _ => rfl
  | e :: l, p => by
    have ih := eqL_StringS l (p ++ [e])
    rw [mid_app, mid_len] at ih
    simp only [laws_eqStringS_L1, mid, bne_self_F, nbeq_self_F, cond_false]
    exact ih
theorem eq_StringS (a : (List Str)) : laws_eqStringS a a = true := by
  have h := eqL_StringS a []
  simp only [List.nil_append, List.length_nil] at h
  simp only [laws_eqStringS, bne_self_F, cond_false, h]
theorem toL_StringS : ∀ (l p z : (List Str)), z.length = l.length → laws_toStringS_L1 l p.length (p ++ z) = p ++ l
  | [], p, [], _ => rfl
  | e :: l, p, y :: z, h => by
    have ih := toL_StringS l (p ++ [e]) z (by simpa using h)
    rw [mid_app p e l, mid_len] at ih
    simp only [laws_toStringS_L1, mid, mid_set]
    exact ih
theorem to_StringS (a : (List Str)) : laws_toStringS a = a := by
  simp only [laws_toStringS]
  exact toL_StringS a [] _ (by simp)
theorem szL_StringS_R : ∀ (l : (List Str)) (left : Int), (∀ a ∈ l, GoT.ok 10 a) → 0 ≤ left → left ≤ 1048576 → SzL (laws_szStringS_L1 l left) left (szL l)
  | [], left, _, h0, _ => .inr ⟨by simp [szL_nil]; omega, by simp [szL_nil, laws_szStringS_L1]⟩
  | e :: l, left, hk, h0, h1 => by
    have he : e.size ≤ 9223372036854775807 := hk e List.mem_cons_self
    rw [szL_cons, sz_str]
    unfold laws_szStringS_L1
    rw [wrap_sub h0 h1 he]
    by_cases hc : left - (e.size : Int) < 0
    · rw [dT hc, cond_true]; exact .inl rfl
    · rw [dF (by omega), cond_false]
      rcases szL_StringS_R l (left - (e.size : Int)) (fun a ha => hk a (List.mem_cons_of_mem _ ha)) (by omega) (by omega) with r | ⟨q, r⟩
      · exact .inl r
      · exact .inr ⟨by omega, by rw [r]; congr 1; omega⟩
theorem sz_StringS_R (a : (List Str)) (left : Int) (h : GoT.ok 10 a) (h0 : 0 ≤ left) (h1 : left ≤ 1048576) : SzR (laws_szStringS a left) left (sz a) := by
  have hl : a.length ≤ 9223372036854775807 := h.1
  rw [sz_list]
  unfold laws_szStringS
  rw [wrap_sub h0 h1 hl]
  by_cases hc : left - (a.length : Int) < 0
  · rw [dT hc, cond_true]; exact .inl rfl
  · rw [dF (by omega), cond_false]
    rcases szL_StringS_R a (left - (a.length : Int)) h.2 (by omega) (by omega) with r | ⟨q, r⟩
    · rw [r]; exact .inl rfl
    · rw [r]; exact .inr ⟨by omega, by show left - (a.length : Int) - (szL a : Int) = _; omega⟩
theorem mkL_StringS : ∀ (l p : (List Str)) (k : Int), 0 ≤ k → k + 16 * ((l.length : Int) + szL l) ≤ 4611686018427387904 → ∃ l' k', laws_markStringS_L1 l.length p.length (p ++ l) k = (p ++ l', k') ∧ k ≤ k' ∧ k' ≤ k + 16 * ((l.length : Int) + szL l) ∧ laws_heldStringS_L1 l' k = .nxt k'
  | [], p, k, _, _ => ⟨[], k, rfl, by omega, by simp [szL_nil], rfl⟩
  | e :: l, p, k, h0, hb => by
    rw [szL_cons, List.length_cons] at hb
    have w1 := wrap1 (x := k) (by omega) (by omega)
    obtain ⟨l', k', r1, r2, r3, r4⟩ := mkL_StringS l (p ++ [(laws_markText k)]) (k + 1) (by omega) (by omega)
    rw [mid_len] at r1
    refine ⟨(laws_markText k) :: l', k', ?_, by omega, by rw [szL_cons, List.length_cons]; omega, ?_⟩
    · simp only [List.length_cons, laws_markStringS_L1, mid, mid_set, w1]
      rw [r1, mid_app]
    · simp only [laws_heldStringS_L1, bne_self_F, nbeq_self_F, cond_false, w1]
      exact r4
theorem mk_StringS (a : (List Str)) (k : Int) (h0 : 0 ≤ k) (hb : k + 16 * (sz a : Int) ≤ 4611686018427387904) : MkR k (laws_markStringS a k).1 (sz a) (laws_heldStringS (laws_markStringS a k).2 k) := by
  rw [sz_list] at hb ⊢
  obtain ⟨l', k', r1, r2, r3, r4⟩ := mkL_StringS a [] k h0 (by omega)
  simp only [List.nil_append, List.length_nil] at r1
  simp only [laws_markStringS, r1, laws_heldStringS, r4]
  exact ⟨r2, by omega, rfl⟩
theorem eq_Name (a : Name) : laws_eqName a a = true := by
  simp only [laws_eqName, bne_self_F, nbeq_self_F, cond_false, Bool.not_true, eq_StringS]
theorem to_Name (a : Name) : laws_toName a = a := by
  simp only [laws_toName, to_StringS]
theorem sz_Name_R (a : Name) (left : Int) (h : GoT.ok 10 a) (h0 : 0 ≤ left) (h1 : left ≤ 1048576) : SzR (laws_szName a left) left (sz a) := by
  rw [sz_Name]
  unfold laws_szName
  rcases sz_StringS_R a.parts left (ok_Name h) (by omega) (by omega) with r0 | ⟨q0, r0⟩
  · rw [r0]; exact .inl rfl
  rw [r0, dF (by omega), cond_false]
  exact .inr ⟨by omega, by omega⟩
theorem mk_Name (a : Name) (k : Int) (h0 : 0 ≤ k) (hb : k + 16 * (sz a : Int) ≤ 4611686018427387904) : MkR k (laws_markName a k).1 (sz a) (laws_heldName (laws_markName a k).2 k) := by
  rw [sz_Name] at hb ⊢
  obtain ⟨p0, q0, e0⟩ := mk_StringS a.parts (k) (by omega) (by omega)
  have d0 := dF (show 0 ≤ (laws_markStringS a.parts (k)).1 by omega)
  have f0 : (laws_markName a k).2.parts = (laws_markStringS a.parts (k)).2 := rfl
  refine ⟨show k ≤ (laws_markStringS a.parts (k)).1 by omega, show (laws_markStringS a.parts (k)).1 ≤ _ by omega, ?_⟩
  show _ = (laws_markStringS a.parts (k)).1
  simp only [laws_heldName, f0, e0, d0, cond_false]
theorem eq_TableEntry (a : TableEntry) : laws_eqTableEntry a a = true := by
  simp only [laws_eqTableEntry, bne_self_F, nbeq_self_F, cond_false, Bool.not_true, eq_Name]
theorem to_TableEntry (a : TableEntry) : laws_toTableEntry a = a := by
  simp only [laws_toTableEntry, to_Name]
theorem sz_TableEntry_R (a : TableEntry) (left : Int) (h : GoT.ok 10 a) (h0 : 0 ≤ left) (h1 : left ≤ 1048576) : SzR (laws_szTableEntry a left) left (sz a) := by
  rw [sz_TableEntry]
  unfold laws_szTableEntry
  rcases sz_Name_R a.name left (ok_TableEntry h).1 (by omega) (by omega) with r0 | ⟨q0, r0⟩
  · rw [r0]; exact .inl rfl
  rw [r0, dF (by omega), cond_false]
  exact .inr ⟨by omega, by omega⟩
theorem eqL_TableEntryS : ∀ (l p : (List TableEntry)), laws_eqTableEntryS_L1 (p ++ l) l p.length = none
  | [], _ => rfl
  | e :: l, p => by
    have ih := eqL_TableEntryS l (p ++ [e])
    rw [mid_app, mid_len] at ih
    simp only [laws_eqTableEntryS_L1, mid, eq_TableEntry e, Bool.not_true, cond_false]
    exact ih
theorem eq_TableEntryS (a : (List TableEntry)) : laws_eqTableEntryS a a = true := by
  have h := eqL_TableEntryS a []
  simp only [List.nil_append, List.length_nil] at h
  simp only [laws_eqTableEntryS, bne_self_F, cond_false, h]
theorem toL_TableEntryS : ∀ (l p z : (List TableEntry)), z.length = l.length → laws_toTableEntryS_L1 l p.length (p ++ z) = p ++ l
  | [], p, [], _ => rfl
  | e :: l, p, y :: z, h => by
    have ih := toL_TableEntryS l (p ++ [e]) z (by simpa using h)
    rw [mid_app p e l, mid_len] at ih
    simp only [laws_toTableEntryS_L1, mid, mid_set, to_TableEntry e]
    exact ih
theorem to_TableEntryS (a : (List TableEntry)) : laws_toTableEntryS a = a := by
  simp only [laws_toTableEntryS]
  exact toL_TableEntryS a [] _ (by simp)
theorem szL_TableEntryS_R : ∀ (l : (List TableEntry)) (left : Int), (∀ a ∈ l, GoT.ok 10 a) → 0 ≤ left → left ≤ 1048576 → SzL (laws_szTableEntryS_L1 l left) left (szL l)
  | [], left, _, h0, _ => .inr ⟨by simp [szL_nil]; omega, by simp [szL_nil, laws_szTableEntryS_L1]⟩
  | e :: l, left, hk, h0, h1 => by
    rw [szL_cons]
    unfold laws_szTableEntryS_L1
    rcases sz_TableEntry_R e left (hk e List.mem_cons_self) h0 h1 with r0 | ⟨q0, r0⟩
    · rw [r0]; exact .inl rfl
    · rw [r0, dF (by omega), cond_false]
      rcases szL_TableEntryS_R l (left - (sz e : Int)) (fun a ha => hk a (List.mem_cons_of_mem _ ha)) (by omega) (by omega) with r | ⟨q, r⟩
      · exact .inl r
      · exact .inr ⟨by omega, by rw [r]; congr 1; omega⟩
theorem sz_TableEntryS_R (a : (List TableEntry)) (left : Int) (h : GoT.ok 10 a) (h0 : 0 ≤ left) (h1 : left ≤ 1048576) : SzR (laws_szTableEntryS a left) left (sz a) := by
  have hl : a.length ≤ 9223372036854775807 := h.1
  rw [sz_list]
  unfold laws_szTableEntryS
  rw [wrap_sub h0 h1 hl]
  by_cases hc : left - (a.length : Int) < 0
  · rw [dT hc, cond_true]; exact .inl rfl
  · rw [dF (by omega), cond_false]
    rcases szL_TableEntryS_R a (left - (a.length : Int)) h.2 (by omega) (by omega) with r | ⟨q, r⟩
    · rw [r]; exact .inl rfl
    · rw [r]; exact .inr ⟨by omega, by show left - (a.length : Int) - (szL a : Int) = _; omega⟩
theorem sz_flat_TableEntryS (e : TableEntry) : sz e = sz e.name.parts := by
  simp only [sz_TableEntry, sz_Name, Nat.add_assoc]
theorem mkL_TableEntryS : ∀ (l p : (List TableEntry)) (k : Int), 0 ≤ k → k + 16 * ((l.length : Int) + szL l) ≤ 4611686018427387904 → ∃ l' k', laws_markTableEntryS_L1 l.length p.length (p ++ l) k = (p ++ l', k') ∧ k ≤ k' ∧ k' ≤ k + 16 * ((l.length : Int) + szL l) ∧ laws_heldTableEntryS_L1 l' k = .nxt k'
  | [], p, k, _, _ => ⟨[], k, rfl, by omega, by simp [szL_nil], rfl⟩
  | e :: l, p, k, h0, hb => by
    rw [szL_cons, List.length_cons] at hb
    have hsz := sz_flat_TableEntryS e
    obtain ⟨p1, q1, e1⟩ := mk_StringS e.name.parts (k) (by omega) (by omega)
    have d1 := dF (show 0 ≤ (laws_markStringS e.name.parts (k)).1 by omega)
    have w2 := wrap1 (x := (laws_markStringS e.name.parts (k)).1) (by omega) (by omega)
    obtain ⟨l', k', r1, r2, r3, r4⟩ := mkL_TableEntryS l (p ++ [(TableEntry.mk (Name.mk (laws_markStringS e.name.parts k).2) ((laws_markStringS e.name.parts k).1))]) ((laws_markStringS e.name.parts (k)).1 + 1) (by omega) (by omega)
    rw [mid_len] at r1
    refine ⟨(TableEntry.mk (Name.mk (laws_markStringS e.name.parts k).2) ((laws_markStringS e.name.parts k).1)) :: l', k', ?_, by omega, by rw [szL_cons, List.length_cons]; omega, ?_⟩
    · simp only [List.length_cons, laws_markTableEntryS_L1, mid, mid_set, w2]
      rw [r1, mid_app]
    · simp only [laws_heldTableEntryS_L1, bne_self_F, nbeq_self_F, cond_false, e1, d1, cond_false, w2]
      exact r4
theorem mk_TableEntryS (a : (List TableEntry)) (k : Int) (h0 : 0 ≤ k) (hb : k + 16 * (sz a : Int) ≤ 4611686018427387904) : MkR k (laws_markTableEntryS a k).1 (sz a) (laws_heldTableEntryS (laws_markTableEntryS a k).2 k) := by
  rw [sz_list] at hb ⊢
  obtain ⟨l', k', r1, r2, r3, r4⟩ := mkL_TableEntryS a [] k h0 (by omega)
  simp only [List.nil_append, List.length_nil] at r1
  simp only [laws_markTableEntryS, r1, laws_heldTableEntryS, r4]
  exact ⟨r2, by omega, rfl⟩
theorem eq_StateVector (a : StateVector) : laws_eqStateVector a a = true := by
  simp only [laws_eqStateVector, bne_self_F, nbeq_self_F, cond_false, Bool.not_true, eq_TableEntryS]
theorem to_StateVector (a : StateVector) : laws_toStateVector a = a := by
  simp only [laws_toStateVector, to_TableEntryS]
theorem sz_StateVector_R (a : StateVector) (left : Int) (h : GoT.ok 10 a) (h0 : 0 ≤ left) (h1 : left ≤ 1048576) : SzR (laws_szStateVector a left) left (sz a) := by
  rw [sz_StateVector]
  unfold laws_szStateVector
  rcases sz_TableEntryS_R a.entries left (ok_StateVector h) (by omega) (by omega) with r0 | ⟨q0, r0⟩
  · rw [r0]; exact .inl rfl
  rw [r0, dF (by omega), cond_false]
  exact .inr ⟨by omega, by omega⟩
theorem mk_StateVector (a : StateVector) (k : Int) (h0 : 0 ≤ k) (hb : k + 16 * (sz a : Int) ≤ 4611686018427387904) : MkR k (laws_markStateVector a k).1 (sz a) (laws_heldStateVector (laws_markStateVector a k).2 k) := by
  rw [sz_StateVector] at hb ⊢
  obtain ⟨p0, q0, e0⟩ := mk_TableEntryS a.entries (k) (by omega) (by omega)
  have d0 := dF (show 0 ≤ (laws_markTableEntryS a.entries (k)).1 by omega)
  have f0 : (laws_markStateVector a k).2.entries = (laws_markTableEntryS a.entries (k)).2 := rfl
  refine ⟨show k ≤ (laws_markTableEntryS a.entries (k)).1 by omega, show (laws_markTableEntryS a.entries (k)).1 ≤ _ by omega, ?_⟩
  show _ = (laws_markTableEntryS a.entries (k)).1
  simp only [laws_heldStateVector, f0, e0, d0, cond_false]
theorem eqL_ByteS : ∀ (l p : (List UInt8)), laws_eqByteS_L1 (p ++ l) l p.length = none
  | [], _ => rfl
  | e :: l, p => by
    have ih := eqL_ByteS l (p ++ [e])
    rw [mid_app, mid_len] at ih
    simp only [laws_eqByteS_L1, mid, bne_self_F, nbeq_self_F, cond_false]
    exact ih
theorem eq_ByteS (a : (List UInt8)) : laws_eqByteS a a = true := by
  have h := eqL_ByteS a []
  simp only [List.nil_append, List.length_nil] at h
  simp only [laws_eqByteS, bne_self_F, cond_false, h]
theorem toL_ByteS : ∀ (l p z : (List UInt8)), z.length = l.length → laws_toByteS_L1 l p.length (p ++ z) = p ++ l
  | [], p, [], _ => rfl
  | e :: l, p, y :: z, h => by
    have ih := toL_ByteS l (p ++ [e]) z (by simpa using h)
    rw [mid_app p e l, mid_len] at ih
    simp only [laws_toByteS_L1, mid, mid_set]
    exact ih
theorem to_ByteS (a : (List UInt8)) : laws_toByteS a = a := by
  simp only [laws_toByteS]
  exact toL_ByteS a [] _ (by simp)
theorem sz_ByteS_R (a : (List UInt8)) (left : Int) (h : GoT.ok 10 a) (h0 : 0 ≤ left) (h1 : left ≤ 1048576) : SzR (laws_szByteS a left) left (sz a) := by
  have hl : a.length ≤ 9223372036854775807 := h.1
  rw [sz_list, szL_u8]
  unfold laws_szByteS
  rw [wrap_sub h0 h1 hl]
  by_cases hc : left - (a.length : Int) < 0
  · rw [dT hc, cond_true]; exact .inl rfl
  · rw [dF (by omega), cond_false]; exact .inr ⟨by omega, rfl⟩
theorem mkL_ByteS : ∀ (l p : (List UInt8)) (k : Int), 0 ≤ k → k + 16 * ((l.length : Int) + szL l) ≤ 4611686018427387904 → ∃ l' k', laws_markByteS_L1 l.length p.length (p ++ l) k = (p ++ l', k') ∧ k ≤ k' ∧ k' ≤ k + 16 * ((l.length : Int) + szL l) ∧ laws_heldByteS_L1 l' k = .nxt k'
  | [], p, k, _, _ => ⟨[], k, rfl, by omega, by simp [szL_nil], rfl⟩
  | e :: l, p, k, h0, hb => by
    rw [szL_cons, List.length_cons] at hb
    have w1 := wrap1 (x := k) (by omega) (by omega)
    obtain ⟨l', k', r1, r2, r3, r4⟩ := mkL_ByteS l (p ++ [(toU8 k)]) (k + 1) (by omega) (by omega)
    rw [mid_len] at r1
    refine ⟨(toU8 k) :: l', k', ?_, by omega, by rw [szL_cons, List.length_cons]; omega, ?_⟩
    · simp only [List.length_cons, laws_markByteS_L1, mid, mid_set, w1]
      rw [r1, mid_app]
    · simp only [laws_heldByteS_L1, bne_self_F, nbeq_self_F, cond_false, w1]
      exact r4
theorem mk_ByteS (a : (List UInt8)) (k : Int) (h0 : 0 ≤ k) (hb : k + 16 * (sz a : Int) ≤ 4611686018427387904) : MkR k (laws_markByteS a k).1 (sz a) (laws_heldByteS (laws_markByteS a k).2 k) := by
  rw [sz_list] at hb ⊢
  obtain ⟨l', k', r1, r2, r3, r4⟩ := mkL_ByteS a [] k h0 (by omega)
  simp only [List.nil_append, List.length_nil] at r1
  simp only [laws_markByteS, r1, laws_heldByteS, r4]
  exact ⟨r2, by omega, rfl⟩
theorem eq_Publication (a : Publication) : laws_eqPublication a a = true := by
  simp only [laws_eqPublication, bne_self_F, nbeq_self_F, cond_false, Bool.not_true, eq_Name, eq_ByteS]
theorem to_Publication (a : Publication) : laws_toPublication a = a := by
  simp only [laws_toPublication, to_Name, to_ByteS]
theorem sz_Publication_R (a : Publication) (left : Int) (h : GoT.ok 10 a) (h0 : 0 ≤ left) (h1 : left ≤ 1048576) : SzR (laws_szPublication a left) left (sz a) := by
  rw [sz_Publication]
  unfold laws_szPublication
  rcases sz_Name_R a.publisher left (ok_Publication h).1 (by omega) (by omega) with r0 | ⟨q0, r0⟩
  · rw [r0]; exact .inl rfl
  rw [r0, dF (by omega), cond_false]
  rcases sz_ByteS_R a.content (left - (sz a.publisher : Int)) (ok_Publication h).2.2 (by omega) (by omega) with r1 | ⟨q1, r1⟩
  · rw [r1]; exact .inl rfl
  rw [r1, dF (by omega), cond_false]
  exact .inr ⟨by omega, by omega⟩
theorem eqL_PublicationS : ∀ (l p : (List Publication)), laws_eqPublicationS_L1 (p ++ l) l p.length = none
  | [], _ => rfl
  | e :: l, p => by
    have ih := eqL_PublicationS l (p ++ [e])
    rw [mid_app, mid_len] at ih
    simp only [laws_eqPublicationS_L1, mid, eq_Publication e, Bool.not_true, cond_false]
    exact ih
theorem eq_PublicationS (a : (List Publication)) : laws_eqPublicationS a a = true := by
  have h := eqL_PublicationS a []
  simp only [List.nil_append, List.length_nil] at h
  simp only [laws_eqPublicationS, bne_self_F, cond_false, h]
theorem toL_PublicationS : ∀ (l p z : (List Publication)), z.length = l.length → laws_toPublicationS_L1 l p.length (p ++ z) = p ++ l
  | [], p, [], _ => rfl
  | e :: l, p, y :: z, h => by
    have ih := toL_PublicationS l (p ++ [e]) z (by simpa using h)
    rw [mid_app p e l, mid_len] at ih
    simp only [laws_toPublicationS_L1, mid, mid_set, to_Publication e]
    exact ih
theorem to_PublicationS (a : (List Publication)) : laws_toPublicationS a = a := by
  simp only [laws_toPublicationS]
  exact toL_PublicationS a [] _ (by simp)
theorem szL_PublicationS_R : ∀ (l : (List Publication)) (left : Int), (∀ a ∈ l, GoT.ok 10 a) → 0 ≤ left → left ≤ 1048576 → SzL (laws_szPublicationS_L1 l left) left (szL l)
  | [], left, _, h0, _ => .inr ⟨by simp [szL_nil]; omega, by simp [szL_nil, laws_szPublicationS_L1]⟩
  | e :: l, left, hk, h0, h1 => by
    rw [szL_cons]
    unfold laws_szPublicationS_L1
    rcases sz_Publication_R e left (hk e List.mem_cons_self) h0 h1 with r0 | ⟨q0, r0⟩
    · rw [r0]; exact .inl rfl
    · rw [r0, dF (by omega), cond_false]
      rcases szL_PublicationS_R l (left - (sz e : Int)) (fun a ha => hk a (List.mem_cons_of_mem _ ha)) (by omega) (by omega) with r | ⟨q, r⟩
      · exact .inl r
      · exact .inr ⟨by omega, by rw [r]; congr 1; omega⟩
theorem sz_PublicationS_R (a : (List Publication)) (left : Int) (h : GoT.ok 10 a) (h0 : 0 ≤ left) (h1 : left ≤ 1048576) : SzR (laws_szPublicationS a left) left (sz a) := by
  have hl : a.length ≤ 9223372036854775807 := h.1
  rw [sz_list]
  unfold laws_szPublicationS
  rw [wrap_sub h0 h1 hl]
  by_cases hc : left - (a.length : Int) < 0
  · rw [dT hc, cond_true]; exact .inl rfl
  · rw [dF (by omega), cond_false]
    rcases szL_PublicationS_R a (left - (a.length : Int)) h.2 (by omega) (by omega) with r | ⟨q, r⟩
    · rw [r]; exact .inl rfl
    · rw [r]; exact .inr ⟨by omega, by show left - (a.length : Int) - (szL a : Int) = _; omega⟩
theorem sz_flat_PublicationS (e : Publication) : sz e = sz e.publisher.parts + sz e.content := by
  simp only [sz_Publication, sz_Name, Nat.add_assoc]
theorem mkL_PublicationS : ∀ (l p : (List Publication)) (k : Int), 0 ≤ k → k + 16 * ((l.length : Int) + szL l) ≤ 4611686018427387904 → ∃ l' k', laws_markPublicationS_L1 l.length p.length (p ++ l) k = (p ++ l', k') ∧ k ≤ k' ∧ k' ≤ k + 16 * ((l.length : Int) + szL l) ∧ laws_heldPublicationS_L1 l' k = .nxt k'
  | [], p, k, _, _ => ⟨[], k, rfl, by omega, by simp [szL_nil], rfl⟩
  | e :: l, p, k, h0, hb => by
    rw [szL_cons, List.length_cons] at hb
    have hsz := sz_flat_PublicationS e
    obtain ⟨p1, q1, e1⟩ := mk_StringS e.publisher.parts (k) (by omega) (by omega)
    have d1 := dF (show 0 ≤ (laws_markStringS e.publisher.parts (k)).1 by omega)
    have w2 := wrap1 (x := (laws_markStringS e.publisher.parts (k)).1) (by omega) (by omega)
    obtain ⟨p3, q3, e3⟩ := mk_ByteS e.content (((laws_markStringS e.publisher.parts (k)).1 + 1)) (by omega) (by omega)
    have d3 := dF (show 0 ≤ (laws_markByteS e.content (((laws_markStringS e.publisher.parts (k)).1 + 1))).1 by omega)
    obtain ⟨l', k', r1, r2, r3, r4⟩ := mkL_PublicationS l (p ++ [(Publication.mk (Name.mk (laws_markStringS e.publisher.parts k).2) ((laws_markStringS e.publisher.parts k).1) (laws_markByteS e.content ((laws_markStringS e.publisher.parts k).1 + 1)).2)]) (laws_markByteS e.content (((laws_markStringS e.publisher.parts (k)).1 + 1))).1 (by omega) (by omega)
    rw [mid_len] at r1
    refine ⟨(Publication.mk (Name.mk (laws_markStringS e.publisher.parts k).2) ((laws_markStringS e.publisher.parts k).1) (laws_markByteS e.content ((laws_markStringS e.publisher.parts k).1 + 1)).2) :: l', k', ?_, by omega, by rw [szL_cons, List.length_cons]; omega, ?_⟩
    · simp only [List.length_cons, laws_markPublicationS_L1, mid, mid_set, w2]
      rw [r1, mid_app]
    · simp only [laws_heldPublicationS_L1, bne_self_F, nbeq_self_F, cond_false, e1, d1, cond_false, w2, e3, d3]
      exact r4
theorem mk_PublicationS (a : (List Publication)) (k : Int) (h0 : 0 ≤ k) (hb : k + 16 * (sz a : Int) ≤ 4611686018427387904) : MkR k (laws_markPublicationS a k).1 (sz a) (laws_heldPublicationS (laws_markPublicationS a k).2 k) := by
  rw [sz_list] at hb ⊢
  obtain ⟨l', k', r1, r2, r3, r4⟩ := mkL_PublicationS a [] k h0 (by omega)
  simp only [List.nil_append, List.length_nil] at r1
  simp only [laws_markPublicationS, r1, laws_heldPublicationS, r4]
  exact ⟨r2, by omega, rfl⟩
theorem eq_Member (a : Member) : laws_eqMember a a = true := by
  simp only [laws_eqMember, bne_self_F, nbeq_self_F, cond_false, Bool.not_true, eq_Name, eq_StateVector, eq_PublicationS]
theorem to_Member (a : Member) : laws_toMember a = a := by
  simp only [laws_toMember, to_Name, to_StateVector, to_PublicationS]
theorem sz_Member_R (a : Member) (left : Int) (h : GoT.ok 10 a) (h0 : 0 ≤ left) (h1 : left ≤ 1048576) : SzR (laws_szMember a left) left (sz a) := by
  rw [sz_Member]
  unfold laws_szMember
  rcases sz_Name_R a.name left (ok_Member h).1 (by omega) (by omega) with r0 | ⟨q0, r0⟩
  · rw [r0]; exact .inl rfl
  rw [r0, dF (by omega), cond_false]
  rcases sz_StateVector_R a.vector (left - (sz a.name : Int)) (ok_Member h).2.1 (by omega) (by omega) with r1 | ⟨q1, r1⟩
  · rw [r1]; exact .inl rfl
  rw [r1, dF (by omega), cond_false]
  rcases sz_PublicationS_R a.publications ((left - (sz a.name : Int)) - (sz a.vector : Int)) (ok_Member h).2.2 (by omega) (by omega) with r2 | ⟨q2, r2⟩
  · rw [r2]; exact .inl rfl
  rw [r2, dF (by omega), cond_false]
  exact .inr ⟨by omega, by omega⟩
theorem mk_Member (a : Member) (k : Int) (h0 : 0 ≤ k) (hb : k + 16 * (sz a : Int) ≤ 4611686018427387904) : MkR k (laws_markMember a k).1 (sz a) (laws_heldMember (laws_markMember a k).2 k) := by
  rw [sz_Member] at hb ⊢
  obtain ⟨p0, q0, e0⟩ := mk_Name a.name (k) (by omega) (by omega)
  have d0 := dF (show 0 ≤ (laws_markName a.name (k)).1 by omega)
  have f0 : (laws_markMember a k).2.name = (laws_markName a.name (k)).2 := rfl
  obtain ⟨p1, q1, e1⟩ := mk_StateVector a.vector ((laws_markName a.name (k)).1) (by omega) (by omega)
  have d1 := dF (show 0 ≤ (laws_markStateVector a.vector ((laws_markName a.name (k)).1)).1 by omega)
  have f1 : (laws_markMember a k).2.vector = (laws_markStateVector a.vector ((laws_markName a.name (k)).1)).2 := rfl
  obtain ⟨p2, q2, e2⟩ := mk_PublicationS a.publications ((laws_markStateVector a.vector ((laws_markName a.name (k)).1)).1) (by omega) (by omega)
  have d2 := dF (show 0 ≤ (laws_markPublicationS a.publications ((laws_markStateVector a.vector ((laws_markName a.name (k)).1)).1)).1 by omega)
  have f2 : (laws_markMember a k).2.publications = (laws_markPublicationS a.publications ((laws_markStateVector a.vector ((laws_markName a.name (k)).1)).1)).2 := rfl
  refine ⟨show k ≤ (laws_markPublicationS a.publications ((laws_markStateVector a.vector ((laws_markName a.name (k)).1)).1)).1 by omega, show (laws_markPublicationS a.publications ((laws_markStateVector a.vector ((laws_markName a.name (k)).1)).1)).1 ≤ _ by omega, ?_⟩
  show _ = (laws_markPublicationS a.publications ((laws_markStateVector a.vector ((laws_markName a.name (k)).1)).1)).1
  simp only [laws_heldMember, f0, e0, d0, f1, e1, d1, f2, e2, d2, cond_false]
end Go.Stp

namespace Go.Stp
set_option linter.unusedVariables false
set_option linter.unusedSimpArgs false
def laws_FnExactCatchUp (aM : Member) (aFrom : Member) : Bool :=
  bif decide ((laws_szMember aM 1048576) < 0) then
    true
  else
    bif decide ((laws_szMember aFrom (laws_szMember aM 1048576)) < 0) then
      true
    else
      bif (!(laws_eqMember (impl_CatchUp (laws_toMember aM) (laws_toMember aFrom)) (spec_CatchUp (laws_toMember aM) (laws_toMember aFrom)))) then
        false
      else
        bif (!(laws_eqMember (laws_toMember aM) (laws_toMember aM))) then
          false
        else
          bif (!(laws_eqMember (laws_toMember aFrom) (laws_toMember aFrom))) then
            false
          else
            bif decide ((laws_markMember (laws_toMember aFrom) ((laws_markMember (laws_toMember aM) 1).1)).1 < 0) then
              false
            else
              bif decide ((laws_heldMember ((laws_markMember (impl_CatchUp (laws_toMember aM) (laws_toMember aFrom)) 1).2) 1) < 0) then
                false
              else
                bif ((laws_heldMember ((laws_markMember (impl_CatchUp (laws_toMember aM) (laws_toMember aFrom)) 1).2) 1) != (laws_markMember (impl_CatchUp (laws_toMember aM) (laws_toMember aFrom)) 1).1) then
                  false
                else
                  true
end Go.Stp

namespace Go.Proofs.YtfffongneoegbaaGreat
open Go.Stp
set_option linter.unusedVariables false
set_option linter.unusedSimpArgs false
theorem f5 (w : World) (n : Nat) (hn : n + 4 ≤ 9) (aM : Member) (paMName : Option Addr) (caMName : Nat) (hpaMName : RdSl (hp w) paMName caMName aM.name.parts) (paMVector : Option Addr) (caMVector : Nat) (hpaMVector : RdSl (hp w) paMVector caMVector aM.vector.entries) (paMPublications : Option Addr) (caMPublications : Nat) (hpaMPublications : RdSl (hp w) paMPublications caMPublications aM.publications) (aFrom : Member) (paFromName : Option Addr) (caFromName : Nat) (hpaFromName : RdSl (hp w) paFromName caFromName aFrom.name.parts) (paFromVector : Option Addr) (caFromVector : Nat) (hpaFromVector : RdSl (hp w) paFromVector caFromVector aFrom.vector.entries) (paFromPublications : Option Addr) (caFromPublications : Nat) (hpaFromPublications : RdSl (hp w) paFromPublications caFromPublications aFrom.publications) (hokaM : GoT.ok 10 aM) (hokaFrom : GoT.ok 10 aFrom) :
    Does Tryz.prog 5 #[.agg #[.slice paMName ((aM.name.parts).length) caMName, .slice paMVector ((aM.vector.entries).length) caMVector, .slice paMPublications ((aM.publications).length) caMPublications], .agg #[.slice paFromName ((aFrom.name.parts).length) caFromName, .slice paFromVector ((aFrom.vector.entries).length) caFromVector, .slice paFromPublications ((aFrom.publications).length) caFromPublications]] w emp (fun (rv : Value) (_ : World) => rv = .bool (laws_FnExactCatchUp aM aFrom) ∧ True) := by
  have hbP := bd_pos n
  have hbS0 : bd (n + 1) = 4 * bd (n) := bd_succ (n := n) (by omega)
  have hbS1 : bd (n + 2) = 4 * bd (n + 1) := bd_succ (n := n + 1) (by omega)
  have hbS2 : bd (n + 3) = 4 * bd (n + 2) := bd_succ (n := n + 2) (by omega)
  have hbS3 : bd (n + 4) = 4 * bd (n + 3) := bd_succ (n := n + 3) (by omega)
  have hbB := bd_big (n := (n + 4)) (by omega)
  have hbM := bd_mono (show n ≤ n + 4 by omega)
  refine WX.enter (tt := tt) (Γ := [(0, MF.rs .stb paMName caMName aM.name.parts), (1, MF.rs .stb paMVector caMVector aM.vector.entries), (2, MF.rs .stb paMPublications caMPublications aM.publications), (3, MF.rs .stb paFromName caFromName aFrom.name.parts), (4, MF.rs .stb paFromVector caFromVector aFrom.vector.entries), (5, MF.rs .stb paFromPublications caFromPublications aFrom.publications)]) Tryz.func5 rfl (by kernel_rfl) rfl (allS_cons rfl hpaMName (allS_cons rfl hpaMVector (allS_cons rfl hpaMPublications (allS_cons rfl hpaFromName (allS_cons rfl hpaFromVector (allS_cons rfl hpaFromPublications allS_nil)))))) ?_
  refine WX.run ttOk rfl ?_
  refine WX.callV rfl rfl rfl rfl rfl (fun _ => rfl) rfl (fun w G bs hI hΓ => f10 w 10 aM paMName caMName (hΓ.get 0 rfl) paMVector caMVector (hΓ.get 1 rfl) paMPublications caMPublications (hΓ.get 2 rfl) 1048576 hokaM (show I64 1048576 from (by unfold I64; omega))) ?_
  intro hq1
  refine WX.run ttOk rfl ?_
  refine WX.cases 18 rfl (fun h1 => ?_) (fun h1 => ?_)
  · skip
    have h1d := B.dt h1
    refine WX.run ttOk rfl ?_
    have hP1 : laws_FnExactCatchUp aM aFrom = true := by simp only [laws_FnExactCatchUp, h1, cond_true, cond_false]
    refine WX.ret ttOk rfl ?_
    intro w1 G bs hI hΓ
    rw [hP1]
    exact ⟨rfl, trivial⟩
  · skip
    have h1d := B.df h1
    obtain ⟨hs1, ht1⟩ := (sz_Member_R aM 1048576 hokaM (by omega) (by omega)).pos (by omega)
    have hk1 : GoT.ok n aM := GoT.okm (Nat.zero_le n) (Sz.low hokaM (show sz aM ≤ 1048576 by omega))
    refine WX.run ttOk rfl ?_
    refine WX.callV rfl rfl rfl rfl rfl (fun _ => rfl) rfl (fun w G bs hI hΓ => f10 w 10 aFrom paFromName caFromName (hΓ.get 3 rfl) paFromVector caFromVector (hΓ.get 4 rfl) paFromPublications caFromPublications (hΓ.get 5 rfl) (laws_szMember aM 1048576) hokaFrom hq1) ?_
    intro hq2
    refine WX.run ttOk rfl ?_
    refine WX.cases 23 rfl (fun h2 => ?_) (fun h2 => ?_)
    · skip
      have h2d := B.dt h2
      refine WX.run ttOk rfl ?_
      have hP2 : laws_FnExactCatchUp aM aFrom = true := by simp only [laws_FnExactCatchUp, h1, h2, cond_true, cond_false]
      refine WX.ret ttOk rfl ?_
      intro w1 G bs hI hΓ
      rw [hP2]
      exact ⟨rfl, trivial⟩
    · skip
      have h2d := B.df h2
      obtain ⟨hs2, ht2⟩ := (sz_Member_R aFrom (laws_szMember aM 1048576) hokaFrom (by omega) (by omega)).pos (by omega)
      have hk2 : GoT.ok n aFrom := GoT.okm (Nat.zero_le n) (Sz.low hokaFrom (show sz aFrom ≤ 1048576 by omega))
      refine WX.run ttOk rfl ?_
      refine WX.draw [6] mixed ?_
      intro bs G0 hΓ0
      refine DX.takes (fuel := 5) ttOk [(0, false), (2, false)] (by kernel_rfl) rfl ?_
      refine DX.pend 5 6 ⟨42, [.slice none (0) 0, .slice none (0) 0, .slice none (0) 0]⟩ ?_
      refine DXA.callF 1 6 (fun _ _ h => GoT.ow_rd h) (fun _ f hf => GoT.fak f hf) ttOk rfl rfl rfl rfl rfl rfl rfl (by kernel_rfl) (by kernel_rfl) (by kernel_rfl) rfl rfl rfl rfl rfl rfl rfl rfl rfl rfl (fun _ => rfl) rfl rfl (fun w G bs hI hΓ => f13 w n (by omega) aM paMName caMName (hΓ.get 0 rfl) paMVector caMVector (hΓ.get 1 rfl) paMPublications caMPublications (hΓ.get 2 rfl) hk1) (fun _ => rfl) (fun _ => rfl) ?_
      rintro ⟨⟨p1, c1⟩, ⟨p2, c2⟩, ⟨p3, c3⟩⟩ hq3
      refine DXA.callF 3 12 (fun _ _ h => GoT.ow_rd h) (fun _ f hf => GoT.fak f hf) ttOk rfl rfl rfl rfl rfl rfl rfl (by kernel_rfl) (by kernel_rfl) (by kernel_rfl) rfl rfl rfl rfl rfl rfl rfl rfl rfl rfl (fun _ => rfl) rfl rfl (fun w G bs hI hΓ => f13 w n (by omega) aFrom paFromName caFromName (hΓ.get 3 rfl) paFromVector caFromVector (hΓ.get 4 rfl) paFromPublications caFromPublications (hΓ.get 5 rfl) hk2) (fun _ => rfl) (fun _ => rfl) ?_
      rintro ⟨⟨p4, c4⟩, ⟨p5, c5⟩, ⟨p6, c6⟩⟩ hq4
      refine DXA.callF 4 18 (fun _ _ h => GoT.ow_rd h) (fun _ f hf => GoT.fak f hf) ttOk rfl rfl rfl rfl rfl rfl rfl (by kernel_rfl) (by kernel_rfl) (by kernel_rfl) rfl rfl rfl rfl rfl rfl rfl rfl rfl rfl (fun _ => rfl) rfl rfl (fun w G bs hI hΓ => f26 w n (by omega) (laws_toMember aM) p1 c1 (hΓ.get 6 rfl) p2 c2 (hΓ.get 7 rfl) p3 c3 (hΓ.get 8 rfl) (laws_toMember aFrom) p4 c4 (hΓ.get 12 rfl) p5 c5 (hΓ.get 13 rfl) p6 c6 (hΓ.get 14 rfl) hq3 hq4) (fun _ => rfl) (fun _ => rfl) ?_
      rintro ⟨⟨p7, c7⟩, ⟨p8, c8⟩, ⟨p9, c9⟩⟩ hq5
      refine DXA.tail [6] ttOk rfl rfl rfl rfl rfl rfl (by kernel_rfl) rfl rfl (by kernel_rfl) ?_
      refine WX.run ttOk rfl ?_
      refine WX.callF 24 (fun _ _ h => GoT.ow_rd h) (fun _ f hf => GoT.fak f hf) rfl rfl rfl rfl rfl (fun _ => rfl) rfl (fun w G bs hI hΓ => f13 w n (by omega) aM paMName caMName (hΓ.get 0 rfl) paMVector caMVector (hΓ.get 1 rfl) paMPublications caMPublications (hΓ.get 2 rfl) hk1) (fun _ => rfl) (fun _ => rfl) ?_
      rintro ⟨⟨p10, c10⟩, ⟨p11, c11⟩, ⟨p12, c12⟩⟩ hq6
      refine WX.run ttOk rfl ?_
      refine WX.callF 30 (fun _ _ h => GoT.ow_rd h) (fun _ f hf => GoT.fak f hf) rfl rfl rfl rfl rfl (fun _ => rfl) rfl (fun w G bs hI hΓ => f13 w n (by omega) aFrom paFromName caFromName (hΓ.get 3 rfl) paFromVector caFromVector (hΓ.get 4 rfl) paFromPublications caFromPublications (hΓ.get 5 rfl) hk2) (fun _ => rfl) (fun _ => rfl) ?_
      rintro ⟨⟨p13, c13⟩, ⟨p14, c14⟩, ⟨p15, c15⟩⟩ hq7
      refine WX.run ttOk rfl ?_
      refine WX.callF 36 (fun _ _ h => GoT.ow_rd h) (fun _ f hf => GoT.fak f hf) rfl rfl rfl rfl rfl (fun _ => rfl) rfl (fun w G bs hI hΓ => f27 w n (by omega) (laws_toMember aM) p10 c10 (hΓ.get 24 rfl) p11 c11 (hΓ.get 25 rfl) p12 c12 (hΓ.get 26 rfl) (laws_toMember aFrom) p13 c13 (hΓ.get 30 rfl) p14 c14 (hΓ.get 31 rfl) p15 c15 (hΓ.get 32 rfl) hq6 hq7) (fun _ => rfl) (fun _ => rfl) ?_
      rintro ⟨⟨p16, c16⟩, ⟨p17, c17⟩, ⟨p18, c18⟩⟩ hq8
      refine WX.run ttOk rfl ?_
      refine WX.callV rfl rfl rfl rfl rfl (fun _ => rfl) rfl (fun w G bs hI hΓ => f16 w (n + 1) (by omega) (impl_CatchUp (laws_toMember aM) (laws_toMember aFrom)) p16 c16 (hΓ.get 36 rfl) p17 c17 (hΓ.get 37 rfl) p18 c18 (hΓ.get 38 rfl) (spec_CatchUp (laws_toMember aM) (laws_toMember aFrom)) p7 c7 (hΓ.get 18 rfl) p8 c8 (hΓ.get 19 rfl) p9 c9 (hΓ.get 20 rfl) hq8 hq5) ?_
      intro hq9
      refine WX.run ttOk rfl ?_
      refine WX.cases 39 rfl (fun h3 => ?_) (fun h3 => ?_)
      · skip
        have h3d := (B.nt h3)
        refine WX.run ttOk rfl ?_
        have hP3 : laws_FnExactCatchUp aM aFrom = false := by simp only [laws_FnExactCatchUp, h1, h2, h3, cond_true, cond_false]
        refine WX.ret ttOk rfl ?_
        intro w1 G bs hI hΓ
        rw [hP3]
        exact ⟨rfl, trivial⟩
      · skip
        have h3d := (B.nf h3)
        refine WX.run ttOk rfl ?_
        refine WX.draw [] mixed ?_
        intro bs G0 hΓ0
        refine DX.takes (fuel := 3) ttOk [(0, false), (1, false)] (by kernel_rfl) rfl ?_
        refine DX.callF 2 42 (fun _ _ h => GoT.ow_rd h) (fun _ f hf => GoT.fak f hf) rfl (by kernel_rfl) rfl rfl rfl rfl rfl rfl (fun _ => rfl) rfl (fun w G bs hI hΓ => f13 w n (by omega) aM paMName caMName (hΓ.get 0 rfl) paMVector caMVector (hΓ.get 1 rfl) paMPublications caMPublications (hΓ.get 2 rfl) hk1) (fun _ => rfl) (fun _ => rfl) ?_
        rintro ⟨⟨p19, c19⟩, ⟨p20, c20⟩, ⟨p21, c21⟩⟩ hq10
        refine DX.callV 3 rfl (by kernel_rfl) rfl rfl rfl rfl rfl rfl (fun _ => rfl) rfl (fun w G bs hI hΓ => f16 w n (by omega) (laws_toMember aM) p10 c10 (hΓ.get 24 rfl) p11 c11 (hΓ.get 25 rfl) p12 c12 (hΓ.get 26 rfl) (laws_toMember aM) p19 c19 (hΓ.get 42 rfl) p20 c20 (hΓ.get 43 rfl) p21 c21 (hΓ.get 44 rfl) hq6 hq10) ?_
        intro hq11
        refine DX.takes (fuel := 0) ttOk [(4, true)] (by kernel_rfl) rfl ?_
        refine DX.tail2 [] rfl rfl (by kernel_rfl) ?_
        refine WX.run ttOk rfl ?_
        refine WX.cases 44 rfl (fun h4 => ?_) (fun h4 => ?_)
        · skip
          have h4d := (B.nt h4)
          refine WX.run ttOk rfl ?_
          have hP4 : laws_FnExactCatchUp aM aFrom = false := by simp only [laws_FnExactCatchUp, h1, h2, h3, h4, cond_true, cond_false]
          refine WX.ret ttOk rfl ?_
          intro w1 G bs hI hΓ
          rw [hP4]
          exact ⟨rfl, trivial⟩
        · skip
          have h4d := (B.nf h4)
          refine WX.run ttOk rfl ?_
          refine WX.draw [] mixed ?_
          intro bs G0 hΓ0
          refine DX.takes (fuel := 3) ttOk [(0, false), (1, false)] (by kernel_rfl) rfl ?_
          refine DX.callF 2 48 (fun _ _ h => GoT.ow_rd h) (fun _ f hf => GoT.fak f hf) rfl (by kernel_rfl) rfl rfl rfl rfl rfl rfl (fun _ => rfl) rfl (fun w G bs hI hΓ => f13 w n (by omega) aFrom paFromName caFromName (hΓ.get 3 rfl) paFromVector caFromVector (hΓ.get 4 rfl) paFromPublications caFromPublications (hΓ.get 5 rfl) hk2) (fun _ => rfl) (fun _ => rfl) ?_
          rintro ⟨⟨p22, c22⟩, ⟨p23, c23⟩, ⟨p24, c24⟩⟩ hq12
          refine DX.callV 3 rfl (by kernel_rfl) rfl rfl rfl rfl rfl rfl (fun _ => rfl) rfl (fun w G bs hI hΓ => f16 w n (by omega) (laws_toMember aFrom) p13 c13 (hΓ.get 30 rfl) p14 c14 (hΓ.get 31 rfl) p15 c15 (hΓ.get 32 rfl) (laws_toMember aFrom) p22 c22 (hΓ.get 48 rfl) p23 c23 (hΓ.get 49 rfl) p24 c24 (hΓ.get 50 rfl) hq7 hq12) ?_
          intro hq13
          refine DX.takes (fuel := 0) ttOk [(4, true)] (by kernel_rfl) rfl ?_
          refine DX.tail2 [] rfl rfl (by kernel_rfl) ?_
          refine WX.run ttOk rfl ?_
          refine WX.cases 49 rfl (fun h5 => ?_) (fun h5 => ?_)
          · skip
            have h5d := (B.nt h5)
            refine WX.run ttOk rfl ?_
            have hP5 : laws_FnExactCatchUp aM aFrom = false := by simp only [laws_FnExactCatchUp, h1, h2, h3, h4, h5, cond_true, cond_false]
            refine WX.ret ttOk rfl ?_
            intro w1 G bs hI hΓ
            rw [hP5]
            exact ⟨rfl, trivial⟩
          · skip
            have h5d := (B.nf h5)
            refine WX.run ttOk rfl ?_
            refine WX.callM [27, 28, 29] 54 rfl (fun _ _ h => GoT.ow_rd h) (fun _ f hf => GoT.fak f hf) rfl rfl rfl rfl rfl (fun _ => rfl) rfl (fun w G bs H hI hH hs hΓ => f18 w n (by omega) (laws_toMember aM) p10 c10 p11 c11 p12 c12 1 H hH hs hq6 (show I64 1 from (by unfold I64; omega))) (fun _ => rfl) (fun _ => rfl) ?_
            rintro ⟨⟩ hq14
            have hl1 : ((laws_markMember (laws_toMember aM) 1).2.name.parts).length = ((laws_toMember aM).name.parts).length := hq14.2.1
            have hl2 : ((laws_markMember (laws_toMember aM) 1).2.vector.entries).length = ((laws_toMember aM).vector.entries).length := hq14.2.2.1
            have hl3 : ((laws_markMember (laws_toMember aM) 1).2.publications).length = ((laws_toMember aM).publications).length := hq14.2.2.2
            refine WX.run ttOk rfl ?_
            refine WX.callM [33, 34, 35] 60 rfl (fun _ _ h => GoT.ow_rd h) (fun _ f hf => GoT.fak f hf) rfl rfl rfl rfl rfl (fun _ => rfl) rfl (fun w G bs H hI hH hs hΓ => f18 w n (by omega) (laws_toMember aFrom) p13 c13 p14 c14 p15 c15 ((laws_markMember (laws_toMember aM) 1).1) H hH hs hq7 hq14.1.1) (fun _ => rfl) (fun _ => rfl) ?_
            rintro ⟨⟩ hq15
            have hl4 : ((laws_markMember (laws_toMember aFrom) ((laws_markMember (laws_toMember aM) 1).1)).2.name.parts).length = ((laws_toMember aFrom).name.parts).length := hq15.2.1
            have hl5 : ((laws_markMember (laws_toMember aFrom) ((laws_markMember (laws_toMember aM) 1).1)).2.vector.entries).length = ((laws_toMember aFrom).vector.entries).length := hq15.2.2.1
            have hl6 : ((laws_markMember (laws_toMember aFrom) ((laws_markMember (laws_toMember aM) 1).1)).2.publications).length = ((laws_toMember aFrom).publications).length := hq15.2.2.2
            refine WX.run ttOk rfl ?_
            refine WX.cases 58 rfl (fun h6 => ?_) (fun h6 => ?_)
            · skip
              have h6d := B.dt h6
              refine WX.run ttOk rfl ?_
              have hP6 : laws_FnExactCatchUp aM aFrom = false := by simp only [laws_FnExactCatchUp, h1, h2, h3, h4, h5, h6, cond_true, cond_false]
              refine WX.ret ttOk rfl ?_
              intro w1 G bs hI hΓ
              rw [hP6]
              exact ⟨rfl, trivial⟩
            · skip
              have h6d := B.df h6
              refine WX.run ttOk rfl ?_
              refine WX.der 66 (MF.rs .der p16 c16 ((impl_CatchUp (laws_toMember aM) (laws_toMember aFrom)).name.parts)) rfl (fun _ hΓ => (hΓ.get 39 rfl : OwSl _ _ _ _).rd) ?_
              refine WX.der 67 (MF.rs .der p17 c17 ((impl_CatchUp (laws_toMember aM) (laws_toMember aFrom)).vector.entries)) rfl (fun _ hΓ => (hΓ.get 40 rfl : OwSl _ _ _ _).rd) ?_
              refine WX.der 68 (MF.rs .der p18 c18 ((impl_CatchUp (laws_toMember aM) (laws_toMember aFrom)).publications)) rfl (fun _ hΓ => (hΓ.get 41 rfl : OwSl _ _ _ _).rd) ?_
              refine WX.der 69 (MF.rs .der p7 c7 ((spec_CatchUp (laws_toMember aM) (laws_toMember aFrom)).name.parts)) rfl (fun _ hΓ => (hΓ.get 21 rfl : OwSl _ _ _ _).rd) ?_
              refine WX.der 70 (MF.rs .der p8 c8 ((spec_CatchUp (laws_toMember aM) (laws_toMember aFrom)).vector.entries)) rfl (fun _ hΓ => (hΓ.get 22 rfl : OwSl _ _ _ _).rd) ?_
              refine WX.der 71 (MF.rs .der p9 c9 ((spec_CatchUp (laws_toMember aM) (laws_toMember aFrom)).publications)) rfl (fun _ hΓ => (hΓ.get 23 rfl : OwSl _ _ _ _).rd) ?_
              refine WX.callV rfl rfl rfl rfl rfl (fun _ => rfl) rfl (fun w G bs hI hΓ => f16 w (n + 1) (by omega) (impl_CatchUp (laws_toMember aM) (laws_toMember aFrom)) p16 c16 (hΓ.get 66 rfl) p17 c17 (hΓ.get 67 rfl) p18 c18 (hΓ.get 68 rfl) (spec_CatchUp (laws_toMember aM) (laws_toMember aFrom)) p7 c7 (hΓ.get 69 rfl) p8 c8 (hΓ.get 70 rfl) p9 c9 (hΓ.get 71 rfl) hq8 hq5) ?_
              intro hq16
              refine WX.run ttOk rfl ?_
              refine WX.cases 63 rfl (fun h7 => ?_) (fun h7 => ?_)
              · skip
                have h7d := (B.nt h7)
                exact absurd (h3.symm.trans h7) Bool.false_ne_true
              · skip
                have h7d := (B.nf h7)
                refine WX.run ttOk rfl ?_
                refine WX.callM [39, 40, 41] 72 rfl (fun _ _ h => GoT.ow_rd h) (fun _ f hf => GoT.fak f hf) rfl rfl rfl rfl rfl (fun _ => rfl) rfl (fun w G bs H hI hH hs hΓ => f18 w (n + 1) (by omega) (impl_CatchUp (laws_toMember aM) (laws_toMember aFrom)) p16 c16 p17 c17 p18 c18 1 H hH hs hq8 (show I64 1 from (by unfold I64; omega))) (fun _ => rfl) (fun _ => rfl) ?_
                rintro ⟨⟩ hq17
                have hl7 : ((laws_markMember (impl_CatchUp (laws_toMember aM) (laws_toMember aFrom)) 1).2.name.parts).length = ((impl_CatchUp (laws_toMember aM) (laws_toMember aFrom)).name.parts).length := hq17.2.1
                have hl8 : ((laws_markMember (impl_CatchUp (laws_toMember aM) (laws_toMember aFrom)) 1).2.vector.entries).length = ((impl_CatchUp (laws_toMember aM) (laws_toMember aFrom)).vector.entries).length := hq17.2.2.1
                have hl9 : ((laws_markMember (impl_CatchUp (laws_toMember aM) (laws_toMember aFrom)) 1).2.publications).length = ((impl_CatchUp (laws_toMember aM) (laws_toMember aFrom)).publications).length := hq17.2.2.2
                refine WX.run ttOk rfl ?_
                refine WX.slot 67 (y := .v (.agg #[.slice p16 (((laws_markMember (impl_CatchUp (laws_toMember aM) (laws_toMember aFrom)) 1).2.name.parts).length) c16, .slice p17 (((laws_markMember (impl_CatchUp (laws_toMember aM) (laws_toMember aFrom)) 1).2.vector.entries).length) c17, .slice p18 (((laws_markMember (impl_CatchUp (laws_toMember aM) (laws_toMember aFrom)) 1).2.publications).length) c18])) rfl (fun _ => by show (.agg #[.slice p16 (((impl_CatchUp (laws_toMember aM) (laws_toMember aFrom)).name.parts).length) c16, .slice p17 (((impl_CatchUp (laws_toMember aM) (laws_toMember aFrom)).vector.entries).length) c17, .slice p18 (((impl_CatchUp (laws_toMember aM) (laws_toMember aFrom)).publications).length) c18] : Value) = .agg #[.slice p16 (((laws_markMember (impl_CatchUp (laws_toMember aM) (laws_toMember aFrom)) 1).2.name.parts).length) c16, .slice p17 (((laws_markMember (impl_CatchUp (laws_toMember aM) (laws_toMember aFrom)) 1).2.vector.entries).length) c17, .slice p18 (((laws_markMember (impl_CatchUp (laws_toMember aM) (laws_toMember aFrom)) 1).2.publications).length) c18]; simp only [hl7, hl8, hl9]) ?_
                refine WX.callV rfl rfl rfl rfl rfl (fun _ => rfl) rfl (fun w G bs hI hΓ => f20 w (n + 1) (by omega) ((laws_markMember (impl_CatchUp (laws_toMember aM) (laws_toMember aFrom)) 1).2) p16 c16 (hΓ.get 72 rfl) p17 c17 (hΓ.get 73 rfl) p18 c18 (hΓ.get 74 rfl) 1 hq17.1.2 (show I64 1 from (by unfold I64; omega))) ?_
                intro hq18
                refine WX.run ttOk rfl ?_
                refine WX.cases 71 rfl (fun h8 => ?_) (fun h8 => ?_)
                · skip
                  have h8d := B.dt h8
                  refine WX.run ttOk rfl ?_
                  have hP7 : laws_FnExactCatchUp aM aFrom = false := by simp only [laws_FnExactCatchUp, h1, h2, h3, h4, h5, h6, h7, h8, cond_true, cond_false]
                  refine WX.ret ttOk rfl ?_
                  intro w1 G bs hI hΓ
                  rw [hP7]
                  exact ⟨rfl, trivial⟩
                · skip
                  have h8d := B.df h8
                  refine WX.run ttOk rfl ?_
                  refine WX.cases 74 rfl (fun h9 => ?_) (fun h9 => ?_)
                  · skip
                    have h9d := B.nt' h9
                    refine WX.run ttOk rfl ?_
                    have hP8 : laws_FnExactCatchUp aM aFrom = false := by simp only [laws_FnExactCatchUp, h1, h2, h3, h4, h5, h6, h7, h8, h9, cond_true, cond_false]
                    refine WX.ret ttOk rfl ?_
                    intro w1 G bs hI hΓ
                    rw [hP8]
                    exact ⟨rfl, trivial⟩
                  · skip
                    have h9d := B.nf' h9
                    refine WX.run ttOk rfl ?_
                    refine WX.der 78 (MF.rs .der p13 c13 ((laws_markMember (laws_toMember aFrom) ((laws_markMember (laws_toMember aM) 1).1)).2.name.parts)) rfl (fun _ hΓ => (hΓ.get 63 rfl : OwSl _ _ _ _).rd) ?_
                    refine WX.der 79 (MF.rs .der p14 c14 ((laws_markMember (laws_toMember aFrom) ((laws_markMember (laws_toMember aM) 1).1)).2.vector.entries)) rfl (fun _ hΓ => (hΓ.get 64 rfl : OwSl _ _ _ _).rd) ?_
                    refine WX.der 80 (MF.rs .der p15 c15 ((laws_markMember (laws_toMember aFrom) ((laws_markMember (laws_toMember aM) 1).1)).2.publications)) rfl (fun _ hΓ => (hΓ.get 65 rfl : OwSl _ _ _ _).rd) ?_
                    refine WX.der 81 (MF.rs .der p10 c10 ((laws_markMember (laws_toMember aM) 1).2.name.parts)) rfl (fun _ hΓ => (hΓ.get 57 rfl : OwSl _ _ _ _).rd) ?_
                    refine WX.der 82 (MF.rs .der p11 c11 ((laws_markMember (laws_toMember aM) 1).2.vector.entries)) rfl (fun _ hΓ => (hΓ.get 58 rfl : OwSl _ _ _ _).rd) ?_
                    refine WX.der 83 (MF.rs .der p12 c12 ((laws_markMember (laws_toMember aM) 1).2.publications)) rfl (fun _ hΓ => (hΓ.get 59 rfl : OwSl _ _ _ _).rd) ?_
                    refine WX.der 84 (MF.rs .der p7 c7 ((spec_CatchUp (laws_toMember aM) (laws_toMember aFrom)).name.parts)) rfl (fun _ hΓ => (hΓ.get 21 rfl : OwSl _ _ _ _).rd) ?_
                    refine WX.der 85 (MF.rs .der p8 c8 ((spec_CatchUp (laws_toMember aM) (laws_toMember aFrom)).vector.entries)) rfl (fun _ hΓ => (hΓ.get 22 rfl : OwSl _ _ _ _).rd) ?_
                    refine WX.der 86 (MF.rs .der p9 c9 ((spec_CatchUp (laws_toMember aM) (laws_toMember aFrom)).publications)) rfl (fun _ hΓ => (hΓ.get 23 rfl : OwSl _ _ _ _).rd) ?_
                    refine WX.draw [6] mixed ?_
                    intro bs G0 hΓ0
                    refine DX.takes (fuel := 5) ttOk [(0, false), (2, false)] (by kernel_rfl) rfl ?_
                    refine DX.pend 5 13 ⟨42, [.slice none (0) 0, .slice none (0) 0, .slice none (0) 0]⟩ ?_
                    refine DXA.callF 1 87 (fun _ _ h => GoT.ow_rd h) (fun _ f hf => GoT.fak f hf) ttOk rfl rfl rfl rfl rfl rfl rfl (by kernel_rfl) (by kernel_rfl) (by kernel_rfl) rfl rfl rfl rfl rfl rfl rfl rfl rfl rfl (fun _ => rfl) rfl rfl (fun w G bs hI hΓ => f13 w n (by omega) aM paMName caMName (hΓ.get 0 rfl) paMVector caMVector (hΓ.get 1 rfl) paMPublications caMPublications (hΓ.get 2 rfl) hk1) (fun _ => rfl) (fun _ => rfl) ?_
                    rintro ⟨⟨p25, c25⟩, ⟨p26, c26⟩, ⟨p27, c27⟩⟩ hq19
                    refine DXA.callF 3 93 (fun _ _ h => GoT.ow_rd h) (fun _ f hf => GoT.fak f hf) ttOk rfl rfl rfl rfl rfl rfl rfl (by kernel_rfl) (by kernel_rfl) (by kernel_rfl) rfl rfl rfl rfl rfl rfl rfl rfl rfl rfl (fun _ => rfl) rfl rfl (fun w G bs hI hΓ => f13 w n (by omega) aFrom paFromName caFromName (hΓ.get 3 rfl) paFromVector caFromVector (hΓ.get 4 rfl) paFromPublications caFromPublications (hΓ.get 5 rfl) hk2) (fun _ => rfl) (fun _ => rfl) ?_
                    rintro ⟨⟨p28, c28⟩, ⟨p29, c29⟩, ⟨p30, c30⟩⟩ hq20
                    refine DXA.callF 4 99 (fun _ _ h => GoT.ow_rd h) (fun _ f hf => GoT.fak f hf) ttOk rfl rfl rfl rfl rfl rfl rfl (by kernel_rfl) (by kernel_rfl) (by kernel_rfl) rfl rfl rfl rfl rfl rfl rfl rfl rfl rfl (fun _ => rfl) rfl rfl (fun w G bs hI hΓ => f27 w n (by omega) (laws_toMember aM) p25 c25 (hΓ.get 87 rfl) p26 c26 (hΓ.get 88 rfl) p27 c27 (hΓ.get 89 rfl) (laws_toMember aFrom) p28 c28 (hΓ.get 93 rfl) p29 c29 (hΓ.get 94 rfl) p30 c30 (hΓ.get 95 rfl) hq19 hq20) (fun _ => rfl) (fun _ => rfl) ?_
                    rintro ⟨⟨p31, c31⟩, ⟨p32, c32⟩, ⟨p33, c33⟩⟩ hq21
                    refine DXA.tail [6] ttOk rfl rfl rfl rfl rfl rfl (by kernel_rfl) rfl rfl (by kernel_rfl) ?_
                    refine WX.run ttOk rfl ?_
                    refine WX.callV rfl rfl rfl rfl rfl (fun _ => rfl) rfl (fun w G bs hI hΓ => f16 w (n + 1) (by omega) (impl_CatchUp (laws_toMember aM) (laws_toMember aFrom)) p31 c31 (hΓ.get 99 rfl) p32 c32 (hΓ.get 100 rfl) p33 c33 (hΓ.get 101 rfl) (spec_CatchUp (laws_toMember aM) (laws_toMember aFrom)) p7 c7 (hΓ.get 84 rfl) p8 c8 (hΓ.get 85 rfl) p9 c9 (hΓ.get 86 rfl) hq21 hq5) ?_
                    intro hq22
                    refine WX.run ttOk rfl ?_
                    refine WX.cases 83 rfl (fun h10 => ?_) (fun h10 => ?_)
                    · skip
                      have h10d := (B.nt h10)
                      exact absurd (h3.symm.trans h10) Bool.false_ne_true
                    · skip
                      have h10d := (B.nf h10)
                      refine WX.run ttOk rfl ?_
                      refine WX.slot 84 (y := .v (.agg #[.slice p16 (((laws_markMember (impl_CatchUp (laws_toMember aM) (laws_toMember aFrom)) 1).2.name.parts).length) c16, .slice p17 (((laws_markMember (impl_CatchUp (laws_toMember aM) (laws_toMember aFrom)) 1).2.vector.entries).length) c17, .slice p18 (((laws_markMember (impl_CatchUp (laws_toMember aM) (laws_toMember aFrom)) 1).2.publications).length) c18])) rfl (fun _ => by show (.agg #[.slice p16 (((impl_CatchUp (laws_toMember aM) (laws_toMember aFrom)).name.parts).length) c16, .slice p17 (((impl_CatchUp (laws_toMember aM) (laws_toMember aFrom)).vector.entries).length) c17, .slice p18 (((impl_CatchUp (laws_toMember aM) (laws_toMember aFrom)).publications).length) c18] : Value) = .agg #[.slice p16 (((laws_markMember (impl_CatchUp (laws_toMember aM) (laws_toMember aFrom)) 1).2.name.parts).length) c16, .slice p17 (((laws_markMember (impl_CatchUp (laws_toMember aM) (laws_toMember aFrom)) 1).2.vector.entries).length) c17, .slice p18 (((laws_markMember (impl_CatchUp (laws_toMember aM) (laws_toMember aFrom)) 1).2.publications).length) c18]; simp only [hl7, hl8, hl9]) ?_
                      refine WX.callV rfl rfl rfl rfl rfl (fun _ => rfl) rfl (fun w G bs hI hΓ => f20 w (n + 1) (by omega) ((laws_markMember (impl_CatchUp (laws_toMember aM) (laws_toMember aFrom)) 1).2) p16 c16 (hΓ.get 72 rfl) p17 c17 (hΓ.get 73 rfl) p18 c18 (hΓ.get 74 rfl) 1 hq17.1.2 (show I64 1 from (by unfold I64; omega))) ?_
                      intro hq23
                      refine WX.run ttOk rfl ?_
                      refine WX.cases 88 rfl (fun h11 => ?_) (fun h11 => ?_)
                      · skip
                        have h11d := B.dt h11
                        exact absurd (h8.symm.trans h11) Bool.false_ne_true
                      · skip
                        have h11d := B.df h11
                        refine WX.run ttOk rfl ?_
                        refine WX.cases 91 rfl (fun h12 => ?_) (fun h12 => ?_)
                        · skip
                          have h12d := B.nt' h12
                          exact absurd (h9.symm.trans h12) Bool.false_ne_true
                        · skip
                          have h12d := B.nf' h12
                          refine WX.run ttOk rfl ?_
                          have hP9 : laws_FnExactCatchUp aM aFrom = true := by simp only [laws_FnExactCatchUp, h1, h2, h3, h4, h5, h6, h7, h8, h9, h10, h11, h12, cond_true, cond_false]
                          refine WX.ret ttOk rfl ?_
                          intro w1 G bs hI hΓ
                          rw [hP9]
                          exact ⟨rfl, trivial⟩
end Go.Proofs.YtfffongneoegbaaGreat

namespace Go.Stp
set_option linter.unusedVariables false
set_option linter.unusedSimpArgs false
instance ctlInh22 {α β : Type} [Inhabited α] : Inhabited (Ctl α β) := ⟨.ret default⟩
end Go.Stp

namespace Go.Stp
set_option linter.unusedVariables false
set_option linter.unusedSimpArgs false
theorem same_In (a b c : Int) : impl_InRange a b c = spec_l1In a b c := rfl
theorem sEqL_string : ∀ (a b p : List Str), a.length = b.length → slices_Equal_string_L1 (p ++ b) a p.length = (if a.map (fun z : Str => z.toList) = b.map (fun z : Str => z.toList) then none else some false)
  | [], [], p, _ => by simp [slices_Equal_string_L1]
  | x :: a, y :: b, p, h => by
    have ih := sEqL_string a b (p ++ [y]) (by simpa using h)
    rw [mid_app, mid_len] at ih
    simp only [slices_Equal_string_L1, mid]
    by_cases hxy : x.toList = y.toList
    · simp [hxy, ih]
    · have hb : (x.toList == y.toList) = false := by simpa using hxy
      simp [hb, hxy]
theorem sEq_string (a b : List Str) : slices_Equal_string a b = decide (a.map (fun z : Str => z.toList) = b.map (fun z : Str => z.toList)) := by
  unfold slices_Equal_string
  by_cases hl : a.length = b.length
  · have h := sEqL_string a b [] hl
    simp only [List.nil_append, List.length_nil] at h
    simp only [hl, bne_self_F, cond_false, h]
    split <;> simp_all
  · have hne : a.map (fun z : Str => z.toList) ≠ b.map (fun z : Str => z.toList) := fun h => hl (by simpa using congrArg List.length h)
    have hn : ((a.length : Int) != (b.length : Int)) = true := by simp; omega
    simp [hn, hne]
theorem cNL : ∀ (a b p : List Str), match spec_CompareNames_L1 ⟨p ++ b⟩ a p.length with
    | some k => k ≠ 0 ∧ a.map (fun z : Str => z.toList) ≠ b.map (fun z : Str => z.toList)
    | none => a.length = b.length → a.map (fun z : Str => z.toList) = b.map (fun z : Str => z.toList)
  | [], b, p => by
    simp only [spec_CompareNames_L1]
    intro h
    cases b with
    | nil => rfl
    | cons => simp at h
  | x :: a, [], p => by simp [spec_CompareNames_L1]
  | x :: a, y :: b, p => by
    have ih := cNL a b (p ++ [y])
    rw [mid_app, mid_len] at ih
    have hlt : decide (((p.length : Nat) : Int) < (((p ++ y :: b).length : Nat) : Int)) = true := by simp; omega
    simp only [spec_CompareNames_L1, hlt, cond_true, mid]
    by_cases hk : spec_l4Cmp x y = 0
    · have e : x.toList = y.toList := (l4_zero _ _).1 hk
      rw [hk]
      simp only [bne_self_F, cond_false]
      revert ih
      cases spec_CompareNames_L1 ⟨p ++ y :: b⟩ a (p.length + 1) with
      | none => intro ih h; simp [e, ih (by simpa using h)]
      | some k => intro ih; exact ⟨ih.1, fun h => ih.2 (by simpa [e] using h)⟩
    · have hn : (spec_l4Cmp x y != 0) = true := by simpa using hk
      simp only [hn, cond_true]
      exact ⟨hk, fun h => hk ((l4_zero _ _).2 (by simp at h; exact h.1))⟩
theorem same_EqualNames (a b : Name) : impl_EqualNames a b = spec_EqualNames a b := by
  unfold impl_EqualNames spec_EqualNames spec_CompareNames
  rw [sEq_string]
  have h : match spec_CompareNames_L1 b a.parts 0 with
    | some k => k ≠ 0 ∧ a.parts.map (fun z : Str => z.toList) ≠ b.parts.map (fun z : Str => z.toList)
    | none => a.parts.length = b.parts.length → a.parts.map (fun z : Str => z.toList) = b.parts.map (fun z : Str => z.toList) := cNL a.parts b.parts []
  revert h
  cases spec_CompareNames_L1 b a.parts 0 with
  | some k => intro ⟨h1, h2⟩; simp [h1, h2]
  | none =>
    intro h
    by_cases hl : a.parts.length = b.parts.length
    · simp [h hl, hl]
    · have ne : a.parts.map (fun z : Str => z.toList) ≠ b.parts.map (fun z : Str => z.toList) := fun h => hl (by simpa using congrArg List.length h)
      rcases Nat.lt_or_gt_of_ne hl with c | c
      · simp [ne, c]
      · have c' : ¬ a.parts.length < b.parts.length := by omega
        simp [ne, c, c']
theorem vPL : ∀ l : List UInt8, impl_ValidPart_L1 l = spec_ValidPart_L1 l ∧ (spec_ValidPart_L1 l = none ∨ spec_ValidPart_L1 l = some false)
  | [] => ⟨rfl, .inl rfl⟩
  | c :: l => by
    obtain ⟨h1, h2⟩ := vPL l
    simp only [impl_ValidPart_L1, spec_ValidPart_L1, h1, spec_l1In, ge_iff_le]
    cases decide ((97 : Int) ≤ (c.toNat : Int)) <;> cases decide ((c.toNat : Int) ≤ 122) <;> cases decide ((48 : Int) ≤ (c.toNat : Int)) <;> cases decide ((c.toNat : Int) ≤ 57) <;> cases hc : ((c.toNat : Int) == 45) <;> simp [bne, hc, h2]
theorem same_ValidPart (s : Str) : impl_ValidPart s = spec_ValidPart s := by
  unfold impl_ValidPart spec_ValidPart
  obtain ⟨h1, h2⟩ := vPL s.data.toList
  rw [h1, same_In]
  rcases h2 with h | h <;> rw [h] <;> cases spec_l1In (((s).size : Nat) : Int) 1 8 <;> rfl
theorem iF_string : ∀ (f : Str → Bool) (l : List Str) (i : Nat), (slices_IndexFunc_string_L1 f l i = none ∧ l.any f = false) ∨ ∃ j : Nat, slices_IndexFunc_string_L1 f l i = some (j : Int) ∧ l.any f = true
  | f, [], i => .inl ⟨rfl, rfl⟩
  | f, x :: l, i => by
    simp only [slices_IndexFunc_string_L1, List.any_cons]
    cases hx : f x
    · simpa using iF_string f l (i + 1)
    · exact .inr ⟨i, rfl, rfl⟩
theorem cF_string (l : List Str) (f : Str → Bool) : slices_ContainsFunc_string l f = l.any f := by
  unfold slices_ContainsFunc_string slices_IndexFunc_string
  rcases iF_string f l 0 with ⟨h1, h2⟩ | ⟨j, h1, h2⟩ <;> simp [h1, h2]
theorem vNL : ∀ l : List Str, spec_ValidName_L1 l = bif l.any (fun e => !(spec_ValidPart e)) then some false else none
  | [] => rfl
  | x :: l => by
    simp only [spec_ValidName_L1, List.any_cons]
    cases (!(spec_ValidPart x)) <;> simp [vNL l]
theorem same_ValidName (a : Name) : impl_ValidName a = spec_ValidName a := by
  unfold impl_ValidName spec_ValidName impl_ValidName_c1
  rw [cF_string, vNL]
  simp only [same_ValidPart]
  cases a.parts.any (fun e => !(spec_ValidPart e)) <;> cases decide ((((a.parts).length : Nat) : Int) ≤ 6) <;> rfl
theorem cmp_l4 (x y : Str) : cmp_Compare_string x y = spec_l4Cmp x y := by
  simp [cmp_Compare_string, cmp_isNaN_string, spec_l4Cmp]
theorem cCL : ∀ (a b p : List Str), (slices_Compare_string_L1 (p ++ b) a p.length = spec_CompareNames_L1 ⟨p ++ b⟩ a p.length ∧ (spec_CompareNames_L1 ⟨p ++ b⟩ a p.length = none → a.length ≤ b.length)) ∨ (slices_Compare_string_L1 (p ++ b) a p.length = some 1 ∧ spec_CompareNames_L1 ⟨p ++ b⟩ a p.length = none ∧ b.length < a.length)
  | [], b, p => .inl ⟨rfl, fun _ => Nat.zero_le _⟩
  | x :: a, [], p => .inr (by simp [slices_Compare_string_L1, spec_CompareNames_L1])
  | x :: a, y :: b, p => by
    have ih := cCL a b (p ++ [y])
    rw [mid_app, mid_len] at ih
    have hlt : decide (((p.length : Nat) : Int) < (((p ++ y :: b).length : Nat) : Int)) = true := by simp; omega
    have hge : decide (((p.length : Nat) : Int) ≥ (((p ++ y :: b).length : Nat) : Int)) = false := by simp; omega
    simp only [spec_CompareNames_L1, slices_Compare_string_L1, hlt, hge, cond_true, cond_false, mid, cmp_l4, List.length_cons]
    cases (spec_l4Cmp x y != 0)
    · simp only [cond_false]
      rcases ih with ⟨h1, h2⟩ | ⟨h1, h2, h3⟩
      · exact .inl ⟨h1, fun h => by have := h2 h; omega⟩
      · exact .inr ⟨h1, h2, by omega⟩
    · exact .inl ⟨rfl, fun h => by cases h⟩
theorem same_CompareNames (a b : Name) : impl_CompareNames a b = spec_CompareNames a b := by
  unfold impl_CompareNames slices_Compare_string spec_CompareNames
  have h : (slices_Compare_string_L1 b.parts a.parts 0 = spec_CompareNames_L1 b a.parts 0 ∧ (spec_CompareNames_L1 b a.parts 0 = none → a.parts.length ≤ b.parts.length)) ∨ (slices_Compare_string_L1 b.parts a.parts 0 = some 1 ∧ spec_CompareNames_L1 b a.parts 0 = none ∧ b.parts.length < a.parts.length) := cCL a.parts b.parts []
  rcases h with ⟨h1, h2⟩ | ⟨h1, h2, h3⟩
  · rw [h1]
    cases hs : spec_CompareNames_L1 b a.parts 0 with
    | some k => rfl
    | none =>
      have := h2 hs
      have c : decide ((((a.parts).length : Nat) : Int) > (((b.parts).length : Nat) : Int)) = false := by simp; omega
      simp only [c, cond_false]
  · rw [h1, h2]
    have c : decide ((((a.parts).length : Nat) : Int) > (((b.parts).length : Nat) : Int)) = true := by simp; omega
    have d : decide ((((a.parts).length : Nat) : Int) < (((b.parts).length : Nat) : Int)) = false := by simp; omega
    simp only [c, d, cond_false, cond_true]
theorem vTL (l : List TableEntry) : ∀ (r : List TableEntry) (i : Nat), impl_ValidTable_L1 l r i = spec_ValidTable_L1 l r i
  | [], _ => rfl
  | x :: r, i => by simp only [impl_ValidTable_L1, spec_ValidTable_L1, same_ValidName, same_CompareNames, vTL l r]
theorem same_ValidTable (l : List TableEntry) : impl_ValidTable l = spec_ValidTable l := by
  unfold impl_ValidTable spec_ValidTable
  rw [vTL]
theorem iF_TableEntry : ∀ (f : TableEntry → Bool) (l : List TableEntry) (i : Nat), (slices_IndexFunc_TableEntry_L1 f l i = none ∧ l.any f = false) ∨ ∃ j : Nat, slices_IndexFunc_TableEntry_L1 f l i = some (j : Int) ∧ l.any f = true
  | f, [], i => .inl ⟨rfl, rfl⟩
  | f, x :: l, i => by
    simp only [slices_IndexFunc_TableEntry_L1, List.any_cons]
    cases hx : f x
    · simpa using iF_TableEntry f l (i + 1)
    · exact .inr ⟨i, rfl, rfl⟩
theorem cF_TableEntry (l : List TableEntry) (f : TableEntry → Bool) : slices_ContainsFunc_TableEntry l f = l.any f := by
  unfold slices_ContainsFunc_TableEntry slices_IndexFunc_TableEntry
  rcases iF_TableEntry f l 0 with ⟨h1, h2⟩ | ⟨j, h1, h2⟩ <;> simp [h1, h2]
theorem vVL : ∀ l : List TableEntry, spec_ValidVector_L1 l = bif l.any (fun e => !(spec_l1In e.value 1 1000)) then some false else none
  | [] => rfl
  | x :: l => by
    simp only [spec_ValidVector_L1, List.any_cons]
    cases (!(spec_l1In x.value 1 1000)) <;> simp [vVL l]
theorem same_ValidVector' (a : StateVector) : impl_ValidVector a = spec_ValidVector a := by
  unfold impl_ValidVector spec_ValidVector impl_ValidVector_c1
  rw [cF_TableEntry, vVL, same_ValidTable]
  simp only [same_In]
  cases a.entries.any (fun e => !(spec_l1In e.value 1 1000)) <;> cases spec_ValidTable a.entries <;> rfl
theorem ixL (n_ : Name) : ∀ (l : List TableEntry) (i : Nat), slices_IndexFunc_TableEntry_L1 (fun e0_ => impl_indexOfName_c1 n_ e0_) l i = spec_l6Find_L1 n_ l i
  | [], i => rfl
  | x :: l, i => by
    simp only [slices_IndexFunc_TableEntry_L1, spec_l6Find_L1]
    rw [ixL n_ l (i + 1), show impl_indexOfName_c1 n_ x = spec_EqualNames x.name n_ from same_EqualNames _ _]
theorem same_indexOfName (l : List TableEntry) (n_ : Name) : impl_indexOfName l n_ = spec_l6Find l n_ := by
  unfold impl_indexOfName slices_IndexFunc_TableEntry spec_l6Find
  rw [ixL] <;> (cases spec_l6Find_L1 n_ l 0 <;> rfl)
theorem same_LookupEntry (l : List TableEntry) (n_ : Name) : impl_LookupEntry l n_ = spec_LookupEntry l n_ := by
  simp only [impl_LookupEntry, spec_LookupEntry, same_indexOfName]
theorem same_SeqOf' (v : StateVector) (n_ : Name) : impl_SeqOf v n_ = spec_SeqOf v n_ := by
  simp only [impl_SeqOf, spec_SeqOf, same_LookupEntry]
theorem nTL (a : StateVector) (e1 : TableEntry) (m : Nat) (o : List TableEntry) (k : Int) (hm : 20 - o.length = m) : impl_NewerThan_L2 a e1 o k = spec_NewerThan_L2 a e1 o k := by
  rw [impl_NewerThan_L2, spec_NewerThan_L2, same_SeqOf']
  by_cases h1 : k < spec_SeqOf a e1.name
  · by_cases h2 : ((o.length : Nat) : Int) < 20
    · simp only [h1, h2, ↓reduceIte]
      exact nTL a e1 (m - 1) _ _ (by simp; omega)
    · simp only [h1, h2, ↓reduceIte]
  · simp only [h1, ↓reduceIte]
termination_by m
decreasing_by omega
theorem nTL1 (a b : StateVector) : ∀ (l o : List TableEntry), impl_NewerThan_L1 a b l o = spec_NewerThan_L1 a b l o
  | [], o => rfl
  | e :: l, o => by
    simp only [impl_NewerThan_L1, spec_NewerThan_L1, same_SeqOf', nTL a e _ o _ rfl]
    exact nTL1 a b l _
theorem same_NewerThan' (a b : StateVector) : impl_NewerThan a b = spec_NewerThan a b := by
  simp only [impl_NewerThan, spec_NewerThan, nTL1]
theorem nTB2 (a : StateVector) (e1 : TableEntry) (B : Nat) (he : sz e1 ≤ B) (m : Nat) (o : List TableEntry) (k : Int) (hm : 20 - o.length = m) (hl : o.length ≤ 20) (ho : ∀ e ∈ o, sz e ≤ B) : (spec_NewerThan_L2 a e1 o k).1.length ≤ 20 ∧ ∀ e ∈ (spec_NewerThan_L2 a e1 o k).1, sz e ≤ B := by
  rw [spec_NewerThan_L2]
  by_cases h1 : k < spec_SeqOf a e1.name
  · by_cases h2 : ((o.length : Nat) : Int) < 20
    · simp only [h1, h2, ↓reduceIte]
      exact nTB2 a e1 B he (m - 1) _ _ (by simp; omega) (by simp; omega) (by
        intro e hm'
        rcases List.mem_append.1 hm' with h | h
        · exact ho e h
        · obtain rfl := List.mem_singleton.1 h
          rw [sz_TableEntry] at he ⊢
          exact he)
    · simp only [h1, h2, ↓reduceIte]
      exact ⟨hl, ho⟩
  · simp only [h1, ↓reduceIte]
    exact ⟨hl, ho⟩
termination_by m
decreasing_by omega
theorem nTB1 (a b : StateVector) (B : Nat) : ∀ (l o : List TableEntry), (∀ e ∈ l, sz e ≤ B) → o.length ≤ 20 → (∀ e ∈ o, sz e ≤ B) → (spec_NewerThan_L1 a b l o).length ≤ 20 ∧ ∀ e ∈ spec_NewerThan_L1 a b l o, sz e ≤ B
  | [], o, _, h1, h2 => ⟨h1, h2⟩
  | e :: l, o, h, h1, h2 => by
    have q := nTB2 a e B (h e List.mem_cons_self) _ o (spec_SeqOf b e.name) rfl h1 h2
    exact nTB1 a b B l _ (fun x hx => h x (List.mem_cons_of_mem _ hx)) q.1 q.2
theorem pAL (n_ : Name) (i : Int) : ∀ (l : List Publication) (k : Nat), slices_IndexFunc_Publication_L1 (fun e0_ => impl_publishedAt_c1 i n_ e0_) l k = spec_l28Find_L1 n_ i l k
  | [], k => rfl
  | x :: l, k => by
    have ih := pAL n_ i l (k + 1)
    have h : impl_publishedAt_c1 i n_ x = (bif (x.seq == i) then spec_EqualNames x.publisher n_ else false) := by rw [← same_EqualNames]; rfl
    simp only [slices_IndexFunc_Publication_L1, spec_l28Find_L1, h]
    cases (x.seq == i) <;> cases spec_EqualNames x.publisher n_ <;> first | rfl | exact ih
theorem same_publishedAt (l : List Publication) (n_ : Name) (i : Int) : impl_publishedAt l n_ i = spec_l28Find l n_ i := by
  unfold impl_publishedAt slices_IndexFunc_Publication spec_l28Find
  rw [pAL] <;> (cases spec_l28Find_L1 n_ i l 0 <;> rfl)
theorem same_FindPublication' (m : Member) (n_ : Name) (i : Int) : impl_FindPublication m n_ i = spec_FindPublication m n_ i := by
  simp only [impl_FindPublication, spec_FindPublication, same_publishedAt]
theorem bnd_FindPublication (m : Member) (n_ : Name) (i : Int) : sz (spec_FindPublication m n_ i).1 ≤ sz m := by
  unfold spec_FindPublication
  cases decide (spec_l28Find m.publications n_ i < 0)
  · simp only [cond_false]
    cases h : (m.publications)[(spec_l28Find m.publications n_ i).toNat]? with
    | none => exact Nat.zero_le _
    | some e1 =>
      have h1 := sz_le_sum (List.mem_of_getElem? h)
      show sz e1.content ≤ sz m
      rw [sz_Member, sz_list m.publications]
      rw [sz_Publication] at h1
      omega
  · exact Nat.zero_le _
theorem vSL : ∀ (l : List TableEntry) (s : Int), impl_VectorSum_L1 l s = spec_VectorSum_L1 l s
  | [], _ => rfl
  | x :: l, s => vSL l _
theorem same_VectorSum' (v : StateVector) : impl_VectorSum v = spec_VectorSum v := vSL v.entries 0
theorem vML (m : Member) : ∀ (l : List Publication) (i : Nat), impl_ValidMember_L1 m l i = spec_ValidMember_L1 m l i ∧ (spec_ValidMember_L1 m l i = none ∨ spec_ValidMember_L1 m l i = some false)
  | [], i => ⟨rfl, .inl rfl⟩
  | x :: l, i => by
    obtain ⟨h1, h2⟩ := vML m l (i + 1)
    simp only [impl_ValidMember_L1, spec_ValidMember_L1, same_In, same_SeqOf', same_publishedAt, h1]
    refine ⟨trivial, ?_⟩
    cases (!(spec_l1In x.seq 1 (spec_SeqOf m.vector x.publisher))) <;> cases decide ((((x.content).length : Nat) : Int) > 60) <;> cases decide ((spec_l28Find (List.take i m.publications) x.publisher x.seq) ≥ 0) <;> first | exact h2 | exact .inr rfl
theorem same_ValidMember' (m : Member) : impl_ValidMember m = spec_ValidMember m := by
  obtain ⟨h1, h2⟩ := vML m m.publications 0
  have hb : ((((m.publications).length : Nat) : Int) != (spec_VectorSum m.vector)) = !((spec_VectorSum m.vector) == (((m.publications).length : Nat) : Int)) := by rw [bne, BEq.comm]
  simp only [impl_ValidMember, spec_ValidMember, same_ValidName, same_ValidVector', same_VectorSum', h1, hb]
  rcases h2 with h | h <;> rw [h] <;> cases ((spec_VectorSum m.vector) == (((m.publications).length : Nat) : Int)) <;> rfl
theorem spL1 (l : List TableEntry) (n_ : Name) : ∀ (m i : Nat), l.length - i = m → i ≤ l.length → spec_PutEntry_L1 l n_ i = i + (l.drop i).findIdx (fun e => !decide (spec_CompareNames e.name n_ < 0))
  | 0, i, hm, hi => by
    rw [spec_PutEntry_L1, cT_spec]
    rw [if_neg (by omega), List.drop_eq_nil_of_le (by omega)]
    simp
  | m + 1, i, hm, hi => by
    have hlt : i < l.length := by omega
    have hg : l[i]? = some l[i] := List.getElem?_eq_getElem hlt
    rw [spec_PutEntry_L1, cT_spec]
    rw [if_pos (by omega), List.drop_eq_getElem_cons hlt, List.findIdx_cons]
    simp only [hg]
    by_cases hc : spec_CompareNames l[i].name n_ < 0
    · rw [if_pos hc, spL1 l n_ m (i + 1) (by omega) (by omega)]
      simp only [hc, decide_true, Bool.not_true, cond_false]
      omega
    · rw [if_neg hc]
      simp only [hc, decide_false, Bool.not_false, cond_true, Nat.add_zero]
theorem ifF (f : TableEntry → Bool) : ∀ (l : List TableEntry) (i : Nat), slices_IndexFunc_TableEntry_L1 f l i = if l.findIdx f < l.length then some ((i + l.findIdx f : Nat) : Int) else none
  | [], i => by simp [slices_IndexFunc_TableEntry_L1]
  | x :: l, i => by
    simp only [slices_IndexFunc_TableEntry_L1, List.findIdx_cons, List.length_cons]
    cases hx : f x
    · simp only [cond_false]
      rw [ifF f l (i + 1)]
      by_cases h : l.findIdx f < l.length
      · rw [if_pos h, if_pos (by omega), show i + 1 + l.findIdx f = i + (l.findIdx f + 1) by omega]
      · rw [if_neg h, if_neg (by omega)]
    · simp only [cond_true, Nat.add_zero]
      rw [if_pos (by omega)]
theorem fiC {f g : TableEntry → Bool} : ∀ {l : List TableEntry}, (∀ a ∈ l, f a = g a) → l.findIdx f = l.findIdx g
  | [], _ => rfl
  | x :: l, h => by
    rw [List.findIdx_cons, List.findIdx_cons, h x List.mem_cons_self, fiC (fun a ha => h a (List.mem_cons_of_mem _ ha))]
theorem l6N (n_ : Name) : ∀ (l : List TableEntry) (i : Nat), spec_l6Find_L1 n_ l i = none → ∀ a ∈ l, spec_EqualNames a.name n_ = false
  | [], i, h, a, ha => by cases ha
  | x :: l, i, h, a, ha => by
    simp only [spec_l6Find_L1] at h
    cases hx : spec_EqualNames x.name n_
    · rw [hx, cond_false] at h
      rcases List.mem_cons.1 ha with rfl | ha
      · exact hx
      · exact l6N n_ l (i + 1) h a ha
    · rw [hx, cond_true] at h
      cases h
theorem l6S (n_ : Name) : ∀ (l : List TableEntry) (i : Nat) (j : Int), spec_l6Find_L1 n_ l i = some j → 0 ≤ j
  | [], i, j, h => by cases h
  | x :: l, i, j, h => by
    simp only [spec_l6Find_L1] at h
    cases hx : spec_EqualNames x.name n_
    · rw [hx, cond_false] at h
      exact l6S n_ l (i + 1) j h
    · rw [hx, cond_true] at h
      cases h
      omega
theorem same_PutEntry (l : List TableEntry) (n_ : Name) (v : Int) : impl_PutEntry l n_ v = spec_PutEntry l n_ v := by
  unfold impl_PutEntry spec_PutEntry
  rw [cT_impl, cT_spec, same_indexOfName]
  cases hd : decide (spec_l6Find l n_ ≥ 0)
  · have hno : ∀ a ∈ l, spec_EqualNames a.name n_ = false := by
      cases hx : spec_l6Find_L1 n_ l 0 with
      | none => exact l6N n_ l 0 hx
      | some j =>
        have h1 := l6S n_ l 0 j hx
        have h2 := of_decide_eq_false hd
        have h3 : spec_l6Find l n_ = j := by unfold spec_l6Find; rw [hx]
        omega
    have hF : l.findIdx (fun e0_ => impl_PutEntry_c1 n_ e0_) = l.findIdx (fun e => !decide (spec_CompareNames e.name n_ < 0)) := fiC fun a ha => by
      have h1 := hno a ha
      unfold spec_EqualNames at h1
      have h2 : spec_CompareNames a.name n_ ≠ 0 := by simpa using h1
      unfold impl_PutEntry_c1
      rw [same_CompareNames]
      by_cases hc : spec_CompareNames a.name n_ < 0
      · rw [decide_eq_false (show ¬ spec_CompareNames a.name n_ > 0 by omega), decide_eq_true hc]; rfl
      · rw [decide_eq_true (show spec_CompareNames a.name n_ > 0 by omega), decide_eq_false hc]; rfl
    have hS := spL1 l n_ l.length 0 (Nat.sub_zero _) (Nat.zero_le _)
    rw [Nat.zero_add, List.drop_zero, ← hF] at hS
    have hle : l.findIdx (fun e0_ => impl_PutEntry_c1 n_ e0_) ≤ l.length := List.findIdx_le_length
    have hI := ifF (fun e0_ => impl_PutEntry_c1 n_ e0_) l 0
    simp only [cond_false, same_ValidTable, hS]
    by_cases hlt : l.findIdx (fun e0_ => impl_PutEntry_c1 n_ e0_) < l.length
    · rw [if_pos hlt, Nat.zero_add] at hI
      have hJ : slices_IndexFunc_TableEntry l (fun e0_ => impl_PutEntry_c1 n_ e0_) = ((l.findIdx (fun e0_ => impl_PutEntry_c1 n_ e0_) : Nat) : Int) := by unfold slices_IndexFunc_TableEntry; rw [hI]
      rw [hJ, decide_eq_false (show ¬ ((l.findIdx (fun e0_ => impl_PutEntry_c1 n_ e0_) : Nat) : Int) < 0 by omega), cond_false]
      unfold slices_Insert_TableEntry
      rw [Int.toNat_natCast]
      rfl
    · rw [if_neg hlt] at hI
      have hJ : slices_IndexFunc_TableEntry l (fun e0_ => impl_PutEntry_c1 n_ e0_) = -1 := by unfold slices_IndexFunc_TableEntry; rw [hI]
      have hE : l.findIdx (fun e0_ => impl_PutEntry_c1 n_ e0_) = l.length := by omega
      rw [hJ, show decide ((-1 : Int) < 0) = true from rfl, cond_true, hE]
      unfold slices_Insert_TableEntry
      rw [Int.toNat_natCast]
      rfl
  · simp only [cond_true, same_ValidTable]
theorem szL_append {α : Type} [GoT α] [Sz α] (a b : List α) : szL (a ++ b) = szL a + szL b := by simp [szL]
theorem szL_set {α : Type} [GoT α] [Sz α] (x y : α) (hxy : sz x = sz y) : ∀ (l : List α) (i : Nat), l[i]? = some y → szL (l.set i x) = szL l
  | [], i, h => by simp at h
  | z :: l, 0, h => by
    simp at h; subst h
    rw [List.set_cons_zero, szL_cons, szL_cons, hxy]
  | z :: l, i + 1, h => by
    rw [List.set_cons_succ, szL_cons, szL_cons, szL_set x y hxy l i (by simpa using h)]
theorem PutShape.size {l r : List TableEntry} {n_ : Name} {v : Int} (h : PutShape l n_ v r) : sz r ≤ sz l + 1 + sz n_ := by
  cases h with
  | same => omega
  | nil => simp [sz_list, szL_nil]
  | set i e h =>
    have := szL_set ⟨e.name, v⟩ e (by rw [sz_TableEntry, sz_TableEntry]) l i h
    rw [sz_list, sz_list, List.length_set, this]; omega
  | ins i =>
    have h1 := szL_append (l.take i) (l.drop i)
    rw [List.take_append_drop] at h1
    have h2 : szL [(⟨n_, v⟩ : TableEntry)] = sz n_ := by simp [szL, sz_TableEntry]
    rw [sz_list, sz_list, szL_append, szL_append, h2]
    simp only [List.length_append, List.length_take, List.length_drop, List.length_cons, List.length_nil]
    omega
theorem same_AcceptPublication' (m : Member) (x_ : Publication) : impl_AcceptPublication m x_ = spec_AcceptPublication m x_ := by
  simp only [impl_AcceptPublication, spec_AcceptPublication, cM_impl, cM_spec, same_SeqOf', same_PutEntry, same_ValidMember', impl_copyName, spec_l4Copy]
theorem bif_elim {α : Type} {P : α → Prop} {c : Bool} {a b : α} (h1 : P a) (h2 : P b) : P (bif c then a else b) := by
  cases c
  · exact h2
  · exact h1
theorem bnd_AcceptPublication (m : Member) (x_ : Publication) : sz (spec_AcceptPublication m x_).1 ≤ sz m + 2 * sz x_ + 2 := by
  unfold spec_AcceptPublication
  rw [cM_spec]
  have h := (put_spec m.vector.entries x_.publisher x_.seq).size
  have h0 : sz m ≤ sz m + 2 * sz x_ + 2 := by omega
  have h1 : sz (Member.mk m.name (StateVector.mk (spec_PutEntry m.vector.entries x_.publisher x_.seq).1) (m.publications ++ [Publication.mk (spec_l4Copy x_.publisher) x_.seq x_.content])) ≤ sz m + 2 * sz x_ + 2 := by
    simp only [spec_l4Copy]
    rw [sz_Member, sz_Member, sz_StateVector, sz_StateVector, sz_Publication, sz_list (m.publications ++ _), sz_list m.publications, szL_append]
    have h2 : szL [Publication.mk x_.publisher x_.seq x_.content] = sz x_.publisher + sz x_.content := by simp [szL, sz_Publication]
    simp only [h2, List.length_append, List.length_cons, List.length_nil]
    omega
  refine bif_elim (P := fun z : Member × Bool => sz z.1 ≤ sz m + 2 * sz x_ + 2) h0 (bif_elim (P := fun z : Member × Bool => sz z.1 ≤ sz m + 2 * sz x_ + 2) h0 (bif_elim (P := fun z : Member × Bool => sz z.1 ≤ sz m + 2 * sz x_ + 2) h0 h1))
theorem cuL (fr : Member) : ∀ (l : List TableEntry) (a : List Str) (b : List TableEntry) (c : List Publication), impl_CatchUp_L1 fr l a b c = spec_CatchUp_L1 fr l a b c
  | [], a, b, c => rfl
  | x :: l, a, b, c => by
    simp only [impl_CatchUp_L1, spec_CatchUp_L1, same_FindPublication', same_AcceptPublication', cuL fr l]
theorem same_CatchUp' (m fr : Member) : impl_CatchUp m fr = spec_CatchUp m fr := by
  simp only [impl_CatchUp, spec_CatchUp, impl_MissingFrom, spec_MissingFrom, same_NewerThan', cM_impl, cM_spec, cuL]
def cuM (t : List Str × List TableEntry × List Publication) : Member := Member.mk (Name.mk t.1) (StateVector.mk t.2.1) t.2.2
theorem cuB (fr : Member) (B : Nat) : ∀ (l : List TableEntry) (a : List Str) (b : List TableEntry) (c : List Publication), (∀ e ∈ l, sz e ≤ B) → sz (cuM (spec_CatchUp_L1 fr l a b c)) ≤ sz (cuM (a, b, c)) + l.length * (2 + 2 * (B + sz fr))
  | [], a, b, c, _ => by simp [spec_CatchUp_L1]
  | x :: l, a, b, c, h => by
    have hx := h x List.mem_cons_self
    rw [sz_TableEntry] at hx
    have ht : ∀ e ∈ l, sz e ≤ B := fun e he => h e (List.mem_cons_of_mem _ he)
    have hF := bnd_FindPublication fr x.name x.value
    have hA := bnd_AcceptPublication (cuM (a, b, c)) (Publication.mk x.name x.value (spec_FindPublication fr x.name x.value).1)
    rw [sz_Publication] at hA
    dsimp only at hA
    rw [List.length_cons, Nat.add_mul, Nat.one_mul]
    simp only [spec_CatchUp_L1]
    cases (spec_FindPublication fr x.name x.value).2
    · have := cuB fr B l a b c ht
      simp only [cond_false]
      omega
    · simp only [cond_true]
      have h1 := cuB fr B l (spec_AcceptPublication (cuM (a, b, c)) (Publication.mk x.name x.value (spec_FindPublication fr x.name x.value).1)).1.name.parts (spec_AcceptPublication (cuM (a, b, c)) (Publication.mk x.name x.value (spec_FindPublication fr x.name x.value).1)).1.vector.entries (spec_AcceptPublication (cuM (a, b, c)) (Publication.mk x.name x.value (spec_FindPublication fr x.name x.value).1)).1.publications ht
      have h2 : cuM ((spec_AcceptPublication (cuM (a, b, c)) (Publication.mk x.name x.value (spec_FindPublication fr x.name x.value).1)).1.name.parts, (spec_AcceptPublication (cuM (a, b, c)) (Publication.mk x.name x.value (spec_FindPublication fr x.name x.value).1)).1.vector.entries, (spec_AcceptPublication (cuM (a, b, c)) (Publication.mk x.name x.value (spec_FindPublication fr x.name x.value).1)).1.publications) = (spec_AcceptPublication (cuM (a, b, c)) (Publication.mk x.name x.value (spec_FindPublication fr x.name x.value).1)).1 := rfl
      rw [h2] at h1
      exact Nat.le_trans h1 (by omega)
theorem bnd_CatchUp (m fr : Member) : sz (spec_CatchUp m fr) ≤ sz m + 40 + 80 * sz fr := by
  have q := nTB1 fr.vector m.vector (sz fr.vector) fr.vector.entries [] (fun e he => by rw [sz_StateVector, sz_list]; have := sz_le_sum he; omega) (by simp) (fun e he => by cases he)
  have h0 : sz fr.vector ≤ sz fr := by rw [sz_Member]; omega
  have h1 := cuB fr (sz fr.vector) (spec_NewerThan fr.vector m.vector) m.name.parts m.vector.entries m.publications q.2
  have h2 : (spec_NewerThan fr.vector m.vector).length ≤ 20 := q.1
  have h3 : (spec_NewerThan fr.vector m.vector).length * (2 + 2 * (sz fr.vector + sz fr)) ≤ 20 * (2 + 2 * (sz fr.vector + sz fr)) := Nat.mul_le_mul_right _ h2
  have h4 : spec_CatchUp m fr = cuM (spec_CatchUp_L1 fr (spec_NewerThan fr.vector m.vector) m.name.parts m.vector.entries m.publications) := by
    simp only [spec_CatchUp, spec_MissingFrom, cM_spec]
    rfl
  have h5 : cuM (m.name.parts, m.vector.entries, m.publications) = m := rfl
  rw [h4]
  rw [h5] at h1
  omega
end Go.Stp

namespace Go.Stp
open Go.RowKit (Below)
open GoT (X k ok sh fa oa)
def Opens (P : Program) (T : TypeId) (α : Type) [GoT α] : Prop :=
  P.cellsOf T = k α ∧ ∀ {H : Type} {enc : TypeId × Value → H} {w : World} {spare : Nat → Bool} {held : Bool} {fuel : Nat} {cs : List Value} {x : DataW H × List MemPlace}, DataW.trod enc P w 0 spare held fuel T cs = some x →
    ∃ (a : α) (y : X α), cs = sh a y ∧ ok 10 a ∧ All (hp w) (fa .der a y)
theorem opens_int {P : Program} {T : TypeId} (h : P.underlying T = some (.int .i64)) (hc : P.cellsOf T = 1) : Opens P T Int := ⟨hc, fun h' => by
  obtain ⟨n, rfl, _, hw⟩ := DataW.trod_int h h'
  exact ⟨n, (), rfl, by simpa [Lit.wf, IntKind.min, IntKind.max, IntKind.signed, IntKind.bits, ok, I64] using hw, (fun _ h_ => by cases h_)⟩⟩
theorem opens_str {P : Program} {T : TypeId} (h : P.underlying T = some .string) (hc : P.cellsOf T = 1) : Opens P T ByteArray := ⟨hc, fun h' => by
  obtain ⟨n, rfl, _, hw⟩ := DataW.trod_string h h'
  exact ⟨n, (), rfl, (by simp only [maxLen] at hw; omega : n.size ≤ 9223372036854775807), (fun _ h_ => by cases h_)⟩⟩
theorem opens_byte {P : Program} {T : TypeId} (h : P.underlying T = some (.int .u8)) (hc : P.cellsOf T = 1) : Opens P T UInt8 := ⟨hc, fun h' => by
  obtain ⟨n, rfl, _, hw⟩ := DataW.trod_int h h'
  have hn : 0 ≤ n ∧ n ≤ 255 := by simpa [Lit.wf, IntKind.min, IntKind.max, IntKind.signed, IntKind.bits] using hw
  refine ⟨UInt8.ofNat n.toNat, (), ?_, trivial, (fun _ h_ => by cases h_)⟩
  have : ((UInt8.ofNat n.toNat).toNat : Int) = n := by
    rw [UInt8.toNat_ofNat', Nat.mod_eq_of_lt (by omega)]; omega
  simp only [sh]
  rw [this]⟩
theorem cells?_each {w : World} {a : Addr} {n : Nat} {cs : List Value} (h : w.cells? 0 a n = some cs) : ∀ j u, cs[j]? = some u → w.cell? (a.add j) = some u := by
  intro j u hj
  obtain ⟨_, h1, h2⟩ := World.cells?_some h
  rw [h2 j (by rw [← h1]; exact (List.getElem?_eq_some_iff.1 hj).1)]; exact hj
theorem opens_slice {P : Program} {T E : TypeId} {α : Type} [GoT α] (h : P.underlying T = some (.slice E)) (hc : P.cellsOf T = 1) (he : Opens P E α) : Opens P T (List α) := ⟨hc, fun {H enc w spare held fuel cs x} h' => by
  rcases DataW.trod_slice h h' with ⟨rfl, _⟩ | ⟨a, len, cap, elems, rest, n, _, rfl, _, _, hl, hm, hlen, hel, _, _⟩
  · exact ⟨[], (none, 0), rfl, ⟨Nat.zero_le _, fun _ h_ => by cases h_⟩, fun f hf => by
      obtain rfl := List.mem_singleton.1 hf
      exact ⟨Nat.zero_le _, Nat.zero_le _, [], fun j u h => by simp at h, rfl⟩⟩
  · have key : ∀ m, m ≤ len → ∃ (l : List α) (xs : List Value), l.length = m ∧ xs.length = m * k α ∧ RdL (hp w) xs l ∧ (∀ b ∈ l, ok 10 b) ∧ CellsAt (hp w) (some a) xs := by
      intro m
      induction m with
      | zero => exact fun _ => ⟨[], [], rfl, by simp, rfl, by simp, fun j u h => by simp at h⟩
      | succ m ih =>
        intro hmle
        obtain ⟨l, xs, h1, h2, h3, h4, h5⟩ := ih (by omega)
        have hm' := hel m (by omega)
        rw [he.1] at hm'
        obtain ⟨y, hy⟩ : ∃ y, elems[m]? = some y := ⟨_, List.getElem?_eq_getElem (by omega)⟩
        rw [hy, Option.bind_eq_some_iff] at hm'
        obtain ⟨cs', hcs, htr⟩ := hm'
        obtain ⟨b, yb, rfl, hok, hfa⟩ := he.2 htr
        refine ⟨l ++ [b], xs ++ sh b yb, by simp [h1], by rw [List.length_append, h2, GoT.len, Nat.add_mul]; omega, h3.snoc hfa, ?_, ?_⟩
        · intro c hc
          rcases List.mem_append.1 hc with hc | hc
          · exact h4 c hc
          · simp at hc; subst hc; exact hok
        · intro j u hj
          refine ⟨a, rfl, ?_⟩
          by_cases hlt : j < xs.length
          · rw [List.getElem?_append_left hlt] at hj
            obtain ⟨a', ha', hg⟩ := h5 j u hj
            simp at ha'; subst ha'; exact hg
          · rw [List.getElem?_append_right (by omega)] at hj
            have := cells?_each hcs _ _ hj
            rw [addr_add_add, h2, show m * k α + (j - m * k α) = j by omega] at this
            exact this
    obtain ⟨l, xs, h1, h2, h3, h4, h5⟩ := key len (Nat.le_refl _)
    have hm' : len ≤ 9223372036854775807 := by simp only [maxLen] at hm; omega
    refine ⟨l, (some a, cap), by simp [sh, h1], ⟨by show l.length ≤ 9223372036854775807; omega, h4⟩, fun f hf => ?_⟩
    obtain rfl := List.mem_singleton.1 hf
    exact ⟨by omega, by omega, xs, h5, h3⟩⟩
def OpensF (P : Program) (fs : List Field) (off : Nat) (β : Type) [GoT β] : Prop :=
  ∀ {H : Type} {enc : TypeId × Value → H} {w : World} {spare : Nat → Bool} {held : Bool} {n : Nat} {cs : List Value},
    (∀ (i : Nat) (f : Field), fs[i]? = some f → ∃ y, DataW.trod enc P w 0 spare held n f.type ((cs.drop f.offset).take (P.cellsOf f.type)) = some y) →
    ∃ (b : β) (y : X β), (cs.drop off).take (k β) = sh b y ∧ ok 10 b ∧ All (hp w) (fa .der b y)
theorem opensF_one {P : Program} {f : Field} {off : Nat} {α : Type} [GoT α] (ho : f.offset = off) (hf : Opens P f.type α) : OpensF P [f] off α := fun {H enc w spare held n cs} h => by
  obtain ⟨y, hy⟩ := h 0 f rfl
  obtain ⟨a, ya, h1, h2, h3⟩ := hf.2 hy
  rw [hf.1, ho] at h1
  exact ⟨a, ya, h1, h2, h3⟩
theorem opensF_cons {P : Program} {f : Field} {fs : List Field} {off : Nat} {α β : Type} [GoT α] [GoT β] (ho : f.offset = off) (hf : Opens P f.type α) (hr : OpensF P fs (off + k α) β) : OpensF P (f :: fs) off (α × β) := fun {H enc w spare held n cs} h => by
  obtain ⟨y, hy⟩ := h 0 f rfl
  obtain ⟨a, ya, h1, h2, h3⟩ := hf.2 hy
  obtain ⟨b, yb, k1, k2, k3⟩ := hr (cs := cs) (fun i g hg => h (i + 1) g (by simpa using hg))
  rw [hf.1, ho] at h1
  refine ⟨(a, b), (ya, yb), ?_, ⟨h2, k2⟩, All.append h3 k3⟩
  show (cs.drop off).take (k α + k β) = sh a ya ++ sh b yb
  rw [← h1, ← k1, List.take_add, List.drop_drop]
theorem opens_struct {P : Program} {T : TypeId} {fs : Array Field} {α β : Type} [GoT β] (e : α → β) (mk : β → α) (hm : ∀ b, e (mk b) = b) (h : P.underlying T = some (.struct fs)) (hc : P.cellsOf T = k β) (hf : OpensF P fs.toList 0 β) :
    @Opens P T α (GoT.via e) := by
  letI : GoT α := GoT.via e
  refine ⟨hc, fun {H enc w spare held fuel cs x} h' => ?_⟩
  obtain ⟨xs, n, _, _, hcl, hxl, hall⟩ := DataW.trod_struct h h'
  obtain ⟨b, y, h1, h2, h3⟩ := hf (cs := cs) (fun i f hi => by
    have hi' : fs[i]? = some f := by simpa using hi
    have := hall i f hi'
    obtain ⟨z, hz⟩ : ∃ z, xs[i]? = some z := ⟨_, List.getElem?_eq_getElem (by rw [hxl]; exact (Array.getElem?_eq_some_iff.1 hi').1)⟩
    exact ⟨z, by rw [this, hz]⟩)
  rw [List.drop_zero, List.take_of_length_le (by rw [hcl, hc]; exact Nat.le_refl _)] at h1
  refine ⟨mk b, y, ?_, ?_, ?_⟩
  · show cs = sh (e (mk b)) y; rw [hm]; exact h1
  · show ok 10 (e (mk b)); rw [hm]; exact h2
  · show All (hp w) (fa .der (e (mk b)) y); rw [hm]; exact h3

def Arg (P : Program) (T : TypeId) (α : Type) [GoT α] (mk : List Value → Value) : Prop :=
  ∀ {H : Type} {enc : TypeId × Value → H} {W : World} {b0 : Nat} {spare : Nat → Bool} {held : Bool} {v : Value} {d : DataW H} {ps : List MemPlace}, Value.okWide P W .any b0 T v → DataW.Trod enc P W 0 spare held T v d ps →
    ∃ (a : α) (y : X α), v = mk (sh a y) ∧ ok 10 a ∧ All (hp W) (fa .der a y)
theorem arg_struct {P : Program} {T : TypeId} {α : Type} [GoT α] {fs : Array Field} (h : P.underlying T = some (.struct fs)) (ho : Opens P T α) : Arg P T α (fun cs => .agg ⟨cs⟩) := by
  intro H enc W b0 spare held v d ps hval ⟨fuel, hf⟩
  simp only [Value.okWide, h] at hval
  obtain ⟨cs, rfl, _⟩ := hval
  obtain ⟨a, y, h1, h2, h3⟩ := ho.2 hf
  refine ⟨a, y, ?_, h2, h3⟩
  have : cs.toList = sh a y := by simpa [Value.cells] using h1
  rw [← this]
theorem trodAll_stays {H : Type} {enc : TypeId × Value → H} {P : Program} (hl : laidOutB P = true) {W W' : World} {sp : Nat → Bool} : ∀ {ts : List TypeId} {vs : List Value} {ds : List (DataW H)} {ps : List MemPlace},
    ts.all (fun t => P.readableRec t && decide (t < P.types.size)) = true → DataW.TrodAll enc P W 0 (fun _ => true) true ts vs ds ps → (∀ p ∈ ps, W.sameAt W' p) → (∀ p ∈ ps, sp p.block = true) → DataW.TrodAll enc P W' 0 sp true ts vs ds ps
  | [], [], [], _, _, h, _, _ => h
  | t :: ts, v :: vs, d :: ds, ps, ha, ⟨p, q, h1, h2, e⟩, hs, hsp => by
    simp only [List.all_cons, Bool.and_eq_true, decide_eq_true_eq] at ha
    subst e
    exact ⟨p, q, WideElems.Trod_stays hl ha.1.1 ha.1.2 h1 (fun x hx => hs x (List.mem_append_left _ hx)) (fun x hx => hsp x (List.mem_append_left _ hx)),
      trodAll_stays hl ha.2 h2 (fun x hx => hs x (List.mem_append_right _ hx)) (fun x hx => hsp x (List.mem_append_right _ hx)), rfl⟩
theorem trodAll_len {H : Type} {enc : TypeId × Value → H} {P : Program} {W : World} {b : Nat} {sp : Nat → Bool} {hd : Bool} : ∀ {ts : List TypeId} {vs : List Value} {ds : List (DataW H)} {ps : List MemPlace}, DataW.TrodAll enc P W b sp hd ts vs ds ps → ds.length = ts.length
  | [], [], [], _, _ => rfl
  | _ :: _, _ :: _, _ :: _, _, ⟨_, _, _, h2, _⟩ => by simp [trodAll_len h2]
theorem law_post {H : Type} {enc : TypeId × Value → H} {P : Program} {f : Func} {s : ChangeSpec} {W W' : World} {args : Array Value} {ds gs : List (DataW H)} {before : List MemPlace} {B : TypeId}
    (hl : laidOutB P = true) (hpar : f.params.toList.all (fun t => P.readableRec t && decide (t < P.types.size)) = true) (hvars : s.vars = []) (hB : f.resultTypes = #[B]) (hu : P.underlying B = some .bool)
    (hfn : ∀ ds : List (DataW H), ds.length = f.params.size → s.fn H ds = { results := [.lit (.bool true)], args := ds })
    (hW : DataW.Whole enc P f.params.toList s.vars false W args.toList ds gs before) (hb : Below W.heap.size W W') : s.post enc P f false true false false W args (.bool true) W' := by
  have hW' := hW
  have hlt : ∀ p ∈ before, p.block < W.heap.size := fun p hp => hW.lt p hp
  obtain ⟨p, q, hA, hV, rfl, hfz, hnd⟩ := hW'
  rw [hvars] at hV
  obtain ⟨rfl, rfl⟩ := ChangeShapes.trodVars_none hV
  have hlen : ds.length = f.params.size := by simpa using trodAll_len hA
  have hdd : s.fn H (ds ++ []) = { results := [.lit (.bool true)], args := ds } := by rw [List.append_nil]; exact hfn ds hlen
  have hres : ∀ (b : Nat) (sp : Nat → Bool) (hd : Bool), DataW.TrodAll enc P W' b sp hd f.resultTypes.toList ((Value.bool true).resultList f.resultTypes.size) (s.fn H (ds ++ [])).results [] := by
    intro b sp hd
    rw [hdd, hB]
    exact trodAll_cons_mk (RowKit.shut_bool hu _) ChangeShapes.trodAll_mk0
  have hargs : ∀ sp : Nat → Bool, (∀ x ∈ p ++ [], sp x.block = true) → DataW.TrodAll enc P W' 0 sp true f.params.toList args.toList (s.fn H (ds ++ [])).args p := by
    intro sp hsp
    rw [hdd]
    exact trodAll_stays hl hpar hA (fun x hx => hb.same (hlt x (by simpa using hx))) (fun x hx => hsp x (by simpa using hx))
  have hvars' : ∀ sp : Nat → Bool, DataW.TrodVars enc P W' sp s.vars (s.fn H (ds ++ [])).vars [] := by
    intro sp; rw [hvars, hdd]; rfl
  have hold : ∀ x ∈ p ++ [], (fun b => decide (b < W.heap.size)) x.block = true := fun x hx => by simpa using hlt x hx
  refine ⟨ds, [], p ++ [], [], p, [], hW, hres _ _ _, hargs _ hold, hvars' _, World.keptBut_mono (fun x hx => ⟨hx, Or.inr (by simpa using hx)⟩) (hb.frame (· ∈ p ++ [])), fun h => (by cases h)⟩
end Go.Stp

namespace Go.Proofs.YtfffongneoegbaaGreat.Facts
set_option maxRecDepth 100000
theorem laid : laidOutB Tryz.prog = true := by kernel_rfl
theorem rowed : mapsRowed Tryz.prog = true := by kernel_rfl
end Go.Proofs.YtfffongneoegbaaGreat.Facts

