/-
  What the proof of one law needs: rules of the program logic, functions as Lean functions, contracts. No condition but what each says. Written by a program (pack.py) out of my own texts.
-/
import Derived.Laws.IdiomStrings
import Derived.Test.YtolepebgdfdciaaGreatKFnGroups4
namespace Go.Proofs.YtolepebgdfdciaaGreat
open Go.Stp
set_option linter.unusedVariables false
set_option linter.unusedSimpArgs false
theorem f112 (w : World) (n : Nat) (hn : n + 0 ≤ 9) (m : Member) (K0 : Option Addr) (M0 : Nat) (N0 : RdSl (hp w) K0 M0 m.name.parts) (K1 : Option Addr) (M1 : Nat) (N1 : RdSl (hp w) K1 M1 m.vector.entries) (K2 : Option Addr) (M2 : Nat) (N2 : RdSl (hp w) K2 M2 m.publications) (hokm : GoT.ok n m) :
 Does Tryz.prog 112 #[.agg #[.slice K0 ((m.name.parts).length) M0, .slice K1 ((m.vector.entries).length) M1, .slice K2 ((m.publications).length) M2]] w emp (Post w emp (fun x : GoT.X (Member) => .agg ⟨GoT.sh ((a0j m) : Member) x⟩) (fun x => GoT.oa ((a0j m) : Member) x) (GoT.ok n ((a0j m) : Member))) := by
 have hbP := bd_pos n
 have hbB := bd_big (n := n) (by omega)
 refine WX.enter (tt := tt) (Γ := [(0, MF.rs .stb K0 M0 m.name.parts), (1, MF.rs .stb K1 M1 m.vector.entries), (2, MF.rs .stb K2 M2 m.publications)]) Tryz.func112 Z J Z (allS_cons Z N0 (allS_cons Z N1 (allS_cons Z N2 allS_nil))) ?_
 refine R0 ?_
 refine WX.draw [10] mixed ?_
 intro bs G0 hΓ0
 refine DX.takes (fuel := 6) ttOk [(0, true), (1, false), (3, true), (4, true), (5, false)] J Z ?_
 refine DX.pend 9 3 ⟨60, [.slice none (0) 0, .slice none (0) 0, .slice none (0) 0]⟩ ?_
 refine DXA.callF 2 3 (fun _ _ h => GoT.ow_rd h) (fun _ f hf => GoT.fak f hf) ttOk Z Z Z Z Z Z Z J J J Z Z Z Z Z Z Z Z Z Z O Z Z (fun w G bs hI hΓ => f113 w n (by omega) m.name K0 M0 (hΓ.get 0 Z) ((ok_Member hokm).1)) O O ?_
 rintro ⟨p1, c1⟩ hq1
 refine DXA.callF 6 5 (fun _ _ h => GoT.ow_rd h) (fun _ f hf => GoT.fak f hf) ttOk Z Z Z Z Z Z Z J J J Z Z Z Z Z Z Z Z Z Z O Z Z (fun w G bs hI hΓ => f137 w n (by omega) m.vector.entries K1 M1 (hΓ.get 1 Z) (ok_StateVector (ok_Member hokm).2.1)) O O ?_
 rintro ⟨p2, c2⟩ hq2
 have q1 := len_copyTable m.vector.entries
 refine DXA.take 7 J J Z Z Z Z Z Z Z Z (looksP_pure ttOk Z) ?_
 refine DXA.take 8 J J Z Z Z Z Z Z Z Z (looksP_pure ttOk Z) ?_
 refine DXA.tail [10] ttOk Z Z Z Z Z Z J Z Z J ?_
 refine R0 ?_
 refine WX.row0 501 3 none Z ?_
 refine WX.free 7 (MF.ol [] ([] : List Publication)) Z ?_
 have r1 : (m.publications).length ≤ bd n := (okl (ok_Member hokm).2.2).1
 refine WX.loop (ι := Nat × (Option Addr) × Nat × (List Value) × (List Publication)) ⟨fun | (i, pout, cout, xsout, out) => (i ≤ (m.publications).length) ∧ (∀ z_ ∈ out, GoT.ok n z_) ∧ (out.length ≤ i) ∧ (a2y m.publications ([] : List Publication) = a2y ((m.publications).drop i) out), fun | (i, pout, cout, xsout, out) => (m.publications).length - i, fun | (i, pout, cout, xsout, out) => [(18, .v (.int .i64 (((i : Nat) : Int)))), (17, .v (.int .i64 ((((m.publications).length : Nat) : Int)))), (16, .v (.slice K2 ((m.publications).length) M2)), (3, .p 3 0), (2, .p 2 0)], fun | (i, pout, cout, xsout, out) => [(3, ⟨60, [.slice p1 (((a09 m.name).parts).length) c1, .slice p2 (((a0a m.vector.entries)).length) c2, .slice pout ((out).length) cout]⟩), (2, ⟨60, [.slice none (0) 0, .slice none (0) 0, .slice none (0) 0]⟩)], fun | (i, pout, cout, xsout, out) => [(501, ⟨3, pout, (out).length, cout, xsout⟩)], fun | (i, pout, cout, xsout, out) => [(0, MF.rs .stb K0 M0 m.name.parts), (1, MF.rs .stb K1 M1 m.vector.entries), (2, MF.rs .stb K2 M2 m.publications), (4, MF.os p1 c1 ((a09 m.name).parts)), (6, MF.os p2 c2 (a0a m.vector.entries)), (7, MF.ol xsout (out : List Publication))]⟩ (0, none, 0, [], ([] : List Publication)) ⟨(Nat.zero_le _), (fun a ha => by cases ha), (by simp), Z⟩
  (.cons Z (.cons Z (.cons Z (.cons Z (.cons Z (.nil)))))) (.cons Z (.cons Z (.nil))) (.cons Z (.nil)) [0, 1, 2, 4, 6, 7] Z ?_
 rintro ⟨i, pout, cout, xsout, out⟩ hpre
 have hpre_ : (i ≤ (m.publications).length) ∧ (∀ z_ ∈ out, GoT.ok n z_) ∧ (out.length ≤ i) ∧ (a2y m.publications ([] : List Publication) = a2y ((m.publications).drop i) out) := hpre
 clear hpre
 obtain ⟨v1, v2, v3, v4⟩ := hpre_
 refine R0 ?_
 refine WX.cases 19 Z (fun h1 => ?_) (fun h1 => ?_)
 ·skip
  have h1d := B.dt h1
  have e1i : i < (m.publications).length := (by omega)
  obtain ⟨e1, e1h⟩ : ∃ e1, (m.publications)[i]? = some e1 := ⟨_, List.getElem?_eq_getElem e1i⟩
  have ok1 : GoT.ok n e1 := (okl (ok_Member hokm).2.2).2 _ (List.mem_of_getElem? e1h)
  refine R0 ?_
  refine WX.idx 2 i ttOk Z Z Z Z Z Z Z Z Z Z e1i ?_
  rintro ad1 rfl
  refine WX.ldE 2 8 e1 ttOk Z Z Z Z Z Z Z Z e1h O O ?_
  rintro ⟨⟨p3, c3⟩, ⟨⟩, ⟨p4, c4⟩⟩
  refine R0 ?_
  refine WX.der 10 (MF.rs .der p1 c1 ((a09 m.name).parts)) Z (fun _ hΓ => (hΓ.get 4 Z : OwSl _ _ _ _).rd) ?_
  refine WX.der 11 (MF.rs .der p2 c2 (a0a m.vector.entries)) Z (fun _ hΓ => (hΓ.get 6 Z : OwSl _ _ _ _).rd) ?_
  refine WX.draw [12, 13, 14] mixed ?_
  intro bs G0 hΓ0
  refine DX.takes (fuel := 7) ttOk [(0, true), (1, false), (2, true), (3, false), (5, true), (6, false), (7, true), (8, false)] J Z ?_
  refine DX.callF 4 12 (fun _ _ h => GoT.ow_rd h) (fun _ f hf => GoT.fak f hf) Z J Z Z Z Z Z Z O Z (fun w G bs hI hΓ => f113 w n (by omega) e1.publisher p3 c3 (hΓ.get 8 Z) ((ok_Publication ok1).1)) O O ?_
  rintro ⟨p5, c5⟩ hq3
  refine DX.callF 9 14 (fun _ _ h => GoT.ow_rd h) (fun _ f hf => GoT.fak f hf) Z J Z Z Z Z Z Z O Z (fun w G bs hI hΓ => f114 w n (by omega) e1.content p4 c4 (hΓ.get 9 Z) ((ok_Publication ok1).2.2)) O O ?_
  rintro ⟨p6, c6⟩ hq4
  refine DX.takes (fuel := 4) ttOk [(10, true)] J Z ?_
  refine DX.tail2 [11, 12, 13, 14] Z Z J ?_
  refine WX.bld ttOk Z Z Z Z Z Z Z ?_
  intro p7
  refine WX.turn [13, 15] 16 Z (fun h hs => ol_one (α := Publication) (a := (Publication.mk (a09 e1.publisher) e1.seq e1.content)) (x := ((p5, c5), (), (p6, c6))) hs) (gs := [MF.ol [.slice p5 (((a09 e1.publisher).parts).length) c5, .int .i64 (e1.seq), .slice p6 ((e1.content).length) c6] ([(Publication.mk (a09 e1.publisher) e1.seq e1.content)] : List Publication)]) Z ?_
  have r2 : -9223372036854775808 ≤ e1.seq ∧ e1.seq ≤ 9223372036854775807 := (ok_Publication ok1).2.1
  have r3 : (e1.content).length ≤ bd n := (okl (ok_Publication ok1).2.2).1
  refine WX.know (fun G hΓ => (hΓ.get 16 Z : OwL _ _ _).rd.one) ?_
  intro ho1
  refine WX.appR1 501 33 ((out ++ [(Publication.mk (a09 e1.publisher) e1.seq e1.content)]) : List Publication).length ttOk Z Z Z Z Z Z Z Z Z Z Z Z Z ho1 (by simp) (by simp; omega) (by simp; omega) (fun _ _ => Z) ?_
  intro p8 c7
  refine WX.turn [7, 16] 17 Z (fun h hs => ol_app hs) (gs := [MF.ol (xsout ++ [.slice p5 (((a09 e1.publisher).parts).length) c5, .int .i64 (e1.seq), .slice p6 ((e1.content).length) c6]) ((out ++ [(Publication.mk (a09 e1.publisher) e1.seq e1.content)]) : List Publication)]) Z ?_
  refine R0 ?_
  refine WX.see Z Z Z (fun _ hΓ => looks_arith Z Z Z Z (by unfold I64; first | omega | (simp only [List.length_take] at *; omega))) ?_
  refine R0 ?_
  refine WX.turn [17] 7 Z (fun _ h => h) Z ?_
  exact WX.iter (i + 1, p8, c7, (xsout ++ [.slice p5 (((a09 e1.publisher).parts).length) c5, .int .i64 (e1.seq), .slice p6 ((e1.content).length) c6]), ((out ++ [(Publication.mk (a09 e1.publisher) e1.seq e1.content)]) : List Publication)) ⟨(by omega), (all_app v2 (all_cons (α := Publication) (And.intro hq3 (And.intro (ok_Publication ok1).2.1 hq4)) (fun a ha => by cases ha))), (by first | assumption | omega | (simp; omega)), (by rw [v4, drop_get e1h]; simp only [a2y, ct, cf])⟩ (by first | (dsimp only; omega) | omega) (.cons Z (.cons Z (.cons Z (.cons Z (.cons Z (.nil)))))) (.cons Z (.cons Z (.nil))) (.cons Z (.nil)) [0, 1, 2, 4, 6, 7] Z
 have h1d := B.df h1
 refine R0 ?_
 have hX1 : a2y m.publications ([] : List Publication) = ((out) : List Publication) := by rw [v4, List.drop_eq_nil_of_le (show (m.publications).length ≤ i by omega)]; simp only [a2y, ct, cf]
 refine WX.seal 501 7 18 Z Z Z Z Z ?_
 have hP1 : a0j m = (Member.mk (a09 m.name) (StateVector.mk (a0a m.vector.entries)) out) := by simp only [a0j, hX1, ct, cf]
 refine R1 ?_
 intro w1 G bs hI hΓ
 rw [hP1]
 exact Post.of [4, 6, 19] ((p1, c1), (p2, c2), (pout, cout)) hI hΓ Z Z Z (And.intro hq1 (And.intro hq2 (okl_mk (by omega) v2 : GoT.ok n (out : List Publication))))
theorem f116 (w : World) (n : Nat) (hn : n + 0 ≤ 9) (m : Member) (K0 : Option Addr) (M0 : Nat) (N0 : RdSl (hp w) K0 M0 m.name.parts) (K1 : Option Addr) (M1 : Nat) (N1 : RdSl (hp w) K1 M1 m.vector.entries) (K2 : Option Addr) (M2 : Nat) (N2 : RdSl (hp w) K2 M2 m.publications) (hokm : GoT.ok n m) :
 Does Tryz.prog 116 #[.agg #[.slice K0 ((m.name.parts).length) M0, .slice K1 ((m.vector.entries).length) M1, .slice K2 ((m.publications).length) M2]] w emp (Post w emp (fun x : GoT.X (Member) => .agg ⟨GoT.sh ((a0d m) : Member) x⟩) (fun x => GoT.oa ((a0d m) : Member) x) (GoT.ok n ((a0d m) : Member))) := by
 have hbP := bd_pos n
 have hbB := bd_big (n := n) (by omega)
 refine WX.enter (tt := tt) (Γ := [(0, MF.rs .stb K0 M0 m.name.parts), (1, MF.rs .stb K1 M1 m.vector.entries), (2, MF.rs .stb K2 M2 m.publications)]) Tryz.func116 Z J Z (allS_cons Z N0 (allS_cons Z N1 (allS_cons Z N2 allS_nil))) ?_
 refine R0 ?_
 refine WX.draw [10] mixed ?_
 intro bs G0 hΓ0
 refine DX.takes (fuel := 6) ttOk [(0, true), (1, false), (3, true), (4, true), (5, false)] J Z ?_
 refine DX.pend 9 3 ⟨60, [.slice none (0) 0, .slice none (0) 0, .slice none (0) 0]⟩ ?_
 refine DXA.callF 2 3 (fun _ _ h => GoT.ow_rd h) (fun _ f hf => GoT.fak f hf) ttOk Z Z Z Z Z Z Z J J J Z Z Z Z Z Z Z Z Z Z O Z Z (fun w G bs hI hΓ => f118 w n (by omega) m.name K0 M0 (hΓ.get 0 Z) ((ok_Member hokm).1)) O O ?_
 rintro ⟨p1, c1⟩ hq1
 refine DXA.callF 6 5 (fun _ _ h => GoT.ow_rd h) (fun _ f hf => GoT.fak f hf) ttOk Z Z Z Z Z Z Z J J J Z Z Z Z Z Z Z Z Z Z O Z Z (fun w G bs hI hΓ => f191 w n (by omega) m.vector.entries K1 M1 (hΓ.get 1 Z) (ok_StateVector (ok_Member hokm).2.1)) O O ?_
 rintro ⟨p2, c2⟩ hq2
 have q1 := len_l6Copy m.vector.entries
 refine DXA.take 7 J J Z Z Z Z Z Z Z Z (looksP_pure ttOk Z) ?_
 refine DXA.take 8 J J Z Z Z Z Z Z Z Z (looksP_pure ttOk Z) ?_
 refine DXA.tail [10] ttOk Z Z Z Z Z Z J Z Z J ?_
 refine R0 ?_
 refine WX.row0 501 3 none Z ?_
 refine WX.free 7 (MF.ol [] ([] : List Publication)) Z ?_
 have r1 : (m.publications).length ≤ bd n := (okl (ok_Member hokm).2.2).1
 refine WX.loop (ι := Nat × (Option Addr) × Nat × (List Value) × (List Publication)) ⟨fun | (i, pout, cout, xsout, out) => (i ≤ (m.publications).length) ∧ (∀ z_ ∈ out, GoT.ok n z_) ∧ (out.length ≤ i) ∧ (a2z m.publications ([] : List Publication) = a2z ((m.publications).drop i) out), fun | (i, pout, cout, xsout, out) => (m.publications).length - i, fun | (i, pout, cout, xsout, out) => [(4, .v (.int .i64 (((i : Nat) : Int)))), (3, .p 3 0), (2, .p 2 0), (1, .p 1 0)], fun | (i, pout, cout, xsout, out) => [(3, ⟨60, [.slice p1 (((a02 m.name).parts).length) c1, .slice p2 (((a00 m.vector.entries)).length) c2, .slice pout ((out).length) cout]⟩), (2, ⟨60, [.slice none (0) 0, .slice none (0) 0, .slice none (0) 0]⟩), (1, ⟨60, [.slice K0 ((m.name.parts).length) M0, .slice K1 ((m.vector.entries).length) M1, .slice K2 ((m.publications).length) M2]⟩)], fun | (i, pout, cout, xsout, out) => [(501, ⟨3, pout, (out).length, cout, xsout⟩)], fun | (i, pout, cout, xsout, out) => [(0, MF.rs .stb K0 M0 m.name.parts), (1, MF.rs .stb K1 M1 m.vector.entries), (2, MF.rs .stb K2 M2 m.publications), (4, MF.os p1 c1 ((a02 m.name).parts)), (6, MF.os p2 c2 (a00 m.vector.entries)), (7, MF.ol xsout (out : List Publication))]⟩ (0, none, 0, [], ([] : List Publication)) ⟨(Nat.zero_le _), (fun a ha => by cases ha), (by simp), Z⟩
  (.cons Z (.cons Z (.cons Z (.cons Z (.nil))))) (.cons Z (.cons Z (.cons Z (.nil)))) (.cons Z (.nil)) [0, 1, 2, 4, 6, 7] Z ?_
 rintro ⟨i, pout, cout, xsout, out⟩ hpre
 have hpre_ : (i ≤ (m.publications).length) ∧ (∀ z_ ∈ out, GoT.ok n z_) ∧ (out.length ≤ i) ∧ (a2z m.publications ([] : List Publication) = a2z ((m.publications).drop i) out) := hpre
 clear hpre
 obtain ⟨v1, v2, v3, v4⟩ := hpre_
 refine R0 ?_
 refine WX.cases 19 Z (fun h1 => ?_) (fun h1 => ?_)
 ·skip
  have h1d := B.dt h1
  have e1i : i < (m.publications).length := (by omega)
  obtain ⟨e1, e1h⟩ : ∃ e1, (m.publications)[i]? = some e1 := ⟨_, List.getElem?_eq_getElem e1i⟩
  have ok1 : GoT.ok n e1 := (okl (ok_Member hokm).2.2).2 _ (List.mem_of_getElem? e1h)
  refine R0 ?_
  refine WX.idx 2 i ttOk Z Z Z Z Z Z Z Z Z Z e1i ?_
  rintro ad1 rfl
  refine R0 ?_
  refine WX.ldE 2 8 e1 ttOk Z Z Z Z Z Z Z Z e1h O O ?_
  rintro ⟨⟨p3, c3⟩, ⟨⟩, ⟨p4, c4⟩⟩
  refine WX.callF 10 (fun _ _ h => GoT.ow_rd h) (fun _ f hf => GoT.fak f hf) Z Z Z Z Z O Z (fun w G bs hI hΓ => f118 w n (by omega) e1.publisher p3 c3 (hΓ.get 8 Z) ((ok_Publication ok1).1)) O O ?_
  rintro ⟨p5, c5⟩ hq3
  refine R0 ?_
  refine WX.der 12 (MF.rs .der p1 c1 ((a02 m.name).parts)) Z (fun _ hΓ => (hΓ.get 4 Z : OwSl _ _ _ _).rd) ?_
  refine WX.der 13 (MF.rs .der p2 c2 (a00 m.vector.entries)) Z (fun _ hΓ => (hΓ.get 6 Z : OwSl _ _ _ _).rd) ?_
  refine WX.draw [19, 21] mixed ?_
  intro bs G0 hΓ0
  refine DX.takes (fuel := 16) ttOk [(0, true), (1, false), (2, false), (3, true), (4, false), (5, true)] J Z ?_
  refine DX.idx 6 2 i ttOk hΓ0 J Z Z Z Z Z Z Z Z Z Z Z e1i ?_
  rintro ad2 ⟨⟩
  refine DX.takes (fuel := 14) ttOk [(7, true)] J Z ?_
  refine DX.ldE 8 2 14 e1 ttOk hΓ0 J Z Z Z Z Z Z Z Z e1h O O ?_
  rintro ⟨⟨p6, c6⟩, ⟨⟩, ⟨p7, c7⟩⟩
  refine DX.takes (fuel := 10) ttOk [(10, true), (11, false), (12, true)] J Z ?_
  refine DX.idx 13 2 i ttOk hΓ0 J Z Z Z Z Z Z Z Z Z Z Z e1i ?_
  rintro ad3 ⟨⟩
  refine DX.takes (fuel := 8) ttOk [(14, true)] J Z ?_
  refine DX.ldE 15 2 16 e1 ttOk hΓ0 J Z Z Z Z Z Z Z Z e1h O O ?_
  rintro ⟨⟨p8, c8⟩, ⟨⟩, ⟨p9, c9⟩⟩
  refine DX.toTX ?_
  intro S_
  refine TX.all1 9 J ?_
  refine TS.op 9 Z J ?_
  refine WX.bld ttOk Z Z Z Z Z Z Z ?_
  intro p10
  refine R0 ?_
  refine WX.back0 ?_
  refine TX.all1 16 J ?_
  have r2 : (e1.content).length ≤ bd n := (okl (ok_Publication ok1).2.2).1
  refine TS.opK 16 Z (keeps_appG (α := UInt8) 38 17 (e1.content : List UInt8).length ttOk Z Z Z Z Z Z Z Z Z (by simp) (by omega) (by omega) Z) ?_
  refine WX.free 18 (MF.ol [] ([] : List UInt8)) Z ?_
  refine WX.appG1 38 17 19 (e1.content : List UInt8).length ttOk Z Z Z Z Z Z Z Z Z Z Z Z Z (by first | (simp; done) | (simp; omega)) (by omega) (by omega) (fun _ _ _ => Z) ?_
  intro ys1 p11 c10
  refine WX.know (fun G hΓ => (hΓ.get 19 Z : RdL _ _ _).flat) ?_
  intro hf1
  refine WX.turn [18] 20 Z (fun h hs => ol_flat hs hf1) (gs := [MF.ol ([] ++ ys1) (e1.content : List UInt8)]) Z ?_
  refine R0 ?_
  refine WX.back0 ?_
  refine TX.all1 17 J ?_
  refine TS.opK 17 Z (keeps_pure ttOk Z) ?_
  refine R0 ?_
  refine WX.back0 ?_
  refine TX.all1 18 J ?_
  refine TS.op 18 Z J ?_
  refine WX.seal 38 20 21 Z Z Z Z Z ?_
  refine WX.bld ttOk Z Z Z Z Z Z Z ?_
  intro p12
  refine R0 ?_
  refine WX.back0 ?_
  refine TX.all1 19 J ?_
  refine TS.op 19 Z J ?_
  refine WX.turn [11, 22] 23 Z (fun h hs => ol_one (α := Publication) (a := (Publication.mk (a02 e1.publisher) e1.seq e1.content)) (x := ((p5, c5), (), (p11, c10))) hs) (gs := [MF.ol [.slice p5 (((a02 e1.publisher).parts).length) c5, .int .i64 (e1.seq), .slice p11 ((e1.content).length) c10] ([(Publication.mk (a02 e1.publisher) e1.seq e1.content)] : List Publication)]) Z ?_
  have r3 : -9223372036854775808 ≤ e1.seq ∧ e1.seq ≤ 9223372036854775807 := (ok_Publication ok1).2.1
  refine WX.know (fun G hΓ => (hΓ.get 23 Z : OwL _ _ _).rd.one) ?_
  intro ho1
  refine WX.appR1 501 47 ((out ++ [(Publication.mk (a02 e1.publisher) e1.seq e1.content)]) : List Publication).length ttOk Z Z Z Z Z Z Z Z Z Z Z Z Z ho1 (by simp) (by simp; omega) (by simp; omega) (fun _ _ => Z) ?_
  intro p13 c11
  refine WX.turn [7, 23] 24 Z (fun h hs => ol_app hs) (gs := [MF.ol (xsout ++ [.slice p5 (((a02 e1.publisher).parts).length) c5, .int .i64 (e1.seq), .slice p11 ((e1.content).length) c10]) ((out ++ [(Publication.mk (a02 e1.publisher) e1.seq e1.content)]) : List Publication)]) Z ?_
  refine R0 ?_
  refine WX.back0 ?_
  refine TX.all1 20 J ?_
  refine TS.opK 20 Z (keeps_pure ttOk Z) ?_
  refine R0 ?_
  refine WX.back0 ?_
  refine TX.tail [21] Z Z J ?_
  refine R0 ?_
  refine WX.see Z Z Z (fun _ hΓ => looks_arith Z Z Z Z (by unfold I64; first | omega | (simp only [List.length_take] at *; omega))) ?_
  refine R0 ?_
  refine WX.turn [24] 7 Z (fun _ h => h) Z ?_
  exact WX.iter (i + 1, p13, c11, (xsout ++ [.slice p5 (((a02 e1.publisher).parts).length) c5, .int .i64 (e1.seq), .slice p11 ((e1.content).length) c10]), ((out ++ [(Publication.mk (a02 e1.publisher) e1.seq e1.content)]) : List Publication)) ⟨(by omega), (all_app v2 (all_cons (α := Publication) (And.intro hq3 (And.intro (ok_Publication ok1).2.1 (okl_mk (by omega) (fun _ _ => trivial) : GoT.ok n (e1.content : List UInt8)))) (fun a ha => by cases ha))), (by first | assumption | omega | (simp; omega)), (by rw [v4, drop_get e1h]; simp only [a2z, ct, cf])⟩ (by first | (dsimp only; omega) | omega) (.cons Z (.cons Z (.cons Z (.cons Z (.nil))))) (.cons Z (.cons Z (.cons Z (.nil)))) (.cons Z (.nil)) [0, 1, 2, 4, 6, 7] Z
 have h1d := B.df h1
 refine R0 ?_
 have hX1 : a2z m.publications ([] : List Publication) = ((out) : List Publication) := by rw [v4, List.drop_eq_nil_of_le (show (m.publications).length ≤ i by omega)]; simp only [a2z, ct, cf]
 refine WX.seal 501 7 25 Z Z Z Z Z ?_
 have hP1 : a0d m = (Member.mk (a02 m.name) (StateVector.mk (a00 m.vector.entries)) out) := by simp only [a0d, hX1, ct, cf]
 refine R1 ?_
 intro w1 G bs hI hΓ
 rw [hP1]
 exact Post.of [4, 6, 26] ((p1, c1), (p2, c2), (pout, cout)) hI hΓ Z Z Z (And.intro hq1 (And.intro hq2 (okl_mk (by omega) v2 : GoT.ok n (out : List Publication))))
theorem f37 (w : World) (n : Nat) (hn : n + 3 ≤ 9) (m : Member) (K0 : Option Addr) (M0 : Nat) (N0 : RdSl (hp w) K0 M0 m.name.parts) (K1 : Option Addr) (M1 : Nat) (N1 : RdSl (hp w) K1 M1 m.vector.entries) (K2 : Option Addr) (M2 : Nat) (N2 : RdSl (hp w) K2 M2 m.publications) (x_ : Publication) (K3 : Option Addr) (M3 : Nat) (N3 : RdSl (hp w) K3 M3 x_.publisher.parts) (K4 : Option Addr) (M4 : Nat) (N4 : RdSl (hp w) K4 M4 x_.content) (hokm : GoT.ok n m) (hokx_ : GoT.ok n x_) :
 Does Tryz.prog 37 #[.agg #[.slice K0 ((m.name.parts).length) M0, .slice K1 ((m.vector.entries).length) M1, .slice K2 ((m.publications).length) M2], .agg #[.slice K3 ((x_.publisher.parts).length) M3, .int .i64 (x_.seq), .slice K4 ((x_.content).length) M4]] w emp (Post w emp (fun x : GoT.X (Member) => .tuple #[.agg ⟨GoT.sh ((a0t m x_).1 : Member) x⟩, .bool ((a0t m x_).2)]) (fun x => GoT.oa ((a0t m x_).1 : Member) x) (GoT.ok (n + 3) ((a0t m x_).1 : Member))) := by
 have hbP := bd_pos n
 have hbS0 : bd (n + 1) = 4 * bd (n) := bd_succ (n := n) (by omega)
 have hbS1 : bd (n + 2) = 4 * bd (n + 1) := bd_succ (n := n + 1) (by omega)
 have hbS2 : bd (n + 3) = 4 * bd (n + 2) := bd_succ (n := n + 2) (by omega)
 have hbB := bd_big (n := (n + 3)) (by omega)
 have hbM := bd_mono (show n ≤ n + 3 by omega)
 refine WX.enter (tt := tt) (Γ := [(0, MF.rs .stb K0 M0 m.name.parts), (1, MF.rs .stb K1 M1 m.vector.entries), (2, MF.rs .stb K2 M2 m.publications), (3, MF.rs .stb K3 M3 x_.publisher.parts), (4, MF.rs .stb K4 M4 x_.content)]) Tryz.func37 Z J Z (allS_cons Z N0 (allS_cons Z N1 (allS_cons Z N2 (allS_cons Z N3 (allS_cons Z N4 allS_nil))))) ?_
 refine R0 ?_
 refine WX.callF 5 (fun _ _ h => GoT.ow_rd h) (fun _ f hf => GoT.fak f hf) Z Z Z Z Z O Z (fun w G bs hI hΓ => f112 w n (by omega) m K0 M0 (hΓ.get 0 Z) K1 M1 (hΓ.get 1 Z) K2 M2 (hΓ.get 2 Z) hokm) O O ?_
 rintro ⟨⟨p1, c1⟩, ⟨p2, c2⟩, ⟨p3, c3⟩⟩ hq1
 have q1 := cM_impl m
 refine R0 ?_
 refine WX.draw [] mixed ?_
 intro bs G0 hΓ0
 refine DX.takes (fuel := 3) ttOk [(0, true), (1, false), (2, true), (3, false), (4, true), (5, false)] J Z ?_
 refine DX.callV 6 Z J Z Z Z Z Z Z O Z (fun w G bs hI hΓ => f60 w n (by omega) m.vector K1 M1 (hΓ.get 1 Z) x_.publisher K3 M3 (hΓ.get 3 Z) ((ok_Member hokm).2.1) ((ok_Publication hokx_).1)) ?_
 intro hq2
 refine DX.seeP 7 J Z Z Z Z (looksP_wrap Z Z Z Z) ?_
 refine DX.takes (fuel := 0) ttOk [(8, true)] J Z ?_
 refine DX.tail2 [] Z Z J ?_
 refine R0 ?_
 refine WX.cases 19 Z (fun h1 => ?_) (fun h1 => ?_)
 ·skip
  have h1d := B.nt' h1
  refine R0 ?_
  have hP1 : a0t m x_ = (a0j m, false) := by simp only [a0t, h1, ct, cf]
  refine R1 ?_
  intro w1 G bs hI hΓ
  rw [hP1]
  exact Post.of [8, 9, 10] ((p1, c1), (p2, c2), (p3, c3)) hI hΓ Z Z Z (And.intro (GoT.okm (α := List Str) (by omega) (ok_Name (ok_Member hq1).1)) (And.intro (GoT.okm (α := List TableEntry) (by omega) (ok_StateVector (ok_Member hq1).2.1)) (GoT.okm (α := List Publication) (by omega) (ok_Member hq1).2.2)))
 have h1d := B.nf' h1
 refine R0 ?_
 refine WX.draw [12, 13, 14] mixed ?_
 intro bs G0 hΓ0
 refine DX.takes (fuel := 7) ttOk [(0, true), (1, false), (2, true), (3, false), (5, true), (6, false), (7, true), (8, false)] J Z ?_
 refine DX.callF 4 11 (fun _ _ h => GoT.ow_rd h) (fun _ f hf => GoT.fak f hf) Z J Z Z Z Z Z Z O Z (fun w G bs hI hΓ => f113 w n (by omega) x_.publisher K3 M3 (hΓ.get 3 Z) ((ok_Publication hokx_).1)) O O ?_
 rintro ⟨p4, c4⟩ hq3
 refine DX.callF 9 13 (fun _ _ h => GoT.ow_rd h) (fun _ f hf => GoT.fak f hf) Z J Z Z Z Z Z Z O Z (fun w G bs hI hΓ => f114 w n (by omega) x_.content K4 M4 (hΓ.get 4 Z) ((ok_Publication hokx_).2.2)) O O ?_
 rintro ⟨p5, c5⟩ hq4
 refine DX.takes (fuel := 4) ttOk [(10, true)] J Z ?_
 refine DX.tail2 [11, 12, 13, 14] Z Z J ?_
 refine WX.bld ttOk Z Z Z Z Z Z Z ?_
 intro p6
 refine WX.opn (kk := 3) 501 10 15 Z Z Z ?_
 intro xs1 hx1
 refine WX.turn [12, 14] 16 Z (fun h hs => ol_one (α := Publication) (a := (Publication.mk (a09 x_.publisher) x_.seq x_.content)) (x := ((p4, c4), (), (p5, c5))) hs) (gs := [MF.ol [.slice p4 (((a09 x_.publisher).parts).length) c4, .int .i64 (x_.seq), .slice p5 ((x_.content).length) c5] ([(Publication.mk (a09 x_.publisher) x_.seq x_.content)] : List Publication)]) Z ?_
 have r1 : -9223372036854775808 ≤ x_.seq ∧ x_.seq ≤ 9223372036854775807 := (ok_Publication hokx_).2.1
 have r2 : (x_.content).length ≤ bd n := (okl (ok_Publication hokx_).2.2).1
 have r3 : ((a0j m).publications).length ≤ bd n := (okl (ok_Member hq1).2.2).1
 refine WX.know (fun G hΓ => (hΓ.get 16 Z : OwL _ _ _).rd.one) ?_
 intro ho1
 refine WX.appR1 501 32 (((a0j m).publications ++ [(Publication.mk (a09 x_.publisher) x_.seq x_.content)]) : List Publication).length ttOk Z Z Z Z Z Z Z Z Z Z Z Z Z ho1 (by simp) (by simp; omega) (by simp; omega) (fun _ _ => Z) ?_
 intro p7 c6
 refine WX.turn [15, 16] 17 Z (fun h hs => ol_app hs) (gs := [MF.ol (xs1 ++ [.slice p4 (((a09 x_.publisher).parts).length) c4, .int .i64 (x_.seq), .slice p5 ((x_.content).length) c5]) (((a0j m).publications ++ [(Publication.mk (a09 x_.publisher) x_.seq x_.content)]) : List Publication)]) Z ?_
 refine R0 ?_
 refine WX.callF 18 (fun _ _ h => GoT.ow_rd h) (fun _ f hf => GoT.fak f hf) Z Z Z Z Z O Z (fun w G bs hI hΓ => f115 w n (by omega) m.vector.entries K1 M1 (hΓ.get 1 Z) x_.publisher K3 M3 (hΓ.get 3 Z) x_.seq (ok_StateVector (ok_Member hokm).2.1) ((ok_Publication hokx_).1) ((ok_Publication hokx_).2.1)) O O ?_
 rintro ⟨p8, c7⟩ hq5
 have q2 := (put_impl m.vector.entries x_.publisher x_.seq).len
 have hfx1 := (put_impl m.vector.entries x_.publisher x_.seq).els (k := n) (okl (ok_StateVector (ok_Member hokm).2.1)).2 (ok_Publication hokx_).1 (ok_Publication hokx_).2.1
 refine R0 ?_
 refine WX.cases 51 Z (fun h2 => ?_) (fun h2 => ?_)
 ·skip
  have h2d := (B.nt h2)
  refine R0 ?_
  refine WX.callF 20 (fun _ _ h => GoT.ow_rd h) (fun _ f hf => GoT.fak f hf) Z Z Z Z Z O Z (fun w G bs hI hΓ => f112 w n (by omega) m K0 M0 (hΓ.get 0 Z) K1 M1 (hΓ.get 1 Z) K2 M2 (hΓ.get 2 Z) hokm) O O ?_
  rintro ⟨⟨p9, c8⟩, ⟨p10, c9⟩, ⟨p11, c10⟩⟩ hq6
  have q3 := cM_impl m
  refine R0 ?_
  have hP2 : a0t m x_ = (a0j m, false) := by simp only [a0t, h1, h2, ct, cf]
  refine R1 ?_
  intro w1 G bs hI hΓ
  rw [hP2]
  exact Post.of [23, 24, 25] ((p9, c8), (p10, c9), (p11, c10)) hI hΓ Z Z Z (And.intro (GoT.okm (α := List Str) (by omega) (ok_Name (ok_Member hq6).1)) (And.intro (GoT.okm (α := List TableEntry) (by omega) (ok_StateVector (ok_Member hq6).2.1)) (GoT.okm (α := List Publication) (by omega) (ok_Member hq6).2.2)))
 have h2d := (B.nf h2)
 refine R0 ?_
 refine WX.seal 501 17 26 Z Z Z Z Z ?_
 refine WX.der 28 (MF.rs .der p1 c1 ((a0j m).name.parts)) Z (fun _ hΓ => (hΓ.get 8 Z : OwSl _ _ _ _).rd) ?_
 refine WX.der 29 (MF.rs .der p8 c7 ((a0x m.vector.entries x_.publisher x_.seq).1)) Z (fun _ hΓ => (hΓ.get 19 Z : OwSl _ _ _ _).rd) ?_
 have r4 : (m.vector.entries).length ≤ bd n := (okl (ok_StateVector (ok_Member hokm).2.1)).1
 have r5 : ((a0x m.vector.entries x_.publisher x_.seq).1).length ≤ bd (n + 1) := (okl hq5).1
 refine WX.callV Z Z Z Z Z O Z (fun w G bs hI hΓ => f57 w (n + 1) (by omega) (Member.mk ((a0j m).name) (StateVector.mk ((a0x m.vector.entries x_.publisher x_.seq).1)) ((a0j m).publications ++ [(Publication.mk (a09 x_.publisher) x_.seq x_.content)])) p1 c1 (hΓ.get 28 Z) p8 c7 (hΓ.get 29 Z) p7 c6 (hΓ.get 26 Z) (And.intro (GoT.okm (α := List Str) (by omega) (ok_Name (ok_Member hq1).1)) (And.intro (okl_mk (by omega) (fun a ha => GoT.okm (by omega) (hfx1 a ha)) : GoT.ok (n + 1) ((a0x m.vector.entries x_.publisher x_.seq).1 : List TableEntry)) (okl_mk (by simp; omega) (fun a ha => GoT.okm (show n ≤ (n + 1) by omega) ((all_app (okl (ok_Member hq1).2.2).2 (all_cons (α := Publication) (And.intro hq3 (And.intro (ok_Publication hokx_).2.1 hq4)) (fun a ha => by cases ha))) a ha)) : GoT.ok (n + 1) (((a0j m).publications ++ [(Publication.mk (a09 x_.publisher) x_.seq x_.content)]) : List Publication))))) ?_
 intro hq7
 refine R0 ?_
 refine WX.cases 55 Z (fun h3 => ?_) (fun h3 => ?_)
 ·skip
  have h3d := (B.nt h3)
  refine R0 ?_
  refine WX.callF 30 (fun _ _ h => GoT.ow_rd h) (fun _ f hf => GoT.fak f hf) Z Z Z Z Z O Z (fun w G bs hI hΓ => f112 w n (by omega) m K0 M0 (hΓ.get 0 Z) K1 M1 (hΓ.get 1 Z) K2 M2 (hΓ.get 2 Z) hokm) O O ?_
  rintro ⟨⟨p12, c11⟩, ⟨p13, c12⟩, ⟨p14, c13⟩⟩ hq8
  have q4 := cM_impl m
  refine R0 ?_
  have hP3 : a0t m x_ = (a0j m, false) := by simp only [a0t, h1, h2, h3, ct, cf]
  refine R1 ?_
  intro w1 G bs hI hΓ
  rw [hP3]
  exact Post.of [33, 34, 35] ((p12, c11), (p13, c12), (p14, c13)) hI hΓ Z Z Z (And.intro (GoT.okm (α := List Str) (by omega) (ok_Name (ok_Member hq8).1)) (And.intro (GoT.okm (α := List TableEntry) (by omega) (ok_StateVector (ok_Member hq8).2.1)) (GoT.okm (α := List Publication) (by omega) (ok_Member hq8).2.2)))
 have h3d := (B.nf h3)
 refine R0 ?_
 have hP4 : a0t m x_ = (Member.mk ((a0j m).name) (StateVector.mk ((a0x m.vector.entries x_.publisher x_.seq).1)) ((a0j m).publications ++ [(Publication.mk (a09 x_.publisher) x_.seq x_.content)]), true) := by simp only [a0t, h1, h2, h3, ct, cf]
 refine R1 ?_
 intro w1 G bs hI hΓ
 rw [hP4]
 exact Post.of [8, 19, 27] ((p1, c1), (p8, c7), (p7, c6)) hI hΓ Z Z Z (And.intro (GoT.okm (α := List Str) (by omega) (ok_Name (ok_Member hq1).1)) (And.intro (okl_mk (by omega) (fun a ha => GoT.okm (by omega) (hfx1 a ha)) : GoT.ok (n + 3) ((a0x m.vector.entries x_.publisher x_.seq).1 : List TableEntry)) (okl_mk (by simp; omega) (fun a ha => GoT.okm (by omega) ((fun a ha => GoT.okm (show n ≤ (n + 1) by omega) ((all_app (okl (ok_Member hq1).2.2).2 (all_cons (α := Publication) (And.intro hq3 (And.intro (ok_Publication hokx_).2.1 hq4)) (fun a ha => by cases ha))) a ha)) a ha)) : GoT.ok (n + 3) (((a0j m).publications ++ [(Publication.mk (a09 x_.publisher) x_.seq x_.content)]) : List Publication))))
theorem f38 (w : World) (n : Nat) (hn : n + 3 ≤ 9) (m : Member) (K0 : Option Addr) (M0 : Nat) (N0 : RdSl (hp w) K0 M0 m.name.parts) (K1 : Option Addr) (M1 : Nat) (N1 : RdSl (hp w) K1 M1 m.vector.entries) (K2 : Option Addr) (M2 : Nat) (N2 : RdSl (hp w) K2 M2 m.publications) (x_ : Publication) (K3 : Option Addr) (M3 : Nat) (N3 : RdSl (hp w) K3 M3 x_.publisher.parts) (K4 : Option Addr) (M4 : Nat) (N4 : RdSl (hp w) K4 M4 x_.content) (hokm : GoT.ok n m) (hokx_ : GoT.ok n x_) :
 Does Tryz.prog 38 #[.agg #[.slice K0 ((m.name.parts).length) M0, .slice K1 ((m.vector.entries).length) M1, .slice K2 ((m.publications).length) M2], .agg #[.slice K3 ((x_.publisher.parts).length) M3, .int .i64 (x_.seq), .slice K4 ((x_.content).length) M4]] w emp (Post w emp (fun x : GoT.X (Member) => .tuple #[.agg ⟨GoT.sh ((a0k m x_).1 : Member) x⟩, .bool ((a0k m x_).2)]) (fun x => GoT.oa ((a0k m x_).1 : Member) x) (GoT.ok (n + 3) ((a0k m x_).1 : Member))) := by
 have hbP := bd_pos n
 have hbS0 : bd (n + 1) = 4 * bd (n) := bd_succ (n := n) (by omega)
 have hbS1 : bd (n + 2) = 4 * bd (n + 1) := bd_succ (n := n + 1) (by omega)
 have hbS2 : bd (n + 3) = 4 * bd (n + 2) := bd_succ (n := n + 2) (by omega)
 have hbB := bd_big (n := (n + 3)) (by omega)
 have hbM := bd_mono (show n ≤ n + 3 by omega)
 refine WX.enter (tt := tt) (Γ := [(0, MF.rs .stb K0 M0 m.name.parts), (1, MF.rs .stb K1 M1 m.vector.entries), (2, MF.rs .stb K2 M2 m.publications), (3, MF.rs .stb K3 M3 x_.publisher.parts), (4, MF.rs .stb K4 M4 x_.content)]) Tryz.func38 Z J Z (allS_cons Z N0 (allS_cons Z N1 (allS_cons Z N2 (allS_cons Z N3 (allS_cons Z N4 allS_nil))))) ?_
 refine R0 ?_
 refine WX.callF 5 (fun _ _ h => GoT.ow_rd h) (fun _ f hf => GoT.fak f hf) Z Z Z Z Z O Z (fun w G bs hI hΓ => f116 w n (by omega) m K0 M0 (hΓ.get 0 Z) K1 M1 (hΓ.get 1 Z) K2 M2 (hΓ.get 2 Z) hokm) O O ?_
 rintro ⟨⟨p1, c1⟩, ⟨p2, c2⟩, ⟨p3, c3⟩⟩ hq1
 have q1 := cM_spec m
 refine R0 ?_
 refine WX.draw [] mixed ?_
 intro bs G0 hΓ0
 refine DX.takes (fuel := 3) ttOk [(0, true), (1, false), (2, true), (3, false), (4, true), (5, false)] J Z ?_
 refine DX.callV 6 Z J Z Z Z Z Z Z O Z (fun w G bs hI hΓ => f108 w n (by omega) m.vector K1 M1 (hΓ.get 1 Z) x_.publisher K3 M3 (hΓ.get 3 Z) ((ok_Member hokm).2.1) ((ok_Publication hokx_).1)) ?_
 intro hq2
 refine DX.seeP 7 J Z Z Z Z (looksP_wrap Z Z Z Z) ?_
 refine DX.takes (fuel := 0) ttOk [(8, true)] J Z ?_
 refine DX.tail2 [] Z Z J ?_
 refine R0 ?_
 refine WX.cases 19 Z (fun h1 => ?_) (fun h1 => ?_)
 ·skip
  have h1d := B.nt' h1
  refine R0 ?_
  have hP1 : a0k m x_ = (a0d m, false) := by simp only [a0k, h1, ct, cf]
  refine R1 ?_
  intro w1 G bs hI hΓ
  rw [hP1]
  exact Post.of [8, 9, 10] ((p1, c1), (p2, c2), (p3, c3)) hI hΓ Z Z Z (And.intro (GoT.okm (α := List Str) (by omega) (ok_Name (ok_Member hq1).1)) (And.intro (GoT.okm (α := List TableEntry) (by omega) (ok_StateVector (ok_Member hq1).2.1)) (GoT.okm (α := List Publication) (by omega) (ok_Member hq1).2.2)))
 have h1d := B.nf' h1
 refine R0 ?_
 refine WX.callF 11 (fun _ _ h => GoT.ow_rd h) (fun _ f hf => GoT.fak f hf) Z Z Z Z Z O Z (fun w G bs hI hΓ => f117 w n (by omega) m.vector.entries K1 M1 (hΓ.get 1 Z) x_.publisher K3 M3 (hΓ.get 3 Z) x_.seq (ok_StateVector (ok_Member hokm).2.1) ((ok_Publication hokx_).1) ((ok_Publication hokx_).2.1)) O O ?_
 rintro ⟨p4, c4⟩ hq3
 have q2 := (put_spec m.vector.entries x_.publisher x_.seq).len
 have hfx1 := (put_spec m.vector.entries x_.publisher x_.seq).els (k := n) (okl (ok_StateVector (ok_Member hokm).2.1)).2 (ok_Publication hokx_).1 (ok_Publication hokx_).2.1
 refine R0 ?_
 refine WX.draw [13, 15] mixed ?_
 intro bs G0 hΓ0
 refine DX.takes (fuel := 8) ttOk [(0, true), (1, false), (2, true), (3, false), (5, true), (6, false), (8, true), (9, false)] J Z ?_
 refine DX.toTX ?_
 intro S_
 refine TX.all2 4 7 J ?_ ?_
 ·skip
  refine TS.callF 4 13 (fun _ _ h => GoT.ow_rd h) (fun _ f hf => GoT.fak f hf) Z Z Z Z Z Z O Z (fun w G bs hI hΓ => f118 w n (by omega) x_.publisher K3 M3 (hΓ.get 3 Z) ((ok_Publication hokx_).1)) O O ?_
  rintro ⟨p5, c5⟩ hq4
  refine TX.all1 7 J ?_
  refine TS.op 7 Z J ?_
  refine WX.bld ttOk Z Z Z Z Z Z Z ?_
  intro p6
  refine R0 ?_
  refine WX.back0 ?_
  refine TX.all1 10 J ?_
  have r1 : (x_.content).length ≤ bd n := (okl (ok_Publication hokx_).2.2).1
  refine TS.opK 10 Z (keeps_appG (α := UInt8) 42 4 (x_.content : List UInt8).length ttOk Z Z Z Z Z Z Z Z Z (by simp) (by omega) (by omega) Z) ?_
  refine WX.free 15 (MF.ol [] ([] : List UInt8)) Z ?_
  refine WX.appG1 42 4 16 (x_.content : List UInt8).length ttOk Z Z Z Z Z Z Z Z Z Z Z Z Z (by first | (simp; done) | (simp; omega)) (by omega) (by omega) (fun _ _ _ => Z) ?_
  intro ys1 p7 c6
  refine WX.know (fun G hΓ => (hΓ.get 16 Z : RdL _ _ _).flat) ?_
  intro hf1
  refine WX.turn [15] 17 Z (fun h hs => ol_flat hs hf1) (gs := [MF.ol ([] ++ ys1) (x_.content : List UInt8)]) Z ?_
  refine R0 ?_
  refine WX.back0 ?_
  refine TX.all1 11 J ?_
  refine TS.opK 11 Z (keeps_pure ttOk Z) ?_
  refine R0 ?_
  refine WX.back0 ?_
  refine TX.all1 12 J ?_
  refine TS.op 12 Z J ?_
  refine WX.seal 42 17 18 Z Z Z Z Z ?_
  refine WX.bld ttOk Z Z Z Z Z Z Z ?_
  intro p8
  refine R0 ?_
  refine WX.back0 ?_
  refine TX.all1 13 J ?_
  refine TS.op 13 Z J ?_
  refine WX.opn (kk := 3) 501 10 20 Z Z Z ?_
  intro xs1 hx1
  refine WX.turn [14, 19] 21 Z (fun h hs => ol_one (α := Publication) (a := (Publication.mk (a02 x_.publisher) x_.seq x_.content)) (x := ((p5, c5), (), (p7, c6))) hs) (gs := [MF.ol [.slice p5 (((a02 x_.publisher).parts).length) c5, .int .i64 (x_.seq), .slice p7 ((x_.content).length) c6] ([(Publication.mk (a02 x_.publisher) x_.seq x_.content)] : List Publication)]) Z ?_
  have r2 : -9223372036854775808 ≤ x_.seq ∧ x_.seq ≤ 9223372036854775807 := (ok_Publication hokx_).2.1
  have r3 : ((a0d m).publications).length ≤ bd n := (okl (ok_Member hq1).2.2).1
  refine WX.know (fun G hΓ => (hΓ.get 21 Z : OwL _ _ _).rd.one) ?_
  intro ho1
  refine WX.appR1 501 47 (((a0d m).publications ++ [(Publication.mk (a02 x_.publisher) x_.seq x_.content)]) : List Publication).length ttOk Z Z Z Z Z Z Z Z Z Z Z Z Z ho1 (by simp) (by simp; omega) (by simp; omega) (fun _ _ => Z) ?_
  intro p9 c7
  refine WX.turn [20, 21] 22 Z (fun h hs => ol_app hs) (gs := [MF.ol (xs1 ++ [.slice p5 (((a02 x_.publisher).parts).length) c5, .int .i64 (x_.seq), .slice p7 ((x_.content).length) c6]) (((a0d m).publications ++ [(Publication.mk (a02 x_.publisher) x_.seq x_.content)]) : List Publication)]) Z ?_
  refine R0 ?_
  refine WX.back0 ?_
  refine TX.all1 14 J ?_
  refine TS.opK 14 Z (keeps_pure ttOk Z) ?_
  refine R0 ?_
  refine WX.back0 ?_
  refine TX.tail [15] Z Z J ?_
  refine R0 ?_
  refine WX.cases 52 Z (fun h2 => ?_) (fun h2 => ?_)
  ·skip
   have h2d := (B.nt h2)
   refine R0 ?_
   refine WX.callF 23 (fun _ _ h => GoT.ow_rd h) (fun _ f hf => GoT.fak f hf) Z Z Z Z Z O Z (fun w G bs hI hΓ => f116 w n (by omega) m K0 M0 (hΓ.get 0 Z) K1 M1 (hΓ.get 1 Z) K2 M2 (hΓ.get 2 Z) hokm) O O ?_
   rintro ⟨⟨p10, c8⟩, ⟨p11, c9⟩, ⟨p12, c10⟩⟩ hq5
   have q3 := cM_spec m
   refine R0 ?_
   have hP2 : a0k m x_ = (a0d m, false) := by simp only [a0k, h1, h2, ct, cf]
   refine R1 ?_
   intro w1 G bs hI hΓ
   rw [hP2]
   exact Post.of [26, 27, 28] ((p10, c8), (p11, c9), (p12, c10)) hI hΓ Z Z Z (And.intro (GoT.okm (α := List Str) (by omega) (ok_Name (ok_Member hq5).1)) (And.intro (GoT.okm (α := List TableEntry) (by omega) (ok_StateVector (ok_Member hq5).2.1)) (GoT.okm (α := List Publication) (by omega) (ok_Member hq5).2.2)))
  have h2d := (B.nf h2)
  refine R0 ?_
  refine WX.seal 501 22 29 Z Z Z Z Z ?_
  refine WX.der 31 (MF.rs .der p1 c1 ((a0d m).name.parts)) Z (fun _ hΓ => (hΓ.get 8 Z : OwSl _ _ _ _).rd) ?_
  refine WX.der 32 (MF.rs .der p4 c4 ((a03 m.vector.entries x_.publisher x_.seq).1)) Z (fun _ hΓ => (hΓ.get 12 Z : OwSl _ _ _ _).rd) ?_
  have r4 : (m.vector.entries).length ≤ bd n := (okl (ok_StateVector (ok_Member hokm).2.1)).1
  have r5 : ((a03 m.vector.entries x_.publisher x_.seq).1).length ≤ bd (n + 3) := (okl hq3).1
  refine WX.callV Z Z Z Z Z O Z (fun w G bs hI hΓ => f58 w (n + 1) (by omega) (Member.mk ((a0d m).name) (StateVector.mk ((a03 m.vector.entries x_.publisher x_.seq).1)) ((a0d m).publications ++ [(Publication.mk (a02 x_.publisher) x_.seq x_.content)])) p1 c1 (hΓ.get 31 Z) p4 c4 (hΓ.get 32 Z) p9 c7 (hΓ.get 29 Z) (And.intro (GoT.okm (α := List Str) (by omega) (ok_Name (ok_Member hq1).1)) (And.intro (okl_mk (by omega) (fun a ha => GoT.okm (by omega) (hfx1 a ha)) : GoT.ok (n + 1) ((a03 m.vector.entries x_.publisher x_.seq).1 : List TableEntry)) (okl_mk (by simp; omega) (fun a ha => GoT.okm (show n ≤ (n + 1) by omega) ((all_app (okl (ok_Member hq1).2.2).2 (all_cons (α := Publication) (And.intro hq4 (And.intro (ok_Publication hokx_).2.1 (okl_mk (by omega) (fun _ _ => trivial) : GoT.ok n (x_.content : List UInt8)))) (fun a ha => by cases ha))) a ha)) : GoT.ok (n + 1) (((a0d m).publications ++ [(Publication.mk (a02 x_.publisher) x_.seq x_.content)]) : List Publication))))) ?_
  intro hq6
  refine R0 ?_
  refine WX.cases 56 Z (fun h3 => ?_) (fun h3 => ?_)
  ·skip
   have h3d := (B.nt h3)
   refine R0 ?_
   refine WX.callF 33 (fun _ _ h => GoT.ow_rd h) (fun _ f hf => GoT.fak f hf) Z Z Z Z Z O Z (fun w G bs hI hΓ => f116 w n (by omega) m K0 M0 (hΓ.get 0 Z) K1 M1 (hΓ.get 1 Z) K2 M2 (hΓ.get 2 Z) hokm) O O ?_
   rintro ⟨⟨p13, c11⟩, ⟨p14, c12⟩, ⟨p15, c13⟩⟩ hq7
   have q4 := cM_spec m
   refine R0 ?_
   have hP3 : a0k m x_ = (a0d m, false) := by simp only [a0k, h1, h2, h3, ct, cf]
   refine R1 ?_
   intro w1 G bs hI hΓ
   rw [hP3]
   exact Post.of [36, 37, 38] ((p13, c11), (p14, c12), (p15, c13)) hI hΓ Z Z Z (And.intro (GoT.okm (α := List Str) (by omega) (ok_Name (ok_Member hq7).1)) (And.intro (GoT.okm (α := List TableEntry) (by omega) (ok_StateVector (ok_Member hq7).2.1)) (GoT.okm (α := List Publication) (by omega) (ok_Member hq7).2.2)))
  have h3d := (B.nf h3)
  refine R0 ?_
  have hP4 : a0k m x_ = (Member.mk ((a0d m).name) (StateVector.mk ((a03 m.vector.entries x_.publisher x_.seq).1)) ((a0d m).publications ++ [(Publication.mk (a02 x_.publisher) x_.seq x_.content)]), true) := by simp only [a0k, h1, h2, h3, ct, cf]
  refine R1 ?_
  intro w1 G bs hI hΓ
  rw [hP4]
  exact Post.of [8, 12, 30] ((p1, c1), (p4, c4), (p9, c7)) hI hΓ Z Z Z (And.intro (GoT.okm (α := List Str) (by omega) (ok_Name (ok_Member hq1).1)) (And.intro (okl_mk (by omega) (fun a ha => GoT.okm (by omega) (hfx1 a ha)) : GoT.ok (n + 3) ((a03 m.vector.entries x_.publisher x_.seq).1 : List TableEntry)) (okl_mk (by simp; omega) (fun a ha => GoT.okm (by omega) ((fun a ha => GoT.okm (show n ≤ (n + 1) by omega) ((all_app (okl (ok_Member hq1).2.2).2 (all_cons (α := Publication) (And.intro hq4 (And.intro (ok_Publication hokx_).2.1 (okl_mk (by omega) (fun _ _ => trivial) : GoT.ok n (x_.content : List UInt8)))) (fun a ha => by cases ha))) a ha)) a ha)) : GoT.ok (n + 3) (((a0d m).publications ++ [(Publication.mk (a02 x_.publisher) x_.seq x_.content)]) : List Publication))))
 refine TS.op 7 Z J ?_
 refine WX.bld ttOk Z Z Z Z Z Z Z ?_
 intro p16
 refine R0 ?_
 refine WX.back0 ?_
 refine TX.all1 4 J ?_
 refine TS.callF 4 39 (fun _ _ h => GoT.ow_rd h) (fun _ f hf => GoT.fak f hf) Z Z Z Z Z Z O Z (fun w G bs hI hΓ => f118 w n (by omega) x_.publisher K3 M3 (hΓ.get 3 Z) ((ok_Publication hokx_).1)) O O ?_
 rintro ⟨p17, c14⟩ hq8
 refine TX.all1 10 J ?_
 have r6 : (x_.content).length ≤ bd n := (okl (ok_Publication hokx_).2.2).1
 refine TS.opK 10 Z (keeps_appG (α := UInt8) 42 4 (x_.content : List UInt8).length ttOk Z Z Z Z Z Z Z Z Z (by simp) (by omega) (by omega) Z) ?_
 refine WX.free 41 (MF.ol [] ([] : List UInt8)) Z ?_
 refine WX.appG1 42 4 42 (x_.content : List UInt8).length ttOk Z Z Z Z Z Z Z Z Z Z Z Z Z (by first | (simp; done) | (simp; omega)) (by omega) (by omega) (fun _ _ _ => Z) ?_
 intro ys2 p18 c15
 refine WX.know (fun G hΓ => (hΓ.get 42 Z : RdL _ _ _).flat) ?_
 intro hf2
 refine WX.turn [41] 43 Z (fun h hs => ol_flat hs hf2) (gs := [MF.ol ([] ++ ys2) (x_.content : List UInt8)]) Z ?_
 refine R0 ?_
 refine WX.back0 ?_
 refine TX.all1 11 J ?_
 refine TS.opK 11 Z (keeps_pure ttOk Z) ?_
 refine R0 ?_
 refine WX.back0 ?_
 refine TX.all1 12 J ?_
 refine TS.op 12 Z J ?_
 refine WX.seal 42 43 44 Z Z Z Z Z ?_
 refine WX.bld ttOk Z Z Z Z Z Z Z ?_
 intro p19
 refine R0 ?_
 refine WX.back0 ?_
 refine TX.all1 13 J ?_
 refine TS.op 13 Z J ?_
 refine WX.opn (kk := 3) 502 10 46 Z Z Z ?_
 intro xs2 hx2
 refine WX.turn [40, 45] 47 Z (fun h hs => ol_one (α := Publication) (a := (Publication.mk (a02 x_.publisher) x_.seq x_.content)) (x := ((p17, c14), (), (p18, c15))) hs) (gs := [MF.ol [.slice p17 (((a02 x_.publisher).parts).length) c14, .int .i64 (x_.seq), .slice p18 ((x_.content).length) c15] ([(Publication.mk (a02 x_.publisher) x_.seq x_.content)] : List Publication)]) Z ?_
 have r7 : -9223372036854775808 ≤ x_.seq ∧ x_.seq ≤ 9223372036854775807 := (ok_Publication hokx_).2.1
 have r8 : ((a0d m).publications).length ≤ bd n := (okl (ok_Member hq1).2.2).1
 refine WX.know (fun G hΓ => (hΓ.get 47 Z : OwL _ _ _).rd.one) ?_
 intro ho2
 refine WX.appR1 502 47 (((a0d m).publications ++ [(Publication.mk (a02 x_.publisher) x_.seq x_.content)]) : List Publication).length ttOk Z Z Z Z Z Z Z Z Z Z Z Z Z ho2 (by simp) (by simp; omega) (by simp; omega) (fun _ _ => Z) ?_
 intro p20 c16
 refine WX.turn [46, 47] 48 Z (fun h hs => ol_app hs) (gs := [MF.ol (xs2 ++ [.slice p17 (((a02 x_.publisher).parts).length) c14, .int .i64 (x_.seq), .slice p18 ((x_.content).length) c15]) (((a0d m).publications ++ [(Publication.mk (a02 x_.publisher) x_.seq x_.content)]) : List Publication)]) Z ?_
 refine R0 ?_
 refine WX.back0 ?_
 refine TX.all1 14 J ?_
 refine TS.opK 14 Z (keeps_pure ttOk Z) ?_
 refine R0 ?_
 refine WX.back0 ?_
 refine TX.tail [15] Z Z J ?_
 refine R0 ?_
 refine WX.cases 52 Z (fun h4 => ?_) (fun h4 => ?_)
 ·skip
  have h4d := (B.nt h4)
  refine R0 ?_
  refine WX.callF 49 (fun _ _ h => GoT.ow_rd h) (fun _ f hf => GoT.fak f hf) Z Z Z Z Z O Z (fun w G bs hI hΓ => f116 w n (by omega) m K0 M0 (hΓ.get 0 Z) K1 M1 (hΓ.get 1 Z) K2 M2 (hΓ.get 2 Z) hokm) O O ?_
  rintro ⟨⟨p21, c17⟩, ⟨p22, c18⟩, ⟨p23, c19⟩⟩ hq9
  have q5 := cM_spec m
  refine R0 ?_
  have hP5 : a0k m x_ = (a0d m, false) := by simp only [a0k, h1, h4, ct, cf]
  refine R1 ?_
  intro w1 G bs hI hΓ
  rw [hP5]
  exact Post.of [52, 53, 54] ((p21, c17), (p22, c18), (p23, c19)) hI hΓ Z Z Z (And.intro (GoT.okm (α := List Str) (by omega) (ok_Name (ok_Member hq9).1)) (And.intro (GoT.okm (α := List TableEntry) (by omega) (ok_StateVector (ok_Member hq9).2.1)) (GoT.okm (α := List Publication) (by omega) (ok_Member hq9).2.2)))
 have h4d := (B.nf h4)
 refine R0 ?_
 refine WX.seal 502 48 55 Z Z Z Z Z ?_
 refine WX.der 57 (MF.rs .der p1 c1 ((a0d m).name.parts)) Z (fun _ hΓ => (hΓ.get 8 Z : OwSl _ _ _ _).rd) ?_
 refine WX.der 58 (MF.rs .der p4 c4 ((a03 m.vector.entries x_.publisher x_.seq).1)) Z (fun _ hΓ => (hΓ.get 12 Z : OwSl _ _ _ _).rd) ?_
 have r9 : (m.vector.entries).length ≤ bd n := (okl (ok_StateVector (ok_Member hokm).2.1)).1
 have r10 : ((a03 m.vector.entries x_.publisher x_.seq).1).length ≤ bd (n + 3) := (okl hq3).1
 refine WX.callV Z Z Z Z Z O Z (fun w G bs hI hΓ => f58 w (n + 1) (by omega) (Member.mk ((a0d m).name) (StateVector.mk ((a03 m.vector.entries x_.publisher x_.seq).1)) ((a0d m).publications ++ [(Publication.mk (a02 x_.publisher) x_.seq x_.content)])) p1 c1 (hΓ.get 57 Z) p4 c4 (hΓ.get 58 Z) p20 c16 (hΓ.get 55 Z) (And.intro (GoT.okm (α := List Str) (by omega) (ok_Name (ok_Member hq1).1)) (And.intro (okl_mk (by omega) (fun a ha => GoT.okm (by omega) (hfx1 a ha)) : GoT.ok (n + 1) ((a03 m.vector.entries x_.publisher x_.seq).1 : List TableEntry)) (okl_mk (by simp; omega) (fun a ha => GoT.okm (show n ≤ (n + 1) by omega) ((all_app (okl (ok_Member hq1).2.2).2 (all_cons (α := Publication) (And.intro hq8 (And.intro (ok_Publication hokx_).2.1 (okl_mk (by omega) (fun _ _ => trivial) : GoT.ok n (x_.content : List UInt8)))) (fun a ha => by cases ha))) a ha)) : GoT.ok (n + 1) (((a0d m).publications ++ [(Publication.mk (a02 x_.publisher) x_.seq x_.content)]) : List Publication))))) ?_
 intro hq10
 refine R0 ?_
 refine WX.cases 56 Z (fun h5 => ?_) (fun h5 => ?_)
 ·skip
  have h5d := (B.nt h5)
  refine R0 ?_
  refine WX.callF 59 (fun _ _ h => GoT.ow_rd h) (fun _ f hf => GoT.fak f hf) Z Z Z Z Z O Z (fun w G bs hI hΓ => f116 w n (by omega) m K0 M0 (hΓ.get 0 Z) K1 M1 (hΓ.get 1 Z) K2 M2 (hΓ.get 2 Z) hokm) O O ?_
  rintro ⟨⟨p24, c20⟩, ⟨p25, c21⟩, ⟨p26, c22⟩⟩ hq11
  have q6 := cM_spec m
  refine R0 ?_
  have hP6 : a0k m x_ = (a0d m, false) := by simp only [a0k, h1, h4, h5, ct, cf]
  refine R1 ?_
  intro w1 G bs hI hΓ
  rw [hP6]
  exact Post.of [62, 63, 64] ((p24, c20), (p25, c21), (p26, c22)) hI hΓ Z Z Z (And.intro (GoT.okm (α := List Str) (by omega) (ok_Name (ok_Member hq11).1)) (And.intro (GoT.okm (α := List TableEntry) (by omega) (ok_StateVector (ok_Member hq11).2.1)) (GoT.okm (α := List Publication) (by omega) (ok_Member hq11).2.2)))
 have h5d := (B.nf h5)
 refine R0 ?_
 have hP7 : a0k m x_ = (Member.mk ((a0d m).name) (StateVector.mk ((a03 m.vector.entries x_.publisher x_.seq).1)) ((a0d m).publications ++ [(Publication.mk (a02 x_.publisher) x_.seq x_.content)]), true) := by simp only [a0k, h1, h4, h5, ct, cf]
 refine R1 ?_
 intro w1 G bs hI hΓ
 rw [hP7]
 exact Post.of [8, 12, 56] ((p1, c1), (p4, c4), (p20, c16)) hI hΓ Z Z Z (And.intro (GoT.okm (α := List Str) (by omega) (ok_Name (ok_Member hq1).1)) (And.intro (okl_mk (by omega) (fun a ha => GoT.okm (by omega) (hfx1 a ha)) : GoT.ok (n + 3) ((a03 m.vector.entries x_.publisher x_.seq).1 : List TableEntry)) (okl_mk (by simp; omega) (fun a ha => GoT.okm (by omega) ((fun a ha => GoT.okm (show n ≤ (n + 1) by omega) ((all_app (okl (ok_Member hq1).2.2).2 (all_cons (α := Publication) (And.intro hq8 (And.intro (ok_Publication hokx_).2.1 (okl_mk (by omega) (fun _ _ => trivial) : GoT.ok n (x_.content : List UInt8)))) (fun a ha => by cases ha))) a ha)) a ha)) : GoT.ok (n + 3) (((a0d m).publications ++ [(Publication.mk (a02 x_.publisher) x_.seq x_.content)]) : List Publication))))
theorem f34 (w : World) (n : Nat) (hn : n + 3 ≤ 9) (m : Member) (K0 : Option Addr) (M0 : Nat) (N0 : RdSl (hp w) K0 M0 m.name.parts) (K1 : Option Addr) (M1 : Nat) (N1 : RdSl (hp w) K1 M1 m.vector.entries) (K2 : Option Addr) (M2 : Nat) (N2 : RdSl (hp w) K2 M2 m.publications) (b : (List UInt8)) (pb : Option Addr) (cb : Nat) (N3 : RdSl (hp w) pb cb b) (hokm : GoT.ok n m) (hokb : GoT.ok n b) :
 Does Tryz.prog 34 #[.agg #[.slice K0 ((m.name.parts).length) M0, .slice K1 ((m.vector.entries).length) M1, .slice K2 ((m.publications).length) M2], .slice pb ((b).length) cb] w emp (Post w emp (fun x : GoT.X (Member) => .tuple #[.agg ⟨GoT.sh ((a16 m b).1 : Member) x⟩, .bool ((a16 m b).2)]) (fun x => GoT.oa ((a16 m b).1 : Member) x) (GoT.ok (n + 3) ((a16 m b).1 : Member))) := by
 have hbP := bd_pos n
 have hbS0 : bd (n + 1) = 4 * bd (n) := bd_succ (n := n) (by omega)
 have hbS1 : bd (n + 2) = 4 * bd (n + 1) := bd_succ (n := n + 1) (by omega)
 have hbS2 : bd (n + 3) = 4 * bd (n + 2) := bd_succ (n := n + 2) (by omega)
 have hbB := bd_big (n := (n + 3)) (by omega)
 have hbM := bd_mono (show n ≤ n + 3 by omega)
 refine WX.enter (tt := tt) (Γ := [(0, MF.rs .stb K0 M0 m.name.parts), (1, MF.rs .stb K1 M1 m.vector.entries), (2, MF.rs .stb K2 M2 m.publications), (3, MF.rs .stb pb cb b)]) Tryz.func34 Z J Z (allS_cons Z N0 (allS_cons Z N1 (allS_cons Z N2 (allS_cons Z N3 allS_nil)))) ?_
 refine R0 ?_
 refine WX.draw [14, 15] mixed ?_
 intro bs G0 hΓ0
 refine DX.takes (fuel := 8) ttOk [(0, false), (1, true), (2, false), (3, true), (4, false), (5, true), (6, false), (9, true)] J Z ?_
 refine DX.callV 7 Z J Z Z Z Z Z Z O Z (fun w G bs hI hΓ => f60 w n (by omega) m.vector K1 M1 (hΓ.get 1 Z) m.name K0 M0 (hΓ.get 0 Z) ((ok_Member hokm).2.1) ((ok_Member hokm).1)) ?_
 intro hq1
 refine DX.seeP 8 J Z Z Z Z (looksP_wrap Z Z Z Z) ?_
 refine DX.takes (fuel := 5) ttOk [(10, true)] J Z ?_
 refine DX.callF 11 4 (fun _ _ h => GoT.ow_rd h) (fun _ f hf => GoT.fak f hf) Z J Z Z Z Z Z Z O Z (fun w G bs hI hΓ => f37 w n (by omega) m K0 M0 (hΓ.get 0 Z) K1 M1 (hΓ.get 1 Z) K2 M2 (hΓ.get 2 Z) (Publication.mk m.name (IntKind.i64.wrap ((a11 m.vector m.name) + 1)) b) K0 M0 (hΓ.get 0 Z) pb cb (hΓ.get 3 Z) hokm (And.intro (ok_Member hokm).1 (And.intro (i64_wrap _) hokb))) O O ?_
 rintro ⟨⟨p1, c1⟩, ⟨p2, c2⟩, ⟨p3, c3⟩⟩ hq2
 have q1 := (ap_impl m (Publication.mk m.name (IntKind.i64.wrap ((a11 m.vector m.name) + 1)) b)).lenN
 have q2 := (ap_impl m (Publication.mk m.name (IntKind.i64.wrap ((a11 m.vector m.name) + 1)) b)).lenE
 have q3 := (ap_impl m (Publication.mk m.name (IntKind.i64.wrap ((a11 m.vector m.name) + 1)) b)).lenP
 try dsimp only at q1
 try dsimp only at q2
 try dsimp only at q3
 refine DX.takes (fuel := 2) ttOk [(12, true), (13, true)] J Z ?_
 refine DX.tail2 [14, 15] Z Z J ?_
 refine R0 ?_
 have hP1 : a16 m b = ((a0t m (Publication.mk m.name (IntKind.i64.wrap ((a11 m.vector m.name) + 1)) b)).1, (a0t m (Publication.mk m.name (IntKind.i64.wrap ((a11 m.vector m.name) + 1)) b)).2) := by simp only [a16, ct, cf]
 refine R1 ?_
 intro w1 G bs hI hΓ
 rw [hP1]
 exact Post.of [7, 8, 9] ((p1, c1), (p2, c2), (p3, c3)) hI hΓ Z Z Z hq2
theorem f35 (w : World) (n : Nat) (hn : n + 3 ≤ 9) (m : Member) (K0 : Option Addr) (M0 : Nat) (N0 : RdSl (hp w) K0 M0 m.name.parts) (K1 : Option Addr) (M1 : Nat) (N1 : RdSl (hp w) K1 M1 m.vector.entries) (K2 : Option Addr) (M2 : Nat) (N2 : RdSl (hp w) K2 M2 m.publications) (b : (List UInt8)) (pb : Option Addr) (cb : Nat) (N3 : RdSl (hp w) pb cb b) (hokm : GoT.ok n m) (hokb : GoT.ok n b) :
 Does Tryz.prog 35 #[.agg #[.slice K0 ((m.name.parts).length) M0, .slice K1 ((m.vector.entries).length) M1, .slice K2 ((m.publications).length) M2], .slice pb ((b).length) cb] w emp (Post w emp (fun x : GoT.X (Member) => .tuple #[.agg ⟨GoT.sh ((a0f m b).1 : Member) x⟩, .bool ((a0f m b).2)]) (fun x => GoT.oa ((a0f m b).1 : Member) x) (GoT.ok (n + 3) ((a0f m b).1 : Member))) := by
 have hbP := bd_pos n
 have hbS0 : bd (n + 1) = 4 * bd (n) := bd_succ (n := n) (by omega)
 have hbS1 : bd (n + 2) = 4 * bd (n + 1) := bd_succ (n := n + 1) (by omega)
 have hbS2 : bd (n + 3) = 4 * bd (n + 2) := bd_succ (n := n + 2) (by omega)
 have hbB := bd_big (n := (n + 3)) (by omega)
 have hbM := bd_mono (show n ≤ n + 3 by omega)
 refine WX.enter (tt := tt) (Γ := [(0, MF.rs .stb K0 M0 m.name.parts), (1, MF.rs .stb K1 M1 m.vector.entries), (2, MF.rs .stb K2 M2 m.publications), (3, MF.rs .stb pb cb b)]) Tryz.func35 Z J Z (allS_cons Z N0 (allS_cons Z N1 (allS_cons Z N2 (allS_cons Z N3 allS_nil)))) ?_
 refine R0 ?_
 refine WX.draw [14, 15] mixed ?_
 intro bs G0 hΓ0
 refine DX.takes (fuel := 8) ttOk [(0, false), (1, true), (2, false), (3, true), (4, false), (5, true), (6, false), (9, true)] J Z ?_
 refine DX.callV 7 Z J Z Z Z Z Z Z O Z (fun w G bs hI hΓ => f108 w n (by omega) m.vector K1 M1 (hΓ.get 1 Z) m.name K0 M0 (hΓ.get 0 Z) ((ok_Member hokm).2.1) ((ok_Member hokm).1)) ?_
 intro hq1
 refine DX.seeP 8 J Z Z Z Z (looksP_wrap Z Z Z Z) ?_
 refine DX.takes (fuel := 5) ttOk [(10, true)] J Z ?_
 refine DX.callF 11 4 (fun _ _ h => GoT.ow_rd h) (fun _ f hf => GoT.fak f hf) Z J Z Z Z Z Z Z O Z (fun w G bs hI hΓ => f38 w n (by omega) m K0 M0 (hΓ.get 0 Z) K1 M1 (hΓ.get 1 Z) K2 M2 (hΓ.get 2 Z) (Publication.mk m.name (IntKind.i64.wrap ((a0b m.vector m.name) + 1)) b) K0 M0 (hΓ.get 0 Z) pb cb (hΓ.get 3 Z) hokm (And.intro (ok_Member hokm).1 (And.intro (i64_wrap _) hokb))) O O ?_
 rintro ⟨⟨p1, c1⟩, ⟨p2, c2⟩, ⟨p3, c3⟩⟩ hq2
 have q1 := (ap_spec m (Publication.mk m.name (IntKind.i64.wrap ((a0b m.vector m.name) + 1)) b)).lenN
 have q2 := (ap_spec m (Publication.mk m.name (IntKind.i64.wrap ((a0b m.vector m.name) + 1)) b)).lenE
 have q3 := (ap_spec m (Publication.mk m.name (IntKind.i64.wrap ((a0b m.vector m.name) + 1)) b)).lenP
 try dsimp only at q1
 try dsimp only at q2
 try dsimp only at q3
 refine DX.takes (fuel := 2) ttOk [(12, true), (13, true)] J Z ?_
 refine DX.tail2 [14, 15] Z Z J ?_
 refine R0 ?_
 have hP1 : a0f m b = ((a0k m (Publication.mk m.name (IntKind.i64.wrap ((a0b m.vector m.name) + 1)) b)).1, (a0k m (Publication.mk m.name (IntKind.i64.wrap ((a0b m.vector m.name) + 1)) b)).2) := by simp only [a0f, ct, cf]
 refine R1 ?_
 intro w1 G bs hI hΓ
 rw [hP1]
 exact Post.of [7, 8, 9] ((p1, c1), (p2, c2), (p3, c3)) hI hΓ Z Z Z hq2
end Go.Proofs.YtolepebgdfdciaaGreat

namespace Go.Stp
set_option linter.unusedVariables false
set_option linter.unusedSimpArgs false
def a2n (from_ : Member) : List TableEntry → (List Str) → (List TableEntry) → (List Publication) → (List Str) × (List TableEntry) × (List Publication)
 | [], outName, outVector, outPublications => (((outName) : List Str), ((outVector) : List TableEntry), ((outPublications) : List Publication))
 | e1 :: rest_, outName, outVector, outPublications =>
  bif (a0o from_ e1.name e1.value).2 then
   a2n from_ rest_ (((a0t (Member.mk (Name.mk outName) (StateVector.mk outVector) outPublications) (Publication.mk e1.name e1.value ((a0o from_ e1.name e1.value).1))).1.name.parts) : List Str) (((a0t (Member.mk (Name.mk outName) (StateVector.mk outVector) outPublications) (Publication.mk e1.name e1.value ((a0o from_ e1.name e1.value).1))).1.vector.entries) : List TableEntry) (((a0t (Member.mk (Name.mk outName) (StateVector.mk outVector) outPublications) (Publication.mk e1.name e1.value ((a0o from_ e1.name e1.value).1))).1.publications) : List Publication)
  else
   a2n from_ rest_ ((outName) : List Str) ((outVector) : List TableEntry) ((outPublications) : List Publication)
def a0h (m : Member) (from_ : Member) : Member :=
 match a2n from_ (a10 m from_.vector) ((a0j m).name.parts : List Str) ((a0j m).vector.entries : List TableEntry) ((a0j m).publications : List Publication) with
  | (outName, outVector, outPublications) =>
   (Member.mk (Name.mk outName) (StateVector.mk outVector) outPublications)
def a17 (from_ : Member) : List TableEntry → (List Str) → (List TableEntry) → (List Publication) → (List Str) × (List TableEntry) × (List Publication)
 | [], outName, outVector, outPublications => (((outName) : List Str), ((outVector) : List TableEntry), ((outPublications) : List Publication))
 | e1 :: rest_, outName, outVector, outPublications =>
  bif (a0g from_ e1.name e1.value).2 then
   a17 from_ rest_ (((a0k (Member.mk (Name.mk outName) (StateVector.mk outVector) outPublications) (Publication.mk e1.name e1.value ((a0g from_ e1.name e1.value).1))).1.name.parts) : List Str) (((a0k (Member.mk (Name.mk outName) (StateVector.mk outVector) outPublications) (Publication.mk e1.name e1.value ((a0g from_ e1.name e1.value).1))).1.vector.entries) : List TableEntry) (((a0k (Member.mk (Name.mk outName) (StateVector.mk outVector) outPublications) (Publication.mk e1.name e1.value ((a0g from_ e1.name e1.value).1))).1.publications) : List Publication)
  else
   a17 from_ rest_ ((outName) : List Str) ((outVector) : List TableEntry) ((outPublications) : List Publication)
def a07 (m : Member) (from_ : Member) : Member :=
 match a17 from_ (a0q m from_.vector) ((a0d m).name.parts : List Str) ((a0d m).vector.entries : List TableEntry) ((a0d m).publications : List Publication) with
  | (outName, outVector, outPublications) =>
   (Member.mk (Name.mk outName) (StateVector.mk outVector) outPublications)
end Go.Stp

namespace Go.Proofs.YtolepebgdfdciaaGreat
open Go.Stp
set_option linter.unusedVariables false
set_option linter.unusedSimpArgs false
theorem f47 (w : World) (n : Nat) (hn : n + 4 ≤ 9) (m : Member) (K0 : Option Addr) (M0 : Nat) (N0 : RdSl (hp w) K0 M0 m.name.parts) (K1 : Option Addr) (M1 : Nat) (N1 : RdSl (hp w) K1 M1 m.vector.entries) (K2 : Option Addr) (M2 : Nat) (N2 : RdSl (hp w) K2 M2 m.publications) (from_ : Member) (K3 : Option Addr) (M3 : Nat) (N3 : RdSl (hp w) K3 M3 from_.name.parts) (K4 : Option Addr) (M4 : Nat) (N4 : RdSl (hp w) K4 M4 from_.vector.entries) (K5 : Option Addr) (M5 : Nat) (N5 : RdSl (hp w) K5 M5 from_.publications) (hokm : GoT.ok n m) (hokfrom_ : GoT.ok n from_) :
 Does Tryz.prog 47 #[.agg #[.slice K0 ((m.name.parts).length) M0, .slice K1 ((m.vector.entries).length) M1, .slice K2 ((m.publications).length) M2], .agg #[.slice K3 ((from_.name.parts).length) M3, .slice K4 ((from_.vector.entries).length) M4, .slice K5 ((from_.publications).length) M5]] w emp (Post w emp (fun x : GoT.X (Member) => .agg ⟨GoT.sh ((a0h m from_) : Member) x⟩) (fun x => GoT.oa ((a0h m from_) : Member) x) (GoT.ok (n + 1) ((a0h m from_) : Member))) := by
 have hbP := bd_pos n
 have hbS0 : bd (n + 1) = 4 * bd (n) := bd_succ (n := n) (by omega)
 have hbS1 : bd (n + 2) = 4 * bd (n + 1) := bd_succ (n := n + 1) (by omega)
 have hbS2 : bd (n + 3) = 4 * bd (n + 2) := bd_succ (n := n + 2) (by omega)
 have hbS3 : bd (n + 4) = 4 * bd (n + 3) := bd_succ (n := n + 3) (by omega)
 have hbB := bd_big (n := (n + 4)) (by omega)
 have hbM := bd_mono (show n ≤ n + 4 by omega)
 refine WX.enter (tt := tt) (Γ := [(0, MF.rs .stb K0 M0 m.name.parts), (1, MF.rs .stb K1 M1 m.vector.entries), (2, MF.rs .stb K2 M2 m.publications), (3, MF.rs .stb K3 M3 from_.name.parts), (4, MF.rs .stb K4 M4 from_.vector.entries), (5, MF.rs .stb K5 M5 from_.publications)]) Tryz.func47 Z J Z (allS_cons Z N0 (allS_cons Z N1 (allS_cons Z N2 (allS_cons Z N3 (allS_cons Z N4 (allS_cons Z N5 allS_nil)))))) ?_
 refine R0 ?_
 refine WX.callF 6 (fun _ _ h => GoT.ow_rd h) (fun _ f hf => GoT.fak f hf) Z Z Z Z Z O Z (fun w G bs hI hΓ => f112 w n (by omega) m K0 M0 (hΓ.get 0 Z) K1 M1 (hΓ.get 1 Z) K2 M2 (hΓ.get 2 Z) hokm) O O ?_
 rintro ⟨⟨p1, c1⟩, ⟨p2, c2⟩, ⟨p3, c3⟩⟩ hq1
 have q1 := cM_impl m
 refine R0 ?_
 refine WX.callF 12 (fun _ _ h => GoT.ow_rd h) (fun _ f hf => GoT.fak f hf) Z Z Z Z Z O Z (fun w G bs hI hΓ => f53 w n (by omega) m K0 M0 (hΓ.get 0 Z) K1 M1 (hΓ.get 1 Z) K2 M2 (hΓ.get 2 Z) from_.vector K4 M4 (hΓ.get 4 Z) hokm ((ok_Member hokfrom_).2.1)) O O ?_
 rintro ⟨p4, c4⟩ hq2
 refine R0 ?_
 have r1 : (a10 m from_.vector).length ≤ bd n := (okl hq2).1
 have hA0 : (a0j m).vector.entries.length ≤ bd n := by rw [cM_impl]; exact (okl (ok_StateVector (ok_Member hokm).2.1)).1
 have hA1 : (a0j m).publications.length ≤ bd n := by rw [cM_impl]; exact (okl (ok_Member hokm).2.2).1
 have hA2 : (a0j m).name.parts.length ≤ bd n := by rw [cM_impl]; exact (okl (ok_Name (ok_Member hokm).1)).1
 refine WX.loop (ι := Nat × (Option Addr) × Nat × (List Str) × (Option Addr) × Nat × (List TableEntry) × (Option Addr) × Nat × (List Publication)) ⟨fun | (i, poutName, coutName, outName, poutVector, coutVector, outVector, poutPublications, coutPublications, outPublications) => (i ≤ ((a10 m from_.vector)).length) ∧ (outName.length ≤ bd (n + 1) ∧ ∀ z_ ∈ outName, GoT.ok (n + 1) z_) ∧ (outVector.length ≤ bd (n + 1) ∧ ∀ z_ ∈ outVector, GoT.ok (n + 1) z_) ∧ (outPublications.length ≤ bd (n + 1) ∧ ∀ z_ ∈ outPublications, GoT.ok (n + 1) z_) ∧ (outName.length ≤ i + ((a0j m).name.parts).length) ∧ (outVector.length ≤ i + ((a0j m).vector.entries).length) ∧ (outPublications.length ≤ i + ((a0j m).publications).length) ∧ (a2n from_ (a10 m from_.vector) ((a0j m).name.parts : List Str) ((a0j m).vector.entries : List TableEntry) ((a0j m).publications : List Publication) = a2n from_ (((a10 m from_.vector)).drop i) outName outVector outPublications), fun | (i, poutName, coutName, outName, poutVector, coutVector, outVector, poutPublications, coutPublications, outPublications) => ((a10 m from_.vector)).length - i, fun | (i, poutName, coutName, outName, poutVector, coutVector, outVector, poutPublications, coutPublications, outPublications) => [(17, .v (.int .i64 (((i : Nat) : Int)))), (16, .v (.int .i64 (((((a10 m from_.vector)).length : Nat) : Int)))), (15, .v (.slice p4 (((a10 m from_.vector)).length) c4)), (5, .p 5 0), (4, .p 4 0), (3, .p 3 0)], fun | (i, poutName, coutName, outName, poutVector, coutVector, outVector, poutPublications, coutPublications, outPublications) => [(5, ⟨60, [.slice poutName ((outName).length) coutName, .slice poutVector ((outVector).length) coutVector, .slice poutPublications ((outPublications).length) coutPublications]⟩), (4, ⟨60, [.slice none (0) 0, .slice none (0) 0, .slice none (0) 0]⟩), (3, ⟨60, [.slice K3 ((from_.name.parts).length) M3, .slice K4 ((from_.vector.entries).length) M4, .slice K5 ((from_.publications).length) M5]⟩)], fun | (i, poutName, coutName, outName, poutVector, coutVector, outVector, poutPublications, coutPublications, outPublications) => [], fun | (i, poutName, coutName, outName, poutVector, coutVector, outVector, poutPublications, coutPublications, outPublications) => [(0, MF.rs .stb K0 M0 m.name.parts), (1, MF.rs .stb K1 M1 m.vector.entries), (2, MF.rs .stb K2 M2 m.publications), (3, MF.rs .stb K3 M3 from_.name.parts), (4, MF.rs .stb K4 M4 from_.vector.entries), (5, MF.rs .stb K5 M5 from_.publications), (9, MF.os poutName coutName outName), (10, MF.os poutVector coutVector outVector), (11, MF.os poutPublications coutPublications outPublications), (13, MF.os p4 c4 (a10 m from_.vector))]⟩ (0, p1, c1, ((a0j m).name.parts : List Str), p2, c2, ((a0j m).vector.entries : List TableEntry), p3, c3, ((a0j m).publications : List Publication)) ⟨(Nat.zero_le _), (GoT.okm (α := List Str) (by omega) (ok_Name (ok_Member hq1).1)), (GoT.okm (α := List TableEntry) (by omega) (ok_StateVector (ok_Member hq1).2.1)), (GoT.okm (α := List Publication) (by omega) (ok_Member hq1).2.2), (by simp), (by simp), (by simp), Z⟩
  (.cons Z (.cons Z (.cons Z (.cons Z (.cons Z (.cons Z (.nil))))))) (.cons Z (.cons Z (.cons Z (.nil)))) .nil [0, 1, 2, 3, 4, 5, 9, 10, 11, 13] Z ?_
 rintro ⟨i, poutName, coutName, outName, poutVector, coutVector, outVector, poutPublications, coutPublications, outPublications⟩ hpre
 have hpre_ : (i ≤ ((a10 m from_.vector)).length) ∧ (outName.length ≤ bd (n + 1) ∧ ∀ z_ ∈ outName, GoT.ok (n + 1) z_) ∧ (outVector.length ≤ bd (n + 1) ∧ ∀ z_ ∈ outVector, GoT.ok (n + 1) z_) ∧ (outPublications.length ≤ bd (n + 1) ∧ ∀ z_ ∈ outPublications, GoT.ok (n + 1) z_) ∧ (outName.length ≤ i + ((a0j m).name.parts).length) ∧ (outVector.length ≤ i + ((a0j m).vector.entries).length) ∧ (outPublications.length ≤ i + ((a0j m).publications).length) ∧ (a2n from_ (a10 m from_.vector) ((a0j m).name.parts : List Str) ((a0j m).vector.entries : List TableEntry) ((a0j m).publications : List Publication) = a2n from_ (((a10 m from_.vector)).drop i) outName outVector outPublications) := hpre
 clear hpre
 obtain ⟨v1, v2, v3, v4, v5, v6, v7, v8⟩ := hpre_
 have v2L := v2.1
 have v3L := v3.1
 have v4L := v4.1
 refine R0 ?_
 refine WX.cases 18 Z (fun h1 => ?_) (fun h1 => ?_)
 ·skip
  have h1d := B.dt h1
  have e1i : i < ((a10 m from_.vector)).length := (by omega)
  obtain ⟨e1, e1h⟩ : ∃ e1, ((a10 m from_.vector))[i]? = some e1 := ⟨_, List.getElem?_eq_getElem e1i⟩
  have ok1 : GoT.ok n e1 := (okl hq2).2 _ (List.mem_of_getElem? e1h)
  refine R0 ?_
  refine WX.der 14 (MF.rs .der p4 c4 (a10 m from_.vector)) Z (fun _ hΓ => (hΓ.get 13 Z : OwSl _ _ _ _).rd) ?_
  refine WX.idx 14 i ttOk Z Z Z Z Z Z Z Z Z Z e1i ?_
  rintro ad1 rfl
  refine WX.ldE 14 15 e1 ttOk Z Z Z Z Z Z Z Z e1h O O ?_
  rintro ⟨⟨p5, c5⟩, ⟨⟩⟩
  refine R0 ?_
  refine WX.callF 16 (fun _ _ h => GoT.ow_rd h) (fun _ f hf => GoT.fak f hf) Z Z Z Z Z O Z (fun w G bs hI hΓ => f42 w n (by omega) from_ K3 M3 (hΓ.get 3 Z) K4 M4 (hΓ.get 4 Z) K5 M5 (hΓ.get 5 Z) e1.name p5 c5 (hΓ.get 15 Z) e1.value hokfrom_ ((ok_TableEntry ok1).1) ((ok_TableEntry ok1).2)) O O ?_
  rintro ⟨p6, c6⟩ hq3
  refine R0 ?_
  refine WX.cases 30 Z (fun h2 => ?_) (fun h2 => ?_)
  ·skip
   refine R0 ?_
   refine WX.der 18 (MF.rs .der poutName coutName outName) Z (fun _ hΓ => (hΓ.get 9 Z : OwSl _ _ _ _).rd) ?_
   refine WX.der 19 (MF.rs .der poutVector coutVector outVector) Z (fun _ hΓ => (hΓ.get 10 Z : OwSl _ _ _ _).rd) ?_
   refine WX.der 20 (MF.rs .der poutPublications coutPublications outPublications) Z (fun _ hΓ => (hΓ.get 11 Z : OwSl _ _ _ _).rd) ?_
   refine WX.callF 21 (fun _ _ h => GoT.ow_rd h) (fun _ f hf => GoT.fak f hf) Z Z Z Z Z O Z (fun w G bs hI hΓ => f37 w (n + 1) (by omega) (Member.mk (Name.mk outName) (StateVector.mk outVector) outPublications) poutName coutName (hΓ.get 18 Z) poutVector coutVector (hΓ.get 19 Z) poutPublications coutPublications (hΓ.get 20 Z) (Publication.mk e1.name e1.value ((a0o from_ e1.name e1.value).1)) p5 c5 (hΓ.get 15 Z) p6 c6 (hΓ.get 16 Z) (And.intro (okl_of v2) (And.intro (okl_of v3) (okl_of v4))) (And.intro (GoT.okm (α := List Str) (by omega) (ok_Name (ok_TableEntry ok1).1)) (And.intro (ok_TableEntry ok1).2 (GoT.okm (α := List UInt8) (by omega) hq3)))) O O ?_
   rintro ⟨⟨p7, c7⟩, ⟨p8, c8⟩, ⟨p9, c9⟩⟩ hq4
   have q2 := (ap_impl (Member.mk (Name.mk outName) (StateVector.mk outVector) outPublications) (Publication.mk e1.name e1.value ((a0o from_ e1.name e1.value).1))).lenN
   have q3 := (ap_impl (Member.mk (Name.mk outName) (StateVector.mk outVector) outPublications) (Publication.mk e1.name e1.value ((a0o from_ e1.name e1.value).1))).lenE
   have q4 := (ap_impl (Member.mk (Name.mk outName) (StateVector.mk outVector) outPublications) (Publication.mk e1.name e1.value ((a0o from_ e1.name e1.value).1))).lenP
   try dsimp only at q2
   try dsimp only at q3
   try dsimp only at q4
   have hsh1 := ap_impl (Member.mk (Name.mk outName) (StateVector.mk outVector) outPublications) (Publication.mk e1.name e1.value ((a0o from_ e1.name e1.value).1))
   have hfx1 := hsh1.elsN (k := (n + 1)) v2.2 (And.intro (GoT.okm (α := List Str) (by omega) (ok_Name (ok_TableEntry ok1).1)) (And.intro (ok_TableEntry ok1).2 (GoT.okm (α := List UInt8) (by omega) hq3)))
   have hfx2 := hsh1.elsE (k := (n + 1)) v3.2 (And.intro (GoT.okm (α := List Str) (by omega) (ok_Name (ok_TableEntry ok1).1)) (And.intro (ok_TableEntry ok1).2 (GoT.okm (α := List UInt8) (by omega) hq3)))
   have hfx3 := hsh1.elsP (k := (n + 1)) v4.2 (And.intro (GoT.okm (α := List Str) (by omega) (ok_Name (ok_TableEntry ok1).1)) (And.intro (ok_TableEntry ok1).2 (GoT.okm (α := List UInt8) (by omega) hq3)))
   refine R0 ?_
   refine WX.see Z Z Z (fun _ hΓ => looks_arith Z Z Z Z (by unfold I64; first | omega | (simp only [List.length_take] at *; omega))) ?_
   refine R0 ?_
   refine WX.turn [24] 9 Z (fun _ h => h) Z ?_
   refine WX.turn [25] 10 Z (fun _ h => h) Z ?_
   refine WX.turn [26] 11 Z (fun _ h => h) Z ?_
   have r2 : -9223372036854775808 ≤ e1.value ∧ e1.value ≤ 9223372036854775807 := (ok_TableEntry ok1).2
   have r3 : ((a0o from_ e1.name e1.value).1).length ≤ bd n := (okl hq3).1
   have r4 : ((a0t (Member.mk (Name.mk outName) (StateVector.mk outVector) outPublications) (Publication.mk e1.name e1.value ((a0o from_ e1.name e1.value).1))).1.name.parts).length ≤ bd (n + 4) := (okl (ok_Name (ok_Member hq4).1)).1
   have r5 : ((a0t (Member.mk (Name.mk outName) (StateVector.mk outVector) outPublications) (Publication.mk e1.name e1.value ((a0o from_ e1.name e1.value).1))).1.vector.entries).length ≤ bd (n + 4) := (okl (ok_StateVector (ok_Member hq4).2.1)).1
   have r6 : ((a0t (Member.mk (Name.mk outName) (StateVector.mk outVector) outPublications) (Publication.mk e1.name e1.value ((a0o from_ e1.name e1.value).1))).1.publications).length ≤ bd (n + 4) := (okl (ok_Member hq4).2.2).1
   exact WX.iter (i + 1, p7, c7, (a0t (Member.mk (Name.mk outName) (StateVector.mk outVector) outPublications) (Publication.mk e1.name e1.value ((a0o from_ e1.name e1.value).1))).1.name.parts, p8, c8, (a0t (Member.mk (Name.mk outName) (StateVector.mk outVector) outPublications) (Publication.mk e1.name e1.value ((a0o from_ e1.name e1.value).1))).1.vector.entries, p9, c9, (a0t (Member.mk (Name.mk outName) (StateVector.mk outVector) outPublications) (Publication.mk e1.name e1.value ((a0o from_ e1.name e1.value).1))).1.publications) ⟨(by omega), (okl_mk (by omega) hfx1 : GoT.ok (n + 1) ((a0t (Member.mk (Name.mk outName) (StateVector.mk outVector) outPublications) (Publication.mk e1.name e1.value ((a0o from_ e1.name e1.value).1))).1.name.parts : List Str)), (okl_mk (by omega) hfx2 : GoT.ok (n + 1) ((a0t (Member.mk (Name.mk outName) (StateVector.mk outVector) outPublications) (Publication.mk e1.name e1.value ((a0o from_ e1.name e1.value).1))).1.vector.entries : List TableEntry)), (okl_mk (by omega) hfx3 : GoT.ok (n + 1) ((a0t (Member.mk (Name.mk outName) (StateVector.mk outVector) outPublications) (Publication.mk e1.name e1.value ((a0o from_ e1.name e1.value).1))).1.publications : List Publication)), (by first | assumption | omega | (simp; omega)), (by first | assumption | omega | (simp; omega)), (by first | assumption | omega | (simp; omega)), (by rw [v8, drop_get e1h]; simp only [a2n, h2, ct, cf])⟩ (by first | (dsimp only; omega) | omega) (.cons Z (.cons Z (.cons Z (.cons Z (.cons Z (.cons Z (.nil))))))) (.cons Z (.cons Z (.cons Z (.nil)))) .nil [0, 1, 2, 3, 4, 5, 9, 10, 11, 13] Z
  refine R0 ?_
  refine WX.see Z Z Z (fun _ hΓ => looks_arith Z Z Z Z (by unfold I64; first | omega | (simp only [List.length_take] at *; omega))) ?_
  refine R0 ?_
  exact WX.iter (i + 1, poutName, coutName, outName, poutVector, coutVector, outVector, poutPublications, coutPublications, outPublications) ⟨(by omega), (okl_of v2), (okl_of v3), (okl_of v4), (by first | assumption | omega | (simp; omega)), (by first | assumption | omega | (simp; omega)), (by first | assumption | omega | (simp; omega)), (by rw [v8, drop_get e1h]; simp only [a2n, h2, ct, cf])⟩ (by first | (dsimp only; omega) | omega) (.cons Z (.cons Z (.cons Z (.cons Z (.cons Z (.cons Z (.nil))))))) (.cons Z (.cons Z (.cons Z (.nil)))) .nil [0, 1, 2, 3, 4, 5, 9, 10, 11, 13] Z
 have h1d := B.df h1
 refine R0 ?_
 have hX1 : a2n from_ (a10 m from_.vector) ((a0j m).name.parts : List Str) ((a0j m).vector.entries : List TableEntry) ((a0j m).publications : List Publication) = (((outName) : List Str), ((outVector) : List TableEntry), ((outPublications) : List Publication)) := by rw [v8, List.drop_eq_nil_of_le (show ((a10 m from_.vector)).length ≤ i by omega)]; simp only [a2n, ct, cf]
 have hP1 : a0h m from_ = (Member.mk (Name.mk outName) (StateVector.mk outVector) outPublications) := by simp only [a0h, hX1, ct, cf]
 refine R1 ?_
 intro w1 G bs hI hΓ
 rw [hP1]
 exact Post.of [9, 10, 11] ((poutName, coutName), (poutVector, coutVector), (poutPublications, coutPublications)) hI hΓ Z Z Z (And.intro (okl_of v2) (And.intro (okl_of v3) (okl_of v4)))
theorem f48 (w : World) (n : Nat) (hn : n + 4 ≤ 9) (m : Member) (K0 : Option Addr) (M0 : Nat) (N0 : RdSl (hp w) K0 M0 m.name.parts) (K1 : Option Addr) (M1 : Nat) (N1 : RdSl (hp w) K1 M1 m.vector.entries) (K2 : Option Addr) (M2 : Nat) (N2 : RdSl (hp w) K2 M2 m.publications) (from_ : Member) (K3 : Option Addr) (M3 : Nat) (N3 : RdSl (hp w) K3 M3 from_.name.parts) (K4 : Option Addr) (M4 : Nat) (N4 : RdSl (hp w) K4 M4 from_.vector.entries) (K5 : Option Addr) (M5 : Nat) (N5 : RdSl (hp w) K5 M5 from_.publications) (hokm : GoT.ok n m) (hokfrom_ : GoT.ok n from_) :
 Does Tryz.prog 48 #[.agg #[.slice K0 ((m.name.parts).length) M0, .slice K1 ((m.vector.entries).length) M1, .slice K2 ((m.publications).length) M2], .agg #[.slice K3 ((from_.name.parts).length) M3, .slice K4 ((from_.vector.entries).length) M4, .slice K5 ((from_.publications).length) M5]] w emp (Post w emp (fun x : GoT.X (Member) => .agg ⟨GoT.sh ((a07 m from_) : Member) x⟩) (fun x => GoT.oa ((a07 m from_) : Member) x) (GoT.ok (n + 1) ((a07 m from_) : Member))) := by
 have hbP := bd_pos n
 have hbS0 : bd (n + 1) = 4 * bd (n) := bd_succ (n := n) (by omega)
 have hbS1 : bd (n + 2) = 4 * bd (n + 1) := bd_succ (n := n + 1) (by omega)
 have hbS2 : bd (n + 3) = 4 * bd (n + 2) := bd_succ (n := n + 2) (by omega)
 have hbS3 : bd (n + 4) = 4 * bd (n + 3) := bd_succ (n := n + 3) (by omega)
 have hbB := bd_big (n := (n + 4)) (by omega)
 have hbM := bd_mono (show n ≤ n + 4 by omega)
 refine WX.enter (tt := tt) (Γ := [(0, MF.rs .stb K0 M0 m.name.parts), (1, MF.rs .stb K1 M1 m.vector.entries), (2, MF.rs .stb K2 M2 m.publications), (3, MF.rs .stb K3 M3 from_.name.parts), (4, MF.rs .stb K4 M4 from_.vector.entries), (5, MF.rs .stb K5 M5 from_.publications)]) Tryz.func48 Z J Z (allS_cons Z N0 (allS_cons Z N1 (allS_cons Z N2 (allS_cons Z N3 (allS_cons Z N4 (allS_cons Z N5 allS_nil)))))) ?_
 refine R0 ?_
 refine WX.callF 6 (fun _ _ h => GoT.ow_rd h) (fun _ f hf => GoT.fak f hf) Z Z Z Z Z O Z (fun w G bs hI hΓ => f116 w n (by omega) m K0 M0 (hΓ.get 0 Z) K1 M1 (hΓ.get 1 Z) K2 M2 (hΓ.get 2 Z) hokm) O O ?_
 rintro ⟨⟨p1, c1⟩, ⟨p2, c2⟩, ⟨p3, c3⟩⟩ hq1
 have q1 := cM_spec m
 refine R0 ?_
 refine WX.callF 12 (fun _ _ h => GoT.ow_rd h) (fun _ f hf => GoT.fak f hf) Z Z Z Z Z O Z (fun w G bs hI hΓ => f54 w n (by omega) m K0 M0 (hΓ.get 0 Z) K1 M1 (hΓ.get 1 Z) K2 M2 (hΓ.get 2 Z) from_.vector K4 M4 (hΓ.get 4 Z) hokm ((ok_Member hokfrom_).2.1)) O O ?_
 rintro ⟨p4, c4⟩ hq2
 refine R0 ?_
 have r1 : (a0q m from_.vector).length ≤ bd n := (okl hq2).1
 have hA0 : (a0d m).vector.entries.length ≤ bd n := by rw [cM_spec]; exact (okl (ok_StateVector (ok_Member hokm).2.1)).1
 have hA1 : (a0d m).publications.length ≤ bd n := by rw [cM_spec]; exact (okl (ok_Member hokm).2.2).1
 have hA2 : (a0d m).name.parts.length ≤ bd n := by rw [cM_spec]; exact (okl (ok_Name (ok_Member hokm).1)).1
 refine WX.loop (ι := Nat × (Option Addr) × Nat × (List Str) × (Option Addr) × Nat × (List TableEntry) × (Option Addr) × Nat × (List Publication)) ⟨fun | (i, poutName, coutName, outName, poutVector, coutVector, outVector, poutPublications, coutPublications, outPublications) => (i ≤ ((a0q m from_.vector)).length) ∧ (outName.length ≤ bd (n + 1) ∧ ∀ z_ ∈ outName, GoT.ok (n + 1) z_) ∧ (outVector.length ≤ bd (n + 1) ∧ ∀ z_ ∈ outVector, GoT.ok (n + 1) z_) ∧ (outPublications.length ≤ bd (n + 1) ∧ ∀ z_ ∈ outPublications, GoT.ok (n + 1) z_) ∧ (outName.length ≤ i + ((a0d m).name.parts).length) ∧ (outVector.length ≤ i + ((a0d m).vector.entries).length) ∧ (outPublications.length ≤ i + ((a0d m).publications).length) ∧ (a17 from_ (a0q m from_.vector) ((a0d m).name.parts : List Str) ((a0d m).vector.entries : List TableEntry) ((a0d m).publications : List Publication) = a17 from_ (((a0q m from_.vector)).drop i) outName outVector outPublications), fun | (i, poutName, coutName, outName, poutVector, coutVector, outVector, poutPublications, coutPublications, outPublications) => ((a0q m from_.vector)).length - i, fun | (i, poutName, coutName, outName, poutVector, coutVector, outVector, poutPublications, coutPublications, outPublications) => [(7, .v (.int .i64 (((i : Nat) : Int)))), (6, .v (.slice p4 (((a0q m from_.vector)).length) c4)), (5, .p 5 0), (4, .p 4 0), (3, .p 3 0)], fun | (i, poutName, coutName, outName, poutVector, coutVector, outVector, poutPublications, coutPublications, outPublications) => [(5, ⟨60, [.slice poutName ((outName).length) coutName, .slice poutVector ((outVector).length) coutVector, .slice poutPublications ((outPublications).length) coutPublications]⟩), (4, ⟨60, [.slice none (0) 0, .slice none (0) 0, .slice none (0) 0]⟩), (3, ⟨60, [.slice K3 ((from_.name.parts).length) M3, .slice K4 ((from_.vector.entries).length) M4, .slice K5 ((from_.publications).length) M5]⟩)], fun | (i, poutName, coutName, outName, poutVector, coutVector, outVector, poutPublications, coutPublications, outPublications) => [], fun | (i, poutName, coutName, outName, poutVector, coutVector, outVector, poutPublications, coutPublications, outPublications) => [(0, MF.rs .stb K0 M0 m.name.parts), (1, MF.rs .stb K1 M1 m.vector.entries), (2, MF.rs .stb K2 M2 m.publications), (3, MF.rs .stb K3 M3 from_.name.parts), (4, MF.rs .stb K4 M4 from_.vector.entries), (5, MF.rs .stb K5 M5 from_.publications), (9, MF.os poutName coutName outName), (10, MF.os poutVector coutVector outVector), (11, MF.os poutPublications coutPublications outPublications), (13, MF.os p4 c4 (a0q m from_.vector))]⟩ (0, p1, c1, ((a0d m).name.parts : List Str), p2, c2, ((a0d m).vector.entries : List TableEntry), p3, c3, ((a0d m).publications : List Publication)) ⟨(Nat.zero_le _), (GoT.okm (α := List Str) (by omega) (ok_Name (ok_Member hq1).1)), (GoT.okm (α := List TableEntry) (by omega) (ok_StateVector (ok_Member hq1).2.1)), (GoT.okm (α := List Publication) (by omega) (ok_Member hq1).2.2), (by simp), (by simp), (by simp), Z⟩
  (.cons Z (.cons Z (.cons Z (.cons Z (.cons Z (.nil)))))) (.cons Z (.cons Z (.cons Z (.nil)))) .nil [0, 1, 2, 3, 4, 5, 9, 10, 11, 13] Z ?_
 rintro ⟨i, poutName, coutName, outName, poutVector, coutVector, outVector, poutPublications, coutPublications, outPublications⟩ hpre
 have hpre_ : (i ≤ ((a0q m from_.vector)).length) ∧ (outName.length ≤ bd (n + 1) ∧ ∀ z_ ∈ outName, GoT.ok (n + 1) z_) ∧ (outVector.length ≤ bd (n + 1) ∧ ∀ z_ ∈ outVector, GoT.ok (n + 1) z_) ∧ (outPublications.length ≤ bd (n + 1) ∧ ∀ z_ ∈ outPublications, GoT.ok (n + 1) z_) ∧ (outName.length ≤ i + ((a0d m).name.parts).length) ∧ (outVector.length ≤ i + ((a0d m).vector.entries).length) ∧ (outPublications.length ≤ i + ((a0d m).publications).length) ∧ (a17 from_ (a0q m from_.vector) ((a0d m).name.parts : List Str) ((a0d m).vector.entries : List TableEntry) ((a0d m).publications : List Publication) = a17 from_ (((a0q m from_.vector)).drop i) outName outVector outPublications) := hpre
 clear hpre
 obtain ⟨v1, v2, v3, v4, v5, v6, v7, v8⟩ := hpre_
 have v2L := v2.1
 have v3L := v3.1
 have v4L := v4.1
 refine R0 ?_
 refine WX.cases 21 Z (fun h1 => ?_) (fun h1 => ?_)
 ·skip
  have h1d := B.dt h1
  have e1i : i < ((a0q m from_.vector)).length := (by omega)
  obtain ⟨e1, e1h⟩ : ∃ e1, ((a0q m from_.vector))[i]? = some e1 := ⟨_, List.getElem?_eq_getElem e1i⟩
  have ok1 : GoT.ok n e1 := (okl hq2).2 _ (List.mem_of_getElem? e1h)
  refine R0 ?_
  refine WX.der 14 (MF.rs .der p4 c4 (a0q m from_.vector)) Z (fun _ hΓ => (hΓ.get 13 Z : OwSl _ _ _ _).rd) ?_
  refine WX.der 15 (MF.rs .der poutName coutName outName) Z (fun _ hΓ => (hΓ.get 9 Z : OwSl _ _ _ _).rd) ?_
  refine WX.der 16 (MF.rs .der poutVector coutVector outVector) Z (fun _ hΓ => (hΓ.get 10 Z : OwSl _ _ _ _).rd) ?_
  refine WX.der 17 (MF.rs .der poutPublications coutPublications outPublications) Z (fun _ hΓ => (hΓ.get 11 Z : OwSl _ _ _ _).rd) ?_
  refine WX.draw [] mixed ?_
  intro bs G0 hΓ0
  refine DX.takes (fuel := 14) ttOk [(0, false), (1, true), (2, true)] J Z ?_
  refine DX.idx 3 14 i ttOk hΓ0 J Z Z Z Z Z Z Z Z Z Z Z e1i ?_
  rintro ad1 rfl
  refine DX.takes (fuel := 12) ttOk [(4, true)] J Z ?_
  refine DX.ldE 5 14 18 e1 ttOk hΓ0 J Z Z Z Z Z Z Z Z e1h O O ?_
  rintro ⟨⟨p5, c5⟩, ⟨⟩⟩
  refine DX.takes (fuel := 9) ttOk [(6, true), (7, true)] J Z ?_
  refine DX.idx 8 14 i ttOk hΓ0 J Z Z Z Z Z Z Z Z Z Z Z e1i ?_
  rintro ad2 ⟨⟩
  refine DX.takes (fuel := 7) ttOk [(9, true)] J Z ?_
  refine DX.ldE 10 14 19 e1 ttOk hΓ0 J Z Z Z Z Z Z Z Z e1h O O ?_
  rintro ⟨⟨p6, c6⟩, ⟨⟩⟩
  refine DX.callF 11 20 (fun _ _ h => GoT.ow_rd h) (fun _ f hf => GoT.fak f hf) Z J Z Z Z Z Z Z O Z (fun w G bs hI hΓ => f43 w n (by omega) from_ K3 M3 (hΓ.get 3 Z) K4 M4 (hΓ.get 4 Z) K5 M5 (hΓ.get 5 Z) e1.name p5 c5 (hΓ.get 18 Z) e1.value hokfrom_ ((ok_TableEntry ok1).1) ((ok_TableEntry ok1).2)) O O ?_
  rintro ⟨p7, c7⟩ hq3
  refine DX.takes (fuel := 0) ttOk [(12, true), (13, true), (14, true), (15, true), (16, true)] J Z ?_
  refine DX.tail2 [] Z Z J ?_
  refine R0 ?_
  refine WX.cases 39 Z (fun h2 => ?_) (fun h2 => ?_)
  ·skip
   refine R0 ?_
   refine WX.draw [18, 19] mixed ?_
   intro bs G0 hΓ0
   refine DX.takes (fuel := 17) ttOk [(0, false), (1, true), (2, true)] J Z ?_
   refine DX.idx 3 14 i ttOk hΓ0 J Z Z Z Z Z Z Z Z Z Z Z e1i ?_
   rintro ad3 ⟨⟩
   refine DX.takes (fuel := 15) ttOk [(4, true)] J Z ?_
   refine DX.ldE 5 14 22 e1 ttOk hΓ0 J Z Z Z Z Z Z Z Z e1h O O ?_
   rintro ⟨⟨p8, c8⟩, ⟨⟩⟩
   refine DX.takes (fuel := 12) ttOk [(6, true), (7, true)] J Z ?_
   refine DX.idx 8 14 i ttOk hΓ0 J Z Z Z Z Z Z Z Z Z Z Z e1i ?_
   rintro ad4 ⟨⟩
   refine DX.takes (fuel := 10) ttOk [(9, true)] J Z ?_
   refine DX.ldE 10 14 23 e1 ttOk hΓ0 J Z Z Z Z Z Z Z Z e1h O O ?_
   rintro ⟨⟨p9, c9⟩, ⟨⟩⟩
   refine DX.takes (fuel := 7) ttOk [(11, true), (12, true)] J Z ?_
   refine DX.pend 17 10 ⟨60, [.slice none (0) 0, .slice none (0) 0, .slice none (0) 0]⟩ ?_
   refine DXA.callF 13 24 (fun _ _ h => GoT.ow_rd h) (fun _ f hf => GoT.fak f hf) ttOk Z Z Z Z Z Z Z J J J Z Z Z Z Z Z Z Z Z Z O Z Z (fun w G bs hI hΓ => f38 w (n + 1) (by omega) (Member.mk (Name.mk outName) (StateVector.mk outVector) outPublications) poutName coutName (hΓ.get 15 Z) poutVector coutVector (hΓ.get 16 Z) poutPublications coutPublications (hΓ.get 17 Z) (Publication.mk e1.name e1.value ((a0g from_ e1.name e1.value).1)) p8 c8 (hΓ.get 22 Z) p7 c7 (hΓ.get 20 Z) (And.intro (okl_of v2) (And.intro (okl_of v3) (okl_of v4))) (And.intro (GoT.okm (α := List Str) (by omega) (ok_Name (ok_TableEntry ok1).1)) (And.intro (ok_TableEntry ok1).2 (GoT.okm (α := List UInt8) (by omega) hq3)))) O O ?_
   rintro ⟨⟨p10, c10⟩, ⟨p11, c11⟩, ⟨p12, c12⟩⟩ hq4
   have q2 := (ap_spec (Member.mk (Name.mk outName) (StateVector.mk outVector) outPublications) (Publication.mk e1.name e1.value ((a0g from_ e1.name e1.value).1))).lenN
   have q3 := (ap_spec (Member.mk (Name.mk outName) (StateVector.mk outVector) outPublications) (Publication.mk e1.name e1.value ((a0g from_ e1.name e1.value).1))).lenE
   have q4 := (ap_spec (Member.mk (Name.mk outName) (StateVector.mk outVector) outPublications) (Publication.mk e1.name e1.value ((a0g from_ e1.name e1.value).1))).lenP
   try dsimp only at q2
   try dsimp only at q3
   try dsimp only at q4
   have hsh1 := ap_spec (Member.mk (Name.mk outName) (StateVector.mk outVector) outPublications) (Publication.mk e1.name e1.value ((a0g from_ e1.name e1.value).1))
   have hfx1 := hsh1.elsN (k := (n + 1)) v2.2 (And.intro (GoT.okm (α := List Str) (by omega) (ok_Name (ok_TableEntry ok1).1)) (And.intro (ok_TableEntry ok1).2 (GoT.okm (α := List UInt8) (by omega) hq3)))
   have hfx2 := hsh1.elsE (k := (n + 1)) v3.2 (And.intro (GoT.okm (α := List Str) (by omega) (ok_Name (ok_TableEntry ok1).1)) (And.intro (ok_TableEntry ok1).2 (GoT.okm (α := List UInt8) (by omega) hq3)))
   have hfx3 := hsh1.elsP (k := (n + 1)) v4.2 (And.intro (GoT.okm (α := List Str) (by omega) (ok_Name (ok_TableEntry ok1).1)) (And.intro (ok_TableEntry ok1).2 (GoT.okm (α := List UInt8) (by omega) hq3)))
   refine DXA.take 14 J J Z Z Z Z Z Z Z Z (looksP_pure ttOk Z) ?_
   refine DXA.take 15 J J Z Z Z Z Z Z Z Z (looksP_pure ttOk Z) ?_
   refine DXA.take 16 J J Z Z Z Z Z Z Z Z (looksP_pure ttOk Z) ?_
   refine DXA.tail [18, 19] ttOk Z Z Z Z Z Z J Z Z J ?_
   refine R0 ?_
   refine WX.see Z Z Z (fun _ hΓ => looks_arith Z Z Z Z (by unfold I64; first | omega | (simp only [List.length_take] at *; omega))) ?_
   refine R0 ?_
   refine WX.turn [27] 9 Z (fun _ h => h) Z ?_
   refine WX.turn [28] 10 Z (fun _ h => h) Z ?_
   refine WX.turn [29] 11 Z (fun _ h => h) Z ?_
   have r2 : -9223372036854775808 ≤ e1.value ∧ e1.value ≤ 9223372036854775807 := (ok_TableEntry ok1).2
   have r3 : ((a0g from_ e1.name e1.value).1).length ≤ bd n := (okl hq3).1
   have r4 : ((a0k (Member.mk (Name.mk outName) (StateVector.mk outVector) outPublications) (Publication.mk e1.name e1.value ((a0g from_ e1.name e1.value).1))).1.name.parts).length ≤ bd (n + 4) := (okl (ok_Name (ok_Member hq4).1)).1
   have r5 : ((a0k (Member.mk (Name.mk outName) (StateVector.mk outVector) outPublications) (Publication.mk e1.name e1.value ((a0g from_ e1.name e1.value).1))).1.vector.entries).length ≤ bd (n + 4) := (okl (ok_StateVector (ok_Member hq4).2.1)).1
   have r6 : ((a0k (Member.mk (Name.mk outName) (StateVector.mk outVector) outPublications) (Publication.mk e1.name e1.value ((a0g from_ e1.name e1.value).1))).1.publications).length ≤ bd (n + 4) := (okl (ok_Member hq4).2.2).1
   exact WX.iter (i + 1, p10, c10, (a0k (Member.mk (Name.mk outName) (StateVector.mk outVector) outPublications) (Publication.mk e1.name e1.value ((a0g from_ e1.name e1.value).1))).1.name.parts, p11, c11, (a0k (Member.mk (Name.mk outName) (StateVector.mk outVector) outPublications) (Publication.mk e1.name e1.value ((a0g from_ e1.name e1.value).1))).1.vector.entries, p12, c12, (a0k (Member.mk (Name.mk outName) (StateVector.mk outVector) outPublications) (Publication.mk e1.name e1.value ((a0g from_ e1.name e1.value).1))).1.publications) ⟨(by omega), (okl_mk (by omega) hfx1 : GoT.ok (n + 1) ((a0k (Member.mk (Name.mk outName) (StateVector.mk outVector) outPublications) (Publication.mk e1.name e1.value ((a0g from_ e1.name e1.value).1))).1.name.parts : List Str)), (okl_mk (by omega) hfx2 : GoT.ok (n + 1) ((a0k (Member.mk (Name.mk outName) (StateVector.mk outVector) outPublications) (Publication.mk e1.name e1.value ((a0g from_ e1.name e1.value).1))).1.vector.entries : List TableEntry)), (okl_mk (by omega) hfx3 : GoT.ok (n + 1) ((a0k (Member.mk (Name.mk outName) (StateVector.mk outVector) outPublications) (Publication.mk e1.name e1.value ((a0g from_ e1.name e1.value).1))).1.publications : List Publication)), (by first | assumption | omega | (simp; omega)), (by first | assumption | omega | (simp; omega)), (by first | assumption | omega | (simp; omega)), (by rw [v8, drop_get e1h]; simp only [a17, h2, ct, cf])⟩ (by first | (dsimp only; omega) | omega) (.cons Z (.cons Z (.cons Z (.cons Z (.cons Z (.nil)))))) (.cons Z (.cons Z (.cons Z (.nil)))) .nil [0, 1, 2, 3, 4, 5, 9, 10, 11, 13] Z
  refine R0 ?_
  refine WX.see Z Z Z (fun _ hΓ => looks_arith Z Z Z Z (by unfold I64; first | omega | (simp only [List.length_take] at *; omega))) ?_
  refine R0 ?_
  exact WX.iter (i + 1, poutName, coutName, outName, poutVector, coutVector, outVector, poutPublications, coutPublications, outPublications) ⟨(by omega), (okl_of v2), (okl_of v3), (okl_of v4), (by first | assumption | omega | (simp; omega)), (by first | assumption | omega | (simp; omega)), (by first | assumption | omega | (simp; omega)), (by rw [v8, drop_get e1h]; simp only [a17, h2, ct, cf])⟩ (by first | (dsimp only; omega) | omega) (.cons Z (.cons Z (.cons Z (.cons Z (.cons Z (.nil)))))) (.cons Z (.cons Z (.cons Z (.nil)))) .nil [0, 1, 2, 3, 4, 5, 9, 10, 11, 13] Z
 have h1d := B.df h1
 refine R0 ?_
 have hX1 : a17 from_ (a0q m from_.vector) ((a0d m).name.parts : List Str) ((a0d m).vector.entries : List TableEntry) ((a0d m).publications : List Publication) = (((outName) : List Str), ((outVector) : List TableEntry), ((outPublications) : List Publication)) := by rw [v8, List.drop_eq_nil_of_le (show ((a0q m from_.vector)).length ≤ i by omega)]; simp only [a17, ct, cf]
 have hP1 : a07 m from_ = (Member.mk (Name.mk outName) (StateVector.mk outVector) outPublications) := by simp only [a07, hX1, ct, cf]
 refine R1 ?_
 intro w1 G bs hI hΓ
 rw [hP1]
 exact Post.of [9, 10, 11] ((poutName, coutName), (poutVector, coutVector), (poutPublications, coutPublications)) hI hΓ Z Z Z (And.intro (okl_of v2) (And.intro (okl_of v3) (okl_of v4)))
end Go.Proofs.YtolepebgdfdciaaGreat

namespace Go.Stp
set_option linter.unusedVariables false
set_option linter.unusedSimpArgs false
def a3t (code : (List UInt8)) : Bool :=
 (decide ((((code).length : Nat) : Int) > 1048576))
theorem bitAnd255 (x : Int) : 0 ≤ bitO .and x 255 ∧ bitO .and x 255 ≤ 255 := by
 have h : (BitVec.ofInt 64 x).toNat &&& 255 ≤ 255 := Nat.and_le_right
 have h2 : (BitVec.ofInt 64 (255 : Int)).toNat = 255 := by decide
 simp only [bitO, BitVec.toNat_and, h2]
 rw [wrap_i64 (by unfold I64; omega)]
 omega
theorem tmod_below {x n : Int} (h : 0 ≤ x) (hn : 0 < n) : 0 ≤ Int.tmod x n ∧ (Int.tmod x n < n ∨ (Int.tmod x n = 0 ∧ n ≤ 0)) :=
 ⟨Int.tmod_nonneg n h, .inl (Int.tmod_lt_of_pos x hn)⟩
set_option maxRecDepth 100000 in
def a2o : List UInt8 → Nat → Int → Int
 | [], i, h_ => h_
 | e1 :: rest_, i, h_ =>
  bif decide (((i : Nat) : Int) < 4000) then
   a2o rest_ (i + 1) (bitO .and (IntKind.i64.wrap ((IntKind.i64.wrap ((IntKind.i64.wrap (h_ * 137)) + ((e1).toNat : Int))) + 11)) 1073741823)
  else
   h_
set_option maxRecDepth 100000 in
def a1n (code : (List UInt8)) : Int × Int :=
 match a2o code 0 (IntKind.i64.wrap (192917 + (((code).length : Nat) : Int))) with
  | h_ =>
   (0, h_)
set_option maxRecDepth 100000 in
theorem a3u : True := by
 have h1 := @a2o.eq_1
 have h2 := @a2o.eq_2
 trivial
def a1h (c_b : (List UInt8)) (c_i : Int) (c_h : Int) : Int × Int × Int :=
 bif decide (c_i < (((c_b).length : Nat) : Int)) then
  match (c_b)[(c_i).toNat]? with
   | none => default
   | some e1 =>
    ((bitO .and (IntKind.i64.wrap ((bitO .and (bitO .xor (Int.fdiv (IntKind.i64.wrap ((IntKind.i64.wrap (c_h * 6364136223846793005)) + 1442695040888963407)) (2 ^ (min (Int.toNat (33 : Int)) 64))) (Int.fdiv (IntKind.i64.wrap ((IntKind.i64.wrap (c_h * 6364136223846793005)) + 1442695040888963407)) (2 ^ (min (Int.toNat (47 : Int)) 64)))) 255) + ((e1).toNat : Int))) 255), c_i + 1, IntKind.i64.wrap ((IntKind.i64.wrap (c_h * 6364136223846793005)) + 1442695040888963407))
 else
  ((bitO .and (bitO .xor (Int.fdiv (IntKind.i64.wrap ((IntKind.i64.wrap (c_h * 6364136223846793005)) + 1442695040888963407)) (2 ^ (min (Int.toNat (33 : Int)) 64))) (Int.fdiv (IntKind.i64.wrap ((IntKind.i64.wrap (c_h * 6364136223846793005)) + 1442695040888963407)) (2 ^ (min (Int.toNat (47 : Int)) 64)))) 255), c_i, IntKind.i64.wrap ((IntKind.i64.wrap (c_h * 6364136223846793005)) + 1442695040888963407))
theorem l1Byte_rng (b : List UInt8) (i h : Int) : 0 ≤ (a1h b i h).1 ∧ (a1h b i h).1 ≤ 255 := by
 unfold a1h
 cases decide (i < ((b.length : Nat) : Int))
 ·exact bitAnd255 _
 ·simp only [cond_true]
  cases b[i.toNat]? with
  | none => exact ⟨Int.le_refl (0 : Int), (by decide : (0 : Int) ≤ 255)⟩
  | some e => exact bitAnd255 _
def a08 (c_b : (List UInt8)) (c_i : Int) (c_h : Int) (n_ : Int) : Int × Int × Int :=
 bif decide (n_ ≤ 0) then
  (0, c_i, c_h)
 else
  bif decide (n_ ≤ 256) then
   match a1h c_b c_i c_h with
    | (u1, u2, u3) =>
     ((Int.tmod u1 n_), u2, u3)
  else
   match a1h c_b c_i c_h with
    | (u4, u5, u6) =>
     match a1h c_b u5 u6 with
      | (u7, u8, u9) =>
       match a1h c_b u8 u9 with
        | (u10, u11, u12) =>
         ((Int.tmod (((u4 * 65536) + (u7 * 256)) + u10) n_), u11, u12)
theorem l1Below_rng (b : List UInt8) (i h n : Int) : 0 ≤ (a08 b i h n).1 ∧ ((a08 b i h n).1 < n ∨ ((a08 b i h n).1 = 0 ∧ n ≤ 0)) := by
 unfold a08
 cases hn : decide (n ≤ 0)
 ·have h0 := of_decide_eq_false hn
  simp only [cond_false]
  cases decide (n ≤ 256)
  ·simp only [cond_false]
   have q1 := l1Byte_rng b i h
   rcases e1 : a1h b i h with ⟨x1, i1, h1⟩
   have q2 := l1Byte_rng b i1 h1
   rcases e2 : a1h b i1 h1 with ⟨x2, i2, h2⟩
   have q3 := l1Byte_rng b i2 h2
   rcases e3 : a1h b i2 h2 with ⟨x3, i3, h3⟩
   rw [e1] at q1
   rw [e2] at q2
   rw [e3] at q3
   dsimp only at q1 q2 q3 ⊢
   exact tmod_below (by omega) (by omega)
  ·exact tmod_below (l1Byte_rng _ _ _).1 (by omega)
 ·have h0 := of_decide_eq_true hn
  exact ⟨Int.le_refl _, .inr ⟨rfl, h0⟩⟩
end Go.Stp

namespace Go.Stp
open GoT (X k ok sh fa oa)
theorem RdL.bytes (G : GH) : ∀ (l : List UInt8), RdL G (l.map fun b => Value.int .u8 b.toNat) l
 | [] => rfl
 | _ :: l => ⟨(), _, rfl, All.nil, RdL.bytes G l⟩
end Go.Stp

namespace Go.Stp
theorem looks_strB {C : Cx} {env : Env} {L : Locs} {R : Rows} {G : GH} {o : Oper} {x y z : Operand} {T : Nat} {ti : TI} {s : Str} {l h : Int} (m m2 : Nat) (ht : TabOk C.P C.tt) (ho : o.op = .slice T x (some y) (some z) none) (hT : look C.tt T = some ti) (hk : ti.desc = .string)
  (hx : ev env x = some (.v (.string s))) (hy : ev env y = some (.v (.int .i64 l))) (hz : ev env z = some (.v (.int .i64 h))) (h0 : l = (m : Int)) (h1 : h = (m2 : Int)) (h2 : m ≤ m2) (h3 : m2 ≤ s.size) : Looks C env L R G o (.v (.string (s.extract m m2))) := by
 intro a w G' bs _ hA hI
 subst h0 h1
 have hu : C.P.underlying T = some .string := by rw [← hk]; exact (ht.get hT).1
 unfold execOp
 simp only [ho, Option.map, ev_conc hA hx, ev_conc hA hy, ev_conc hA hz, conc, Sem.run_bind, run_sliceAt_string w T _ _ _ _ hu]
 simp [Instr.slice, Instr.sliceBounds, run_underlying hu, run_sliceBound, Sem.run_bind, h2, h3]
section
open GoT (k X sh oa)
variable {α : Type} [GoT α]
theorem OwL.take {h : GH} : ∀ {xs : List Value} {l : List α} (i : Nat), OwL h xs l → OwL h (xs.take (i * k α)) (l.take i)
 | xs, [], i, e => by
  have : xs = [] := e
  subst this
  simp only [List.take_nil]; rfl
 | xs, a :: l, 0, _ => by simp only [Nat.zero_mul, List.take_zero]; rfl
 | xs, a :: l, i + 1, ⟨x, ys, h1, h2, e, q1, q2, q3, q4, q5⟩ => by
  refine ⟨x, ys.take (i * k α), h1, h2, ?_, q1, q2, q3, q4, q5.take i⟩
  rw [e, Nat.add_mul, Nat.one_mul, List.take_append, GoT.len, List.take_of_length_le (by rw [GoT.len]; omega), Nat.add_sub_cancel]
theorem OwL.drop {h : GH} : ∀ {xs : List Value} {l : List α} (i : Nat), OwL h xs l → OwL h (xs.drop (i * k α)) (l.drop i)
 | xs, [], i, e => by
  have : xs = [] := e
  subst this
  simp only [List.drop_nil]; rfl
 | xs, a :: l, 0, e => by simpa using e
 | xs, a :: l, i + 1, ⟨x, ys, h1, h2, e, q1, q2, q3, q4, q5⟩ => by
  have := (q5.drop i).mono q2
  rw [e, Nat.add_mul, Nat.one_mul, List.drop_append, GoT.len, List.drop_eq_nil_of_le (by rw [GoT.len]; omega), Nat.add_sub_cancel, List.nil_append]
  simpa using this
theorem os_suf {p : Option Addr} {c : Nat} {l : List α} {h : GH} (m : Nat) (hm : m ≤ l.length) (hs : Sep h [MF.os p c l]) : Sep h [MF.os (offP p c m (k α)) (c - m) (l.drop m)] := by
 refine one_sep (?_ : OwSl h _ _ (l.drop m))
 rcases (sep_one hs : OwSl h p c l) with ⟨h1, h2⟩ | ⟨b, o, T, cur, h', k1, k2, k3, k4, k5, k6, k7, k8⟩
 ·exact .inl ⟨by omega, by rw [h2, List.drop_nil]⟩
 ·by_cases hc : c = m
  ·exact .inl ⟨by omega, List.drop_eq_nil_of_le (by omega)⟩
  ·subst k1
   have h0 : m * k α + (c - m) * k α = c * k α := by rw [← Nat.add_mul]; congr 1; omega
   refine .inr ⟨b, o + m * k α, T, cur, h', by unfold offP; rw [if_neg hc]; show some (Addr.add ⟨b, o, none⟩ (m * k α)) = _; rw [Addr.add_lit], k2, k3, k4, by rw [List.length_drop]; omega, by omega, by omega, ?_⟩
   have := k8.drop m
   rw [List.drop_take, List.drop_drop] at this
   rw [List.length_drop, Nat.sub_mul]
   exact this
end
def pickE (env : Env) : List Nat → Option Env
 | [] => some []
 | d :: ds => (match look env d with
  | some x => (match pickE env ds with | some q => some ((d, x) :: q) | none => none)
  | none => none)
theorem pickE_look {env : Env} : ∀ {ds : List Nat} {env' : Env}, pickE env ds = some env' → ∀ d x, look env' d = some x → look env d = some x
 | [], env', h, d, x, hx => by simp [pickE] at h; subst h; simp [look] at hx
 | e :: ds, env', h, d, x, hx => by
  simp only [pickE] at h
  split at h
  ·rename_i y hy
   split at h
   ·rename_i q hq
    simp only [Option.some.injEq] at h; subst h
    rw [look_cons] at hx
    split at hx
    ·rename_i hed; subst hed; rw [← hx]; exact hy
    ·exact pickE_look hq d x hx
   ·cases h
  ·cases h
theorem WX.trim {C : Cx} {s : List It} {env env' : Env} {L : Locs} {R : Rows} {Γ Γ' : Facts} (ds ks : List Nat) (he : pickE env ds = some env') (hk : pickK ks Γ = some Γ') (k : WX C s env' L R Γ') : WX C s env L R Γ := by
 rintro a w ⟨G, bs, hA, hI, hΓ⟩
 exact k a w ⟨G, bs, ⟨hA.size, hA.dfr, fun d x hx => hA.slot d x (pickE_look he d x hx)⟩, hI, hΓ.pick hk⟩
end Go.Stp

namespace Go.Proofs.YtolepebgdfdciaaGreat
open Go.Stp
set_option linter.unusedVariables false
set_option linter.unusedSimpArgs false
theorem f6 (w : World) (n : Nat) (code : (List UInt8)) (K0 : Option Addr) (M0 : Nat) (N0 : RdSl (hp w) K0 M0 code) (hokcode : GoT.ok n code) :
 Does Tryz.prog 6 #[.slice K0 ((code).length) M0] w emp (fun (rv : Value) (_ : World) => rv = .bool (a3t code) ∧ True) := by
 refine WX.enter (tt := tt) (Γ := [(0, MF.rs .stb K0 M0 code)]) Tryz.func6 Z J Z (allS_cons Z N0 allS_nil) ?_
 refine R0 ?_
 have hP1 : a3t code = (decide ((((code).length : Nat) : Int) > 1048576)) := by simp only [a3t, ct, cf]
 exact R3 hP1
theorem f76 (w : World) (n : Nat) (hn : n + 0 ≤ 9) (code : (List UInt8)) (K0 : Option Addr) (M0 : Nat) (N0 : RdSl (hp w) K0 M0 code) (hokcode : GoT.ok n code) (o0_ : Int) (o1_ : Int) (hres : a1n code = (o0_, o1_)) :
 Does Tryz.prog 76 #[.slice K0 ((code).length) M0] w emp (Post w emp (fun b_ : Nat => .pointer (some ⟨b_, 0, none⟩)) (fun b_ => [MF.bx b_ 182 [.slice K0 ((code).length) M0, .int .i64 (o0_), .int .i64 (o1_)]]) (NN (o0_) ∧ I64 (o1_))) := by
 have hbP := bd_pos n
 have hbB := bd_big (n := n) (by omega)
 refine WX.enter (tt := tt) (Γ := [(0, MF.rs .stb K0 M0 code)]) Tryz.func76 Z J Z (allS_cons Z N0 allS_nil) ?_
 refine R0 ?_
 refine WX.see Z Z Z (fun _ hΓ => looks_wrap Z Z Z Z) ?_
 refine R0 ?_
 have r1 : (code).length ≤ bd n := (okl hokcode).1
 refine WX.loop (ι := Int × Nat) ⟨fun | (h_, i) => (i ≤ (code).length) ∧ (-9223372036854775808 ≤ h_ ∧ h_ ≤ 9223372036854775807) ∧ (a2o code 0 (IntKind.i64.wrap (192917 + (((code).length : Nat) : Int))) = a2o ((code).drop i) i h_), fun | (h_, i) => (code).length - i, fun | (h_, i) => [(3, .v (.int .i64 (h_))), (4, .v (.int .i64 (((i : Nat) : Int)))), (0, .v (.slice K0 ((code).length) M0))], fun | (h_, i) => [], fun | (h_, i) => [], fun | (h_, i) => [(0, MF.rs .stb K0 M0 code)]⟩ (IntKind.i64.wrap (192917 + (((code).length : Nat) : Int)), 0) ⟨(Nat.zero_le _), (i64_wrap _), Z⟩
  (.cons Z (.cons Z (.cons Z (.nil)))) .nil .nil [0] Z ?_
 rintro ⟨h_, i⟩ hpre
 have hpre_ : (i ≤ (code).length) ∧ (-9223372036854775808 ≤ h_ ∧ h_ ≤ 9223372036854775807) ∧ (a2o code 0 (IntKind.i64.wrap (192917 + (((code).length : Nat) : Int))) = a2o ((code).drop i) i h_) := hpre
 clear hpre
 obtain ⟨v1, v2, v3⟩ := hpre_
 refine R0 ?_
 refine WX.cases 12 Z (fun h1 => ?_) (fun h1 => ?_)
 ·skip
  have h1d := B.dt h1
  have e1i : i < (code).length := (by omega)
  obtain ⟨e1, e1h⟩ : ∃ e1, (code)[i]? = some e1 := ⟨_, List.getElem?_eq_getElem e1i⟩
  refine R0 ?_
  refine WX.cases 15 Z (fun h2 => ?_) (fun h2 => ?_)
  ·skip
   have h2d := B.dt h2
   refine R0 ?_
   refine WX.see Z Z Z (fun _ hΓ => looks_wrap Z Z Z Z) ?_
   refine R0 ?_
   refine WX.idx 0 i ttOk Z Z Z Z Z Z Z Z Z Z e1i ?_
   rintro ad1 rfl
   refine WX.ldE 0 1 e1 ttOk Z Z Z Z Z Z Z Z e1h O O ?_
   rintro ⟨⟩
   refine WX.see Z Z Z (fun _ hΓ => looks_ofU8 ttOk Z Z Z Z Z Z) ?_
   refine WX.see Z Z Z (fun _ hΓ => looks_wrap Z Z Z Z) ?_
   refine WX.see Z Z Z (fun _ hΓ => looks_wrap Z Z Z Z) ?_
   refine WX.see Z Z Z (fun _ hΓ => looks_bits Z Z Z Z) ?_
   refine R0 ?_
   refine WX.see Z Z Z (fun _ hΓ => looks_arith Z Z Z Z (by unfold I64; first | omega | (simp only [List.length_take] at *; omega))) ?_
   refine R0 ?_
   exact WX.iter (bitO .and (IntKind.i64.wrap ((IntKind.i64.wrap ((IntKind.i64.wrap (h_ * 137)) + ((e1).toNat : Int))) + 11)) 1073741823, i + 1) ⟨(by omega), (bitO_I64 .and (IntKind.i64.wrap ((IntKind.i64.wrap ((IntKind.i64.wrap (h_ * 137)) + ((e1).toNat : Int))) + 11)) 1073741823), (by rw [v3, drop_get e1h]; simp only [a2o, h2, ct, cf])⟩ (by first | (dsimp only; omega) | omega) (.cons Z (.cons Z (.cons Z (.nil)))) .nil .nil [0] Z
  have h2d := B.df h2
  refine R0 ?_
  have hX1 : a2o code 0 (IntKind.i64.wrap (192917 + (((code).length : Nat) : Int))) = h_ := by rw [v3, drop_get e1h]; simp only [a2o, h2, ct, cf]
  have hP1 : a1n code = (0, h_) := by simp only [a1n, hX1, ct, cf]
  have hz1 := hP1.symm.trans hres
  obtain ⟨hz1, hz2⟩ := Prod.mk.inj hz1
  subst hz1
  subst hz2
  refine WX.retQ Z ?_
  intro w1 G bs hI hΓ
  exact Post.ofL 31 [] (bs 31) hI hΓ Z Z Z Z (⟨(show NN 0 from by unfold NN; omega), v2⟩)
 have h1d := B.df h1
 refine R0 ?_
 have hX2 : a2o code 0 (IntKind.i64.wrap (192917 + (((code).length : Nat) : Int))) = h_ := by rw [v3, List.drop_eq_nil_of_le (show (code).length ≤ i by omega)]; simp only [a2o, ct, cf]
 have hP2 : a1n code = (0, h_) := by simp only [a1n, hX2, ct, cf]
 have hz1 := hP2.symm.trans hres
 obtain ⟨hz1, hz2⟩ := Prod.mk.inj hz1
 subst hz1
 subst hz2
 refine WX.retQ Z ?_
 intro w1 G bs hI hΓ
 exact Post.ofL 31 [] (bs 31) hI hΓ Z Z Z Z (⟨(show NN 0 from by unfold NN; omega), v2⟩)
theorem f172 (w : World) (n : Nat) (hn : n + 0 ≤ 9) (H : GH) (hH : Le H (hp w)) (bc_ : Nat) (c_b : (List UInt8)) (K0 : Option Addr) (M0 : Nat) (N0 : RdSl (cut (hp w) H) K0 M0 c_b) (c_i : Int) (c_h : Int) (hown : Sep H [MF.bx bc_ 182 [.slice K0 ((c_b).length) M0, .int .i64 (c_i), .int .i64 (c_h)]]) (hokc_b : GoT.ok n c_b) (hokc_i : NN c_i) (hokc_h : GoT.ok n c_h) (o0_ : Int) (o1_ : Int) (o2_ : Int) (hres : a1h c_b c_i c_h = (o0_, o1_, o2_)) :
 Does Tryz.prog 172 #[.pointer (some ⟨bc_, 0, none⟩)] w H (Post w H (fun _ : Unit => .int .i64 (o0_)) (fun _ => [MF.bx bc_ 182 [.slice K0 ((c_b).length) M0, .int .i64 (o1_), .int .i64 (o2_)]]) (GoT.ok n (o0_ : Int) ∧ NN (o1_) ∧ I64 (o2_))) := by
 have hbP := bd_pos n
 have hbB := bd_big (n := n) (by omega)
 have hc_bz : (c_b).length ≤ bd n := (okl hokc_b).1
 refine WX.enterP (tt := tt) (Γ := [(0, MF.rs .stb K0 M0 c_b)]) 1 Tryz.func172 Z J Z (allS_cons Z N0 allS_nil) hH hown (fun f hf => by cases hf) Z ?_
 refine R0 ?_
 refine WX.see Z Z Z (fun _ hΓ => looks_wrap Z Z Z Z) ?_
 refine WX.see Z Z Z (fun _ hΓ => looks_wrap Z Z Z Z) ?_
 refine R0 ?_
 refine WX.draw [] mixed ?_
 intro bs G0 hΓ0
 refine DX.takes (fuel := 9) ttOk [(0, true), (1, true), (2, true), (3, false)] J Z ?_
 refine DX.see 4 J Z Z Z Z (looks_shr Z Z Z (by decide)) ?_
 refine DX.takes (fuel := 4) ttOk [(5, true), (6, true), (7, true), (8, false)] J Z ?_
 refine DX.see 9 J Z Z Z Z (looks_shr Z Z Z (by decide)) ?_
 refine DX.see 10 J Z Z Z Z (looks_bits Z Z Z Z) ?_
 refine DX.see 11 J Z Z Z Z (looks_bits Z Z Z Z) ?_
 refine DX.takes (fuel := 0) ttOk [(12, true)] J Z ?_
 refine DX.tail2 [] Z Z J ?_
 refine R0 ?_
 refine WX.draw [] mixed ?_
 intro bs G0 hΓ0
 refine DX.takes (fuel := 0) ttOk [(0, true), (1, true), (2, true), (3, false), (4, true), (5, true), (6, true), (7, false), (8, true), (9, true)] J Z ?_
 refine DX.tail2 [] Z Z J ?_
 refine R0 ?_
 refine WX.cases 34 Z (fun h1 => ?_) (fun h1 => ?_)
 ·skip
  have h1d := B.dt h1
  refine R0 ?_
  refine WX.draw [] mixed ?_
  intro bs G0 hΓ0
  refine DX.takes (fuel := 6) ttOk [(0, true), (1, true), (2, true), (3, true), (4, false), (5, true), (6, true), (7, true), (8, false)] J Z ?_
  have r1 : 0 ≤ c_i ∧ c_i ≤ 9223372036854775807 := hokc_i
  refine DX.slot 43 (y := .v (.int .i64 (((c_i).toNat : Nat) : Int))) Z (fun _ => congrArg (Value.int .i64) (show c_i = (((c_i).toNat : Nat) : Int) from by omega)) ?_
  have e1i : (c_i).toNat < (c_b).length := (by first | assumption | omega)
  obtain ⟨e1, e1h⟩ : ∃ e1, (c_b)[(c_i).toNat]? = some e1 := ⟨_, List.getElem?_eq_getElem e1i⟩
  refine DX.idx 9 0 ((c_i).toNat) ttOk hΓ0 J Z Z Z Z Z Z Z Z Z Z Z e1i ?_
  rintro ad1 rfl
  refine DX.ldE 10 0 2 e1 ttOk hΓ0 J Z Z Z Z Z Z Z Z e1h O O ?_
  rintro ⟨⟩
  refine DX.see 11 J Z Z Z Z (looks_ofU8 ttOk Z Z Z Z Z Z) ?_
  refine DX.seeP 12 J Z Z Z Z (looksP_wrap Z Z Z Z) ?_
  refine DX.see 13 J Z Z Z Z (looks_bits Z Z Z Z) ?_
  refine DX.takes (fuel := 0) ttOk [(14, true)] J Z ?_
  refine DX.tail2 [] Z Z J ?_
  refine R0 ?_
  refine WX.see Z Z Z (fun _ hΓ => looks_arith Z Z Z Z (by unfold I64; first | omega | (simp only [List.length_take] at *; omega))) ?_
  refine R0 ?_
  have hP1 : a1h c_b c_i c_h = (bitO .and (IntKind.i64.wrap ((bitO .and (bitO .xor (Int.fdiv (IntKind.i64.wrap ((IntKind.i64.wrap (c_h * 6364136223846793005)) + 1442695040888963407)) (2 ^ (min (Int.toNat (33 : Int)) 64))) (Int.fdiv (IntKind.i64.wrap ((IntKind.i64.wrap (c_h * 6364136223846793005)) + 1442695040888963407)) (2 ^ (min (Int.toNat (47 : Int)) 64)))) 255) + ((e1).toNat : Int))) 255, c_i + 1, IntKind.i64.wrap ((IntKind.i64.wrap (c_h * 6364136223846793005)) + 1442695040888963407)) := by simp only [a1h, h1, e1h, ct, cf]
  have hz1 := hP1.symm.trans hres
  obtain ⟨hz1, hz2⟩ := Prod.mk.inj hz1
  obtain ⟨hz2, hz3⟩ := Prod.mk.inj hz2
  subst hz1
  subst hz2
  subst hz3
  refine R1 ?_
  intro w1 G bs hI hΓ
  exact Post.ofL 999 [] () hI hΓ Z Z Z (by rw [hI.pin _ rfl]; first | done | rfl) (⟨(show I64 (bitO .and (IntKind.i64.wrap ((bitO .and (bitO .xor (Int.fdiv (IntKind.i64.wrap ((IntKind.i64.wrap (c_h * 6364136223846793005)) + 1442695040888963407)) (2 ^ (min (Int.toNat (33 : Int)) 64))) (Int.fdiv (IntKind.i64.wrap ((IntKind.i64.wrap (c_h * 6364136223846793005)) + 1442695040888963407)) (2 ^ (min (Int.toNat (47 : Int)) 64)))) 255) + ((e1).toNat : Int))) 255) from bitO_I64 _ _ _), ⟨(show NN (c_i + 1) from by unfold NN; omega), (i64_wrap _)⟩⟩)
 have h1d := B.df h1
 refine R0 ?_
 have hP2 : a1h c_b c_i c_h = (bitO .and (bitO .xor (Int.fdiv (IntKind.i64.wrap ((IntKind.i64.wrap (c_h * 6364136223846793005)) + 1442695040888963407)) (2 ^ (min (Int.toNat (33 : Int)) 64))) (Int.fdiv (IntKind.i64.wrap ((IntKind.i64.wrap (c_h * 6364136223846793005)) + 1442695040888963407)) (2 ^ (min (Int.toNat (47 : Int)) 64)))) 255, c_i, IntKind.i64.wrap ((IntKind.i64.wrap (c_h * 6364136223846793005)) + 1442695040888963407)) := by simp only [a1h, h1, ct, cf]
 have hz1 := hP2.symm.trans hres
 obtain ⟨hz1, hz2⟩ := Prod.mk.inj hz1
 obtain ⟨hz2, hz3⟩ := Prod.mk.inj hz2
 subst hz1
 subst hz2
 subst hz3
 refine R1 ?_
 intro w1 G bs hI hΓ
 exact Post.ofL 999 [] () hI hΓ Z Z Z (by rw [hI.pin _ rfl]; first | done | rfl) (⟨(show I64 (bitO .and (bitO .xor (Int.fdiv (IntKind.i64.wrap ((IntKind.i64.wrap (c_h * 6364136223846793005)) + 1442695040888963407)) (2 ^ (min (Int.toNat (33 : Int)) 64))) (Int.fdiv (IntKind.i64.wrap ((IntKind.i64.wrap (c_h * 6364136223846793005)) + 1442695040888963407)) (2 ^ (min (Int.toNat (47 : Int)) 64)))) 255) from bitO_I64 _ _ _), ⟨hokc_i, (i64_wrap _)⟩⟩)
theorem f84 (w : World) (n : Nat) (hn : n + 0 ≤ 9) (H : GH) (hH : Le H (hp w)) (bc_ : Nat) (c_b : (List UInt8)) (K0 : Option Addr) (M0 : Nat) (N0 : RdSl (cut (hp w) H) K0 M0 c_b) (c_i : Int) (c_h : Int) (n_ : Int) (hown : Sep H [MF.bx bc_ 182 [.slice K0 ((c_b).length) M0, .int .i64 (c_i), .int .i64 (c_h)]]) (hokc_b : GoT.ok n c_b) (hokc_i : NN c_i) (hokc_h : GoT.ok n c_h) (hokn_ : GoT.ok n n_) (o0_ : Int) (o1_ : Int) (o2_ : Int) (hres : a08 c_b c_i c_h n_ = (o0_, o1_, o2_)) :
 Does Tryz.prog 84 #[.pointer (some ⟨bc_, 0, none⟩), .int .i64 (n_)] w H (Post w H (fun _ : Unit => .int .i64 (o0_)) (fun _ => [MF.bx bc_ 182 [.slice K0 ((c_b).length) M0, .int .i64 (o1_), .int .i64 (o2_)]]) (GoT.ok n (o0_ : Int) ∧ NN (o1_) ∧ I64 (o2_))) := by
 have hbP := bd_pos n
 have hbB := bd_big (n := n) (by omega)
 have hc_bz : (c_b).length ≤ bd n := (okl hokc_b).1
 refine WX.enterP (tt := tt) (Γ := [(0, MF.rs .stb K0 M0 c_b)]) 1 Tryz.func84 Z J Z (allS_cons Z N0 allS_nil) hH hown (fun f hf => by cases hf) Z ?_
 refine R0 ?_
 refine WX.cases 9 Z (fun h1 => ?_) (fun h1 => ?_)
 ·skip
  have h1d := B.dt h1
  refine R0 ?_
  have hP1 : a08 c_b c_i c_h n_ = (0, c_i, c_h) := by simp only [a08, h1, ct, cf]
  have hz1 := hP1.symm.trans hres
  obtain ⟨hz1, hz2⟩ := Prod.mk.inj hz1
  obtain ⟨hz2, hz3⟩ := Prod.mk.inj hz2
  subst hz1
  subst hz2
  subst hz3
  refine R1 ?_
  intro w1 G bs hI hΓ
  exact Post.ofL 999 [] () hI hΓ Z Z Z (by rw [hI.pin _ rfl]; first | done | rfl) (⟨(show I64 0 from (by unfold I64; omega)), ⟨hokc_i, hokc_h⟩⟩)
 have h1d := B.df h1
 refine R0 ?_
 refine WX.cases 11 Z (fun h2 => ?_) (fun h2 => ?_)
 ·skip
  have h2d := B.dt h2
  refine R0 ?_
  obtain ⟨⟨u1, u2, u3⟩, hu1⟩ : ∃ r_, a1h c_b c_i c_h = r_ := ⟨_, rfl⟩
  refine WX.callP (ds := fun _ => []) 999 2 Z (fun _ _ _ => All.nil) (fun _ f hf => by cases hf) Z Z Z Z Z O Z (fun w G bs H hI hH hs hΓ => f172 w n (by omega) H hH (bs 999) c_b K0 M0 (hΓ.get 0 Z) c_i c_h hs hokc_b hokc_i hokc_h u1 u2 u3 hu1) O O ?_
  rintro ⟨⟩ hq1
  have q1 := l1Byte_rng c_b c_i c_h
  rw [hu1] at q1
  try dsimp only at q1
  refine R0 ?_
  have r1 := tmod_rng u1 (show (0 : Int) < n_ by omega)
  refine WX.see Z Z Z (fun _ hΓ => looks_rem Z Z Z (by omega)) ?_
  refine R0 ?_
  have hP2 : a08 c_b c_i c_h n_ = (Int.tmod u1 n_, u2, u3) := by simp only [a08, h1, h2, hu1, ct, cf]
  have r2 : -9223372036854775808 ≤ n_ ∧ n_ ≤ 9223372036854775807 := hokn_
  have r3 : -9223372036854775808 ≤ u1 ∧ u1 ≤ 9223372036854775807 := hq1.1
  have hz1 := hP2.symm.trans hres
  obtain ⟨hz1, hz2⟩ := Prod.mk.inj hz1
  obtain ⟨hz2, hz3⟩ := Prod.mk.inj hz2
  subst hz1
  subst hz2
  subst hz3
  refine R1 ?_
  intro w1 G bs hI hΓ
  exact Post.ofL 999 [] () hI hΓ Z Z Z (by rw [hI.pin _ rfl]; first | done | rfl) (⟨(show I64 (Int.tmod u1 n_) from (by unfold I64; omega)), ⟨hq1.2.1, hq1.2.2⟩⟩)
 have h2d := B.df h2
 refine R0 ?_
 obtain ⟨⟨u4, u5, u6⟩, hu2⟩ : ∃ r_, a1h c_b c_i c_h = r_ := ⟨_, rfl⟩
 refine WX.callP (ds := fun _ => []) 999 3 Z (fun _ _ _ => All.nil) (fun _ f hf => by cases hf) Z Z Z Z Z O Z (fun w G bs H hI hH hs hΓ => f172 w n (by omega) H hH (bs 999) c_b K0 M0 (hΓ.get 0 Z) c_i c_h hs hokc_b hokc_i hokc_h u4 u5 u6 hu2) O O ?_
 rintro ⟨⟩ hq2
 have q2 := l1Byte_rng c_b c_i c_h
 rw [hu2] at q2
 try dsimp only at q2
 refine R0 ?_
 obtain ⟨⟨u7, u8, u9⟩, hu3⟩ : ∃ r_, a1h c_b u5 u6 = r_ := ⟨_, rfl⟩
 refine WX.callP (ds := fun _ => []) 999 4 Z (fun _ _ _ => All.nil) (fun _ f hf => by cases hf) Z Z Z Z Z O Z (fun w G bs H hI hH hs hΓ => f172 w n (by omega) H hH (bs 999) c_b K0 M0 (hΓ.get 0 Z) u5 u6 hs hokc_b hq2.2.1 hq2.2.2 u7 u8 u9 hu3) O O ?_
 rintro ⟨⟩ hq3
 have q3 := l1Byte_rng c_b u5 u6
 rw [hu3] at q3
 try dsimp only at q3
 refine R0 ?_
 obtain ⟨⟨u10, u11, u12⟩, hu4⟩ : ∃ r_, a1h c_b u8 u9 = r_ := ⟨_, rfl⟩
 refine WX.callP (ds := fun _ => []) 999 5 Z (fun _ _ _ => All.nil) (fun _ f hf => by cases hf) Z Z Z Z Z O Z (fun w G bs H hI hH hs hΓ => f172 w n (by omega) H hH (bs 999) c_b K0 M0 (hΓ.get 0 Z) u8 u9 hs hokc_b hq3.2.1 hq3.2.2 u10 u11 u12 hu4) O O ?_
 rintro ⟨⟩ hq4
 have q4 := l1Byte_rng c_b u8 u9
 rw [hu4] at q4
 try dsimp only at q4
 refine R0 ?_
 have r4 : -9223372036854775808 ≤ u4 ∧ u4 ≤ 9223372036854775807 := hq2.1
 refine WX.see Z Z Z (fun _ hΓ => looks_arith Z Z Z Z (by unfold I64; first | omega | (simp only [List.length_take] at *; omega))) ?_
 refine R0 ?_
 have r5 : -9223372036854775808 ≤ u7 ∧ u7 ≤ 9223372036854775807 := hq3.1
 refine WX.see Z Z Z (fun _ hΓ => looks_arith Z Z Z Z (by unfold I64; first | omega | (simp only [List.length_take] at *; omega))) ?_
 refine WX.see Z Z Z (fun _ hΓ => looks_arith Z Z Z Z (by unfold I64; first | omega | (simp only [List.length_take] at *; omega))) ?_
 refine R0 ?_
 have r6 : -9223372036854775808 ≤ u10 ∧ u10 ≤ 9223372036854775807 := hq4.1
 refine WX.see Z Z Z (fun _ hΓ => looks_arith Z Z Z Z (by unfold I64; first | omega | (simp only [List.length_take] at *; omega))) ?_
 refine R0 ?_
 have r7 := tmod_rng (((u4 * 65536) + (u7 * 256)) + u10) (show (0 : Int) < n_ by omega)
 refine WX.see Z Z Z (fun _ hΓ => looks_rem Z Z Z (by omega)) ?_
 refine R0 ?_
 have hP3 : a08 c_b c_i c_h n_ = (Int.tmod (((u4 * 65536) + (u7 * 256)) + u10) n_, u11, u12) := by simp only [a08, h1, h2, hu2, hu3, hu4, ct, cf]
 have r8 : -9223372036854775808 ≤ n_ ∧ n_ ≤ 9223372036854775807 := hokn_
 have hz1 := hP3.symm.trans hres
 obtain ⟨hz1, hz2⟩ := Prod.mk.inj hz1
 obtain ⟨hz2, hz3⟩ := Prod.mk.inj hz2
 subst hz1
 subst hz2
 subst hz3
 refine R1 ?_
 intro w1 G bs hI hΓ
 exact Post.ofL 999 [] () hI hΓ Z Z Z (by rw [hI.pin _ rfl]; first | done | rfl) (⟨(show I64 (Int.tmod (((u4 * 65536) + (u7 * 256)) + u10) n_) from (by unfold I64; omega)), ⟨hq4.2.1, hq4.2.2⟩⟩)
end Go.Proofs.YtolepebgdfdciaaGreat

namespace Go.Stp
set_option linter.unusedVariables false
set_option linter.unusedSimpArgs false
def a33 (c_b : (List UInt8)) (c_i : Int) (c_h : Int) (n_ : Int) : Bool × Int × Int :=
 match a08 c_b c_i c_h n_ with
  | (u1, u2, u3) =>
   ((u1 == 0), u2, u3)
def a1w (c_b : (List UInt8)) (c_i : Int) (c_h : Int) (list : (List Int)) : Int × Int × Int :=
 match a08 c_b c_i c_h (((list).length : Nat) : Int) with
  | (u1, u2, u3) =>
   match (list)[(u1).toNat]? with
    | none => default
    | some e1 =>
     (e1, u2, u3)
def a1o (c_b : (List UInt8)) (c_i : Int) (c_h : Int) (list : (List Str)) : Str × Int × Int :=
 match a08 c_b c_i c_h (((list).length : Nat) : Int) with
  | (u1, u2, u3) =>
   match (list)[(u1).toNat]? with
    | none => default
    | some e1 =>
     (e1, u2, u3)
def a30 (c_b : (List UInt8)) : Nat → (List UInt8) → Int → Int → (List UInt8) × Int × Int
 | 0, out, u999_i, u999_h => (((out) : List UInt8), u999_i, u999_h)
 | m_ + 1, out, u999_i, u999_h =>
  match a1h c_b u999_i u999_h with
   | (u1, u2, u3) =>
    a30 c_b m_ (((out ++ [(toU8 u1)])) : List UInt8) u2 u3
def a19 (c_b : (List UInt8)) (c_i : Int) (c_h : Int) (n_ : Int) : (List UInt8) × Int × Int :=
 match a30 c_b ((n_).toNat) ([] : List UInt8) c_i c_h with
  | (out, u999_i, u999_h) =>
   (out, u999_i, u999_h)
theorem len_l1BytesL (b : List UInt8) : ∀ (m : Nat) (out : List UInt8) (i h : Int), (a30 b m out i h).1.length = out.length + m
 | 0, out, i, h => rfl
 | m + 1, out, i, h => by
  simp only [a30]
  rcases a1h b i h with ⟨x, j, k⟩
  dsimp only
  rw [len_l1BytesL b m]
  simp only [List.length_append, List.length_cons, List.length_nil]; omega
theorem len_l1Bytes (b : List UInt8) (i h n : Int) : (a19 b i h n).1.length = n.toNat := by
 unfold a19
 have := len_l1BytesL b n.toNat [] i h
 rcases e : a30 b n.toNat [] i h with ⟨x, j, k⟩
 rw [e] at this
 dsimp only at this ⊢
 simpa using this
def a1i (s : Str) (by_ : UInt8) (i : Nat) (out : List Str) (from_ : Int) : Nat × (List Str) × Int :=
 if ((i : Nat) : Int) ≤ (((s).size : Nat) : Int) then
  if (((i : Nat) : Int) == (((s).size : Nat) : Int)) = true then
   a1i s by_ (i + 1) (((out ++ [((s).extract (Int.toNat from_) i)])) : List Str) (((i : Nat) : Int) + 1)
  else
   match ((s).data.toList)[i]? with
    | none => default
    | some e1 =>
     if (((e1).toNat : Int) == ((by_).toNat : Int)) = true then
      a1i s by_ (i + 1) (((out ++ [((s).extract (Int.toNat from_) i)])) : List Str) (((i : Nat) : Int) + 1)
     else
      a1i s by_ (i + 1) ((out) : List Str) from_
 else
  (i, ((out) : List Str), from_)
termination_by (s).size + 1 - i
decreasing_by all_goals (simp_wf; omega)
def a12 (s : Str) (by_ : UInt8) : (List Str) :=
 match a1i s by_ 0 ([] : List Str) 0 with
  | (i, out, from_) =>
   out
theorem l4some {s : Str} {i : Nat} (h : i < s.size) : ∃ e, (s.data.toList)[i]? = some e := ⟨_, List.getElem?_eq_getElem (show i < s.data.toList.length from by rw [Array.length_toList]; exact h)⟩
theorem l4mono (s : Str) (b : UInt8) : ∀ (m i : Nat) (out : List Str) (f : Int), s.size + 1 - i = m → out.length ≤ (a1i s b i out f).2.1.length
 | 0, i, out, f, h => by rw [a1i, if_neg (by omega)]; exact Nat.le_refl _
 | m + 1, i, out, f, h => by
  rw [a1i, if_pos (by omega)]
  by_cases h2 : i = s.size
  ·rw [if_pos (by simp [h2])]
   have := l4mono s b m (i + 1) (out ++ [s.extract (Int.toNat f) i]) (((i : Nat) : Int) + 1) (by omega)
   rw [List.length_append] at this
   omega
  ·obtain ⟨e, he⟩ := l4some (s := s) (i := i) (by omega)
   rw [if_neg (by simp; omega), he]
   dsimp only
   have h3 := l4mono s b m (i + 1) (out ++ [s.extract (Int.toNat f) i]) (((i : Nat) : Int) + 1) (by omega)
   have h4 := l4mono s b m (i + 1) out f (by omega)
   rw [List.length_append] at h3
   split
   ·omega
   ·exact h4
theorem l4one (s : Str) (b : UInt8) : ∀ (m i : Nat) (out : List Str) (f : Int), s.size - i = m → i ≤ s.size → 1 ≤ (a1i s b i out f).2.1.length
 | m, i, out, f, h, hi => by
  rw [a1i, if_pos (by omega)]
  have h3 := l4mono s b _ (i + 1) (out ++ [s.extract (Int.toNat f) i]) (((i : Nat) : Int) + 1) rfl
  rw [List.length_append, List.length_cons] at h3
  by_cases h2 : i = s.size
  ·rw [if_pos (by simp [h2])]
   omega
  ·obtain ⟨e, he⟩ := l4some (s := s) (i := i) (by omega)
   rw [if_neg (by simp; omega), he]
   dsimp only
   split
   ·omega
   ·exact l4one s b (m - 1) (i + 1) out f (by omega) (by omega)
termination_by m => m
decreasing_by omega
theorem len_l4Split (s : Str) (b : UInt8) : 1 ≤ (a12 s b).length := l4one s b _ 0 [] 0 rfl (Nat.zero_le _)
def a20 (s : Str) : Name × Bool :=
 bif ((s).toList == ((⟨#[47]⟩ : Str)).toList) then
  ((Name.mk ([])), true)
 else
  bif decide (((((a12 s (47 : UInt8))).length : Nat) : Int) < 2) then
   ((Name.mk ([])), false)
  else
   match ((a12 s (47 : UInt8)))[0]? with
    | none => default
    | some e1 =>
     bif (!((e1).toList == ((⟨#[]⟩ : Str)).toList)) then
      ((Name.mk ([])), false)
     else
      bif (!(a0z (Name.mk (List.drop 1 (a12 s (47 : UInt8)))))) then
       ((Name.mk ([])), false)
      else
       ((Name.mk (List.drop 1 (a12 s (47 : UInt8)))), true)
def a01 (s : Str) : Name :=
 ((a20 s).1)
def a0p (n_ : Name) (s : Str) : Name × Bool :=
 bif (!(a0z (Name.mk (n_.parts ++ [s])))) then
  ((a02 n_), false)
 else
  ((Name.mk (n_.parts ++ [s])), true)
theorem aP_len (n_ : Name) (s : Str) : (a0p n_ s).1.parts.length ≤ n_.parts.length + 1 := by
 unfold a0p
 cases (!(a0z (Name.mk (n_.parts ++ [s])))) <;> simp [a02]
theorem aP_els {k : Nat} (n_ : Name) (s : Str) (h1 : ∀ a ∈ n_.parts, GoT.ok k a) (h2 : GoT.ok k s) : ∀ a ∈ (a0p n_ s).1.parts, GoT.ok k a := by
 unfold a0p
 intro a ha
 cases hv : (!(a0z (Name.mk (n_.parts ++ [s]))))
 ·rw [hv] at ha
  rcases List.mem_append.1 (show a ∈ n_.parts ++ [s] from ha) with ha | ha
  ·exact h1 a ha
  ·obtain rfl := List.mem_singleton.1 ha
   exact h2
 ·rw [hv] at ha
  exact h1 a (show a ∈ n_.parts by simpa [a02] using ha)
def a1q (c_b : (List UInt8)) (i : Int) (n_ : List Str) (u999_i : Int) (u999_h : Int) : Int × (List Str) × Int × Int :=
 if i > 0 then
  match a1o c_b u999_i u999_h ([(⟨#[97]⟩ : Str), (⟨#[98]⟩ : Str), (⟨#[110, 101, 119, 115]⟩ : Str), (⟨#[120, 45, 49]⟩ : Str), (⟨#[49]⟩ : Str), (⟨#[107, 101, 121]⟩ : Str)]) with
   | (u4, u5, u6) =>
    a1q c_b (i - 1) (((a0p (Name.mk n_) u4).1.parts) : List Str) u5 u6
 else
  (i, ((n_) : List Str), u999_i, u999_h)
termination_by i.toNat
decreasing_by all_goals (simp_wf; omega)
def a3n (c_b : (List UInt8)) (c_i : Int) (c_h : Int) : Name × Int × Int :=
 match a08 c_b c_i c_h 4 with
  | (u1, u2, u3) =>
   match a1q c_b u1 (([] : List Str) : List Str) u2 u3 with
    | (i, n_, u999_i, u999_h) =>
     ((Name.mk n_), u999_i, u999_h)
theorem l4NameL (b : List UInt8) : ∀ (m : Nat) (i : Int) (n_ : List Str) (a h : Int), i.toNat = m → n_.length + m ≤ 3 → (a1q b i n_ a h).2.1.length ≤ 3
 | 0, i, n_, a, h, hm, hl => by
  rw [a1q, if_neg (by omega)]
  exact hl
 | m + 1, i, n_, a, h, hm, hl => by
  rw [a1q, if_pos (by omega)]
  rcases a1o b a h ([(⟨#[97]⟩ : Str), (⟨#[98]⟩ : Str), (⟨#[110, 101, 119, 115]⟩ : Str), (⟨#[120, 45, 49]⟩ : Str), (⟨#[49]⟩ : Str), (⟨#[107, 101, 121]⟩ : Str)]) with ⟨x, j, k⟩
  dsimp only
  have := aP_len (Name.mk n_) x
  dsimp only at this
  exact l4NameL b m _ _ _ _ (by omega) (by omega)
theorem l4Name_len (b : List UInt8) (i h : Int) : (a3n b i h).1.parts.length ≤ 3 := by
 unfold a3n
 have h1 := l1Below_rng b i h 4
 rcases e : a08 b i h 4 with ⟨x, j, k⟩
 rw [e] at h1
 dsimp only at h1 ⊢
 exact l4NameL b _ x [] j k rfl (by simp; omega)
def a1a (c_b : (List UInt8)) (n_ : List Str) (u999_i : Int) (u999_h : Int) : (List Str) × Int × Int :=
 if (((n_).length : Nat) : Int) < 5 + ((a08 c_b u999_i u999_h 3).1) then
  a1a c_b (((n_ ++ [(⟨#[109]⟩ : Str)])) : List Str) ((a08 c_b u999_i u999_h 3).2.1) ((a08 c_b u999_i u999_h 3).2.2)
 else
  (((n_) : List Str), ((a08 c_b u999_i u999_h 3).2.1), ((a08 c_b u999_i u999_h 3).2.2))
termination_by 7 - n_.length
decreasing_by all_goals (have z_ := l1Below_rng c_b u999_i u999_h 3; (try simp_wf); (try simp only [List.length_append, List.length_cons, List.length_nil]); omega)
def a0r (c_b : (List UInt8)) (c_i : Int) (c_h : Int) : Name × Int × Int :=
 match a3n c_b c_i c_h with
  | (u1, u2, u3) =>
   match a08 c_b u2 u3 8 with
    | (u4, u5, u6) =>
     bif (u4 == 0) then
      match a1o c_b u5 u6 ([(⟨#[]⟩ : Str), (⟨#[65]⟩ : Str), (⟨#[116, 111, 111, 108, 111, 110, 103, 120, 120]⟩ : Str), (⟨#[97, 47, 98]⟩ : Str), (⟨#[32]⟩ : Str), (⟨#[101, 105, 103, 104, 116, 56, 56, 56]⟩ : Str)]) with
       | (u7, u8, u9) =>
        ((Name.mk (u1.parts ++ [u7])), u8, u9)
     else
      bif (u4 == 1) then
       match a1a c_b (u1.parts : List Str) u5 u6 with
        | (n_, u999_i, u999_h) =>
         ((Name.mk n_), u999_i, u999_h)
      else
       (u1, u5, u6)
theorem l4AnyL (b : List UInt8) : ∀ (m : Nat) (n_ : List Str) (a h : Int), 7 - n_.length = m → n_.length ≤ 7 → (a1a b n_ a h).1.length ≤ 7
 | m, n_, a, h, hm, hl => by
  rw [a1a]
  have h1 := l1Below_rng b a h 3
  split
  ·exact l4AnyL b (m - 1) _ _ _ (by simp; omega) (by simp; omega)
  ·exact hl
termination_by m => m
decreasing_by omega
theorem l4Any_len (b : List UInt8) (i h : Int) : (a0r b i h).1.parts.length ≤ 7 := by
 unfold a0r
 have h1 := l4Name_len b i h
 rcases e : a3n b i h with ⟨x, j, k⟩
 rw [e] at h1
 dsimp only at h1 ⊢
 rcases a08 b j k 8 with ⟨x2, j2, k2⟩
 dsimp only
 cases (x2 == 0)
 ·simp only [cond_false]
  cases (x2 == 1)
  ·simp only [cond_false]; omega
  ·simp only [cond_true]
   exact l4AnyL b _ x.parts j2 k2 rfl (by omega)
 ·simp only [cond_true, List.length_append, List.length_cons, List.length_nil]
  omega
end Go.Stp

