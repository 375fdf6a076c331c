/-
  What the proof of one law needs: rules of the program logic, functions as Lean functions, contracts. No condition but what each says. Written by a program (pack.py) out of my own texts.
-/
import Derived.Test.YtolepebgdfdciaaGreatKFnGroups2
namespace Go.Stp
def NN (x : Int) : Prop := 0 ≤ x ∧ x ≤ 9223372036854775807
theorem NN.i64 {x : Int} (h : NN x) : -9223372036854775808 ≤ x ∧ x ≤ 9223372036854775807 := ⟨by have := h.1; omega, h.2⟩
open GoT (X k ok sh fa oa)
def sgl (b : Nat) (o : Obj) : GH := fun x => if x = b then some o else none
theorem sgl_self (b : Nat) (o : Obj) : sgl b o b = some o := by simp [sgl]
theorem sgl_ne {b x : Nat} (o : Obj) (h : x ≠ b) : sgl b o x = none := by simp [sgl, h]
theorem sgl_le {b : Nat} {o : Obj} {G : GH} (h : G b = some o) : Le (sgl b o) G := fun x q hx => by
 by_cases hb : x = b
 ·subst hb; rw [sgl_self] at hx; cases hx; exact h
 ·rw [sgl_ne o hb] at hx; cases hx
theorem sgl_dj {b : Nat} {o : Obj} {G : GH} (h : G b = none) : Dj (sgl b o) G := fun x => by
 by_cases hb : x = b
 ·subst hb; exact .inr h
 ·exact .inl (sgl_ne o hb)
theorem cut_none' {G h : GH} {b : Nat} (hg : G b = none) : cut G h b = none := by
 unfold cut; cases h b <;> simp [hg]
theorem cut_some' {G h : GH} {b : Nat} {o : Obj} (hg : h b = some o) : cut G h b = none := by
 unfold cut; rw [hg]
theorem RowOk.less {M : Nat → Prop} {w : World} {G G' : GH} {b : Nat} {r : Row} (h : RowOk M w G b r) (hg : r.c ≠ 0 → G b = none → G' b = none) : RowOk M w G' b r := by
 refine ⟨h.1, ?_⟩
 rcases h.2 with h0 | ⟨o, h1, h2, h3, h4⟩
 ·exact .inl h0
 ·by_cases hc : r.c = 0
  ·exact .inl ⟨hc, by omega⟩
  ·exact .inr ⟨o, h1, h2, hg hc h3, h4⟩
def delL : Locs → Nat → Locs
 | [], _ => []
 | (j, l) :: r, i => (match Nat.beq j i with | true => delL r i | false => (j, l) :: delL r i)
theorem look_delL : ∀ (L : Locs) (i j : Nat), look (delL L i) j = if i = j then none else look L j
 | [], i, j => by simp [delL, look]
 | (m, l) :: r, i, j => by
  simp only [delL]
  split
  ·rename_i h
   have hm : m = i := Nat.eq_of_beq_eq_true h
   subst hm
   rw [look_delL r, look_cons]
   by_cases h2 : m = j <;> simp [h2]
  ·rename_i h
   have hm : m ≠ i := Nat.ne_of_beq_eq_false h
   rw [look_cons, look_cons, look_delL r]
   by_cases h2 : m = j
   ·subst h2; simp [Ne.symm hm]
   ·simp [h2]
abbrev lobj (l : Loc) : Obj := .cells l.cs.toArray l.T (0, 0)
theorem HInv.drop {C : Cx} {w : World} {G : GH} {bs : Nat → Nat} {L : Locs} {R : Rows} (hI : HInv C w G bs L R) {i : Nat} {l : Loc} (hl : look L i = some l) : HInv C w (join G (sgl (bs i) (lobj l))) bs (delL L i) R := by
 obtain ⟨h1, h2, h3⟩ := hI.loc i l hl
 have up : ∀ {j : Nat} {x : Loc}, look (delL L i) j = some x → i ≠ j ∧ look L j = some x := fun {j x} h => by
  rw [look_delL] at h
  by_cases hij : i = j
  ·simp [hij] at h
  ·simp [hij] at h; exact ⟨hij, h⟩
 have act : ∀ {j : Nat}, Acts (delL L i) R j → Acts L R j := fun h => by
  rcases h with ⟨x, hx⟩ | h
  ·exact .inl ⟨x, (up hx).2⟩
  ·exact .inr h
 have none : ∀ {j : Nat}, i ≠ j → Acts L R j → G (bs j) = none → join G (sgl (bs i) (lobj l)) (bs j) = none := fun {j} hij ha hg => by
  unfold join; rw [hg]
  exact sgl_ne _ (fun e => hI.inj i j hij (.inl ⟨l, hl⟩) ha e.symm)
 refine ⟨hI.keep, join_le hI.le (sgl_le h1), fun j x hx => ?_, fun j r hr => ?_, fun j m hjm ha hb => hI.inj j m hjm (act ha) (act hb), fun j x r hx hr => hI.dis j x r (up hx).2 hr, hI.pin, hI.nr⟩
 ·obtain ⟨hij, hx'⟩ := up hx
  obtain ⟨q1, q2, q3⟩ := hI.loc j x hx'
  exact ⟨q1, q2, none hij (.inl ⟨x, hx'⟩) q3⟩
 ·exact (hI.row j r hr).less fun hc hg => none (fun e => by subst e; exact hI.dis i l r hl hr) (.inr ⟨r, hr, hc⟩) hg
theorem HInv.take {C : Cx} {w : World} {G : GH} {bs : Nat → Nat} {L L' : Locs} {R : Rows} (hI : HInv C w G bs L R) {i : Nat} {l : Loc} (hL : ∀ j, look L' j = if i = j then some l else look L j) (hR : ∀ r, look R i ≠ some r) (hg : G (bs i) = some (lobj l)) (hM : C.M (bs i)) : HInv C w (cut G (sgl (bs i) (lobj l))) bs L' R := by
 have hcut : ∀ b, G b = none → cut G (sgl (bs i) (lobj l)) b = none := fun b h => cut_none' h
 have ne : ∀ {j : Nat}, G (bs j) = none → bs i ≠ bs j := fun h e => by rw [← e, hg] at h; cases h
 have gn : ∀ {j : Nat}, Acts L R j → G (bs j) = none := fun {j} ha => by
  rcases ha with ⟨x, hx⟩ | ⟨r, hr, hc⟩
  ·exact (hI.loc j x hx).2.2
  ·rcases (hI.row j r hr).2 with ⟨h0, _⟩ | ⟨_, _, _, h3, _⟩
   ·exact absurd h0 hc
   ·exact h3
 have act : ∀ {j : Nat}, i ≠ j → Acts L' R j → Acts L R j := fun {j} hij h => by
  rcases h with ⟨x, hx⟩ | h
  ·rw [hL, if_neg hij] at hx; exact .inl ⟨x, hx⟩
  ·exact .inr h
 refine ⟨hI.keep, (cut_le _ _).trans hI.le, fun j x hx => ?_, fun j r hr => (hI.row j r hr).less fun _ h => hcut _ h, fun j m hjm ha hb => ?_, fun j x r hx hr => ?_, hI.pin, hI.nr⟩
 ·rw [hL] at hx
  by_cases hij : i = j
  ·subst hij; simp at hx; subst hx
   exact ⟨hI.le _ _ hg, hM, cut_some' (sgl_self _ _)⟩
  ·simp [hij] at hx
   obtain ⟨q1, q2, q3⟩ := hI.loc j x hx
   exact ⟨q1, q2, hcut _ q3⟩
 ·by_cases hij : i = j
  ·subst hij
   exact ne (gn (act hjm hb))
  ·by_cases him : i = m
   ·subst him
    exact fun e => ne (gn (act hij ha)) e.symm
   ·exact hI.inj j m hjm (act hij ha) (act him hb)
 ·rw [hL] at hx
  by_cases hij : i = j
  ·subst hij; exact hR r hr
  ·simp [hij] at hx; exact hI.dis j x r hx hr
theorem WX.callP {C : Cx} {ops : Array Oper} {o : Oper} {r : List Oper} {s : List It} {env : Env} {L : Locs} {R : Rows} {Γ : Facts} {f : Operand} {args : List Operand} {ats : Array TypeId} {g : FuncId} {sf : SV} {svs : List SV} {caps : (Nat → Nat) → List Value} {T : Nat} {cs : List Value}
    {ι : Type} {val val' : ι → Value} {cs' : ι → List Value} {gs ds : ι → List MF} {Q : Prop} {d : Nat} {Γ' : ι → Facts} (lab n : Nat) (hl : look L lab = some ⟨T, cs⟩) (hds : ∀ i h, Sep h (gs i) → All h (ds i)) (hdk : ∀ i, ∀ f ∈ ds i, f.k = .der) (hg : gd ops env o = some true) (hd : o.dst = some d) (hlt : Nat.blt d C.fn.ntmps = true) (ho : o.op = .call { callee := .value f, args := args.toArray, argTypes := ats })
    (hf : ev env f = some sf) (hsf : ∀ bs, conc bs sf = .func (.func g) #[] (caps bs).toArray) (hargs : evs env args = some svs)
    (hc : ∀ w G bs H, HInv C w G bs L R → Le H (hp w) → Sep H [MF.bx (bs lab) T cs] → AllK C.M (cut (hp w) H) Γ → Does C.P g (svs.map (conc bs) ++ caps bs).toArray w H (Post w H val (fun i => MF.bx (bs lab) T (cs' i) :: gs i) Q))
    (hv : ∀ i, normV (val i) = some (val' i)) (hΓ' : ∀ i, addF n (ds i ++ gs i) Γ = some (Γ' i))
    (k : ∀ i, Q → WX C (.ops ops r :: s) ((d, .v (val' i)) :: env) (setL L lab (cs' i)) R (Γ' i)) : WX C (.ops ops (o :: r) :: s) env L R Γ := by
  rintro a w ⟨G, bs, hA, hI, hΓ⟩
  show wpList C.P ops (cont C s) (o :: r) a w
  unfold wpList
  rw [if_pos (gd_sound hA hg)]
  refine .inl ?_
  unfold Oper.wp
  obtain ⟨h1, h2, h3⟩ := hI.loc lab _ hl
  have hGH : Le G (cut (hp w) (sgl (bs lab) (lobj ⟨T, cs⟩))) := le_cut hI.le (sgl_dj h3).symm
  obtain ⟨he, hcalls⟩ := hc w G bs (sgl (bs lab) (lobj ⟨T, cs⟩)) hI (sgl_le h1) ⟨_, emp, Le.refl _, emp_le _, (emp_dj _).symm, sgl_self _ _, trivial⟩ (hΓ.mono hGH)
  rw [exec_call he ho (by rw [ev_conc hA hf, hsf]) (evs_sound hA args svs hargs)]
  simp only [Oper.upon]
  refine hcalls.mono fun e w' ⟨v, hve, hb, hψ⟩ => ?_
  subst hve
  obtain ⟨i, h, rfl, hq, hle, hdom, ha, hr, a1, a2, a3, a4, a5⟩ := hψ
  have a4' : ha (bs lab) = some (lobj ⟨T, cs' i⟩) := a4
  rw [hd, ← normV_eq (hv i)]
  obtain ⟨hI', hdj⟩ := (hI.drop hl).called (Hc := sgl (bs lab) (lobj ⟨T, cs⟩)) (le_join_r (sgl_dj h3).symm) (fun b q hx => by
    by_cases hbb : b = bs lab
    · subst hbb; exact h2
    · rw [sgl_ne _ hbb] at hx; cases hx) hb hle hdom
  have hG1 : Le G (cut (join G (sgl (bs lab) (lobj ⟨T, cs⟩))) (sgl (bs lab) (lobj ⟨T, cs⟩))) := le_cut (le_join_l _ _) (sgl_dj h3).symm
  have hlab : h (bs lab) = some (lobj ⟨T, cs' i⟩) := a1 _ _ a4'
  have hG2 : join (cut (join G (sgl (bs lab) (lobj ⟨T, cs⟩))) (sgl (bs lab) (lobj ⟨T, cs⟩))) h (bs lab) = some (lobj ⟨T, cs' i⟩) := le_join_r hdj.symm _ _ hlab
  have hI2 := hI'.take (i := lab) (l := ⟨T, cs' i⟩) (L' := setL L lab (cs' i)) (fun j => by
    rw [look_setL, look_delL]
    by_cases hij : lab = j
    · subst hij; simp [hl]
    · simp [hij]) (fun r hr' => hI.dis lab _ r hl hr') hG2 h2
  have hdr : Dj hr G := hdj.mono a2 hG1
  have hΓ2 := hΓ.after (h := hr) (n := n) (ds := ds i) hdr (fun b q hx => by
    rcases hdom b q (a2 b q hx) with h4 | h4
    · exact .inl (Nat.le_trans hI.keep.size h4)
    · by_cases hbb : b = bs lab
      · subst hbb; exact h2
      · exact absurd (sgl_ne _ hbb) h4) a5 (hdk i) (hds i hr a5) (hΓ' i)
  refine k i hq _ _ ⟨_, bs, hA.put (by simpa [Nat.blt_eq] using hlt) (.v _), hI2, hΓ2.mono (join_le ?_ ?_)⟩
  · exact le_cut (hG1.trans (le_join_l _ _)) (sgl_dj h3).symm
  · refine le_cut (a2.trans (le_join_r hdj.symm)) (sgl_dj ?_).symm
    cases hx : hr (bs lab) with
    | none => rfl
    | some q => rcases a3 (bs lab) with h5 | h5
                · rw [a4'] at h5; cases h5
                · rw [hx] at h5; cases h5
theorem Post.ofL {C : Cx} {w : World} {G : GH} {bs : Nat → Nat} {L : Locs} {R : Rows} {Γ Γ1 : Facts} {ι : Type} {val : ι → Value} {gs : ι → List MF} {Q : Prop} {v : Value} {fs : List MF} {T : Nat} {cs : List Value} (lab : Nat) (ks : List Nat) (i : ι) (hI : HInv C w G bs L R) (hΓ : AllK C.M G Γ) (hl : look L lab = some ⟨T, cs⟩) (hk : giveK ks Γ = some (fs, Γ1)) (hv : v = val i) (hf : gs i = MF.bx (bs lab) T cs :: fs) (hq : Q) : Post C.w0 C.H val gs Q v w := by
 obtain ⟨H, q1, q2, q3, q4⟩ := giveK_spec hk hΓ
 obtain ⟨h1, h2, h3⟩ := hI.loc lab _ hl
 have hd : Dj (sgl (bs lab) (lobj ⟨T, cs⟩)) H := (sgl_dj h3).mono (Le.refl _) q1
 refine ⟨i, join (sgl (bs lab) (lobj ⟨T, cs⟩)) H, hv, hq, join_le (sgl_le h1) (q1.trans hI.le), fun b o hx => ?_, ?_⟩
 ·by_cases hbb : b = bs lab
  ·subst hbb; exact h2
  ·unfold join at hx; rw [sgl_ne _ hbb] at hx; exact q2 b o hx
 ·rw [hf]
  exact ⟨_, H, le_join_l _ _, le_join_r hd, hd, sgl_self _ _, q3⟩
theorem WX.adopt {C : Cx} {s : List It} {env : Env} {L : Locs} {R : Rows} {Γ Γ1 : Facts} {b T : Nat} {cs : List Value} (d n : Nat) (hsl : look env d = some (.v (.pointer (some ⟨b, 0, none⟩)))) (hn : labHas d env L R = false) (hks : giveK [n] Γ = some ([MF.bx b T cs], Γ1))
  (k : WX C s ((d, .p d 0) :: env) ((d, ⟨T, cs⟩) :: L) R Γ1) : WX C s env L R Γ := by
 rintro a w ⟨G, bs, hA, hI, hΓ⟩
 obtain ⟨H, q1, q2, q3, q4⟩ := giveK_spec hks hΓ
 obtain ⟨h1, _, a1, _, _, a4, _⟩ := q3
 have a4' : h1 b = some (lobj ⟨T, cs⟩) := a4
 have hHb := a1 _ _ a4'
 have hGb := q1 _ _ hHb
 obtain ⟨n1, n2, n3, n4⟩ := labHas_not hn
 have hnL : ∀ {i : Nat} {x : Loc}, look L i = some x → i ≠ d := fun h => keyHas_not n2 h
 have hnR : ∀ {i : Nat} {x : Row}, look R i = some x → i ≠ d := fun h => keyHas_not n3 h
 have act : ∀ {i : Nat}, i ≠ d → Acts ((d, (⟨T, cs⟩ : Loc)) :: L) R i → Acts L R i := fun {i} hne h => by
  rcases h with ⟨x, hx⟩ | h
  ·rw [look_cons, if_neg (Ne.symm hne)] at hx; exact .inl ⟨x, hx⟩
  ·exact .inr h
 have gn : ∀ {j : Nat}, Acts L R j → G (bs j) = none := fun {j} ha => by
  rcases ha with ⟨x, hx⟩ | ⟨r, hr, hc⟩
  ·exact (hI.loc j x hx).2.2
  ·rcases (hI.row j r hr).2 with ⟨h0, _⟩ | ⟨_, _, _, h3, _⟩
   ·exact absurd h0 hc
   ·exact h3
 have ne : ∀ {j : Nat}, Acts L R j → b ≠ bs j := fun ha e => by have := gn ha; rw [← e, hGb] at this; cases this
 refine k a w ⟨cut G H, fun j => if j = d then b else bs j, ?_, ⟨hI.keep, (cut_le _ _).trans hI.le, fun i l hl => ?_, fun i r hr => ?_, fun i j hij hi hj => ?_, fun i l r hl hr => ?_, fun b' hb' => by simp only [if_neg (Ne.symm n4)]; exact hI.pin b' hb', hI.nr⟩, q4⟩
 ·have hA' := hA.notH (d := d) (bs' := fun j => if j = d then b else bs j) n1 (fun i hi => if_neg hi)
  refine ⟨hA'.size, hA'.dfr, fun e x hx => ?_⟩
  rw [look_cons] at hx
  split at hx
  ·rename_i he; subst he
   simp at hx; subst hx
   have := hA.slot d _ hsl
   rw [this]; simp [conc]
  ·exact hA'.slot e x hx
 ·rw [look_cons] at hl
  split at hl
  ·rename_i he; subst he
   simp at hl; subst hl
   simp only [if_true]
   exact ⟨hI.le _ _ hGb, q2 _ _ hHb, cut_some' hHb⟩
  ·rename_i he
   obtain ⟨p1, p2, p3⟩ := hI.loc i l hl
   simp only [if_neg (Ne.symm he)]
   exact ⟨p1, p2, cut_none' p3⟩
 ·simp only [if_neg (hnR hr)]
  exact (hI.row i r hr).less fun _ h => cut_none' h
 ·by_cases hid : i = d
  ·subst hid
   simp only [if_true, if_neg (Ne.symm hij)]
   exact ne (act (Ne.symm hij) hj)
  ·by_cases hjd : j = d
   ·subst hjd
    simp only [if_true, if_neg hid]
    exact fun e => ne (act hid hi) e.symm
   ·simp only [if_neg hid, if_neg hjd]
    exact hI.inj i j hij (act hid hi) (act hjd hj)
 ·rw [look_cons, if_neg (Ne.symm (hnR hr))] at hl
  exact hI.dis i l r hl hr
def resQ (env : Env) : List ResultVar → Option (List SV)
 | [] => some []
 | .tmp t :: r => (match look env t with
  | some sv => (match resQ env r with | some q => some (sv :: q) | none => none)
  | none => none)
 | .cell _ _ :: _ => none
theorem resQ_sound {C : Cx} {env : Env} {bs : Nat → Nat} {a : Act} {w : World} (hA : At C.fn.ntmps env bs a) :
  ∀ (rs : List ResultVar) (ss : List SV), resQ env rs = some ss →
   (rs.mapM (m := Sem) fun | .tmp t => pure (a.tmps.getD t undef) | .cell x t => do loadVar t (← asAddr (a.tmps.getD x undef))).run C.P w = .ok (ss.map (conc bs)) w
 | [], ss, h => by simp [resQ] at h; subst h; simp
 | .tmp t :: r, ss, h => by
  simp only [resQ] at h
  split at h
  ·rename_i sv hsv
   split at h
   ·rename_i q hq
    simp only [Option.some.injEq] at h; subst h
    have ih := resQ_sound (w := w) hA r q hq
    have hs := hA.slot t _ hsv
    simp only [List.mapM_cons, Sem.run_bind, Sem.run_pure, Result.andThen_ok, ih, hs, List.map_cons]
   ·cases h
  ·cases h
 | .cell _ _ :: _, ss, h => by simp [resQ] at h
theorem WX.retQ {C : Cx} {s : List It} {env : Env} {L : Locs} {R : Rows} {Γ : Facts} {ss : List SV} (hv : resQ env C.fn.results.toList = some ss)
  (k : ∀ w G bs, HInv C w G bs L R → AllK C.M G Γ → C.Φ (tup (ss.map (conc bs))) w) : WX C (.code .ret :: s) env L R Γ := by
 rintro a w ⟨G, bs, hA, hI, hΓ⟩
 show Code.ret.wp C.P (cont C s) a w
 refine wp_ret ?_
 have key : ∀ s : List It, bodyPost C.P C.fn (Ret C.w0 C.H C.Φ) .ret a w → cont C s .ret a w := by
  intro s h
  induction s with
  | nil => exact h
  | cons x s ih => cases x <;> exact ih
 exact key s ⟨hA.dfr, tup (ss.map (conc bs)), results_run (resQ_sound hA _ _ hv), tup (ss.map (conc bs)), rfl, hI.keep, k w G bs hI hΓ⟩
end Go.Stp

namespace Go.Proofs.YtolepebgdfdciaaGreat
open Go.Stp
set_option linter.unusedVariables false
set_option linter.unusedSimpArgs false
theorem f132 (w : World) (n : Nat) (hn : n + 0 ≤ 9) (n_ : Int) (a : Int) (b : Int) (hokn_ : GoT.ok n n_) (hoka : GoT.ok n a) (hokb : GoT.ok n b) :
 Does Tryz.prog 132 #[.int .i64 (n_), .int .i64 (a), .int .i64 (b)] w emp (fun (rv : Value) (_ : World) => rv = .bool (a2g n_ a b) ∧ True) := by
 refine WX.enter (tt := tt) (Γ := []) Tryz.func132 Z J Z allS_nil ?_
 refine R0 ?_
 refine WX.cases 10 Z (fun h1 => ?_) (fun h1 => ?_)
 ·skip
  have h1d := B.dt h1
  refine R0 ?_
  have hP1 : a2g n_ a b = (decide (n_ ≤ b)) := by simp only [a2g, h1, ct, cf]
  exact R3 hP1
 have h1d := B.df h1
 refine R0 ?_
 have hP2 : a2g n_ a b = false := by simp only [a2g, h1, ct, cf]
 exact R3 hP2
theorem f136 (w : World) (n : Nat) (hn : n + 0 ≤ 9) (x_ : Int) (least : Int) (most : Int) (hokx_ : GoT.ok n x_) (hokleast : GoT.ok n least) (hokmost : GoT.ok n most) :
 Does Tryz.prog 136 #[.int .i64 (x_), .int .i64 (least), .int .i64 (most)] w emp (fun (rv : Value) (_ : World) => rv = .bool (a1c x_ least most) ∧ True) := by
 refine WX.enter (tt := tt) (Γ := []) Tryz.func136 Z J Z allS_nil ?_
 refine R0 ?_
 refine WX.cases 10 Z (fun h1 => ?_) (fun h1 => ?_)
 ·skip
  have h1d := B.dt h1
  refine R0 ?_
  have hP1 : a1c x_ least most = (decide (x_ ≤ most)) := by simp only [a1c, h1, ct, cf]
  exact R3 hP1
 have h1d := B.df h1
 refine R0 ?_
 have hP2 : a1c x_ least most = false := by simp only [a1c, h1, ct, cf]
 exact R3 hP2
theorem inR_impl {n a b : Int} (h : a2g n a b = true) : a ≤ n ∧ n ≤ b := by
 unfold a2g at h
 cases hd : decide (a ≤ n)
 ·exact absurd (show false = true by rw [show decide (a ≤ n) = false from hd] at h; exact h) Bool.false_ne_true
 ·rw [show decide (a ≤ n) = true from hd] at h
  exact ⟨of_decide_eq_true hd, of_decide_eq_true (show decide (n ≤ b) = true from h)⟩
theorem inR_spec {n a b : Int} (h : a1c n a b = true) : a ≤ n ∧ n ≤ b := by
 unfold a1c at h
 cases hd : decide (a ≤ n)
 ·exact absurd (show false = true by rw [show decide (a ≤ n) = false from hd] at h; exact h) Bool.false_ne_true
 ·rw [show decide (a ≤ n) = true from hd] at h
  exact ⟨of_decide_eq_true hd, of_decide_eq_true (show decide (n ≤ b) = true from h)⟩
end Go.Proofs.YtolepebgdfdciaaGreat

namespace Go.Stp
set_option linter.unusedVariables false
set_option linter.unusedSimpArgs false
def a09 (n_ : Name) : Name :=
 n_
def a02 (n_ : Name) : Name :=
 n_
def a3i (name : Name) : Member :=
 (Member.mk (a09 name) (StateVector.mk ([])) ([]))
def a0e (me : Name) : Member :=
 (Member.mk (a02 me) (StateVector.mk ([])) ([]))
end Go.Stp

namespace Go.Proofs.YtolepebgdfdciaaGreat
open Go.Stp
set_option linter.unusedVariables false
set_option linter.unusedSimpArgs false
theorem f184 (w : World) (n : Nat) (hn : n + 0 ≤ 9) (s : (List Str)) (ps : Option Addr) (cs : Nat) (N0 : RdSl (hp w) ps cs s) (hoks : GoT.ok n s) :
 Does Tryz.prog 184 #[.slice ps ((s).length) cs] w emp (Post w emp (fun x : GoT.X ((List Str)) => (GoT.sh (s : (List Str)) x).headD undef) (fun x => GoT.oa (s : (List Str)) x) (GoT.ok n (s : (List Str)))) := by
 have hbP := bd_pos n
 have hbB := bd_big (n := n) (by omega)
 refine WX.enter (tt := tt) (Γ := [(0, MF.rs .stb ps cs s)]) Tryz.func184 Z J Z (allS_cons Z N0 allS_nil) ?_
 refine R0 ?_
 refine WX.see Z Z Z (fun _ hΓ => looks_nil ttOk Z Z Z Z) ?_
 refine WX.cases 4 Z (fun hp1 => ?_) (fun hp1 => ?_)
 ·skip
  obtain rfl : ps = none := by simpa using hp1
  refine WX.know (fun G hΓ => rdSl_none (hΓ.get 0 Z)) ?_
  intro ln1
  refine R0 ?_
  subst ln1
  refine WX.free 1 (MF.os none 0 ([] : List Str)) (owSl_nil _ _) ?_
  refine R1 ?_
  intro w1 G bs hI hΓ
  exact Post.of [1] (none, 0) hI hΓ Z Z Z (by assumption)
 refine R0 ?_
 refine WX.bld ttOk Z Z Z Z Z Z Z ?_
 intro p1
 refine R0 ?_
 refine WX.free 2 (MF.ol [] ([] : List Str)) Z ?_
 have r1 : (s).length ≤ bd n := (okl hoks).1
 refine WX.appG1 5 0 3 (s : List Str).length ttOk Z Z Z Z Z Z Z Z Z Z Z Z Z (by first | (simp; done) | (simp; omega)) (by omega) (by omega) (fun _ _ _ => Z) ?_
 intro ys1 p2 c1
 refine WX.know (fun G hΓ => (hΓ.get 3 Z : RdL _ _ _).flat) ?_
 intro hf1
 refine WX.turn [2] 4 Z (fun h hs => ol_flat hs hf1) (gs := [MF.ol ([] ++ ys1) (s : List Str)]) Z ?_
 refine R0 ?_
 refine WX.seal 5 4 5 Z Z Z Z Z ?_
 refine R1 ?_
 intro w1 G bs hI hΓ
 exact Post.of [6] (p2, c1) hI hΓ Z Z Z (by assumption)
theorem f114 (w : World) (n : Nat) (hn : n + 0 ≤ 9) (s : (List UInt8)) (ps : Option Addr) (cs : Nat) (N0 : RdSl (hp w) ps cs s) (hoks : GoT.ok n s) :
 Does Tryz.prog 114 #[.slice ps ((s).length) cs] w emp (Post w emp (fun x : GoT.X ((List UInt8)) => (GoT.sh (s : (List UInt8)) x).headD undef) (fun x => GoT.oa (s : (List UInt8)) x) (GoT.ok n (s : (List UInt8)))) := by
 have hbP := bd_pos n
 have hbB := bd_big (n := n) (by omega)
 refine WX.enter (tt := tt) (Γ := [(0, MF.rs .stb ps cs s)]) Tryz.func114 Z J Z (allS_cons Z N0 allS_nil) ?_
 refine R0 ?_
 refine WX.see Z Z Z (fun _ hΓ => looks_nil ttOk Z Z Z Z) ?_
 refine WX.cases 4 Z (fun hp1 => ?_) (fun hp1 => ?_)
 ·skip
  obtain rfl : ps = none := by simpa using hp1
  refine WX.know (fun G hΓ => rdSl_none (hΓ.get 0 Z)) ?_
  intro ln1
  refine R0 ?_
  subst ln1
  refine WX.free 1 (MF.os none 0 ([] : List UInt8)) (owSl_nil _ _) ?_
  refine R1 ?_
  intro w1 G bs hI hΓ
  exact Post.of [1] (none, 0) hI hΓ Z Z Z (by assumption)
 refine R0 ?_
 refine WX.bld ttOk Z Z Z Z Z Z Z ?_
 intro p1
 refine R0 ?_
 refine WX.free 2 (MF.ol [] ([] : List UInt8)) Z ?_
 have r1 : (s).length ≤ bd n := (okl hoks).1
 refine WX.appG1 5 0 3 (s : List UInt8).length ttOk Z Z Z Z Z Z Z Z Z Z Z Z Z (by first | (simp; done) | (simp; omega)) (by omega) (by omega) (fun _ _ _ => Z) ?_
 intro ys1 p2 c1
 refine WX.know (fun G hΓ => (hΓ.get 3 Z : RdL _ _ _).flat) ?_
 intro hf1
 refine WX.turn [2] 4 Z (fun h hs => ol_flat hs hf1) (gs := [MF.ol ([] ++ ys1) (s : List UInt8)]) Z ?_
 refine R0 ?_
 refine WX.seal 5 4 5 Z Z Z Z Z ?_
 refine R1 ?_
 intro w1 G bs hI hΓ
 exact Post.of [6] (p2, c1) hI hΓ Z Z Z (by assumption)
theorem f113 (w : World) (n : Nat) (hn : n + 0 ≤ 9) (n_ : Name) (K0 : Option Addr) (M0 : Nat) (N0 : RdSl (hp w) K0 M0 n_.parts) (hokn_ : GoT.ok n n_) :
 Does Tryz.prog 113 #[.agg #[.slice K0 ((n_.parts).length) M0]] w emp (Post w emp (fun x : GoT.X (Name) => .agg ⟨GoT.sh ((a09 n_) : Name) x⟩) (fun x => GoT.oa ((a09 n_) : Name) x) (GoT.ok n ((a09 n_) : Name))) := by
 have hbP := bd_pos n
 have hbB := bd_big (n := n) (by omega)
 refine WX.enter (tt := tt) (Γ := [(0, MF.rs .stb K0 M0 n_.parts)]) Tryz.func113 Z J Z (allS_cons Z N0 allS_nil) ?_
 refine R0 ?_
 refine WX.callF 1 (fun _ _ h => GoT.ow_rd h) (fun _ f hf => GoT.fak f hf) Z Z Z Z Z O Z (fun w G bs hI hΓ => f184 w n (by omega) n_.parts K0 M0 (hΓ.get 0 Z) (ok_Name hokn_)) O O ?_
 rintro ⟨p1, c1⟩ hq1
 refine R0 ?_
 have hP1 : a09 n_ = n_ := by simp only [a09, ct, cf]
 refine R1 ?_
 intro w1 G bs hI hΓ
 rw [hP1]
 exact Post.of [2] (p1, c1) hI hΓ Z Z Z hq1
theorem f118 (w : World) (n : Nat) (hn : n + 0 ≤ 9) (n_ : Name) (K0 : Option Addr) (M0 : Nat) (N0 : RdSl (hp w) K0 M0 n_.parts) (hokn_ : GoT.ok n n_) :
 Does Tryz.prog 118 #[.agg #[.slice K0 ((n_.parts).length) M0]] w emp (Post w emp (fun x : GoT.X (Name) => .agg ⟨GoT.sh ((a02 n_) : Name) x⟩) (fun x => GoT.oa ((a02 n_) : Name) x) (GoT.ok n ((a02 n_) : Name))) := by
 have hbP := bd_pos n
 have hbB := bd_big (n := n) (by omega)
 refine WX.enter (tt := tt) (Γ := [(0, MF.rs .stb K0 M0 n_.parts)]) Tryz.func118 Z J Z (allS_cons Z N0 allS_nil) ?_
 refine R0 ?_
 refine WX.bld ttOk Z Z Z Z Z Z Z ?_
 intro p1
 refine R0 ?_
 refine WX.free 1 (MF.ol [] ([] : List Str)) Z ?_
 have r1 : (n_.parts).length ≤ bd n := (okl (ok_Name hokn_)).1
 refine WX.appG1 3 0 2 (n_.parts : List Str).length ttOk Z Z Z Z Z Z Z Z Z Z Z Z Z (by first | (simp; done) | (simp; omega)) (by omega) (by omega) (fun _ _ _ => Z) ?_
 intro ys1 p2 c1
 refine WX.know (fun G hΓ => (hΓ.get 2 Z : RdL _ _ _).flat) ?_
 intro hf1
 refine WX.turn [1] 3 Z (fun h hs => ol_flat hs hf1) (gs := [MF.ol ([] ++ ys1) (n_.parts : List Str)]) Z ?_
 refine R0 ?_
 refine WX.seal 3 3 4 Z Z Z Z Z ?_
 have hP1 : a02 n_ = n_ := by simp only [a02, ct, cf]
 refine R1 ?_
 intro w1 G bs hI hΓ
 rw [hP1]
 exact Post.of [5] (p2, c1) hI hΓ Z Z Z (okl_mk (by omega) (okl (ok_Name hokn_)).2 : GoT.ok n (n_.parts : List Str))
theorem f55 (w : World) (n : Nat) (hn : n + 0 ≤ 9) (name : Name) (K0 : Option Addr) (M0 : Nat) (N0 : RdSl (hp w) K0 M0 name.parts) (hokname : GoT.ok n name) :
 Does Tryz.prog 55 #[.agg #[.slice K0 ((name.parts).length) M0]] w emp (Post w emp (fun x : GoT.X (Member) => .agg ⟨GoT.sh ((a3i name) : Member) x⟩) (fun x => GoT.oa ((a3i name) : Member) x) (GoT.ok n ((a3i name) : Member))) := by
 have hbP := bd_pos n
 have hbB := bd_big (n := n) (by omega)
 refine WX.enter (tt := tt) (Γ := [(0, MF.rs .stb K0 M0 name.parts)]) Tryz.func55 Z J Z (allS_cons Z N0 allS_nil) ?_
 refine R0 ?_
 refine WX.callF 1 (fun _ _ h => GoT.ow_rd h) (fun _ f hf => GoT.fak f hf) Z Z Z Z Z O Z (fun w G bs hI hΓ => f113 w n (by omega) name K0 M0 (hΓ.get 0 Z) hokname) O O ?_
 rintro ⟨p1, c1⟩ hq1
 refine R0 ?_
 refine WX.free 3 (MF.os none 0 ([] : List TableEntry)) (owSl_nil _ _) ?_
 refine WX.free 4 (MF.os none 0 ([] : List Publication)) (owSl_nil _ _) ?_
 have hP1 : a3i name = (Member.mk (a09 name) (StateVector.mk ([])) ([])) := by simp only [a3i, ct, cf]
 refine R1 ?_
 intro w1 G bs hI hΓ
 rw [hP1]
 exact Post.of [2, 3, 4] ((p1, c1), (none, 0), (none, 0)) hI hΓ Z Z Z (And.intro hq1 (And.intro (ok_nil (α := TableEntry)) (ok_nil (α := Publication))))
theorem f56 (w : World) (n : Nat) (hn : n + 0 ≤ 9) (me : Name) (K0 : Option Addr) (M0 : Nat) (N0 : RdSl (hp w) K0 M0 me.parts) (hokme : GoT.ok n me) :
 Does Tryz.prog 56 #[.agg #[.slice K0 ((me.parts).length) M0]] w emp (Post w emp (fun x : GoT.X (Member) => .agg ⟨GoT.sh ((a0e me) : Member) x⟩) (fun x => GoT.oa ((a0e me) : Member) x) (GoT.ok n ((a0e me) : Member))) := by
 have hbP := bd_pos n
 have hbB := bd_big (n := n) (by omega)
 refine WX.enter (tt := tt) (Γ := [(0, MF.rs .stb K0 M0 me.parts)]) Tryz.func56 Z J Z (allS_cons Z N0 allS_nil) ?_
 refine R0 ?_
 refine WX.callF 1 (fun _ _ h => GoT.ow_rd h) (fun _ f hf => GoT.fak f hf) Z Z Z Z Z O Z (fun w G bs hI hΓ => f118 w n (by omega) me K0 M0 (hΓ.get 0 Z) hokme) O O ?_
 rintro ⟨p1, c1⟩ hq1
 refine R0 ?_
 refine WX.free 3 (MF.os none 0 ([] : List TableEntry)) (owSl_nil _ _) ?_
 refine WX.free 4 (MF.os none 0 ([] : List Publication)) (owSl_nil _ _) ?_
 have hP1 : a0e me = (Member.mk (a02 me) (StateVector.mk ([])) ([])) := by simp only [a0e, ct, cf]
 refine R1 ?_
 intro w1 G bs hI hΓ
 rw [hP1]
 exact Post.of [2, 3, 4] ((p1, c1), (none, 0), (none, 0)) hI hΓ Z Z Z (And.intro hq1 (And.intro (ok_nil (α := TableEntry)) (ok_nil (α := Publication))))
end Go.Proofs.YtolepebgdfdciaaGreat

namespace Go.Stp
set_option linter.unusedVariables false
set_option linter.unusedSimpArgs false
def slices_Equal_string_L1 (s2 : (List Str)) : List Str → Nat → Option (Bool)
 | [], i => none
 | e1 :: rest_, i =>
  match (s2)[i]? with
   | none => default
   | some e2 =>
    bif (!((e1).toList == (e2).toList)) then
     (some false)
    else
     slices_Equal_string_L1 s2 rest_ (i + 1)
def slices_Equal_string (s1 : (List Str)) (s2 : (List Str)) : Bool :=
 bif ((((s1).length : Nat) : Int) != (((s2).length : Nat) : Int)) then
  false
 else
  match slices_Equal_string_L1 s2 s1 0 with
   | some r_ => r_
   | none =>
    true
def slices_Equal_byte_L1 (s2 : (List UInt8)) : List UInt8 → Nat → Option (Bool)
 | [], i => none
 | e1 :: rest_, i =>
  match (s2)[i]? with
   | none => default
   | some e2 =>
    bif (((e1).toNat : Int) != ((e2).toNat : Int)) then
     (some false)
    else
     slices_Equal_byte_L1 s2 rest_ (i + 1)
def slices_Equal_byte (s1 : (List UInt8)) (s2 : (List UInt8)) : Bool :=
 bif ((((s1).length : Nat) : Int) != (((s2).length : Nat) : Int)) then
  false
 else
  match slices_Equal_byte_L1 s2 s1 0 with
   | some r_ => r_
   | none =>
    true
def a37 (a : Name) (b : Name) : Bool :=
 (slices_Equal_string a.parts b.parts)
def a0w (a : Str) (b : Str) : Int :=
 bif (Op.bytesLess (a).toList (b).toList) then
  (-1)
 else
  bif (!(Op.bytesLess (a).toList (b).toList || (a).toList == (b).toList)) then
   1
  else
   0
def a0u (b : Name) : List Str → Nat → Option (Int)
 | [], i => none
 | e1 :: rest_, i =>
  bif decide (((i : Nat) : Int) < (((b.parts).length : Nat) : Int)) then
   match (b.parts)[i]? with
    | none => default
    | some e2 =>
     bif ((a0w e1 e2) != 0) then
      (some (a0w e1 e2))
     else
      a0u b rest_ (i + 1)
  else
   none
def a0v (a : Name) (b : Name) : Int :=
 match a0u b a.parts 0 with
  | some r_ => r_
  | none =>
   bif decide ((((a.parts).length : Nat) : Int) < (((b.parts).length : Nat) : Int)) then
    (-1)
   else
    bif decide ((((a.parts).length : Nat) : Int) > (((b.parts).length : Nat) : Int)) then
     1
    else
     0
def a1f (a : Name) (b : Name) : Bool :=
 ((a0v a b) == 0)
def a3d (a : (List UInt8)) (b : (List UInt8)) : Bool :=
 (((bstr a)).toList == ((bstr b)).toList)
end Go.Stp

namespace Go.Proofs.YtolepebgdfdciaaGreat
open Go.Stp
set_option linter.unusedVariables false
set_option linter.unusedSimpArgs false
theorem f174 (w : World) (n : Nat) (hn : n + 0 ≤ 9) (s1 : (List Str)) (K0 : Option Addr) (M0 : Nat) (N0 : RdSl (hp w) K0 M0 s1) (s2 : (List Str)) (K1 : Option Addr) (M1 : Nat) (N1 : RdSl (hp w) K1 M1 s2) (hoks1 : GoT.ok n s1) (hoks2 : GoT.ok n s2) :
 Does Tryz.prog 174 #[.slice K0 ((s1).length) M0, .slice K1 ((s2).length) M1] w emp (fun (rv : Value) (_ : World) => rv = .bool (slices_Equal_string s1 s2) ∧ True) := by
 have hbP := bd_pos n
 have hbB := bd_big (n := n) (by omega)
 refine WX.enter (tt := tt) (Γ := [(0, MF.rs .stb K0 M0 s1), (1, MF.rs .stb K1 M1 s2)]) Tryz.func174 Z J Z (allS_cons Z N0 (allS_cons Z N1 allS_nil)) ?_
 refine R0 ?_
 refine WX.cases 10 Z (fun h1 => ?_) (fun h1 => ?_)
 ·skip
  have h1d := B.nt' h1
  refine R0 ?_
  have hP1 : slices_Equal_string s1 s2 = false := by simp only [slices_Equal_string, h1, ct, cf]
  exact R3 hP1
 have h1d := B.nf' h1
 refine R0 ?_
 have r1 : (s1).length ≤ bd n := (okl hoks1).1
 refine WX.loop (ι := Nat) ⟨fun i => (i ≤ (s1).length) ∧ (slices_Equal_string_L1 s2 s1 0 = slices_Equal_string_L1 s2 ((s1).drop i) i), fun i => (s1).length - i, fun i => [(13, .v (.int .i64 (((i : Nat) : Int)))), (12, .v (.int .i64 ((((s1).length : Nat) : Int)))), (0, .v (.slice K0 ((s1).length) M0)), (1, .v (.slice K1 ((s2).length) M1))], fun i => [], fun i => [], fun i => [(0, MF.rs .stb K0 M0 s1), (1, MF.rs .stb K1 M1 s2)]⟩ 0 ⟨(Nat.zero_le _), Z⟩
  (.cons Z (.cons Z (.cons Z (.cons Z (.nil))))) .nil .nil [0, 1] Z ?_
 rintro i hpre
 have hpre_ : (i ≤ (s1).length) ∧ (slices_Equal_string_L1 s2 s1 0 = slices_Equal_string_L1 s2 ((s1).drop i) i) := hpre
 clear hpre
 obtain ⟨v1, v2⟩ := hpre_
 refine R0 ?_
 refine WX.cases 14 Z (fun h2 => ?_) (fun h2 => ?_)
 ·skip
  have h2d := B.dt h2
  have e1i : i < (s1).length := (by omega)
  obtain ⟨e1, e1h⟩ : ∃ e1, (s1)[i]? = some e1 := ⟨_, List.getElem?_eq_getElem e1i⟩
  have ok1 : GoT.ok n e1 := (okl hoks1).2 _ (List.mem_of_getElem? e1h)
  refine R0 ?_
  refine WX.draw [] mixed ?_
  intro bs G0 hΓ0
  refine DX.takes (fuel := 7) ttOk [(0, true), (1, true)] J Z ?_
  refine DX.idx 2 0 i ttOk hΓ0 J Z Z Z Z Z Z Z Z Z Z Z e1i ?_
  rintro ad1 rfl
  refine DX.ldE 3 0 2 e1 ttOk hΓ0 J Z Z Z Z Z Z Z Z e1h O O ?_
  rintro ⟨⟩
  refine DX.takes (fuel := 3) ttOk [(4, true), (5, true)] J Z ?_
  have e2i : i < (s2).length := (by first | assumption | omega)
  obtain ⟨e2, e2h⟩ : ∃ e2, (s2)[i]? = some e2 := ⟨_, List.getElem?_eq_getElem e2i⟩
  have ok2 : GoT.ok n e2 := (okl hoks2).2 _ (List.mem_of_getElem? e2h)
  refine DX.idx 6 1 i ttOk hΓ0 J Z Z Z Z Z Z Z Z Z Z Z e2i ?_
  rintro ad2 rfl
  refine DX.ldE 7 1 2 e2 ttOk hΓ0 J Z Z Z Z Z Z Z Z e2h O O ?_
  rintro ⟨⟩
  refine DX.takes (fuel := 0) ttOk [(8, true)] J Z ?_
  refine DX.tail2 [] Z Z J ?_
  refine R0 ?_
  refine WX.cases 24 Z (fun h3 => ?_) (fun h3 => ?_)
  ·skip
   have h3d := B.ef (B.nt h3)
   refine R0 ?_
   have hP2 : slices_Equal_string_L1 s2 s1 0 = (some false) := by rw [v2, drop_get e1h]; simp only [slices_Equal_string_L1, e2h, h3, ct, cf]
   have hP3 : slices_Equal_string s1 s2 = false := by simp only [slices_Equal_string, h1, hP2, ct, cf]
   exact R3 hP3
  have h3d := B.et (B.nf h3)
  refine R0 ?_
  refine WX.see Z Z Z (fun _ hΓ => looks_arith Z Z Z Z (by unfold I64; first | omega | (simp only [List.length_take] at *; omega))) ?_
  refine R0 ?_
  exact WX.iter (i + 1) ⟨(by omega), (by rw [v2, drop_get e1h]; simp only [slices_Equal_string_L1, e2h, h3, ct, cf])⟩ (by first | (dsimp only; omega) | omega) (.cons Z (.cons Z (.cons Z (.cons Z (.nil))))) .nil .nil [0, 1] Z
 have h2d := B.df h2
 refine R0 ?_
 have hX1 : slices_Equal_string_L1 s2 s1 0 = none := by rw [v2, List.drop_eq_nil_of_le (show (s1).length ≤ i by omega)]; simp only [slices_Equal_string_L1, ct, cf]
 have hP4 : slices_Equal_string s1 s2 = true := by simp only [slices_Equal_string, h1, hX1, ct, cf]
 exact R3 hP4
theorem f178 (w : World) (n : Nat) (hn : n + 0 ≤ 9) (s1 : (List UInt8)) (K0 : Option Addr) (M0 : Nat) (N0 : RdSl (hp w) K0 M0 s1) (s2 : (List UInt8)) (K1 : Option Addr) (M1 : Nat) (N1 : RdSl (hp w) K1 M1 s2) (hoks1 : GoT.ok n s1) (hoks2 : GoT.ok n s2) :
 Does Tryz.prog 178 #[.slice K0 ((s1).length) M0, .slice K1 ((s2).length) M1] w emp (fun (rv : Value) (_ : World) => rv = .bool (slices_Equal_byte s1 s2) ∧ True) := by
 have hbP := bd_pos n
 have hbB := bd_big (n := n) (by omega)
 refine WX.enter (tt := tt) (Γ := [(0, MF.rs .stb K0 M0 s1), (1, MF.rs .stb K1 M1 s2)]) Tryz.func178 Z J Z (allS_cons Z N0 (allS_cons Z N1 allS_nil)) ?_
 refine R0 ?_
 refine WX.cases 10 Z (fun h1 => ?_) (fun h1 => ?_)
 ·skip
  have h1d := B.nt' h1
  refine R0 ?_
  have hP1 : slices_Equal_byte s1 s2 = false := by simp only [slices_Equal_byte, h1, ct, cf]
  exact R3 hP1
 have h1d := B.nf' h1
 refine R0 ?_
 have r1 : (s1).length ≤ bd n := (okl hoks1).1
 refine WX.loop (ι := Nat) ⟨fun i => (i ≤ (s1).length) ∧ (slices_Equal_byte_L1 s2 s1 0 = slices_Equal_byte_L1 s2 ((s1).drop i) i), fun i => (s1).length - i, fun i => [(13, .v (.int .i64 (((i : Nat) : Int)))), (12, .v (.int .i64 ((((s1).length : Nat) : Int)))), (0, .v (.slice K0 ((s1).length) M0)), (1, .v (.slice K1 ((s2).length) M1))], fun i => [], fun i => [], fun i => [(0, MF.rs .stb K0 M0 s1), (1, MF.rs .stb K1 M1 s2)]⟩ 0 ⟨(Nat.zero_le _), Z⟩
  (.cons Z (.cons Z (.cons Z (.cons Z (.nil))))) .nil .nil [0, 1] Z ?_
 rintro i hpre
 have hpre_ : (i ≤ (s1).length) ∧ (slices_Equal_byte_L1 s2 s1 0 = slices_Equal_byte_L1 s2 ((s1).drop i) i) := hpre
 clear hpre
 obtain ⟨v1, v2⟩ := hpre_
 refine R0 ?_
 refine WX.cases 14 Z (fun h2 => ?_) (fun h2 => ?_)
 ·skip
  have h2d := B.dt h2
  have e1i : i < (s1).length := (by omega)
  obtain ⟨e1, e1h⟩ : ∃ e1, (s1)[i]? = some e1 := ⟨_, List.getElem?_eq_getElem e1i⟩
  refine R0 ?_
  refine WX.draw [] mixed ?_
  intro bs G0 hΓ0
  refine DX.takes (fuel := 7) ttOk [(0, true), (1, true)] J Z ?_
  refine DX.idx 2 0 i ttOk hΓ0 J Z Z Z Z Z Z Z Z Z Z Z e1i ?_
  rintro ad1 rfl
  refine DX.ldE 3 0 2 e1 ttOk hΓ0 J Z Z Z Z Z Z Z Z e1h O O ?_
  rintro ⟨⟩
  refine DX.takes (fuel := 3) ttOk [(4, true), (5, true)] J Z ?_
  have e2i : i < (s2).length := (by first | assumption | omega)
  obtain ⟨e2, e2h⟩ : ∃ e2, (s2)[i]? = some e2 := ⟨_, List.getElem?_eq_getElem e2i⟩
  refine DX.idx 6 1 i ttOk hΓ0 J Z Z Z Z Z Z Z Z Z Z Z e2i ?_
  rintro ad2 rfl
  refine DX.ldE 7 1 2 e2 ttOk hΓ0 J Z Z Z Z Z Z Z Z e2h O O ?_
  rintro ⟨⟩
  refine DX.takes (fuel := 0) ttOk [(8, true)] J Z ?_
  refine DX.tail2 [] Z Z J ?_
  refine R0 ?_
  refine WX.cases 24 Z (fun h3 => ?_) (fun h3 => ?_)
  ·skip
   have h3d := B.nt' h3
   refine R0 ?_
   have hP2 : slices_Equal_byte_L1 s2 s1 0 = (some false) := by rw [v2, drop_get e1h]; simp only [slices_Equal_byte_L1, e2h, h3, ct, cf]
   have hP3 : slices_Equal_byte s1 s2 = false := by simp only [slices_Equal_byte, h1, hP2, ct, cf]
   exact R3 hP3
  have h3d := B.nf' h3
  refine R0 ?_
  refine WX.see Z Z Z (fun _ hΓ => looks_arith Z Z Z Z (by unfold I64; first | omega | (simp only [List.length_take] at *; omega))) ?_
  refine R0 ?_
  exact WX.iter (i + 1) ⟨(by omega), (by rw [v2, drop_get e1h]; simp only [slices_Equal_byte_L1, e2h, h3, ct, cf])⟩ (by first | (dsimp only; omega) | omega) (.cons Z (.cons Z (.cons Z (.cons Z (.nil))))) .nil .nil [0, 1] Z
 have h2d := B.df h2
 refine R0 ?_
 have hX1 : slices_Equal_byte_L1 s2 s1 0 = none := by rw [v2, List.drop_eq_nil_of_le (show (s1).length ≤ i by omega)]; simp only [slices_Equal_byte_L1, ct, cf]
 have hP4 : slices_Equal_byte s1 s2 = true := by simp only [slices_Equal_byte, h1, hX1, ct, cf]
 exact R3 hP4
theorem f94 (w : World) (n : Nat) (hn : n + 0 ≤ 9) (a : Name) (pa : Option Addr) (ca : Nat) (N0 : RdSl (hp w) pa ca a.parts) (b : Name) (pb : Option Addr) (cb : Nat) (N1 : RdSl (hp w) pb cb b.parts) (hoka : GoT.ok n a) (hokb : GoT.ok n b) :
 Does Tryz.prog 94 #[.agg #[.slice pa ((a.parts).length) ca], .agg #[.slice pb ((b.parts).length) cb]] w emp (fun (rv : Value) (_ : World) => rv = .bool (a37 a b) ∧ True) := by
 have hbP := bd_pos n
 have hbB := bd_big (n := n) (by omega)
 refine WX.enter (tt := tt) (Γ := [(0, MF.rs .stb pa ca a.parts), (1, MF.rs .stb pb cb b.parts)]) Tryz.func94 Z J Z (allS_cons Z N0 (allS_cons Z N1 allS_nil)) ?_
 refine R0 ?_
 refine WX.callV Z Z Z Z Z O Z (fun w G bs hI hΓ => f174 w n (by omega) a.parts pa ca (hΓ.get 0 Z) b.parts pb cb (hΓ.get 1 Z) (ok_Name hoka) (ok_Name hokb)) ?_
 intro hq1
 refine R0 ?_
 have hP1 : a37 a b = (slices_Equal_string a.parts b.parts) := by simp only [a37, ct, cf]
 exact R3 hP1
theorem f230 (w : World) (n : Nat) (hn : n + 0 ≤ 9) (a : Str) (b : Str) (hoka : GoT.ok n a) (hokb : GoT.ok n b) :
 Does Tryz.prog 230 #[.string a, .string b] w emp (fun (rv : Value) (_ : World) => rv = .int .i64 ((a0w a b)) ∧ GoT.ok n ((a0w a b) : Int)) := by
 have hbP := bd_pos n
 have hbB := bd_big (n := n) (by omega)
 refine WX.enter (tt := tt) (Γ := []) Tryz.func230 Z J Z allS_nil ?_
 refine R0 ?_
 refine WX.cases 5 Z (fun h1 => ?_) (fun h1 => ?_)
 ·skip
  refine R0 ?_
  have hP1 : a0w a b = (-1) := by simp only [a0w, h1, ct, cf]
  refine R1 ?_
  intro w1 G bs hI hΓ
  rw [hP1]
  exact ⟨Z, (show I64 (-1) from (by unfold I64; omega))⟩
 refine R0 ?_
 refine WX.cases 9 Z (fun h2 => ?_) (fun h2 => ?_)
 ·skip
  refine R0 ?_
  have hP2 : a0w a b = 1 := by first | (simp only [a0w, h1, h2, ct, cf]; done) | (unfold a0w; rw [h2, h1]; simp only [ct, cf])
  refine R1 ?_
  intro w1 G bs hI hΓ
  rw [hP2]
  exact ⟨Z, (show I64 1 from (by unfold I64; omega))⟩
 refine R0 ?_
 have hP3 : a0w a b = 0 := by first | (simp only [a0w, h1, h2, ct, cf]; done) | (unfold a0w; rw [h2, h1]; simp only [ct, cf])
 refine R1 ?_
 intro w1 G bs hI hΓ
 rw [hP3]
 exact ⟨Z, (show I64 0 from (by unfold I64; omega))⟩
theorem f193 (w : World) (n : Nat) (hn : n + 0 ≤ 9) (a : Name) (pa : Option Addr) (ca : Nat) (N0 : RdSl (hp w) pa ca a.parts) (b : Name) (pb : Option Addr) (cb : Nat) (N1 : RdSl (hp w) pb cb b.parts) (hoka : GoT.ok n a) (hokb : GoT.ok n b) :
 Does Tryz.prog 193 #[.agg #[.slice pa ((a.parts).length) ca], .agg #[.slice pb ((b.parts).length) cb]] w emp (fun (rv : Value) (_ : World) => rv = .int .i64 ((a0v a b)) ∧ GoT.ok n ((a0v a b) : Int)) := by
 have hbP := bd_pos n
 have hbB := bd_big (n := n) (by omega)
 refine WX.enter (tt := tt) (Γ := [(0, MF.rs .stb pa ca a.parts), (1, MF.rs .stb pb cb b.parts)]) Tryz.func193 Z J Z (allS_cons Z N0 (allS_cons Z N1 allS_nil)) ?_
 refine R0 ?_
 have r1 : (a.parts).length ≤ bd n := (okl (ok_Name hoka)).1
 refine WX.loop (ι := Nat) ⟨fun i => (i ≤ (a.parts).length) ∧ (a0u b a.parts 0 = a0u b ((a.parts).drop i) i), fun i => (a.parts).length - i, fun i => [(5, .v (.int .i64 (((i : Nat) : Int)))), (3, .p 3 0), (2, .p 2 0)], fun i => [(3, ⟨30, [.slice pb ((b.parts).length) cb]⟩), (2, ⟨30, [.slice pa ((a.parts).length) ca]⟩)], fun i => [], fun i => [(0, MF.rs .stb pa ca a.parts), (1, MF.rs .stb pb cb b.parts)]⟩ 0 ⟨(Nat.zero_le _), Z⟩
  (.cons Z (.cons Z (.cons Z (.nil)))) (.cons Z (.cons Z (.nil))) .nil [0, 1] Z ?_
 rintro i hpre
 have hpre_ : (i ≤ (a.parts).length) ∧ (a0u b a.parts 0 = a0u b ((a.parts).drop i) i) := hpre
 clear hpre
 obtain ⟨v1, v2⟩ := hpre_
 refine R0 ?_
 refine WX.cases 12 Z (fun h1 => ?_) (fun h1 => ?_)
 ·skip
  have h1d := B.dt h1
  have e1i : i < (a.parts).length := (by omega)
  obtain ⟨e1, e1h⟩ : ∃ e1, (a.parts)[i]? = some e1 := ⟨_, List.getElem?_eq_getElem e1i⟩
  have ok1 : GoT.ok n e1 := (okl (ok_Name hoka)).2 _ (List.mem_of_getElem? e1h)
  refine R0 ?_
  refine WX.cases 18 Z (fun h2 => ?_) (fun h2 => ?_)
  ·skip
   have h2d := B.dt h2
   refine R0 ?_
   refine WX.draw [] mixed ?_
   intro bs G0 hΓ0
   refine DX.takes (fuel := 9) ttOk [(0, true), (1, false), (2, true)] J Z ?_
   refine DX.idx 3 0 i ttOk hΓ0 J Z Z Z Z Z Z Z Z Z Z Z e1i ?_
   rintro ad1 rfl
   refine DX.ldE 4 0 2 e1 ttOk hΓ0 J Z Z Z Z Z Z Z Z e1h O O ?_
   rintro ⟨⟩
   refine DX.takes (fuel := 4) ttOk [(5, true), (6, false), (7, true)] J Z ?_
   have e2i : i < (b.parts).length := (by first | assumption | omega)
   obtain ⟨e2, e2h⟩ : ∃ e2, (b.parts)[i]? = some e2 := ⟨_, List.getElem?_eq_getElem e2i⟩
   have ok2 : GoT.ok n e2 := (okl (ok_Name hokb)).2 _ (List.mem_of_getElem? e2h)
   refine DX.idx 8 1 i ttOk hΓ0 J Z Z Z Z Z Z Z Z Z Z Z e2i ?_
   rintro ad2 rfl
   refine DX.ldE 9 1 2 e2 ttOk hΓ0 J Z Z Z Z Z Z Z Z e2h O O ?_
   rintro ⟨⟩
   refine DX.callV 10 Z J Z Z Z Z Z Z O Z (fun w G bs hI hΓ => f230 w n (by omega) e1 e2 ok1 ok2) ?_
   intro hq1
   refine DX.takes (fuel := 0) ttOk [(11, true)] J Z ?_
   refine DX.tail2 [] Z Z J ?_
   refine R0 ?_
   refine WX.cases 33 Z (fun h3 => ?_) (fun h3 => ?_)
   ·skip
    have h3d := B.nt' h3
    refine R0 ?_
    have hP1 : a0u b a.parts 0 = (some (a0w e1 e2)) := by rw [v2, drop_get e1h]; simp only [a0u, h2, e2h, h3, ct, cf]
    have hP2 : a0v a b = (a0w e1 e2) := by simp only [a0v, hP1, ct, cf]
    refine R1 ?_
    intro w1 G bs hI hΓ
    rw [hP2]
    exact ⟨Z, hq1⟩
   have h3d := B.nf' h3
   refine R0 ?_
   refine WX.see Z Z Z (fun _ hΓ => looks_arith Z Z Z Z (by unfold I64; first | omega | (simp only [List.length_take] at *; omega))) ?_
   refine R0 ?_
   exact WX.iter (i + 1) ⟨(by omega), (by rw [v2, drop_get e1h]; simp only [a0u, h2, e2h, h3, ct, cf])⟩ (by first | (dsimp only; omega) | omega) (.cons Z (.cons Z (.cons Z (.nil)))) (.cons Z (.cons Z (.nil))) .nil [0, 1] Z
  have h2d := B.df h2
  refine R0 ?_
  have hX1 : a0u b a.parts 0 = none := by rw [v2, drop_get e1h]; simp only [a0u, h2, ct, cf]
  refine WX.cases 35 Z (fun h4 => ?_) (fun h4 => ?_)
  ·skip
   have h4d := B.dt h4
   refine R0 ?_
   have hP3 : a0v a b = (-1) := by simp only [a0v, hX1, h4, ct, cf]
   refine R1 ?_
   intro w1 G bs hI hΓ
   rw [hP3]
   exact ⟨Z, (show I64 (-1) from (by unfold I64; omega))⟩
  have h4d := B.df h4
  refine R0 ?_
  refine WX.cases 43 Z (fun h5 => ?_) (fun h5 => ?_)
  ·skip
   have h5d := B.dt h5
   refine R0 ?_
   have hP4 : a0v a b = 1 := by simp only [a0v, hX1, h4, h5, ct, cf]
   refine R1 ?_
   intro w1 G bs hI hΓ
   rw [hP4]
   exact ⟨Z, (show I64 1 from (by unfold I64; omega))⟩
  have h5d := B.df h5
  refine R0 ?_
  have hP5 : a0v a b = 0 := by simp only [a0v, hX1, h4, h5, ct, cf]
  refine R1 ?_
  intro w1 G bs hI hΓ
  rw [hP5]
  exact ⟨Z, (show I64 0 from (by unfold I64; omega))⟩
 have h1d := B.df h1
 refine R0 ?_
 have hX2 : a0u b a.parts 0 = none := by rw [v2, List.drop_eq_nil_of_le (show (a.parts).length ≤ i by omega)]; simp only [a0u, ct, cf]
 refine WX.cases 35 Z (fun h6 => ?_) (fun h6 => ?_)
 ·skip
  have h6d := B.dt h6
  refine R0 ?_
  have hP6 : a0v a b = (-1) := by simp only [a0v, hX2, h6, ct, cf]
  refine R1 ?_
  intro w1 G bs hI hΓ
  rw [hP6]
  exact ⟨Z, (show I64 (-1) from (by unfold I64; omega))⟩
 have h6d := B.df h6
 refine R0 ?_
 refine WX.cases 43 Z (fun h7 => ?_) (fun h7 => ?_)
 ·skip
  have h7d := B.dt h7
  refine R0 ?_
  have hP7 : a0v a b = 1 := by simp only [a0v, hX2, h6, h7, ct, cf]
  refine R1 ?_
  intro w1 G bs hI hΓ
  rw [hP7]
  exact ⟨Z, (show I64 1 from (by unfold I64; omega))⟩
 have h7d := B.df h7
 refine R0 ?_
 have hP8 : a0v a b = 0 := by simp only [a0v, hX2, h6, h7, ct, cf]
 refine R1 ?_
 intro w1 G bs hI hΓ
 rw [hP8]
 exact ⟨Z, (show I64 0 from (by unfold I64; omega))⟩
theorem f146 (w : World) (n : Nat) (hn : n + 0 ≤ 9) (a : Name) (pa : Option Addr) (ca : Nat) (N0 : RdSl (hp w) pa ca a.parts) (b : Name) (pb : Option Addr) (cb : Nat) (N1 : RdSl (hp w) pb cb b.parts) (hoka : GoT.ok n a) (hokb : GoT.ok n b) :
 Does Tryz.prog 146 #[.agg #[.slice pa ((a.parts).length) ca], .agg #[.slice pb ((b.parts).length) cb]] w emp (fun (rv : Value) (_ : World) => rv = .bool (a1f a b) ∧ True) := by
 have hbP := bd_pos n
 have hbB := bd_big (n := n) (by omega)
 refine WX.enter (tt := tt) (Γ := [(0, MF.rs .stb pa ca a.parts), (1, MF.rs .stb pb cb b.parts)]) Tryz.func146 Z J Z (allS_cons Z N0 (allS_cons Z N1 allS_nil)) ?_
 refine R0 ?_
 refine WX.callV Z Z Z Z Z O Z (fun w G bs hI hΓ => f193 w n (by omega) a pa ca (hΓ.get 0 Z) b pb cb (hΓ.get 1 Z) hoka hokb) ?_
 intro hq1
 refine R0 ?_
 have hP1 : a1f a b = ((a0v a b) == 0) := by simp only [a1f, ct, cf]
 exact R3 hP1
theorem f180 (w : World) (n : Nat) (hn : n + 0 ≤ 9) (a : (List UInt8)) (pa : Option Addr) (ca : Nat) (N0 : RdSl (hp w) pa ca a) (b : (List UInt8)) (pb : Option Addr) (cb : Nat) (N1 : RdSl (hp w) pb cb b) (hoka : GoT.ok n a) (hokb : GoT.ok n b) :
 Does Tryz.prog 180 #[.slice pa ((a).length) ca, .slice pb ((b).length) cb] w emp (fun (rv : Value) (_ : World) => rv = .bool (a3d a b) ∧ True) := by
 refine WX.enter (tt := tt) (Γ := [(0, MF.rs .stb pa ca a), (1, MF.rs .stb pb cb b)]) Tryz.func180 Z J Z (allS_cons Z N0 (allS_cons Z N1 allS_nil)) ?_
 refine R0 ?_
 refine WX.see Z Z Z (fun _ hΓ => looks_toStr ttOk (hΓ.get 0 Z) Z Z Z Z Z Z Z Z Z) ?_
 refine R0 ?_
 refine WX.see Z Z Z (fun _ hΓ => looks_toStr ttOk (hΓ.get 1 Z) Z Z Z Z Z Z Z Z Z) ?_
 refine R0 ?_
 have hP1 : a3d a b = (((bstr a)).toList == ((bstr b)).toList) := by simp only [a3d, ct, cf]
 exact R3 hP1
end Go.Proofs.YtolepebgdfdciaaGreat

namespace Go.Stp
set_option linter.unusedVariables false
set_option linter.unusedSimpArgs false
def a0y : List UInt8 → Option (Bool)
 | [] => none
 | e1 :: rest_ =>
  bif decide (((e1).toNat : Int) ≥ 97) then
   bif decide (((e1).toNat : Int) ≤ 122) then
    a0y rest_
   else
    bif decide (((e1).toNat : Int) ≥ 48) then
     bif decide (((e1).toNat : Int) ≤ 57) then
      a0y rest_
     else
      bif (!(((e1).toNat : Int) == 45)) then
       (some false)
      else
       a0y rest_
    else
     bif (!(((e1).toNat : Int) == 45)) then
      (some false)
     else
      a0y rest_
  else
   bif decide (((e1).toNat : Int) ≥ 48) then
    bif decide (((e1).toNat : Int) ≤ 57) then
     a0y rest_
    else
     bif (!(((e1).toNat : Int) == 45)) then
      (some false)
     else
      a0y rest_
   else
    bif (!(((e1).toNat : Int) == 45)) then
     (some false)
    else
     a0y rest_
def a28 (s : Str) : Bool :=
 match a0y ((s).data.toList) with
  | some r_ => r_
  | none =>
   (a2g (((s).size : Nat) : Int) 1 8)
def a1s : List UInt8 → Option (Bool)
 | [] => none
 | e1 :: rest_ =>
  bif (!(a1c ((e1).toNat : Int) 97 122)) then
   bif (!(a1c ((e1).toNat : Int) 48 57)) then
    bif (((e1).toNat : Int) != 45) then
     (some false)
    else
     a1s rest_
   else
    a1s rest_
  else
   a1s rest_
def a2h (s : Str) : Bool :=
 bif (!(a1c (((s).size : Nat) : Int) 1 8)) then
  false
 else
  match a1s ((s).data.toList) with
   | some r_ => r_
   | none =>
    true
def slices_IndexFunc_string_L1 (fq : Str → Bool) : List Str → Nat → Option (Int)
 | [], i => none
 | e1 :: rest_, i =>
  bif fq e1 then
   (some ((i : Nat) : Int))
  else
   slices_IndexFunc_string_L1 fq rest_ (i + 1)
def slices_IndexFunc_string (s : (List Str)) (fq : Str → Bool) : Int :=
 match slices_IndexFunc_string_L1 fq s 0 with
  | some r_ => r_
  | none =>
   (-1)
def slices_ContainsFunc_string (s : (List Str)) (fq : Str → Bool) : Bool :=
 (decide ((slices_IndexFunc_string s fq) ≥ 0))
def a3p (p_ : Str) : Bool :=
 (!(a28 p_))
def a3e (n_ : Name) : Bool :=
 bif decide ((((n_.parts).length : Nat) : Int) ≤ 6) then
  (!(slices_ContainsFunc_string n_.parts (fun e0_ => (a3p e0_))))
 else
  false
def a2i : List Str → Option (Bool)
 | [] => none
 | e1 :: rest_ =>
  bif (!(a2h e1)) then
   (some false)
  else
   a2i rest_
def a0z (n_ : Name) : Bool :=
 match a2i n_.parts with
  | some r_ => r_
  | none =>
   (decide ((((n_.parts).length : Nat) : Int) ≤ 6))
end Go.Stp

namespace Go.Proofs.YtolepebgdfdciaaGreat
open Go.Stp
set_option linter.unusedVariables false
set_option linter.unusedSimpArgs false
theorem f177 (w : World) (n : Nat) (hn : n + 0 ≤ 9) (s : Str) (hoks : GoT.ok n s) :
 Does Tryz.prog 177 #[.string s] w emp (fun (rv : Value) (_ : World) => rv = .bool (a28 s) ∧ True) := by
 have hbP := bd_pos n
 have hbB := bd_big (n := n) (by omega)
 refine WX.enter (tt := tt) (Γ := []) Tryz.func177 Z J Z allS_nil ?_
 refine R0 ?_
 have r1 : (s).size ≤ bd n := hoks
 refine WX.loop (ι := Nat) ⟨fun i => (i ≤ ((s).data.toList).length) ∧ (a0y ((s).data.toList) = a0y (((s).data.toList).drop i)), fun i => ((s).data.toList).length - i, fun i => [(7, .v (.int .i64 (((i : Nat) : Int)))), (6, .v (.int .i64 ((((s).size : Nat) : Int)))), (0, .v (.string s))], fun i => [], fun i => [], fun i => []⟩ 0 ⟨(Nat.zero_le _), Z⟩
  (.cons Z (.cons Z (.cons Z (.nil)))) .nil .nil [] Z ?_
 rintro i hpre
 have hpre_ : (i ≤ ((s).data.toList).length) ∧ (a0y ((s).data.toList) = a0y (((s).data.toList).drop i)) := hpre
 clear hpre
 obtain ⟨v1, v2⟩ := hpre_
 refine R0 ?_
 refine WX.cases 8 Z (fun h1 => ?_) (fun h1 => ?_)
 ·skip
  have h1d := B.dt h1
  have e1i : i < ((s).data.toList).length := (by (have hz_ : ((s).data.toList).length = (s).size := by simp); omega)
  obtain ⟨e1, e1h⟩ : ∃ e1, ((s).data.toList)[i]? = some e1 := ⟨_, List.getElem?_eq_getElem e1i⟩
  refine R0 ?_
  refine WX.see Z Z Z (fun _ hΓ => looks_strIdx ttOk Z Z Z Z Z e1h) ?_
  refine R0 ?_
  refine WX.cases 15 Z (fun h2 => ?_) (fun h2 => ?_)
  ·skip
   have h2d := B.dt h2
   refine R0 ?_
   refine WX.cases 19 Z (fun h3 => ?_) (fun h3 => ?_)
   ·skip
    have h3d := B.dt h3
    refine R0 ?_
    refine WX.see Z Z Z (fun _ hΓ => looks_arith Z Z Z Z (by unfold I64; first | omega | (simp only [List.length_take] at *; omega))) ?_
    refine R0 ?_
    exact WX.iter (i + 1) ⟨(by omega), (by rw [v2, drop_get e1h]; simp only [a0y, h2, h3, ct, cf])⟩ (by first | (dsimp only; omega) | omega) (.cons Z (.cons Z (.cons Z (.nil)))) .nil .nil [] Z
   have h3d := B.df h3
   refine R0 ?_
   refine WX.cases 22 Z (fun h4 => ?_) (fun h4 => ?_)
   ·skip
    have h4d := B.dt h4
    refine R0 ?_
    refine WX.cases 27 Z (fun h5 => ?_) (fun h5 => ?_)
    ·skip
     have h5d := B.dt h5
     refine R0 ?_
     refine WX.see Z Z Z (fun _ hΓ => looks_arith Z Z Z Z (by unfold I64; first | omega | (simp only [List.length_take] at *; omega))) ?_
     refine R0 ?_
     exact WX.iter (i + 1) ⟨(by omega), (by rw [v2, drop_get e1h]; simp only [a0y, h2, h3, h4, h5, ct, cf])⟩ (by first | (dsimp only; omega) | omega) (.cons Z (.cons Z (.cons Z (.nil)))) .nil .nil [] Z
    have h5d := B.df h5
    refine R0 ?_
    refine WX.cases 31 Z (fun h6 => ?_) (fun h6 => ?_)
    ·skip
     have h6d := B.ef (B.nt h6)
     refine R0 ?_
     have hP1 : a0y ((s).data.toList) = (some false) := by rw [v2, drop_get e1h]; simp only [a0y, h2, h3, h4, h5, h6, ct, cf]
     have hP2 : a28 s = false := by simp only [a28, hP1, ct, cf]
     exact R3 hP2
    have h6d := B.et (B.nf h6)
    refine R0 ?_
    refine WX.see Z Z Z (fun _ hΓ => looks_arith Z Z Z Z (by unfold I64; first | omega | (simp only [List.length_take] at *; omega))) ?_
    refine R0 ?_
    exact WX.iter (i + 1) ⟨(by omega), (by rw [v2, drop_get e1h]; simp only [a0y, h2, h3, h4, h5, h6, ct, cf])⟩ (by first | (dsimp only; omega) | omega) (.cons Z (.cons Z (.cons Z (.nil)))) .nil .nil [] Z
   have h4d := B.df h4
   refine R0 ?_
   refine WX.cases 31 Z (fun h7 => ?_) (fun h7 => ?_)
   ·skip
    have h7d := B.ef (B.nt h7)
    refine R0 ?_
    have hP3 : a0y ((s).data.toList) = (some false) := by rw [v2, drop_get e1h]; simp only [a0y, h2, h3, h4, h7, ct, cf]
    have hP4 : a28 s = false := by simp only [a28, hP3, ct, cf]
    exact R3 hP4
   have h7d := B.et (B.nf h7)
   refine R0 ?_
   refine WX.see Z Z Z (fun _ hΓ => looks_arith Z Z Z Z (by unfold I64; first | omega | (simp only [List.length_take] at *; omega))) ?_
   refine R0 ?_
   exact WX.iter (i + 1) ⟨(by omega), (by rw [v2, drop_get e1h]; simp only [a0y, h2, h3, h4, h7, ct, cf])⟩ (by first | (dsimp only; omega) | omega) (.cons Z (.cons Z (.cons Z (.nil)))) .nil .nil [] Z
  have h2d := B.df h2
  refine R0 ?_
  refine WX.cases 22 Z (fun h8 => ?_) (fun h8 => ?_)
  ·skip
   have h8d := B.dt h8
   refine R0 ?_
   refine WX.cases 27 Z (fun h9 => ?_) (fun h9 => ?_)
   ·skip
    have h9d := B.dt h9
    refine R0 ?_
    refine WX.see Z Z Z (fun _ hΓ => looks_arith Z Z Z Z (by unfold I64; first | omega | (simp only [List.length_take] at *; omega))) ?_
    refine R0 ?_
    exact WX.iter (i + 1) ⟨(by omega), (by rw [v2, drop_get e1h]; simp only [a0y, h2, h8, h9, ct, cf])⟩ (by first | (dsimp only; omega) | omega) (.cons Z (.cons Z (.cons Z (.nil)))) .nil .nil [] Z
   have h9d := B.df h9
   refine R0 ?_
   refine WX.cases 31 Z (fun h10 => ?_) (fun h10 => ?_)
   ·skip
    have h10d := B.ef (B.nt h10)
    refine R0 ?_
    have hP5 : a0y ((s).data.toList) = (some false) := by rw [v2, drop_get e1h]; simp only [a0y, h2, h8, h9, h10, ct, cf]
    have hP6 : a28 s = false := by simp only [a28, hP5, ct, cf]
    exact R3 hP6
   have h10d := B.et (B.nf h10)
   refine R0 ?_
   refine WX.see Z Z Z (fun _ hΓ => looks_arith Z Z Z Z (by unfold I64; first | omega | (simp only [List.length_take] at *; omega))) ?_
   refine R0 ?_
   exact WX.iter (i + 1) ⟨(by omega), (by rw [v2, drop_get e1h]; simp only [a0y, h2, h8, h9, h10, ct, cf])⟩ (by first | (dsimp only; omega) | omega) (.cons Z (.cons Z (.cons Z (.nil)))) .nil .nil [] Z
  have h8d := B.df h8
  refine R0 ?_
  refine WX.cases 31 Z (fun h11 => ?_) (fun h11 => ?_)
  ·skip
   have h11d := B.ef (B.nt h11)
   refine R0 ?_
   have hP7 : a0y ((s).data.toList) = (some false) := by rw [v2, drop_get e1h]; simp only [a0y, h2, h8, h11, ct, cf]
   have hP8 : a28 s = false := by simp only [a28, hP7, ct, cf]
   exact R3 hP8
  have h11d := B.et (B.nf h11)
  refine R0 ?_
  refine WX.see Z Z Z (fun _ hΓ => looks_arith Z Z Z Z (by unfold I64; first | omega | (simp only [List.length_take] at *; omega))) ?_
  refine R0 ?_
  exact WX.iter (i + 1) ⟨(by omega), (by rw [v2, drop_get e1h]; simp only [a0y, h2, h8, h11, ct, cf])⟩ (by first | (dsimp only; omega) | omega) (.cons Z (.cons Z (.cons Z (.nil)))) .nil .nil [] Z
 have h1d := B.df h1
 refine R0 ?_
 have hX1 : a0y ((s).data.toList) = none := by rw [v2, List.drop_eq_nil_of_le (show ((s).data.toList).length ≤ i by (have hz_ : ((s).data.toList).length = (s).size := by simp); omega)]; simp only [a0y, ct, cf]
 refine WX.callV Z Z Z Z Z O Z (fun w G bs hI hΓ => f132 w n (by omega) (((s).size : Nat) : Int) 1 8 (show I64 (((s).size : Nat) : Int) from (by unfold I64; omega)) (show I64 1 from (by unfold I64; omega)) (show I64 8 from (by unfold I64; omega))) ?_
 intro hq1
 refine R0 ?_
 have hP9 : a28 s = (a2g (((s).size : Nat) : Int) 1 8) := by simp only [a28, hX1, ct, cf]
 exact R3 hP9
theorem f179 (w : World) (n : Nat) (hn : n + 0 ≤ 9) (s : Str) (hoks : GoT.ok n s) :
 Does Tryz.prog 179 #[.string s] w emp (fun (rv : Value) (_ : World) => rv = .bool (a2h s) ∧ True) := by
 have hbP := bd_pos n
 have hbB := bd_big (n := n) (by omega)
 refine WX.enter (tt := tt) (Γ := []) Tryz.func179 Z J Z allS_nil ?_
 refine R0 ?_
 have r1 : (s).size ≤ bd n := hoks
 refine WX.callV Z Z Z Z Z O Z (fun w G bs hI hΓ => f136 w n (by omega) (((s).size : Nat) : Int) 1 8 (show I64 (((s).size : Nat) : Int) from (by unfold I64; omega)) (show I64 1 from (by unfold I64; omega)) (show I64 8 from (by unfold I64; omega))) ?_
 intro hq1
 refine R0 ?_
 refine WX.cases 8 Z (fun h1 => ?_) (fun h1 => ?_)
 ·skip
  have h1d := (B.nt h1)
  refine R0 ?_
  have hP1 : a2h s = false := by simp only [a2h, h1, ct, cf]
  exact R3 hP1
 have h1d := (B.nf h1)
 have h1r := inR_spec (B.nf h1)
 refine R0 ?_
 refine WX.loop (ι := Nat) ⟨fun i => (i ≤ ((s).data.toList).length) ∧ (a1s ((s).data.toList) = a1s (((s).data.toList).drop i)), fun i => ((s).data.toList).length - i, fun i => [(3, .v (.int .i64 (((i : Nat) : Int)))), (0, .v (.string s))], fun i => [], fun i => [], fun i => []⟩ 0 ⟨(Nat.zero_le _), Z⟩
  (.cons Z (.cons Z (.nil))) .nil .nil [] Z ?_
 rintro i hpre
 have hpre_ : (i ≤ ((s).data.toList).length) ∧ (a1s ((s).data.toList) = a1s (((s).data.toList).drop i)) := hpre
 clear hpre
 obtain ⟨v1, v2⟩ := hpre_
 refine R0 ?_
 refine WX.cases 12 Z (fun h2 => ?_) (fun h2 => ?_)
 ·skip
  have h2d := B.dt h2
  have e1i : i < ((s).data.toList).length := (by (have hz_ : ((s).data.toList).length = (s).size := by simp); omega)
  obtain ⟨e1, e1h⟩ : ∃ e1, ((s).data.toList)[i]? = some e1 := ⟨_, List.getElem?_eq_getElem e1i⟩
  refine R0 ?_
  refine WX.see Z Z Z (fun _ hΓ => looks_strIdx ttOk Z Z Z Z Z e1h) ?_
  refine WX.see Z Z Z (fun _ hΓ => looks_ofU8 ttOk Z Z Z Z Z Z) ?_
  refine R0 ?_
  have r2 : (e1).toNat < 256 := UInt8.toNat_lt _
  refine WX.callV Z Z Z Z Z O Z (fun w G bs hI hΓ => f136 w n (by omega) ((e1).toNat : Int) 97 122 (show I64 ((e1).toNat : Int) from (by unfold I64; omega)) (show I64 97 from (by unfold I64; omega)) (show I64 122 from (by unfold I64; omega))) ?_
  intro hq2
  refine R0 ?_
  refine WX.cases 22 Z (fun h3 => ?_) (fun h3 => ?_)
  ·skip
   have h3d := (B.nt h3)
   refine R0 ?_
   refine WX.callV Z Z Z Z Z O Z (fun w G bs hI hΓ => f136 w n (by omega) ((e1).toNat : Int) 48 57 (show I64 ((e1).toNat : Int) from (by unfold I64; omega)) (show I64 48 from (by unfold I64; omega)) (show I64 57 from (by unfold I64; omega))) ?_
   intro hq3
   refine R0 ?_
   refine WX.cases 27 Z (fun h4 => ?_) (fun h4 => ?_)
   ·skip
    have h4d := (B.nt h4)
    refine R0 ?_
    refine WX.cases 30 Z (fun h5 => ?_) (fun h5 => ?_)
    ·skip
     have h5d := B.nt' h5
     refine R0 ?_
     have hP2 : a1s ((s).data.toList) = (some false) := by rw [v2, drop_get e1h]; simp only [a1s, h3, h4, h5, ct, cf]
     have hP3 : a2h s = false := by simp only [a2h, h1, hP2, ct, cf]
     exact R3 hP3
    have h5d := B.nf' h5
    refine R0 ?_
    refine WX.see Z Z Z (fun _ hΓ => looks_arith Z Z Z Z (by unfold I64; first | omega | (simp only [List.length_take] at *; omega))) ?_
    refine R0 ?_
    exact WX.iter (i + 1) ⟨(by omega), (by rw [v2, drop_get e1h]; simp only [a1s, h3, h4, h5, ct, cf])⟩ (by first | (dsimp only; omega) | omega) (.cons Z (.cons Z (.nil))) .nil .nil [] Z
   have h4d := (B.nf h4)
   have h4r := inR_spec (B.nf h4)
   refine R0 ?_
   refine WX.see Z Z Z (fun _ hΓ => looks_arith Z Z Z Z (by unfold I64; first | omega | (simp only [List.length_take] at *; omega))) ?_
   refine R0 ?_
   exact WX.iter (i + 1) ⟨(by omega), (by rw [v2, drop_get e1h]; simp only [a1s, h3, h4, ct, cf])⟩ (by first | (dsimp only; omega) | omega) (.cons Z (.cons Z (.nil))) .nil .nil [] Z
  have h3d := (B.nf h3)
  have h3r := inR_spec (B.nf h3)
  refine R0 ?_
  refine WX.see Z Z Z (fun _ hΓ => looks_arith Z Z Z Z (by unfold I64; first | omega | (simp only [List.length_take] at *; omega))) ?_
  refine R0 ?_
  exact WX.iter (i + 1) ⟨(by omega), (by rw [v2, drop_get e1h]; simp only [a1s, h3, ct, cf])⟩ (by first | (dsimp only; omega) | omega) (.cons Z (.cons Z (.nil))) .nil .nil [] Z
 have h2d := B.df h2
 refine R0 ?_
 have hX1 : a1s ((s).data.toList) = none := by rw [v2, List.drop_eq_nil_of_le (show ((s).data.toList).length ≤ i by (have hz_ : ((s).data.toList).length = (s).size := by simp); omega)]; simp only [a1s, ct, cf]
 have hP4 : a2h s = true := by simp only [a2h, h1, hX1, ct, cf]
 exact R3 hP4
theorem f224 (w : World) (n : Nat) (hn : n + 0 ≤ 9) (s : (List Str)) (ps : Option Addr) (cs : Nat) (N0 : RdSl (hp w) ps cs s) (fg : FuncId) (fc : List Value) (fq : Str → Bool) (ff : ∀ w1, Kp emp w w1 → ∀ (e0 : Str) (x0 : GoT.X Str), GoT.ok n e0 → All (hp w1) (GoT.fa .der e0 x0) → Does Tryz.prog fg ([(GoT.sh e0 x0).headD undef] ++ fc).toArray w1 emp (fun rv _ => rv = .bool (fq e0) ∧ True)) (hoks : GoT.ok n s) :
 Does Tryz.prog 224 #[.slice ps ((s).length) cs, .func (.func fg) #[] fc.toArray] w emp (fun (rv : Value) (_ : World) => rv = .int .i64 ((slices_IndexFunc_string s fq)) ∧ GoT.ok n ((slices_IndexFunc_string s fq) : Int)) := by
 have hbP := bd_pos n
 have hbB := bd_big (n := n) (by omega)
 refine WX.enter (tt := tt) (Γ := [(0, MF.rs .stb ps cs s)]) Tryz.func224 Z J Z (allS_cons Z N0 allS_nil) ?_
 refine R0 ?_
 have r1 : (s).length ≤ bd n := (okl hoks).1
 refine WX.loop (ι := Nat) ⟨fun i => (i ≤ (s).length) ∧ (slices_IndexFunc_string_L1 fq s 0 = slices_IndexFunc_string_L1 fq ((s).drop i) i), fun i => (s).length - i, fun i => [(8, .v (.int .i64 (((i : Nat) : Int)))), (7, .v (.int .i64 ((((s).length : Nat) : Int)))), (0, .v (.slice ps ((s).length) cs)), (1, .v (.func (.func fg) #[] fc.toArray))], fun i => [], fun i => [], fun i => [(0, MF.rs .stb ps cs s)]⟩ 0 ⟨(Nat.zero_le _), Z⟩
  (.cons Z (.cons Z (.cons Z (.cons Z (.nil))))) .nil .nil [0] Z ?_
 rintro i hpre
 have hpre_ : (i ≤ (s).length) ∧ (slices_IndexFunc_string_L1 fq s 0 = slices_IndexFunc_string_L1 fq ((s).drop i) i) := hpre
 clear hpre
 obtain ⟨v1, v2⟩ := hpre_
 refine R0 ?_
 refine WX.cases 9 Z (fun h1 => ?_) (fun h1 => ?_)
 ·skip
  have h1d := B.dt h1
  have e1i : i < (s).length := (by omega)
  obtain ⟨e1, e1h⟩ : ∃ e1, (s)[i]? = some e1 := ⟨_, List.getElem?_eq_getElem e1i⟩
  have ok1 : GoT.ok n e1 := (okl hoks).2 _ (List.mem_of_getElem? e1h)
  refine R0 ?_
  refine WX.idx 0 i ttOk Z Z Z Z Z Z Z Z Z Z e1i ?_
  rintro ad1 rfl
  refine WX.ldE 0 1 e1 ttOk Z Z Z Z Z Z Z Z e1h O O ?_
  rintro ⟨⟩
  refine WX.callV Z Z Z Z Z O Z (fun w G bs hI hΓ => ff w hI.keep e1 () ok1 All.nil) ?_
  intro hq1
  refine R0 ?_
  refine WX.cases 16 Z (fun h2 => ?_) (fun h2 => ?_)
  ·skip
   refine R0 ?_
   have hP1 : slices_IndexFunc_string_L1 fq s 0 = (some ((i : Nat) : Int)) := by rw [v2, drop_get e1h]; simp only [slices_IndexFunc_string_L1, h2, ct, cf]
   have hP2 : slices_IndexFunc_string s fq = ((i : Nat) : Int) := by simp only [slices_IndexFunc_string, hP1, ct, cf]
   refine R1 ?_
   intro w1 G bs hI hΓ
   rw [hP2]
   exact ⟨Z, (show I64 ((i : Nat) : Int) from (by unfold I64; omega))⟩
  refine R0 ?_
  refine WX.see Z Z Z (fun _ hΓ => looks_arith Z Z Z Z (by unfold I64; first | omega | (simp only [List.length_take] at *; omega))) ?_
  refine R0 ?_
  exact WX.iter (i + 1) ⟨(by omega), (by rw [v2, drop_get e1h]; simp only [slices_IndexFunc_string_L1, h2, ct, cf])⟩ (by first | (dsimp only; omega) | omega) (.cons Z (.cons Z (.cons Z (.cons Z (.nil))))) .nil .nil [0] Z
 have h1d := B.df h1
 refine R0 ?_
 have hX1 : slices_IndexFunc_string_L1 fq s 0 = none := by rw [v2, List.drop_eq_nil_of_le (show (s).length ≤ i by omega)]; simp only [slices_IndexFunc_string_L1, ct, cf]
 have hP3 : slices_IndexFunc_string s fq = (-1) := by simp only [slices_IndexFunc_string, hX1, ct, cf]
 refine R1 ?_
 intro w1 G bs hI hΓ
 rw [hP3]
 exact ⟨Z, (show I64 (-1) from (by unfold I64; omega))⟩
theorem ltL_slices_IndexFunc_string : ∀ (f : Str → Bool) (l : List Str) (i : Nat) (j : Int), slices_IndexFunc_string_L1 f l i = some j → j < ((i + l.length : Nat) : Int)
 | f, [], i, j, h => by cases h
 | f, x :: l, i, j, h => by
  simp only [slices_IndexFunc_string_L1] at h
  cases hx : f x
  ·rw [hx, cond_false] at h
   have := ltL_slices_IndexFunc_string f l (i + 1) j h
   simp only [List.length_cons]; omega
  ·rw [hx, cond_true] at h
   cases h
   simp only [List.length_cons]; omega
theorem ltI_slices_IndexFunc_string (l : List Str) (f : Str → Bool) : slices_IndexFunc_string l f < ((l.length : Nat) : Int) := by
 unfold slices_IndexFunc_string
 cases h : slices_IndexFunc_string_L1 f l 0 with
 | none => show (-1 : Int) < _; omega
 | some j => have := ltL_slices_IndexFunc_string f l 0 j h; show j < _; omega
theorem f175 (w : World) (n : Nat) (hn : n + 0 ≤ 9) (s : (List Str)) (ps : Option Addr) (cs : Nat) (N0 : RdSl (hp w) ps cs s) (fg : FuncId) (fc : List Value) (fq : Str → Bool) (ff : ∀ w1, Kp emp w w1 → ∀ (e0 : Str) (x0 : GoT.X Str), GoT.ok n e0 → All (hp w1) (GoT.fa .der e0 x0) → Does Tryz.prog fg ([(GoT.sh e0 x0).headD undef] ++ fc).toArray w1 emp (fun rv _ => rv = .bool (fq e0) ∧ True)) (hoks : GoT.ok n s) :
 Does Tryz.prog 175 #[.slice ps ((s).length) cs, .func (.func fg) #[] fc.toArray] w emp (fun (rv : Value) (_ : World) => rv = .bool (slices_ContainsFunc_string s fq) ∧ True) := by
 have hbP := bd_pos n
 have hbB := bd_big (n := n) (by omega)
 refine WX.enter (tt := tt) (Γ := [(0, MF.rs .stb ps cs s)]) Tryz.func175 Z J Z (allS_cons Z N0 allS_nil) ?_
 refine R0 ?_
 refine WX.callV Z Z Z Z Z O Z (fun w G bs hI hΓ => f224 w n (by omega) s ps cs (hΓ.get 0 Z) fg fc fq (fun w1_ hb_ => ff w1_ (hI.keep.trans hb_)) hoks) ?_
 intro hq1
 have q1 := ltI_slices_IndexFunc_string s fq
 refine R0 ?_
 have hP1 : slices_ContainsFunc_string s fq = (decide ((slices_IndexFunc_string s fq) ≥ 0)) := by simp only [slices_ContainsFunc_string, ct, cf]
 exact R3 hP1
theorem f176 (w : World) (n : Nat) (hn : n + 0 ≤ 9) (p_ : Str) (hokp_ : GoT.ok n p_) :
 Does Tryz.prog 176 #[.string p_] w emp (fun (rv : Value) (_ : World) => rv = .bool (a3p p_) ∧ True) := by
 have hbP := bd_pos n
 have hbB := bd_big (n := n) (by omega)
 refine WX.enter (tt := tt) (Γ := []) Tryz.func176 Z J Z allS_nil ?_
 refine R0 ?_
 refine WX.callV Z Z Z Z Z O Z (fun w G bs hI hΓ => f177 w n (by omega) p_ hokp_) ?_
 intro hq1
 refine R0 ?_
 have hP1 : a3p p_ = (!(a28 p_)) := by simp only [a3p, ct, cf]
 exact R3 hP1
theorem f97 (w : World) (n : Nat) (hn : n + 0 ≤ 9) (n_ : Name) (K0 : Option Addr) (M0 : Nat) (N0 : RdSl (hp w) K0 M0 n_.parts) (hokn_ : GoT.ok n n_) :
 Does Tryz.prog 97 #[.agg #[.slice K0 ((n_.parts).length) M0]] w emp (fun (rv : Value) (_ : World) => rv = .bool (a3e n_) ∧ True) := by
 have hbP := bd_pos n
 have hbB := bd_big (n := n) (by omega)
 refine WX.enter (tt := tt) (Γ := [(0, MF.rs .stb K0 M0 n_.parts)]) Tryz.func97 Z J Z (allS_cons Z N0 allS_nil) ?_
 refine R0 ?_
 refine WX.cases 7 Z (fun h1 => ?_) (fun h1 => ?_)
 ·skip
  have h1d := B.dt h1
  refine R0 ?_
  refine WX.callV Z Z Z Z Z O Z (fun w G bs hI hΓ => f175 w n (by omega) n_.parts K0 M0 (hΓ.get 0 Z) 176 [] (fun e0_ => (a3p e0_)) (fun w1_ hb_ e0_ x0_ hk0_ hx0_ => f176 w1_ n (by omega) e0_ hk0_) (ok_Name hokn_)) ?_
  intro hq1
  refine R0 ?_
  have hP1 : a3e n_ = (!(slices_ContainsFunc_string n_.parts (fun e0_ => (a3p e0_)))) := by simp only [a3e, h1, ct, cf]
  exact R3 hP1
 have h1d := B.df h1
 refine R0 ?_
 have hP2 : a3e n_ = false := by simp only [a3e, h1, ct, cf]
 exact R3 hP2
theorem f100 (w : World) (n : Nat) (hn : n + 0 ≤ 9) (n_ : Name) (K0 : Option Addr) (M0 : Nat) (N0 : RdSl (hp w) K0 M0 n_.parts) (hokn_ : GoT.ok n n_) :
 Does Tryz.prog 100 #[.agg #[.slice K0 ((n_.parts).length) M0]] w emp (fun (rv : Value) (_ : World) => rv = .bool (a0z n_) ∧ True) := by
 have hbP := bd_pos n
 have hbB := bd_big (n := n) (by omega)
 refine WX.enter (tt := tt) (Γ := [(0, MF.rs .stb K0 M0 n_.parts)]) Tryz.func100 Z J Z (allS_cons Z N0 allS_nil) ?_
 refine R0 ?_
 have r1 : (n_.parts).length ≤ bd n := (okl (ok_Name hokn_)).1
 refine WX.loop (ι := Nat) ⟨fun i => (i ≤ (n_.parts).length) ∧ (a2i n_.parts = a2i ((n_.parts).drop i)), fun i => (n_.parts).length - i, fun i => [(3, .v (.int .i64 (((i : Nat) : Int)))), (1, .p 1 0)], fun i => [(1, ⟨30, [.slice K0 ((n_.parts).length) M0]⟩)], fun i => [], fun i => [(0, MF.rs .stb K0 M0 n_.parts)]⟩ 0 ⟨(Nat.zero_le _), Z⟩
  (.cons Z (.cons Z (.nil))) (.cons Z (.nil)) .nil [0] Z ?_
 rintro i hpre
 have hpre_ : (i ≤ (n_.parts).length) ∧ (a2i n_.parts = a2i ((n_.parts).drop i)) := hpre
 clear hpre
 obtain ⟨v1, v2⟩ := hpre_
 refine R0 ?_
 refine WX.cases 8 Z (fun h1 => ?_) (fun h1 => ?_)
 ·skip
  have h1d := B.dt h1
  have e1i : i < (n_.parts).length := (by omega)
  obtain ⟨e1, e1h⟩ : ∃ e1, (n_.parts)[i]? = some e1 := ⟨_, List.getElem?_eq_getElem e1i⟩
  have ok1 : GoT.ok n e1 := (okl (ok_Name hokn_)).2 _ (List.mem_of_getElem? e1h)
  refine R0 ?_
  refine WX.idx 0 i ttOk Z Z Z Z Z Z Z Z Z Z e1i ?_
  rintro ad1 rfl
  refine WX.ldE 0 1 e1 ttOk Z Z Z Z Z Z Z Z e1h O O ?_
  rintro ⟨⟩
  refine WX.callV Z Z Z Z Z O Z (fun w G bs hI hΓ => f179 w n (by omega) e1 ok1) ?_
  intro hq1
  refine R0 ?_
  refine WX.cases 17 Z (fun h2 => ?_) (fun h2 => ?_)
  ·skip
   have h2d := (B.nt h2)
   refine R0 ?_
   have hP1 : a2i n_.parts = (some false) := by rw [v2, drop_get e1h]; simp only [a2i, h2, ct, cf]
   have hP2 : a0z n_ = false := by simp only [a0z, hP1, ct, cf]
   exact R3 hP2
  have h2d := (B.nf h2)
  refine R0 ?_
  refine WX.see Z Z Z (fun _ hΓ => looks_arith Z Z Z Z (by unfold I64; first | omega | (simp only [List.length_take] at *; omega))) ?_
  refine R0 ?_
  exact WX.iter (i + 1) ⟨(by omega), (by rw [v2, drop_get e1h]; simp only [a2i, h2, ct, cf])⟩ (by first | (dsimp only; omega) | omega) (.cons Z (.cons Z (.nil))) (.cons Z (.nil)) .nil [0] Z
 have h1d := B.df h1
 refine R0 ?_
 have hX1 : a2i n_.parts = none := by rw [v2, List.drop_eq_nil_of_le (show (n_.parts).length ≤ i by omega)]; simp only [a2i, ct, cf]
 have hP3 : a0z n_ = (decide ((((n_.parts).length : Nat) : Int) ≤ 6)) := by simp only [a0z, hX1, ct, cf]
 exact R3 hP3
end Go.Proofs.YtolepebgdfdciaaGreat

namespace Go.Stp
set_option linter.unusedVariables false
set_option linter.unusedSimpArgs false
def cmp_isNaN_string (x_ : Str) : Bool :=
 (!((x_).toList == (x_).toList))
def cmp_Compare_string (x_ : Str) (y : Str) : Int :=
 bif (cmp_isNaN_string x_) then
  bif (cmp_isNaN_string y) then
   0
  else
   (-1)
 else
  bif (cmp_isNaN_string y) then
   1
  else
   bif (Op.bytesLess (x_).toList (y).toList) then
    (-1)
   else
    bif (!(Op.bytesLess (x_).toList (y).toList || (x_).toList == (y).toList)) then
     1
    else
     0
def slices_Compare_string_L1 (s2 : (List Str)) : List Str → Nat → Option (Int)
 | [], i => none
 | e1 :: rest_, i =>
  bif decide (((i : Nat) : Int) ≥ (((s2).length : Nat) : Int)) then
   (some 1)
  else
   match (s2)[i]? with
    | none => default
    | some e2 =>
     bif ((cmp_Compare_string e1 e2) != 0) then
      (some (cmp_Compare_string e1 e2))
     else
      slices_Compare_string_L1 s2 rest_ (i + 1)
def slices_Compare_string (s1 : (List Str)) (s2 : (List Str)) : Int :=
 match slices_Compare_string_L1 s2 s1 0 with
  | some r_ => r_
  | none =>
   bif decide ((((s1).length : Nat) : Int) < (((s2).length : Nat) : Int)) then
    (-1)
   else
    0
def a3f (a : Name) (b : Name) : Int :=
 (slices_Compare_string a.parts b.parts)
def a21 (l : (List TableEntry)) : List TableEntry → Nat → Option (Bool)
 | [], i => none
 | e1 :: rest_, i =>
  bif (!(a3e e1.name)) then
   (some false)
  else
   bif decide (((i : Nat) : Int) > 0) then
    match (l)[(((i : Nat) : Int) - 1).toNat]? with
     | none => default
     | some e2 =>
      bif decide ((a3f e2.name e1.name) ≥ 0) then
       (some false)
      else
       a21 l rest_ (i + 1)
   else
    a21 l rest_ (i + 1)
def a2j (l : (List TableEntry)) : Bool :=
 match a21 l l 0 with
  | some r_ => r_
  | none =>
   (decide ((((l).length : Nat) : Int) ≤ 20))
def a1t (l : (List TableEntry)) : List TableEntry → Nat → Option (Bool)
 | [], i => none
 | e1 :: rest_, i =>
  bif (!(a0z e1.name)) then
   (some false)
  else
   bif decide (((i : Nat) : Int) > 0) then
    match (l)[(((i : Nat) : Int) - 1).toNat]? with
     | none => default
     | some e2 =>
      bif decide ((a0v e2.name e1.name) ≥ 0) then
       (some false)
      else
       a1t l rest_ (i + 1)
   else
    a1t l rest_ (i + 1)
def a1u (l : (List TableEntry)) : Bool :=
 match a1t l l 0 with
  | some r_ => r_
  | none =>
   (decide ((((l).length : Nat) : Int) ≤ 20))
def slices_IndexFunc_TableEntry_L1 (fq : TableEntry → Bool) : List TableEntry → Nat → Option (Int)
 | [], i => none
 | e1 :: rest_, i =>
  bif fq e1 then
   (some ((i : Nat) : Int))
  else
   slices_IndexFunc_TableEntry_L1 fq rest_ (i + 1)
def slices_IndexFunc_TableEntry (s : (List TableEntry)) (fq : TableEntry → Bool) : Int :=
 match slices_IndexFunc_TableEntry_L1 fq s 0 with
  | some r_ => r_
  | none =>
   (-1)
def slices_ContainsFunc_TableEntry (s : (List TableEntry)) (fq : TableEntry → Bool) : Bool :=
 (decide ((slices_IndexFunc_TableEntry s fq) ≥ 0))
def a3q (e_ : TableEntry) : Bool :=
 (!(a2g e_.value 1 1000))
def a3j (v : StateVector) : Bool :=
 bif (a2j v.entries) then
  (!(slices_ContainsFunc_TableEntry v.entries (fun e0_ => (a3q e0_))))
 else
  false
def a29 : List TableEntry → Option (Bool)
 | [] => none
 | e1 :: rest_ =>
  bif (!(a1c e1.value 1 1000)) then
   (some false)
  else
   a29 rest_
def a38 (v : StateVector) : Bool :=
 match a29 v.entries with
  | some r_ => r_
  | none =>
   (a1u v.entries)
end Go.Stp

namespace Go.Proofs.YtolepebgdfdciaaGreat
open Go.Stp
set_option linter.unusedVariables false
set_option linter.unusedSimpArgs false
theorem f263 (w : World) (n : Nat) (hn : n + 0 ≤ 9) (x_ : Str) (hokx_ : GoT.ok n x_) :
 Does Tryz.prog 263 #[.string x_] w emp (fun (rv : Value) (_ : World) => rv = .bool (cmp_isNaN_string x_) ∧ True) := by
 refine WX.enter (tt := tt) (Γ := []) Tryz.func263 Z J Z allS_nil ?_
 refine R0 ?_
 have hP1 : cmp_isNaN_string x_ = (!((x_).toList == (x_).toList)) := by simp only [cmp_isNaN_string, ct, cf]
 exact R3 hP1
theorem f246 (w : World) (n : Nat) (hn : n + 0 ≤ 9) (x_ : Str) (y : Str) (hokx_ : GoT.ok n x_) (hoky : GoT.ok n y) :
 Does Tryz.prog 246 #[.string x_, .string y] w emp (fun (rv : Value) (_ : World) => rv = .int .i64 ((cmp_Compare_string x_ y)) ∧ GoT.ok n ((cmp_Compare_string x_ y) : Int)) := by
 have hbP := bd_pos n
 have hbB := bd_big (n := n) (by omega)
 refine WX.enter (tt := tt) (Γ := []) Tryz.func246 Z J Z allS_nil ?_
 refine R0 ?_
 refine WX.callV Z Z Z Z Z O Z (fun w G bs hI hΓ => f263 w n (by omega) x_ hokx_) ?_
 intro hq1
 refine R0 ?_
 refine WX.callV Z Z Z Z Z O Z (fun w G bs hI hΓ => f263 w n (by omega) y hoky) ?_
 intro hq2
 refine R0 ?_
 refine WX.cases 11 Z (fun h1 => ?_) (fun h1 => ?_)
 ·skip
  refine R0 ?_
  refine WX.cases 12 Z (fun h2 => ?_) (fun h2 => ?_)
  ·skip
   refine R0 ?_
   have hP1 : cmp_Compare_string x_ y = 0 := by simp only [cmp_Compare_string, h1, h2, ct, cf]
   refine R1 ?_
   intro w1 G bs hI hΓ
   rw [hP1]
   exact ⟨Z, (show I64 0 from (by unfold I64; omega))⟩
  refine R0 ?_
  have hP2 : cmp_Compare_string x_ y = (-1) := by simp only [cmp_Compare_string, h1, h2, ct, cf]
  refine R1 ?_
  intro w1 G bs hI hΓ
  rw [hP2]
  exact ⟨Z, (show I64 (-1) from (by unfold I64; omega))⟩
 refine R0 ?_
 refine WX.cases 13 Z (fun h3 => ?_) (fun h3 => ?_)
 ·skip
  refine R0 ?_
  have hP3 : cmp_Compare_string x_ y = 1 := by simp only [cmp_Compare_string, h1, h3, ct, cf]
  refine R1 ?_
  intro w1 G bs hI hΓ
  rw [hP3]
  exact ⟨Z, (show I64 1 from (by unfold I64; omega))⟩
 refine R0 ?_
 refine WX.cases 16 Z (fun h4 => ?_) (fun h4 => ?_)
 ·skip
  refine R0 ?_
  have hP4 : cmp_Compare_string x_ y = (-1) := by simp only [cmp_Compare_string, h1, h3, h4, ct, cf]
  refine R1 ?_
  intro w1 G bs hI hΓ
  rw [hP4]
  exact ⟨Z, (show I64 (-1) from (by unfold I64; omega))⟩
 refine R0 ?_
 refine WX.cases 19 Z (fun h5 => ?_) (fun h5 => ?_)
 ·skip
  refine R0 ?_
  have hP5 : cmp_Compare_string x_ y = 1 := by first | (simp only [cmp_Compare_string, h1, h3, h4, h5, ct, cf]; done) | (unfold cmp_Compare_string; rw [h5, h4, h1, h3]; simp only [ct, cf])
  refine R1 ?_
  intro w1 G bs hI hΓ
  rw [hP5]
  exact ⟨Z, (show I64 1 from (by unfold I64; omega))⟩
 refine R0 ?_
 have hP6 : cmp_Compare_string x_ y = 0 := by first | (simp only [cmp_Compare_string, h1, h3, h4, h5, ct, cf]; done) | (unfold cmp_Compare_string; rw [h5, h4, h1, h3]; simp only [ct, cf])
 refine R1 ?_
 intro w1 G bs hI hΓ
 rw [hP6]
 exact ⟨Z, (show I64 0 from (by unfold I64; omega))⟩
theorem f227 (w : World) (n : Nat) (hn : n + 0 ≤ 9) (s1 : (List Str)) (K0 : Option Addr) (M0 : Nat) (N0 : RdSl (hp w) K0 M0 s1) (s2 : (List Str)) (K1 : Option Addr) (M1 : Nat) (N1 : RdSl (hp w) K1 M1 s2) (hoks1 : GoT.ok n s1) (hoks2 : GoT.ok n s2) :
 Does Tryz.prog 227 #[.slice K0 ((s1).length) M0, .slice K1 ((s2).length) M1] w emp (fun (rv : Value) (_ : World) => rv = .int .i64 ((slices_Compare_string s1 s2)) ∧ GoT.ok n ((slices_Compare_string s1 s2) : Int)) := by
 have hbP := bd_pos n
 have hbB := bd_big (n := n) (by omega)
 refine WX.enter (tt := tt) (Γ := [(0, MF.rs .stb K0 M0 s1), (1, MF.rs .stb K1 M1 s2)]) Tryz.func227 Z J Z (allS_cons Z N0 (allS_cons Z N1 allS_nil)) ?_
 refine R0 ?_
 have r1 : (s1).length ≤ bd n := (okl hoks1).1
 refine WX.loop (ι := Nat) ⟨fun i => (i ≤ (s1).length) ∧ (slices_Compare_string_L1 s2 s1 0 = slices_Compare_string_L1 s2 ((s1).drop i) i), fun i => (s1).length - i, fun i => [(11, .v (.int .i64 (((i : Nat) : Int)))), (10, .v (.int .i64 ((((s1).length : Nat) : Int)))), (9, .v (.slice K0 ((s1).length) M0)), (0, .v (.slice K0 ((s1).length) M0)), (1, .v (.slice K1 ((s2).length) M1))], fun i => [], fun i => [], fun i => [(0, MF.rs .stb K0 M0 s1), (1, MF.rs .stb K1 M1 s2)]⟩ 0 ⟨(Nat.zero_le _), Z⟩
  (.cons Z (.cons Z (.cons Z (.cons Z (.cons Z (.nil)))))) .nil .nil [0, 1] Z ?_
 rintro i hpre
 have hpre_ : (i ≤ (s1).length) ∧ (slices_Compare_string_L1 s2 s1 0 = slices_Compare_string_L1 s2 ((s1).drop i) i) := hpre
 clear hpre
 obtain ⟨v1, v2⟩ := hpre_
 refine R0 ?_
 refine WX.cases 12 Z (fun h1 => ?_) (fun h1 => ?_)
 ·skip
  have h1d := B.dt h1
  have e1i : i < (s1).length := (by omega)
  obtain ⟨e1, e1h⟩ : ∃ e1, (s1)[i]? = some e1 := ⟨_, List.getElem?_eq_getElem e1i⟩
  have ok1 : GoT.ok n e1 := (okl hoks1).2 _ (List.mem_of_getElem? e1h)
  refine R0 ?_
  refine WX.idx 0 i ttOk Z Z Z Z Z Z Z Z Z Z e1i ?_
  rintro ad1 rfl
  refine WX.ldE 0 2 e1 ttOk Z Z Z Z Z Z Z Z e1h O O ?_
  rintro ⟨⟩
  refine R0 ?_
  refine WX.cases 19 Z (fun h2 => ?_) (fun h2 => ?_)
  ·skip
   have h2d := B.dt h2
   refine R0 ?_
   have hP1 : slices_Compare_string_L1 s2 s1 0 = (some 1) := by rw [v2, drop_get e1h]; simp only [slices_Compare_string_L1, h2, ct, cf]
   have hP2 : slices_Compare_string s1 s2 = 1 := by simp only [slices_Compare_string, hP1, ct, cf]
   refine R1 ?_
   intro w1 G bs hI hΓ
   rw [hP2]
   exact ⟨Z, (show I64 1 from (by unfold I64; omega))⟩
  have h2d := B.df h2
  refine R0 ?_
  have e2i : i < (s2).length := (by first | assumption | omega)
  obtain ⟨e2, e2h⟩ : ∃ e2, (s2)[i]? = some e2 := ⟨_, List.getElem?_eq_getElem e2i⟩
  have ok2 : GoT.ok n e2 := (okl hoks2).2 _ (List.mem_of_getElem? e2h)
  refine WX.idx 1 i ttOk Z Z Z Z Z Z Z Z Z Z e2i ?_
  rintro ad2 rfl
  refine WX.ldE 1 2 e2 ttOk Z Z Z Z Z Z Z Z e2h O O ?_
  rintro ⟨⟩
  refine R0 ?_
  refine WX.callV Z Z Z Z Z O Z (fun w G bs hI hΓ => f246 w n (by omega) e1 e2 ok1 ok2) ?_
  intro hq1
  refine R0 ?_
  refine WX.cases 28 Z (fun h3 => ?_) (fun h3 => ?_)
  ·skip
   have h3d := B.nt' h3
   refine R0 ?_
   have hP3 : slices_Compare_string_L1 s2 s1 0 = (some (cmp_Compare_string e1 e2)) := by rw [v2, drop_get e1h]; simp only [slices_Compare_string_L1, h2, e2h, h3, ct, cf]
   have hP4 : slices_Compare_string s1 s2 = (cmp_Compare_string e1 e2) := by simp only [slices_Compare_string, hP3, ct, cf]
   refine R1 ?_
   intro w1 G bs hI hΓ
   rw [hP4]
   exact ⟨Z, hq1⟩
  have h3d := B.nf' h3
  refine R0 ?_
  refine WX.see Z Z Z (fun _ hΓ => looks_arith Z Z Z Z (by unfold I64; first | omega | (simp only [List.length_take] at *; omega))) ?_
  refine R0 ?_
  exact WX.iter (i + 1) ⟨(by omega), (by rw [v2, drop_get e1h]; simp only [slices_Compare_string_L1, h2, e2h, h3, ct, cf])⟩ (by first | (dsimp only; omega) | omega) (.cons Z (.cons Z (.cons Z (.cons Z (.cons Z (.nil)))))) .nil .nil [0, 1] Z
 have h1d := B.df h1
 refine R0 ?_
 have hX1 : slices_Compare_string_L1 s2 s1 0 = none := by rw [v2, List.drop_eq_nil_of_le (show (s1).length ≤ i by omega)]; simp only [slices_Compare_string_L1, ct, cf]
 refine WX.cases 35 Z (fun h4 => ?_) (fun h4 => ?_)
 ·skip
  have h4d := B.dt h4
  refine R0 ?_
  have hP5 : slices_Compare_string s1 s2 = (-1) := by simp only [slices_Compare_string, hX1, h4, ct, cf]
  refine R1 ?_
  intro w1 G bs hI hΓ
  rw [hP5]
  exact ⟨Z, (show I64 (-1) from (by unfold I64; omega))⟩
 have h4d := B.df h4
 refine R0 ?_
 have hP6 : slices_Compare_string s1 s2 = 0 := by simp only [slices_Compare_string, hX1, h4, ct, cf]
 refine R1 ?_
 intro w1 G bs hI hΓ
 rw [hP6]
 exact ⟨Z, (show I64 0 from (by unfold I64; omega))⟩
theorem f188 (w : World) (n : Nat) (hn : n + 0 ≤ 9) (a : Name) (pa : Option Addr) (ca : Nat) (N0 : RdSl (hp w) pa ca a.parts) (b : Name) (pb : Option Addr) (cb : Nat) (N1 : RdSl (hp w) pb cb b.parts) (hoka : GoT.ok n a) (hokb : GoT.ok n b) :
 Does Tryz.prog 188 #[.agg #[.slice pa ((a.parts).length) ca], .agg #[.slice pb ((b.parts).length) cb]] w emp (fun (rv : Value) (_ : World) => rv = .int .i64 ((a3f a b)) ∧ GoT.ok n ((a3f a b) : Int)) := by
 have hbP := bd_pos n
 have hbB := bd_big (n := n) (by omega)
 refine WX.enter (tt := tt) (Γ := [(0, MF.rs .stb pa ca a.parts), (1, MF.rs .stb pb cb b.parts)]) Tryz.func188 Z J Z (allS_cons Z N0 (allS_cons Z N1 allS_nil)) ?_
 refine R0 ?_
 refine WX.callV Z Z Z Z Z O Z (fun w G bs hI hΓ => f227 w n (by omega) a.parts pa ca (hΓ.get 0 Z) b.parts pb cb (hΓ.get 1 Z) (ok_Name hoka) (ok_Name hokb)) ?_
 intro hq1
 refine R0 ?_
 have hP1 : a3f a b = (slices_Compare_string a.parts b.parts) := by simp only [a3f, ct, cf]
 refine R1 ?_
 intro w1 G bs hI hΓ
 rw [hP1]
 exact ⟨Z, hq1⟩
theorem f190 (w : World) (n : Nat) (hn : n + 0 ≤ 9) (l : (List TableEntry)) (pl : Option Addr) (cl : Nat) (N0 : RdSl (hp w) pl cl l) (hokl : GoT.ok n l) :
 Does Tryz.prog 190 #[.slice pl ((l).length) cl] w emp (fun (rv : Value) (_ : World) => rv = .bool (a2j l) ∧ True) := by
 have hbP := bd_pos n
 have hbB := bd_big (n := n) (by omega)
 refine WX.enter (tt := tt) (Γ := [(0, MF.rs .stb pl cl l)]) Tryz.func190 Z J Z (allS_cons Z N0 allS_nil) ?_
 refine R0 ?_
 have r1 : (l).length ≤ bd n := (okl hokl).1
 refine WX.loop (ι := Nat) ⟨fun i => (i ≤ (l).length) ∧ (a21 l l 0 = a21 l ((l).drop i) i), fun i => (l).length - i, fun i => [(7, .v (.int .i64 (((i : Nat) : Int)))), (6, .v (.int .i64 ((((l).length : Nat) : Int)))), (5, .v (.slice pl ((l).length) cl)), (0, .v (.slice pl ((l).length) cl))], fun i => [], fun i => [], fun i => [(0, MF.rs .stb pl cl l)]⟩ 0 ⟨(Nat.zero_le _), Z⟩
  (.cons Z (.cons Z (.cons Z (.cons Z (.nil))))) .nil .nil [0] Z ?_
 rintro i hpre
 have hpre_ : (i ≤ (l).length) ∧ (a21 l l 0 = a21 l ((l).drop i) i) := hpre
 clear hpre
 obtain ⟨v1, v2⟩ := hpre_
 refine R0 ?_
 refine WX.cases 8 Z (fun h1 => ?_) (fun h1 => ?_)
 ·skip
  have h1d := B.dt h1
  have e1i : i < (l).length := (by omega)
  obtain ⟨e1, e1h⟩ : ∃ e1, (l)[i]? = some e1 := ⟨_, List.getElem?_eq_getElem e1i⟩
  have ok1 : GoT.ok n e1 := (okl hokl).2 _ (List.mem_of_getElem? e1h)
  refine R0 ?_
  refine WX.idx 0 i ttOk Z Z Z Z Z Z Z Z Z Z e1i ?_
  rintro ad1 rfl
  refine WX.ldE 0 1 e1 ttOk Z Z Z Z Z Z Z Z e1h O O ?_
  rintro ⟨⟨p1, c1⟩, ⟨⟩⟩
  refine R0 ?_
  refine WX.draw [] mixed ?_
  intro bs G0 hΓ0
  refine DX.takes (fuel := 18) ttOk [(0, true), (1, false)] J Z ?_
  refine DX.callV 2 Z J Z Z Z Z Z Z O Z (fun w G bs hI hΓ => f97 w n (by omega) e1.name p1 c1 (hΓ.get 1 Z) ((ok_TableEntry ok1).1)) ?_
  intro hq1
  refine DX.takes (fuel := 15) ttOk [(3, true), (4, true)] J Z ?_
  refine DX.cases 16 Z (fun h2 => ?_) (fun h2 => ?_)
  ·skip
   have h2d := (B.nt h2)
   refine DX.takes (fuel := 0) ttOk [(5, true), (6, true), (7, true), (8, true), (9, true), (10, true), (11, true), (12, true), (13, true), (14, true), (15, true), (16, true), (17, true), (18, true), (19, true)] J Z ?_
   refine DX.tail2 [] Z Z J ?_
   refine R0 ?_
   have hP1 : a21 l l 0 = (some false) := by rw [v2, drop_get e1h]; simp only [a21, h2, ct, cf]
   have hP2 : a2j l = false := by simp only [a2j, hP1, ct, cf]
   exact R3 hP2
  have h2d := (B.nf h2)
  refine DX.takes (fuel := 12) ttOk [(5, true), (6, true), (7, true)] J Z ?_
  refine DX.cases 19 Z (fun h3 => ?_) (fun h3 => ?_)
  ·skip
   have h3d := B.dt h3
   refine DX.takes (fuel := 10) ttOk [(8, true), (9, true)] J Z ?_
   refine DX.seeP 10 J Z Z Z Z (looksP_arith Z Z Z Z (by unfold I64; first | omega | (simp only [List.length_take] at *; omega))) ?_
   refine DX.slot 22 (y := .v (.int .i64 (((((i : Nat) : Int) - 1).toNat : Nat) : Int))) Z (fun _ => congrArg (Value.int .i64) (show ((i : Nat) : Int) - 1 = (((((i : Nat) : Int) - 1).toNat : Nat) : Int) from by omega)) ?_
   have e2i : (((i : Nat) : Int) - 1).toNat < (l).length := (by first | assumption | omega)
   obtain ⟨e2, e2h⟩ : ∃ e2, (l)[(((i : Nat) : Int) - 1).toNat]? = some e2 := ⟨_, List.getElem?_eq_getElem e2i⟩
   have ok2 : GoT.ok n e2 := (okl hokl).2 _ (List.mem_of_getElem? e2h)
   refine DX.idx 11 0 ((((i : Nat) : Int) - 1).toNat) ttOk hΓ0 J Z Z Z Z Z Z Z Z Z Z Z e2i ?_
   rintro ad2 ⟨⟩
   refine DX.takes (fuel := 7) ttOk [(12, true)] J Z ?_
   refine DX.ldE 13 0 2 e2 ttOk hΓ0 J Z Z Z Z Z Z Z Z e2h O O ?_
   rintro ⟨⟨p2, c2⟩, ⟨⟩⟩
   refine DX.takes (fuel := 4) ttOk [(14, true), (15, false)] J Z ?_
   refine DX.callV 16 Z J Z Z Z Z Z Z O Z (fun w G bs hI hΓ => f188 w n (by omega) e2.name p2 c2 (hΓ.get 2 Z) e1.name p1 c1 (hΓ.get 1 Z) ((ok_TableEntry ok2).1) ((ok_TableEntry ok1).1)) ?_
   intro hq2
   refine DX.takes (fuel := 0) ttOk [(17, true), (18, true), (19, true)] J Z ?_
   refine DX.tail2 [] Z Z J ?_
   refine R0 ?_
   refine WX.cases 31 Z (fun h4 => ?_) (fun h4 => ?_)
   ·skip
    have h4d := B.dt h4
    refine R0 ?_
    have hP3 : a21 l l 0 = (some false) := by rw [v2, drop_get e1h]; simp only [a21, h2, h3, e2h, h4, ct, cf]
    have hP4 : a2j l = false := by simp only [a2j, hP3, ct, cf]
    exact R3 hP4
   have h4d := B.df h4
   refine R0 ?_
   refine WX.see Z Z Z (fun _ hΓ => looks_arith Z Z Z Z (by unfold I64; first | omega | (simp only [List.length_take] at *; omega))) ?_
   refine R0 ?_
   exact WX.iter (i + 1) ⟨(by omega), (by rw [v2, drop_get e1h]; simp only [a21, h2, h3, e2h, h4, ct, cf])⟩ (by first | (dsimp only; omega) | omega) (.cons Z (.cons Z (.cons Z (.cons Z (.nil))))) .nil .nil [0] Z
  have h3d := B.df h3
  refine DX.takes (fuel := 0) ttOk [(8, true), (9, true), (10, true), (11, true), (12, true), (13, true), (14, true), (15, true), (16, true), (17, true), (18, true), (19, true)] J Z ?_
  refine DX.tail2 [] Z Z J ?_
  refine R0 ?_
  refine WX.see Z Z Z (fun _ hΓ => looks_arith Z Z Z Z (by unfold I64; first | omega | (simp only [List.length_take] at *; omega))) ?_
  refine R0 ?_
  exact WX.iter (i + 1) ⟨(by omega), (by rw [v2, drop_get e1h]; simp only [a21, h2, h3, ct, cf])⟩ (by first | (dsimp only; omega) | omega) (.cons Z (.cons Z (.cons Z (.cons Z (.nil))))) .nil .nil [0] Z
 have h1d := B.df h1
 refine R0 ?_
 have hX1 : a21 l l 0 = none := by rw [v2, List.drop_eq_nil_of_le (show (l).length ≤ i by omega)]; simp only [a21, ct, cf]
 have hP5 : a2j l = (decide ((((l).length : Nat) : Int) ≤ 20)) := by simp only [a2j, hX1, ct, cf]
 exact R3 hP5
theorem f194 (w : World) (n : Nat) (hn : n + 0 ≤ 9) (l : (List TableEntry)) (pl : Option Addr) (cl : Nat) (N0 : RdSl (hp w) pl cl l) (hokl : GoT.ok n l) :
 Does Tryz.prog 194 #[.slice pl ((l).length) cl] w emp (fun (rv : Value) (_ : World) => rv = .bool (a1u l) ∧ True) := by
 have hbP := bd_pos n
 have hbB := bd_big (n := n) (by omega)
 refine WX.enter (tt := tt) (Γ := [(0, MF.rs .stb pl cl l)]) Tryz.func194 Z J Z (allS_cons Z N0 allS_nil) ?_
 refine R0 ?_
 have r1 : (l).length ≤ bd n := (okl hokl).1
 refine WX.loop (ι := Nat) ⟨fun i => (i ≤ (l).length) ∧ (a1t l l 0 = a1t l ((l).drop i) i), fun i => (l).length - i, fun i => [(3, .v (.int .i64 (((i : Nat) : Int)))), (0, .v (.slice pl ((l).length) cl))], fun i => [], fun i => [], fun i => [(0, MF.rs .stb pl cl l)]⟩ 0 ⟨(Nat.zero_le _), Z⟩
  (.cons Z (.cons Z (.nil))) .nil .nil [0] Z ?_
 rintro i hpre
 have hpre_ : (i ≤ (l).length) ∧ (a1t l l 0 = a1t l ((l).drop i) i) := hpre
 clear hpre
 obtain ⟨v1, v2⟩ := hpre_
 refine R0 ?_
 refine WX.cases 7 Z (fun h1 => ?_) (fun h1 => ?_)
 ·skip
  have h1d := B.dt h1
  have e1i : i < (l).length := (by omega)
  obtain ⟨e1, e1h⟩ : ∃ e1, (l)[i]? = some e1 := ⟨_, List.getElem?_eq_getElem e1i⟩
  have ok1 : GoT.ok n e1 := (okl hokl).2 _ (List.mem_of_getElem? e1h)
  refine R0 ?_
  refine WX.draw [] mixed ?_
  intro bs G0 hΓ0
  refine DX.takes (fuel := 24) ttOk [(0, true), (1, true)] J Z ?_
  refine DX.idx 2 0 i ttOk hΓ0 J Z Z Z Z Z Z Z Z Z Z Z e1i ?_
  rintro ad1 rfl
  refine DX.takes (fuel := 22) ttOk [(3, true)] J Z ?_
  refine DX.ldE 4 0 1 e1 ttOk hΓ0 J Z Z Z Z Z Z Z Z e1h O O ?_
  rintro ⟨⟨p1, c1⟩, ⟨⟩⟩
  refine DX.callV 5 Z J Z Z Z Z Z Z O Z (fun w G bs hI hΓ => f100 w n (by omega) e1.name p1 c1 (hΓ.get 1 Z) ((ok_TableEntry ok1).1)) ?_
  intro hq1
  refine DX.takes (fuel := 18) ttOk [(6, true), (7, true)] J Z ?_
  refine DX.cases 17 Z (fun h2 => ?_) (fun h2 => ?_)
  ·skip
   have h2d := (B.nt h2)
   refine DX.takes (fuel := 0) ttOk [(8, true), (9, true), (10, true), (11, true), (12, true), (13, true), (14, true), (15, true), (16, true), (17, true), (18, true), (19, true), (20, true), (21, true), (22, true), (23, true), (24, true), (25, true)] J Z ?_
   refine DX.tail2 [] Z Z J ?_
   refine R0 ?_
   have hP1 : a1t l l 0 = (some false) := by rw [v2, drop_get e1h]; simp only [a1t, h2, ct, cf]
   have hP2 : a1u l = false := by simp only [a1u, hP1, ct, cf]
   exact R3 hP2
  have h2d := (B.nf h2)
  refine DX.takes (fuel := 15) ttOk [(8, true), (9, true), (10, true)] J Z ?_
  refine DX.cases 20 Z (fun h3 => ?_) (fun h3 => ?_)
  ·skip
   have h3d := B.dt h3
   refine DX.takes (fuel := 13) ttOk [(11, true), (12, true)] J Z ?_
   refine DX.seeP 13 J Z Z Z Z (looksP_arith Z Z Z Z (by unfold I64; first | omega | (simp only [List.length_take] at *; omega))) ?_
   refine DX.slot 23 (y := .v (.int .i64 (((((i : Nat) : Int) - 1).toNat : Nat) : Int))) Z (fun _ => congrArg (Value.int .i64) (show ((i : Nat) : Int) - 1 = (((((i : Nat) : Int) - 1).toNat : Nat) : Int) from by omega)) ?_
   have e2i : (((i : Nat) : Int) - 1).toNat < (l).length := (by first | assumption | omega)
   obtain ⟨e2, e2h⟩ : ∃ e2, (l)[(((i : Nat) : Int) - 1).toNat]? = some e2 := ⟨_, List.getElem?_eq_getElem e2i⟩
   have ok2 : GoT.ok n e2 := (okl hokl).2 _ (List.mem_of_getElem? e2h)
   refine DX.idx 14 0 ((((i : Nat) : Int) - 1).toNat) ttOk hΓ0 J Z Z Z Z Z Z Z Z Z Z Z e2i ?_
   rintro ad2 ⟨⟩
   refine DX.takes (fuel := 10) ttOk [(15, true)] J Z ?_
   refine DX.ldE 16 0 2 e2 ttOk hΓ0 J Z Z Z Z Z Z Z Z e2h O O ?_
   rintro ⟨⟨p2, c2⟩, ⟨⟩⟩
   refine DX.takes (fuel := 7) ttOk [(17, true), (18, true)] J Z ?_
   refine DX.idx 19 0 i ttOk hΓ0 J Z Z Z Z Z Z Z Z Z Z Z e1i ?_
   rintro ad3 ⟨⟩
   refine DX.takes (fuel := 5) ttOk [(20, true)] J Z ?_
   refine DX.ldE 21 0 3 e1 ttOk hΓ0 J Z Z Z Z Z Z Z Z e1h O O ?_
   rintro ⟨⟨p3, c3⟩, ⟨⟩⟩
   refine DX.callV 22 Z J Z Z Z Z Z Z O Z (fun w G bs hI hΓ => f193 w n (by omega) e2.name p2 c2 (hΓ.get 2 Z) e1.name p3 c3 (hΓ.get 3 Z) ((ok_TableEntry ok2).1) ((ok_TableEntry ok1).1)) ?_
   intro hq2
   refine DX.takes (fuel := 0) ttOk [(23, true), (24, true), (25, true)] J Z ?_
   refine DX.tail2 [] Z Z J ?_
   refine R0 ?_
   refine WX.cases 35 Z (fun h4 => ?_) (fun h4 => ?_)
   ·skip
    have h4d := B.dt h4
    refine R0 ?_
    have hP3 : a1t l l 0 = (some false) := by rw [v2, drop_get e1h]; simp only [a1t, h2, h3, e2h, h4, ct, cf]
    have hP4 : a1u l = false := by simp only [a1u, hP3, ct, cf]
    exact R3 hP4
   have h4d := B.df h4
   refine R0 ?_
   refine WX.see Z Z Z (fun _ hΓ => looks_arith Z Z Z Z (by unfold I64; first | omega | (simp only [List.length_take] at *; omega))) ?_
   refine R0 ?_
   exact WX.iter (i + 1) ⟨(by omega), (by rw [v2, drop_get e1h]; simp only [a1t, h2, h3, e2h, h4, ct, cf])⟩ (by first | (dsimp only; omega) | omega) (.cons Z (.cons Z (.nil))) .nil .nil [0] Z
  have h3d := B.df h3
  refine DX.takes (fuel := 0) ttOk [(11, true), (12, true), (13, true), (14, true), (15, true), (16, true), (17, true), (18, true), (19, true), (20, true), (21, true), (22, true), (23, true), (24, true), (25, true)] J Z ?_
  refine DX.tail2 [] Z Z J ?_
  refine R0 ?_
  refine WX.see Z Z Z (fun _ hΓ => looks_arith Z Z Z Z (by unfold I64; first | omega | (simp only [List.length_take] at *; omega))) ?_
  refine R0 ?_
  exact WX.iter (i + 1) ⟨(by omega), (by rw [v2, drop_get e1h]; simp only [a1t, h2, h3, ct, cf])⟩ (by first | (dsimp only; omega) | omega) (.cons Z (.cons Z (.nil))) .nil .nil [0] Z
 have h1d := B.df h1
 refine R0 ?_
 have hX1 : a1t l l 0 = none := by rw [v2, List.drop_eq_nil_of_le (show (l).length ≤ i by omega)]; simp only [a1t, ct, cf]
 have hP5 : a1u l = (decide ((((l).length : Nat) : Int) ≤ 20)) := by simp only [a1u, hX1, ct, cf]
 exact R3 hP5
theorem f186 (w : World) (n : Nat) (hn : n + 0 ≤ 9) (s : (List TableEntry)) (ps : Option Addr) (cs : Nat) (N0 : RdSl (hp w) ps cs s) (fg : FuncId) (fc : List Value) (fq : TableEntry → Bool) (ff : ∀ w1, Kp emp w w1 → ∀ (e0 : TableEntry) (x0 : GoT.X TableEntry), GoT.ok n e0 → All (hp w1) (GoT.fa .der e0 x0) → Does Tryz.prog fg ([Value.agg ⟨GoT.sh e0 x0⟩] ++ fc).toArray w1 emp (fun rv _ => rv = .bool (fq e0) ∧ True)) (hoks : GoT.ok n s) :
 Does Tryz.prog 186 #[.slice ps ((s).length) cs, .func (.func fg) #[] fc.toArray] w emp (fun (rv : Value) (_ : World) => rv = .int .i64 ((slices_IndexFunc_TableEntry s fq)) ∧ GoT.ok n ((slices_IndexFunc_TableEntry s fq) : Int)) := by
 have hbP := bd_pos n
 have hbB := bd_big (n := n) (by omega)
 refine WX.enter (tt := tt) (Γ := [(0, MF.rs .stb ps cs s)]) Tryz.func186 Z J Z (allS_cons Z N0 allS_nil) ?_
 refine R0 ?_
 have r1 : (s).length ≤ bd n := (okl hoks).1
 refine WX.loop (ι := Nat) ⟨fun i => (i ≤ (s).length) ∧ (slices_IndexFunc_TableEntry_L1 fq s 0 = slices_IndexFunc_TableEntry_L1 fq ((s).drop i) i), fun i => (s).length - i, fun i => [(8, .v (.int .i64 (((i : Nat) : Int)))), (7, .v (.int .i64 ((((s).length : Nat) : Int)))), (0, .v (.slice ps ((s).length) cs)), (1, .v (.func (.func fg) #[] fc.toArray))], fun i => [], fun i => [], fun i => [(0, MF.rs .stb ps cs s)]⟩ 0 ⟨(Nat.zero_le _), Z⟩
  (.cons Z (.cons Z (.cons Z (.cons Z (.nil))))) .nil .nil [0] Z ?_
 rintro i hpre
 have hpre_ : (i ≤ (s).length) ∧ (slices_IndexFunc_TableEntry_L1 fq s 0 = slices_IndexFunc_TableEntry_L1 fq ((s).drop i) i) := hpre
 clear hpre
 obtain ⟨v1, v2⟩ := hpre_
 refine R0 ?_
 refine WX.cases 9 Z (fun h1 => ?_) (fun h1 => ?_)
 ·skip
  have h1d := B.dt h1
  have e1i : i < (s).length := (by omega)
  obtain ⟨e1, e1h⟩ : ∃ e1, (s)[i]? = some e1 := ⟨_, List.getElem?_eq_getElem e1i⟩
  have ok1 : GoT.ok n e1 := (okl hoks).2 _ (List.mem_of_getElem? e1h)
  refine R0 ?_
  refine WX.idx 0 i ttOk Z Z Z Z Z Z Z Z Z Z e1i ?_
  rintro ad1 rfl
  refine WX.ldE 0 1 e1 ttOk Z Z Z Z Z Z Z Z e1h O O ?_
  rintro ⟨⟨p1, c1⟩, ⟨⟩⟩
  refine WX.callV Z Z Z Z Z O Z (fun w G bs hI hΓ => ff w hI.keep e1 ((p1, c1), ()) ok1 (All.cons (hΓ.get 1 Z : RdSl _ _ _ _) All.nil)) ?_
  intro hq1
  refine R0 ?_
  refine WX.cases 16 Z (fun h2 => ?_) (fun h2 => ?_)
  ·skip
   refine R0 ?_
   have hP1 : slices_IndexFunc_TableEntry_L1 fq s 0 = (some ((i : Nat) : Int)) := by rw [v2, drop_get e1h]; simp only [slices_IndexFunc_TableEntry_L1, h2, ct, cf]
   have hP2 : slices_IndexFunc_TableEntry s fq = ((i : Nat) : Int) := by simp only [slices_IndexFunc_TableEntry, hP1, ct, cf]
   refine R1 ?_
   intro w1 G bs hI hΓ
   rw [hP2]
   exact ⟨Z, (show I64 ((i : Nat) : Int) from (by unfold I64; omega))⟩
  refine R0 ?_
  refine WX.see Z Z Z (fun _ hΓ => looks_arith Z Z Z Z (by unfold I64; first | omega | (simp only [List.length_take] at *; omega))) ?_
  refine R0 ?_
  exact WX.iter (i + 1) ⟨(by omega), (by rw [v2, drop_get e1h]; simp only [slices_IndexFunc_TableEntry_L1, h2, ct, cf])⟩ (by first | (dsimp only; omega) | omega) (.cons Z (.cons Z (.cons Z (.cons Z (.nil))))) .nil .nil [0] Z
 have h1d := B.df h1
 refine R0 ?_
 have hX1 : slices_IndexFunc_TableEntry_L1 fq s 0 = none := by rw [v2, List.drop_eq_nil_of_le (show (s).length ≤ i by omega)]; simp only [slices_IndexFunc_TableEntry_L1, ct, cf]
 have hP3 : slices_IndexFunc_TableEntry s fq = (-1) := by simp only [slices_IndexFunc_TableEntry, hX1, ct, cf]
 refine R1 ?_
 intro w1 G bs hI hΓ
 rw [hP3]
 exact ⟨Z, (show I64 (-1) from (by unfold I64; omega))⟩
theorem ltL_slices_IndexFunc_TableEntry : ∀ (f : TableEntry → Bool) (l : List TableEntry) (i : Nat) (j : Int), slices_IndexFunc_TableEntry_L1 f l i = some j → j < ((i + l.length : Nat) : Int)
 | f, [], i, j, h => by cases h
 | f, x :: l, i, j, h => by
  simp only [slices_IndexFunc_TableEntry_L1] at h
  cases hx : f x
  ·rw [hx, cond_false] at h
   have := ltL_slices_IndexFunc_TableEntry f l (i + 1) j h
   simp only [List.length_cons]; omega
  ·rw [hx, cond_true] at h
   cases h
   simp only [List.length_cons]; omega
theorem ltI_slices_IndexFunc_TableEntry (l : List TableEntry) (f : TableEntry → Bool) : slices_IndexFunc_TableEntry l f < ((l.length : Nat) : Int) := by
 unfold slices_IndexFunc_TableEntry
 cases h : slices_IndexFunc_TableEntry_L1 f l 0 with
 | none => show (-1 : Int) < _; omega
 | some j => have := ltL_slices_IndexFunc_TableEntry f l 0 j h; show j < _; omega
theorem f204 (w : World) (n : Nat) (hn : n + 0 ≤ 9) (s : (List TableEntry)) (ps : Option Addr) (cs : Nat) (N0 : RdSl (hp w) ps cs s) (fg : FuncId) (fc : List Value) (fq : TableEntry → Bool) (ff : ∀ w1, Kp emp w w1 → ∀ (e0 : TableEntry) (x0 : GoT.X TableEntry), GoT.ok n e0 → All (hp w1) (GoT.fa .der e0 x0) → Does Tryz.prog fg ([Value.agg ⟨GoT.sh e0 x0⟩] ++ fc).toArray w1 emp (fun rv _ => rv = .bool (fq e0) ∧ True)) (hoks : GoT.ok n s) :
 Does Tryz.prog 204 #[.slice ps ((s).length) cs, .func (.func fg) #[] fc.toArray] w emp (fun (rv : Value) (_ : World) => rv = .bool (slices_ContainsFunc_TableEntry s fq) ∧ True) := by
 have hbP := bd_pos n
 have hbB := bd_big (n := n) (by omega)
 refine WX.enter (tt := tt) (Γ := [(0, MF.rs .stb ps cs s)]) Tryz.func204 Z J Z (allS_cons Z N0 allS_nil) ?_
 refine R0 ?_
 refine WX.callV Z Z Z Z Z O Z (fun w G bs hI hΓ => f186 w n (by omega) s ps cs (hΓ.get 0 Z) fg fc fq (fun w1_ hb_ => ff w1_ (hI.keep.trans hb_)) hoks) ?_
 intro hq1
 have q1 := ltI_slices_IndexFunc_TableEntry s fq
 refine R0 ?_
 have hP1 : slices_ContainsFunc_TableEntry s fq = (decide ((slices_IndexFunc_TableEntry s fq) ≥ 0)) := by simp only [slices_ContainsFunc_TableEntry, ct, cf]
 exact R3 hP1
theorem f205 (w : World) (n : Nat) (hn : n + 0 ≤ 9) (e_ : TableEntry) (K0 : Option Addr) (M0 : Nat) (N0 : RdSl (hp w) K0 M0 e_.name.parts) (hoke_ : GoT.ok n e_) :
 Does Tryz.prog 205 #[.agg #[.slice K0 ((e_.name.parts).length) M0, .int .i64 (e_.value)]] w emp (fun (rv : Value) (_ : World) => rv = .bool (a3q e_) ∧ True) := by
 have hbP := bd_pos n
 have hbB := bd_big (n := n) (by omega)
 refine WX.enter (tt := tt) (Γ := [(0, MF.rs .stb K0 M0 e_.name.parts)]) Tryz.func205 Z J Z (allS_cons Z N0 allS_nil) ?_
 refine R0 ?_
 refine WX.callV Z Z Z Z Z O Z (fun w G bs hI hΓ => f132 w n (by omega) e_.value 1 1000 ((ok_TableEntry hoke_).2) (show I64 1 from (by unfold I64; omega)) (show I64 1000 from (by unfold I64; omega))) ?_
 intro hq1
 refine R0 ?_
 have hP1 : a3q e_ = (!(a2g e_.value 1 1000)) := by simp only [a3q, ct, cf]
 exact R3 hP1
theorem f131 (w : World) (n : Nat) (hn : n + 0 ≤ 9) (v : StateVector) (pv : Option Addr) (cv : Nat) (N0 : RdSl (hp w) pv cv v.entries) (hokv : GoT.ok n v) :
 Does Tryz.prog 131 #[.agg #[.slice pv ((v.entries).length) cv]] w emp (fun (rv : Value) (_ : World) => rv = .bool (a3j v) ∧ True) := by
 have hbP := bd_pos n
 have hbB := bd_big (n := n) (by omega)
 refine WX.enter (tt := tt) (Γ := [(0, MF.rs .stb pv cv v.entries)]) Tryz.func131 Z J Z (allS_cons Z N0 allS_nil) ?_
 refine R0 ?_
 refine WX.callV Z Z Z Z Z O Z (fun w G bs hI hΓ => f190 w n (by omega) v.entries pv cv (hΓ.get 0 Z) (ok_StateVector hokv)) ?_
 intro hq1
 refine R0 ?_
 refine WX.cases 6 Z (fun h1 => ?_) (fun h1 => ?_)
 ·skip
  refine R0 ?_
  refine WX.callV Z Z Z Z Z O Z (fun w G bs hI hΓ => f204 w n (by omega) v.entries pv cv (hΓ.get 0 Z) 205 [] (fun e0_ => (a3q e0_)) (fun w1_ hb_ e0_ x0_ hk0_ hx0_ => f205 w1_ n (by omega) e0_ x0_.1.1 x0_.1.2 (hx0_ _ List.mem_cons_self) hk0_) (ok_StateVector hokv)) ?_
  intro hq2
  refine R0 ?_
  have hP1 : a3j v = (!(slices_ContainsFunc_TableEntry v.entries (fun e0_ => (a3q e0_)))) := by simp only [a3j, h1, ct, cf]
  exact R3 hP1
 refine R0 ?_
 have hP2 : a3j v = false := by simp only [a3j, h1, ct, cf]
 exact R3 hP2
theorem f134 (w : World) (n : Nat) (hn : n + 0 ≤ 9) (v : StateVector) (pv : Option Addr) (cv : Nat) (N0 : RdSl (hp w) pv cv v.entries) (hokv : GoT.ok n v) :
 Does Tryz.prog 134 #[.agg #[.slice pv ((v.entries).length) cv]] w emp (fun (rv : Value) (_ : World) => rv = .bool (a38 v) ∧ True) := by
 have hbP := bd_pos n
 have hbB := bd_big (n := n) (by omega)
 refine WX.enter (tt := tt) (Γ := [(0, MF.rs .stb pv cv v.entries)]) Tryz.func134 Z J Z (allS_cons Z N0 allS_nil) ?_
 refine R0 ?_
 have r1 : (v.entries).length ≤ bd n := (okl (ok_StateVector hokv)).1
 refine WX.loop (ι := Nat) ⟨fun i => (i ≤ (v.entries).length) ∧ (a29 v.entries = a29 ((v.entries).drop i)), fun i => (v.entries).length - i, fun i => [(3, .v (.int .i64 (((i : Nat) : Int)))), (1, .p 1 0)], fun i => [(1, ⟨57, [.slice pv ((v.entries).length) cv]⟩)], fun i => [], fun i => [(0, MF.rs .stb pv cv v.entries)]⟩ 0 ⟨(Nat.zero_le _), Z⟩
  (.cons Z (.cons Z (.nil))) (.cons Z (.nil)) .nil [0] Z ?_
 rintro i hpre
 have hpre_ : (i ≤ (v.entries).length) ∧ (a29 v.entries = a29 ((v.entries).drop i)) := hpre
 clear hpre
 obtain ⟨v1, v2⟩ := hpre_
 refine R0 ?_
 refine WX.cases 8 Z (fun h1 => ?_) (fun h1 => ?_)
 ·skip
  have h1d := B.dt h1
  have e1i : i < (v.entries).length := (by omega)
  obtain ⟨e1, e1h⟩ : ∃ e1, (v.entries)[i]? = some e1 := ⟨_, List.getElem?_eq_getElem e1i⟩
  have ok1 : GoT.ok n e1 := (okl (ok_StateVector hokv)).2 _ (List.mem_of_getElem? e1h)
  refine R0 ?_
  refine WX.idx 0 i ttOk Z Z Z Z Z Z Z Z Z Z e1i ?_
  rintro ad1 rfl
  refine R0 ?_
  refine WX.ldE 0 1 e1 ttOk Z Z Z Z Z Z Z Z e1h O O ?_
  rintro ⟨⟨p1, c1⟩, ⟨⟩⟩
  refine WX.callV Z Z Z Z Z O Z (fun w G bs hI hΓ => f136 w n (by omega) e1.value 1 1000 ((ok_TableEntry ok1).2) (show I64 1 from (by unfold I64; omega)) (show I64 1000 from (by unfold I64; omega))) ?_
  intro hq1
  refine R0 ?_
  refine WX.cases 18 Z (fun h2 => ?_) (fun h2 => ?_)
  ·skip
   have h2d := (B.nt h2)
   refine R0 ?_
   have hP1 : a29 v.entries = (some false) := by rw [v2, drop_get e1h]; simp only [a29, h2, ct, cf]
   have hP2 : a38 v = false := by simp only [a38, hP1, ct, cf]
   exact R3 hP2
  have h2d := (B.nf h2)
  have h2r := inR_spec (B.nf h2)
  refine R0 ?_
  refine WX.see Z Z Z (fun _ hΓ => looks_arith Z Z Z Z (by unfold I64; first | omega | (simp only [List.length_take] at *; omega))) ?_
  refine R0 ?_
  exact WX.iter (i + 1) ⟨(by omega), (by rw [v2, drop_get e1h]; simp only [a29, h2, ct, cf])⟩ (by first | (dsimp only; omega) | omega) (.cons Z (.cons Z (.nil))) (.cons Z (.nil)) .nil [0] Z
 have h1d := B.df h1
 refine R0 ?_
 have hX1 : a29 v.entries = none := by rw [v2, List.drop_eq_nil_of_le (show (v.entries).length ≤ i by omega)]; simp only [a29, ct, cf]
 refine WX.callV Z Z Z Z Z O Z (fun w G bs hI hΓ => f194 w n (by omega) v.entries pv cv (hΓ.get 0 Z) (ok_StateVector hokv)) ?_
 intro hq2
 refine R0 ?_
 have hP3 : a38 v = (a1u v.entries) := by simp only [a38, hX1, ct, cf]
 exact R3 hP3
end Go.Proofs.YtolepebgdfdciaaGreat

namespace Go.Stp
set_option linter.unusedVariables false
set_option linter.unusedSimpArgs false
def a39 (n_ : Name) (e_ : TableEntry) : Bool :=
 (a37 e_.name n_)
def a0i (l : (List TableEntry)) (n_ : Name) : Int :=
 (slices_IndexFunc_TableEntry l (fun e0_ => (a39 n_ e0_)))
def a1b (n_ : Name) : List TableEntry → Nat → Option (Int)
 | [], i => none
 | e1 :: rest_, i =>
  bif (a1f e1.name n_) then
   (some ((i : Nat) : Int))
  else
   a1b n_ rest_ (i + 1)
def a0c (l : (List TableEntry)) (n_ : Name) : Int :=
 match a1b n_ l 0 with
  | some r_ => r_
  | none =>
   (-1)
def a31 (l : (List TableEntry)) (n_ : Name) : Int × Bool :=
 bif decide ((a0i l n_) < 0) then
  (0, false)
 else
  match (l)[((a0i l n_)).toNat]? with
   | none => default
   | some e1 =>
    (e1.value, true)
def a2s (l : (List TableEntry)) (n_ : Name) : Int × Bool :=
 bif decide ((a0c l n_) < 0) then
  (0, false)
 else
  match (l)[((a0c l n_)).toNat]? with
   | none => default
   | some e1 =>
    (e1.value, true)
def a11 (v : StateVector) (n_ : Name) : Int :=
 ((a31 v.entries n_).1)
def a0b (v : StateVector) (n_ : Name) : Int :=
 ((a2s v.entries n_).1)
def a2k (a : StateVector) (e1 : TableEntry) (out2 : List TableEntry) (k : Int) : (List TableEntry) × Int :=
 if k < (a11 a e1.name) then
  if (((out2).length : Nat) : Int) < 20 then
   a2k a e1 (((out2 ++ [(TableEntry.mk (a09 e1.name) (IntKind.i64.wrap (k + 1)))])) : List TableEntry) (IntKind.i64.wrap (k + 1))
  else
   (((out2) : List TableEntry), k)
 else
  (((out2) : List TableEntry), k)
termination_by 20 - out2.length
decreasing_by all_goals (simp only [List.length_append, List.length_cons, List.length_nil]; omega)
def a2t (a : StateVector) (b : StateVector) : List TableEntry → (List TableEntry) → (List TableEntry)
 | [], out => ((out) : List TableEntry)
 | e1 :: rest_, out =>
  match a2k a e1 (out : List TableEntry) (a11 b e1.name) with
   | (out2, k) =>
    a2t a b rest_ ((out2) : List TableEntry)
def a3g (a : StateVector) (b : StateVector) : (List TableEntry) :=
 match a2t a b a.entries ([] : List TableEntry) with
  | out =>
   out
def a18 (a : StateVector) (e1 : TableEntry) (out2 : List TableEntry) (k : Int) : (List TableEntry) × Int :=
 if k < (a0b a e1.name) then
  if (((out2).length : Nat) : Int) < 20 then
   a18 a e1 (((out2 ++ [(TableEntry.mk (a02 e1.name) (IntKind.i64.wrap (k + 1)))])) : List TableEntry) (IntKind.i64.wrap (k + 1))
  else
   (((out2) : List TableEntry), k)
 else
  (((out2) : List TableEntry), k)
termination_by 20 - out2.length
decreasing_by all_goals (simp only [List.length_append, List.length_cons, List.length_nil]; omega)
def a1d (a : StateVector) (b : StateVector) : List TableEntry → (List TableEntry) → (List TableEntry)
 | [], out => ((out) : List TableEntry)
 | e1 :: rest_, out =>
  match a18 a e1 (out : List TableEntry) (a0b b e1.name) with
   | (out2, k) =>
    a1d a b rest_ ((out2) : List TableEntry)
def a2l (a : StateVector) (b : StateVector) : (List TableEntry) :=
 match a1d a b a.entries ([] : List TableEntry) with
  | out =>
   out
end Go.Stp

namespace Go.Proofs.YtolepebgdfdciaaGreat
open Go.Stp
set_option linter.unusedVariables false
set_option linter.unusedSimpArgs false
theorem f226 (w : World) (n : Nat) (hn : n + 0 ≤ 9) (e_ : TableEntry) (K0 : Option Addr) (M0 : Nat) (N0 : RdSl (hp w) K0 M0 e_.name.parts) (n_ : Name) (bn_ : Addr) (hn_ : RdSl (hp w) (some bn_) 1 [n_]) (hoke_ : GoT.ok n e_) (hokn_ : GoT.ok n n_) :
 Does Tryz.prog 226 #[.agg #[.slice K0 ((e_.name.parts).length) M0, .int .i64 (e_.value)], .pointer (some bn_)] w emp (fun (rv : Value) (_ : World) => rv = .bool (a39 n_ e_) ∧ True) := by
 have hbP := bd_pos n
 have hbB := bd_big (n := n) (by omega)
 refine WX.enter (tt := tt) (Γ := [(0, MF.rs .stb K0 M0 e_.name.parts), (1, MF.rs .stb (some bn_) 1 ([n_]))]) Tryz.func226 Z J Z (allS_cons Z N0 (allS_cons Z hn_ allS_nil)) ?_
 have n_h : ([n_] : List Name)[0]? = some n_ := rfl
 refine WX.slot 1 (y := .e (some bn_) 0 1 0) Z (fun _ => cap_eq) ?_
 refine R0 ?_
 refine WX.ldE 1 2 n_ ttOk Z Z Z Z Z Z Z Z n_h O O ?_
 rintro ⟨p1, c1⟩
 refine WX.callV Z Z Z Z Z O Z (fun w G bs hI hΓ => f94 w n (by omega) e_.name K0 M0 (hΓ.get 0 Z) n_ p1 c1 (hΓ.get 2 Z) ((ok_TableEntry hoke_).1) hokn_) ?_
 intro hq1
 refine R0 ?_
 have hP1 : a39 n_ e_ = (a37 e_.name n_) := by simp only [a39, ct, cf]
 exact R3 hP1
theorem f185 (w : World) (n : Nat) (hn : n + 0 ≤ 9) (l : (List TableEntry)) (pl : Option Addr) (cl : Nat) (N0 : RdSl (hp w) pl cl l) (n_ : Name) (K1 : Option Addr) (M1 : Nat) (N1 : RdSl (hp w) K1 M1 n_.parts) (hokl : GoT.ok n l) (hokn_ : GoT.ok n n_) :
 Does Tryz.prog 185 #[.slice pl ((l).length) cl, .agg #[.slice K1 ((n_.parts).length) M1]] w emp (fun (rv : Value) (_ : World) => rv = .int .i64 ((a0i l n_)) ∧ GoT.ok n ((a0i l n_) : Int)) := by
 have hbP := bd_pos n
 have hbB := bd_big (n := n) (by omega)
 refine WX.enter (tt := tt) (Γ := [(0, MF.rs .stb pl cl l), (1, MF.rs .stb K1 M1 n_.parts)]) Tryz.func185 Z J Z (allS_cons Z N0 (allS_cons Z N1 allS_nil)) ?_
 refine R0 ?_
 refine WX.callV Z Z Z Z Z O Z (fun w G bs hI hΓ => f186 w n (by omega) l pl cl (hΓ.get 0 Z) 226 [Value.pointer (some ⟨bs 3, 0, none⟩)] (fun e0_ => (a39 n_ e0_)) (fun w1_ hb_ e0_ x0_ hk0_ hx0_ => f226 w1_ n (by omega) e0_ x0_.1.1 x0_.1.2 (hx0_ _ List.mem_cons_self) n_ ⟨bs 3, 0, none⟩ ((rd_box (α := Name) (a := n_) (x := (K1, M1)) (hI.loc 3 _ Z).1 (All.cons (hΓ.get 1 Z : RdSl _ _ _ _) All.nil)).mono (kp_le hb_)) hk0_ hokn_) hokl) ?_
 intro hq1
 have q1 := ltI_slices_IndexFunc_TableEntry l (fun e0_ => (a39 n_ e0_))
 refine R0 ?_
 have hP1 : a0i l n_ = (slices_IndexFunc_TableEntry l (fun e0_ => (a39 n_ e0_))) := by simp only [a0i, ct, cf]
 refine R1 ?_
 intro w1 G bs hI hΓ
 rw [hP1]
 exact ⟨Z, hq1⟩
theorem f192 (w : World) (n : Nat) (hn : n + 0 ≤ 9) (l : (List TableEntry)) (pl : Option Addr) (cl : Nat) (N0 : RdSl (hp w) pl cl l) (n_ : Name) (K1 : Option Addr) (M1 : Nat) (N1 : RdSl (hp w) K1 M1 n_.parts) (hokl : GoT.ok n l) (hokn_ : GoT.ok n n_) :
 Does Tryz.prog 192 #[.slice pl ((l).length) cl, .agg #[.slice K1 ((n_.parts).length) M1]] w emp (fun (rv : Value) (_ : World) => rv = .int .i64 ((a0c l n_)) ∧ GoT.ok n ((a0c l n_) : Int)) := by
 have hbP := bd_pos n
 have hbB := bd_big (n := n) (by omega)
 refine WX.enter (tt := tt) (Γ := [(0, MF.rs .stb pl cl l), (1, MF.rs .stb K1 M1 n_.parts)]) Tryz.func192 Z J Z (allS_cons Z N0 (allS_cons Z N1 allS_nil)) ?_
 refine R0 ?_
 have r1 : (l).length ≤ bd n := (okl hokl).1
 refine WX.loop (ι := Nat) ⟨fun i => (i ≤ (l).length) ∧ (a1b n_ l 0 = a1b n_ ((l).drop i) i), fun i => (l).length - i, fun i => [(5, .v (.int .i64 (((i : Nat) : Int)))), (3, .p 3 0), (0, .v (.slice pl ((l).length) cl))], fun i => [(3, ⟨30, [.slice K1 ((n_.parts).length) M1]⟩)], fun i => [], fun i => [(0, MF.rs .stb pl cl l), (1, MF.rs .stb K1 M1 n_.parts)]⟩ 0 ⟨(Nat.zero_le _), Z⟩
  (.cons Z (.cons Z (.cons Z (.nil)))) (.cons Z (.nil)) .nil [0, 1] Z ?_
 rintro i hpre
 have hpre_ : (i ≤ (l).length) ∧ (a1b n_ l 0 = a1b n_ ((l).drop i) i) := hpre
 clear hpre
 obtain ⟨v1, v2⟩ := hpre_
 refine R0 ?_
 refine WX.cases 9 Z (fun h1 => ?_) (fun h1 => ?_)
 ·skip
  have h1d := B.dt h1
  have e1i : i < (l).length := (by omega)
  obtain ⟨e1, e1h⟩ : ∃ e1, (l)[i]? = some e1 := ⟨_, List.getElem?_eq_getElem e1i⟩
  have ok1 : GoT.ok n e1 := (okl hokl).2 _ (List.mem_of_getElem? e1h)
  refine R0 ?_
  refine WX.draw [] mixed ?_
  intro bs G0 hΓ0
  refine DX.takes (fuel := 5) ttOk [(0, true), (1, true)] J Z ?_
  refine DX.idx 2 0 i ttOk hΓ0 J Z Z Z Z Z Z Z Z Z Z Z e1i ?_
  rintro ad1 rfl
  refine DX.takes (fuel := 3) ttOk [(3, true)] J Z ?_
  refine DX.ldE 4 0 2 e1 ttOk hΓ0 J Z Z Z Z Z Z Z Z e1h O O ?_
  rintro ⟨⟨p1, c1⟩, ⟨⟩⟩
  refine DX.takes (fuel := 1) ttOk [(5, false)] J Z ?_
  refine DX.callV 6 Z J Z Z Z Z Z Z O Z (fun w G bs hI hΓ => f146 w n (by omega) e1.name p1 c1 (hΓ.get 2 Z) n_ K1 M1 (hΓ.get 1 Z) ((ok_TableEntry ok1).1) hokn_) ?_
  intro hq1
  refine DX.tail2 [] Z Z J ?_
  refine R0 ?_
  refine WX.cases 18 Z (fun h2 => ?_) (fun h2 => ?_)
  ·skip
   refine R0 ?_
   have hP1 : a1b n_ l 0 = (some ((i : Nat) : Int)) := by rw [v2, drop_get e1h]; simp only [a1b, h2, ct, cf]
   have hP2 : a0c l n_ = ((i : Nat) : Int) := by simp only [a0c, hP1, ct, cf]
   refine R1 ?_
   intro w1 G bs hI hΓ
   rw [hP2]
   exact ⟨Z, (show I64 ((i : Nat) : Int) from (by unfold I64; omega))⟩
  refine R0 ?_
  refine WX.see Z Z Z (fun _ hΓ => looks_arith Z Z Z Z (by unfold I64; first | omega | (simp only [List.length_take] at *; omega))) ?_
  refine R0 ?_
  exact WX.iter (i + 1) ⟨(by omega), (by rw [v2, drop_get e1h]; simp only [a1b, h2, ct, cf])⟩ (by first | (dsimp only; omega) | omega) (.cons Z (.cons Z (.cons Z (.nil)))) (.cons Z (.nil)) .nil [0, 1] Z
 have h1d := B.df h1
 refine R0 ?_
 have hX1 : a1b n_ l 0 = none := by rw [v2, List.drop_eq_nil_of_le (show (l).length ≤ i by omega)]; simp only [a1b, ct, cf]
 have hP3 : a0c l n_ = (-1) := by simp only [a0c, hX1, ct, cf]
 refine R1 ?_
 intro w1 G bs hI hΓ
 rw [hP3]
 exact ⟨Z, (show I64 (-1) from (by unfold I64; omega))⟩
theorem lt_iFL : ∀ (f : TableEntry → Bool) (l : List TableEntry) (i : Nat) (j : Int), slices_IndexFunc_TableEntry_L1 f l i = some j → j < ((i + l.length : Nat) : Int)
 | f, [], i, j, h => by cases h
 | f, x :: l, i, j, h => by
  simp only [slices_IndexFunc_TableEntry_L1] at h
  cases hx : f x
  ·rw [hx, cond_false] at h
   have := lt_iFL f l (i + 1) j h
   simp only [List.length_cons]; omega
  ·rw [hx, cond_true] at h
   cases h
   simp only [List.length_cons]; omega
theorem lt_indexOfName (l : List TableEntry) (n_ : Name) : a0i l n_ < ((l.length : Nat) : Int) := by
 unfold a0i slices_IndexFunc_TableEntry
 cases h : slices_IndexFunc_TableEntry_L1 (fun e0_ => a39 n_ e0_) l 0 with
 | none => show (-1 : Int) < _; omega
 | some j => have := lt_iFL _ l 0 j h; show j < _; omega
theorem lt_l6L (n_ : Name) : ∀ (l : List TableEntry) (i : Nat) (j : Int), a1b n_ l i = some j → j < ((i + l.length : Nat) : Int)
 | [], i, j, h => by cases h
 | x :: l, i, j, h => by
  simp only [a1b] at h
  cases hx : a1f x.name n_
  ·rw [hx, cond_false] at h
   have := lt_l6L n_ l (i + 1) j h
   simp only [List.length_cons]; omega
  ·rw [hx, cond_true] at h
   cases h
   simp only [List.length_cons]; omega
theorem lt_l6Find (l : List TableEntry) (n_ : Name) : a0c l n_ < ((l.length : Nat) : Int) := by
 unfold a0c
 cases h : a1b n_ l 0 with
 | none => show (-1 : Int) < _; omega
 | some j => have := lt_l6L n_ l 0 j h; show j < _; omega
theorem f138 (w : World) (n : Nat) (hn : n + 0 ≤ 9) (l : (List TableEntry)) (pl : Option Addr) (cl : Nat) (N0 : RdSl (hp w) pl cl l) (n_ : Name) (K1 : Option Addr) (M1 : Nat) (N1 : RdSl (hp w) K1 M1 n_.parts) (hokl : GoT.ok n l) (hokn_ : GoT.ok n n_) :
 Does Tryz.prog 138 #[.slice pl ((l).length) cl, .agg #[.slice K1 ((n_.parts).length) M1]] w emp (fun (rv : Value) (_ : World) => rv = .tuple #[.int .i64 ((a31 l n_).1), .bool ((a31 l n_).2)] ∧ GoT.ok n ((a31 l n_).1 : Int)) := by
 have hbP := bd_pos n
 have hbB := bd_big (n := n) (by omega)
 refine WX.enter (tt := tt) (Γ := [(0, MF.rs .stb pl cl l), (1, MF.rs .stb K1 M1 n_.parts)]) Tryz.func138 Z J Z (allS_cons Z N0 (allS_cons Z N1 allS_nil)) ?_
 refine R0 ?_
 refine WX.callV Z Z Z Z Z O Z (fun w G bs hI hΓ => f185 w n (by omega) l pl cl (hΓ.get 0 Z) n_ K1 M1 (hΓ.get 1 Z) hokl hokn_) ?_
 intro hq1
 have q1 := lt_indexOfName l n_
 refine R0 ?_
 refine WX.cases 11 Z (fun h1 => ?_) (fun h1 => ?_)
 ·skip
  have h1d := B.dt h1
  refine R0 ?_
  have hP1 : a31 l n_ = (0, false) := by simp only [a31, h1, ct, cf]
  refine R1 ?_
  intro w1 G bs hI hΓ
  rw [hP1]
  exact ⟨Z, (show I64 0 from (by unfold I64; omega))⟩
 have h1d := B.df h1
 refine R0 ?_
 have r1 : (l).length ≤ bd n := (okl hokl).1
 have r2 : -9223372036854775808 ≤ (a0i l n_) ∧ (a0i l n_) ≤ 9223372036854775807 := hq1
 refine WX.slot 13 (y := .v (.int .i64 ((((a0i l n_)).toNat : Nat) : Int))) Z (fun _ => congrArg (Value.int .i64) (show (a0i l n_) = ((((a0i l n_)).toNat : Nat) : Int) from by omega)) ?_
 have e1i : ((a0i l n_)).toNat < (l).length := (by first | assumption | omega)
 obtain ⟨e1, e1h⟩ : ∃ e1, (l)[((a0i l n_)).toNat]? = some e1 := ⟨_, List.getElem?_eq_getElem e1i⟩
 have ok1 : GoT.ok n e1 := (okl hokl).2 _ (List.mem_of_getElem? e1h)
 refine WX.idx 0 (((a0i l n_)).toNat) ttOk Z Z Z Z Z Z Z Z Z Z e1i ?_
 rintro ad1 rfl
 refine R0 ?_
 refine WX.ldE 0 2 e1 ttOk Z Z Z Z Z Z Z Z e1h O O ?_
 rintro ⟨⟨p1, c1⟩, ⟨⟩⟩
 refine R0 ?_
 have hP2 : a31 l n_ = (e1.value, true) := by simp only [a31, h1, e1h, ct, cf]
 refine R1 ?_
 intro w1 G bs hI hΓ
 rw [hP2]
 exact ⟨Z, (ok_TableEntry ok1).2⟩
theorem f182 (w : World) (n : Nat) (hn : n + 0 ≤ 9) (l : (List TableEntry)) (pl : Option Addr) (cl : Nat) (N0 : RdSl (hp w) pl cl l) (n_ : Name) (K1 : Option Addr) (M1 : Nat) (N1 : RdSl (hp w) K1 M1 n_.parts) (hokl : GoT.ok n l) (hokn_ : GoT.ok n n_) :
 Does Tryz.prog 182 #[.slice pl ((l).length) cl, .agg #[.slice K1 ((n_.parts).length) M1]] w emp (fun (rv : Value) (_ : World) => rv = .tuple #[.int .i64 ((a2s l n_).1), .bool ((a2s l n_).2)] ∧ GoT.ok n ((a2s l n_).1 : Int)) := by
 have hbP := bd_pos n
 have hbB := bd_big (n := n) (by omega)
 refine WX.enter (tt := tt) (Γ := [(0, MF.rs .stb pl cl l), (1, MF.rs .stb K1 M1 n_.parts)]) Tryz.func182 Z J Z (allS_cons Z N0 (allS_cons Z N1 allS_nil)) ?_
 refine R0 ?_
 refine WX.callV Z Z Z Z Z O Z (fun w G bs hI hΓ => f192 w n (by omega) l pl cl (hΓ.get 0 Z) n_ K1 M1 (hΓ.get 1 Z) hokl hokn_) ?_
 intro hq1
 have q1 := lt_l6Find l n_
 refine R0 ?_
 refine WX.cases 11 Z (fun h1 => ?_) (fun h1 => ?_)
 ·skip
  have h1d := B.dt h1
  refine R0 ?_
  have hP1 : a2s l n_ = (0, false) := by simp only [a2s, h1, ct, cf]
  refine R1 ?_
  intro w1 G bs hI hΓ
  rw [hP1]
  exact ⟨Z, (show I64 0 from (by unfold I64; omega))⟩
 have h1d := B.df h1
 refine R0 ?_
 have r1 : (l).length ≤ bd n := (okl hokl).1
 have r2 : -9223372036854775808 ≤ (a0c l n_) ∧ (a0c l n_) ≤ 9223372036854775807 := hq1
 refine WX.slot 13 (y := .v (.int .i64 ((((a0c l n_)).toNat : Nat) : Int))) Z (fun _ => congrArg (Value.int .i64) (show (a0c l n_) = ((((a0c l n_)).toNat : Nat) : Int) from by omega)) ?_
 have e1i : ((a0c l n_)).toNat < (l).length := (by first | assumption | omega)
 obtain ⟨e1, e1h⟩ : ∃ e1, (l)[((a0c l n_)).toNat]? = some e1 := ⟨_, List.getElem?_eq_getElem e1i⟩
 have ok1 : GoT.ok n e1 := (okl hokl).2 _ (List.mem_of_getElem? e1h)
 refine WX.idx 0 (((a0c l n_)).toNat) ttOk Z Z Z Z Z Z Z Z Z Z e1i ?_
 rintro ad1 rfl
 refine R0 ?_
 refine WX.ldE 0 2 e1 ttOk Z Z Z Z Z Z Z Z e1h O O ?_
 rintro ⟨⟨p1, c1⟩, ⟨⟩⟩
 refine R0 ?_
 have hP2 : a2s l n_ = (e1.value, true) := by simp only [a2s, h1, e1h, ct, cf]
 refine R1 ?_
 intro w1 G bs hI hΓ
 rw [hP2]
 exact ⟨Z, (ok_TableEntry ok1).2⟩
theorem f60 (w : World) (n : Nat) (hn : n + 0 ≤ 9) (v : StateVector) (pv : Option Addr) (cv : Nat) (N0 : RdSl (hp w) pv cv v.entries) (n_ : Name) (K1 : Option Addr) (M1 : Nat) (N1 : RdSl (hp w) K1 M1 n_.parts) (hokv : GoT.ok n v) (hokn_ : GoT.ok n n_) :
 Does Tryz.prog 60 #[.agg #[.slice pv ((v.entries).length) cv], .agg #[.slice K1 ((n_.parts).length) M1]] w emp (fun (rv : Value) (_ : World) => rv = .int .i64 ((a11 v n_)) ∧ GoT.ok n ((a11 v n_) : Int)) := by
 have hbP := bd_pos n
 have hbB := bd_big (n := n) (by omega)
 refine WX.enter (tt := tt) (Γ := [(0, MF.rs .stb pv cv v.entries), (1, MF.rs .stb K1 M1 n_.parts)]) Tryz.func60 Z J Z (allS_cons Z N0 (allS_cons Z N1 allS_nil)) ?_
 refine R0 ?_
 refine WX.callV Z Z Z Z Z O Z (fun w G bs hI hΓ => f138 w n (by omega) v.entries pv cv (hΓ.get 0 Z) n_ K1 M1 (hΓ.get 1 Z) (ok_StateVector hokv) hokn_) ?_
 intro hq1
 refine R0 ?_
 have hP1 : a11 v n_ = ((a31 v.entries n_).1) := by simp only [a11, ct, cf]
 refine R1 ?_
 intro w1 G bs hI hΓ
 rw [hP1]
 exact ⟨Z, hq1⟩
theorem f108 (w : World) (n : Nat) (hn : n + 0 ≤ 9) (v : StateVector) (pv : Option Addr) (cv : Nat) (N0 : RdSl (hp w) pv cv v.entries) (n_ : Name) (K1 : Option Addr) (M1 : Nat) (N1 : RdSl (hp w) K1 M1 n_.parts) (hokv : GoT.ok n v) (hokn_ : GoT.ok n n_) :
 Does Tryz.prog 108 #[.agg #[.slice pv ((v.entries).length) cv], .agg #[.slice K1 ((n_.parts).length) M1]] w emp (fun (rv : Value) (_ : World) => rv = .int .i64 ((a0b v n_)) ∧ GoT.ok n ((a0b v n_) : Int)) := by
 have hbP := bd_pos n
 have hbB := bd_big (n := n) (by omega)
 refine WX.enter (tt := tt) (Γ := [(0, MF.rs .stb pv cv v.entries), (1, MF.rs .stb K1 M1 n_.parts)]) Tryz.func108 Z J Z (allS_cons Z N0 (allS_cons Z N1 allS_nil)) ?_
 refine R0 ?_
 refine WX.callV Z Z Z Z Z O Z (fun w G bs hI hΓ => f182 w n (by omega) v.entries pv cv (hΓ.get 0 Z) n_ K1 M1 (hΓ.get 1 Z) (ok_StateVector hokv) hokn_) ?_
 intro hq1
 refine R0 ?_
 have hP1 : a0b v n_ = ((a2s v.entries n_).1) := by simp only [a0b, ct, cf]
 refine R1 ?_
 intro w1 G bs hI hΓ
 rw [hP1]
 exact ⟨Z, hq1⟩
theorem f129 (w : World) (n : Nat) (hn : n + 0 ≤ 9) (a : StateVector) (pa : Option Addr) (ca : Nat) (N0 : RdSl (hp w) pa ca a.entries) (b : StateVector) (pb : Option Addr) (cb : Nat) (N1 : RdSl (hp w) pb cb b.entries) (hoka : GoT.ok n a) (hokb : GoT.ok n b) :
 Does Tryz.prog 129 #[.agg #[.slice pa ((a.entries).length) ca], .agg #[.slice pb ((b.entries).length) cb]] w emp (Post w emp (fun x : GoT.X ((List TableEntry)) => (GoT.sh ((a3g a b) : (List TableEntry)) x).headD undef) (fun x => GoT.oa ((a3g a b) : (List TableEntry)) x) (GoT.ok n ((a3g a b) : (List TableEntry)))) := by
 have hbP := bd_pos n
 have hbB := bd_big (n := n) (by omega)
 refine WX.enter (tt := tt) (Γ := [(0, MF.rs .stb pa ca a.entries), (1, MF.rs .stb pb cb b.entries)]) Tryz.func129 Z J Z (allS_cons Z N0 (allS_cons Z N1 allS_nil)) ?_
 refine R0 ?_
 refine WX.bld ttOk Z Z Z Z Z Z Z ?_
 intro p1
 refine R0 ?_
 refine WX.free 2 (MF.ol [] ([] : List TableEntry)) Z ?_
 have r1 : (a.entries).length ≤ bd n := (okl (ok_StateVector hoka)).1
 refine WX.loop (ι := (Option Addr) × Nat × (List Value) × (List TableEntry) × Nat) ⟨fun | (pout, cout, xsout, out, i) => (i ≤ (a.entries).length) ∧ (∀ z_ ∈ out, GoT.ok n z_) ∧ (out.length ≤ 20) ∧ (a2t a b a.entries ([] : List TableEntry) = a2t a b ((a.entries).drop i) out), fun | (pout, cout, xsout, out, i) => (a.entries).length - i, fun | (pout, cout, xsout, out, i) => [(5, .v (.slice pout ((out).length) cout)), (13, .v (.int .i64 (((i : Nat) : Int)))), (12, .v (.int .i64 ((((a.entries).length : Nat) : Int)))), (11, .v (.slice pa ((a.entries).length) ca)), (3, .p 3 0), (2, .p 2 0)], fun | (pout, cout, xsout, out, i) => [(3, ⟨57, [.slice pb ((b.entries).length) cb]⟩), (2, ⟨57, [.slice pa ((a.entries).length) ca]⟩)], fun | (pout, cout, xsout, out, i) => [(9, ⟨2, pout, (out).length, cout, xsout⟩)], fun | (pout, cout, xsout, out, i) => [(0, MF.rs .stb pa ca a.entries), (1, MF.rs .stb pb cb b.entries), (2, MF.ol xsout (out : List TableEntry))]⟩ (p1, 0, [], ([] : List TableEntry), 0) ⟨(Nat.zero_le _), (fun a ha => by cases ha), (by simp), Z⟩
  (.cons Z (.cons Z (.cons Z (.cons Z (.cons Z (.cons Z (.nil))))))) (.cons Z (.cons Z (.nil))) (.cons Z (.nil)) [0, 1, 2] Z ?_
 rintro ⟨pout, cout, xsout, out, i⟩ hpre
 have hpre_ : (i ≤ (a.entries).length) ∧ (∀ z_ ∈ out, GoT.ok n z_) ∧ (out.length ≤ 20) ∧ (a2t a b a.entries ([] : List TableEntry) = a2t a b ((a.entries).drop i) out) := hpre
 clear hpre
 obtain ⟨v1, v2, v3, v4⟩ := hpre_
 refine R0 ?_
 refine WX.cases 14 Z (fun h1 => ?_) (fun h1 => ?_)
 ·skip
  have h1d := B.dt h1
  have e1i : i < (a.entries).length := (by omega)
  obtain ⟨e1, e1h⟩ : ∃ e1, (a.entries)[i]? = some e1 := ⟨_, List.getElem?_eq_getElem e1i⟩
  have ok1 : GoT.ok n e1 := (okl (ok_StateVector hoka)).2 _ (List.mem_of_getElem? e1h)
  refine R0 ?_
  refine WX.idx 0 i ttOk Z Z Z Z Z Z Z Z Z Z e1i ?_
  rintro ad1 rfl
  refine WX.ldE 0 3 e1 ttOk Z Z Z Z Z Z Z Z e1h O O ?_
  rintro ⟨⟨p2, c1⟩, ⟨⟩⟩
  refine R0 ?_
  refine WX.callV Z Z Z Z Z O Z (fun w G bs hI hΓ => f60 w n (by omega) b pb cb (hΓ.get 1 Z) e1.name p2 c1 (hΓ.get 3 Z) hokb ((ok_TableEntry ok1).1)) ?_
  intro hq1
  refine R0 ?_
  refine WX.loop (ι := (Option Addr) × Nat × (List Value) × (List TableEntry) × Int) ⟨fun | (pout2, cout2, xsout2, out2, k) => (∀ z_ ∈ out2, GoT.ok n z_) ∧ (-9223372036854775808 ≤ k ∧ k ≤ 9223372036854775807) ∧ (out2.length ≤ 20) ∧ (a2k a e1 (out : List TableEntry) (a11 b e1.name) = a2k a e1 out2 k), fun | (pout2, cout2, xsout2, out2, k) => 20 - out2.length, fun | (pout2, cout2, xsout2, out2, k) => [(5, .v (.slice pout2 ((out2).length) cout2)), (8, .v (.int .i64 (k))), (7, .p 7 0), (13, .v (.int .i64 (((i : Nat) : Int)))), (12, .v (.int .i64 ((((a.entries).length : Nat) : Int)))), (11, .v (.slice (some ad1) ((a.entries).length) ca)), (3, .p 3 0), (2, .p 2 0)], fun | (pout2, cout2, xsout2, out2, k) => [(7, ⟨152, [.slice p2 ((e1.name.parts).length) c1, .int .i64 (e1.value)]⟩), (3, ⟨57, [.slice pb ((b.entries).length) cb]⟩), (2, ⟨57, [.slice (some ad1) ((a.entries).length) ca]⟩)], fun | (pout2, cout2, xsout2, out2, k) => [(9, ⟨2, pout2, (out2).length, cout2, xsout2⟩)], fun | (pout2, cout2, xsout2, out2, k) => [(0, MF.rs .stb (some ad1) ca a.entries), (1, MF.rs .stb pb cb b.entries), (2, MF.ol xsout2 (out2 : List TableEntry)), (3, MF.rs .stb p2 c1 e1.name.parts)]⟩ (pout, cout, xsout, (out : List TableEntry), (a11 b e1.name)) ⟨v2, hq1, (by first | assumption | omega | (simp; omega)), Z⟩
   (.cons Z (.cons Z (.cons Z (.cons Z (.cons Z (.cons Z (.cons Z (.cons Z (.nil))))))))) (.cons Z (.cons Z (.cons Z (.nil)))) (.cons Z (.nil)) [0, 1, 2, 3] Z ?_
  rintro ⟨pout2, cout2, xsout2, out2, k⟩ hpre
  have hpre_ : (∀ z_ ∈ out2, GoT.ok n z_) ∧ (-9223372036854775808 ≤ k ∧ k ≤ 9223372036854775807) ∧ (out2.length ≤ 20) ∧ (a2k a e1 (out : List TableEntry) (a11 b e1.name) = a2k a e1 out2 k) := hpre
  clear hpre
  obtain ⟨v5, v6, v7, v8⟩ := hpre_
  refine R0 ?_
  refine WX.callV Z Z Z Z Z O Z (fun w G bs hI hΓ => f60 w n (by omega) a (some ad1) ca (hΓ.get 0 Z) e1.name p2 c1 (hΓ.get 3 Z) hoka ((ok_TableEntry ok1).1)) ?_
  intro hq2
  refine R0 ?_
  refine WX.cases 27 Z (fun h2 => ?_) (fun h2 => ?_)
  ·skip
   have h2d := B.dt h2
   refine R0 ?_
   refine WX.cases 31 Z (fun h3 => ?_) (fun h3 => ?_)
   ·skip
    have h3d := B.dt h3
    refine R0 ?_
    refine WX.callF 4 (fun _ _ h => GoT.ow_rd h) (fun _ f hf => GoT.fak f hf) Z Z Z Z Z O Z (fun w G bs hI hΓ => f113 w n (by omega) e1.name p2 c1 (hΓ.get 3 Z) ((ok_TableEntry ok1).1)) O O ?_
    rintro ⟨p3, c2⟩ hq3
    refine R0 ?_
    refine WX.see Z Z Z (fun _ hΓ => looks_wrap Z Z Z Z) ?_
    refine R0 ?_
    refine WX.bld ttOk Z Z Z Z Z Z Z ?_
    intro p4
    refine WX.turn [5] 6 Z (fun h hs => ol_one (α := TableEntry) (a := (TableEntry.mk (a09 e1.name) (IntKind.i64.wrap (k + 1)))) (x := ((p3, c2), ())) hs) (gs := [MF.ol [.slice p3 (((a09 e1.name).parts).length) c2, .int .i64 (IntKind.i64.wrap (k + 1))] ([(TableEntry.mk (a09 e1.name) (IntKind.i64.wrap (k + 1)))] : List TableEntry)]) Z ?_
    refine WX.know (fun G hΓ => (hΓ.get 6 Z : OwL _ _ _).rd.one) ?_
    intro ho1
    refine WX.appR1 9 41 ((out2 ++ [(TableEntry.mk (a09 e1.name) (IntKind.i64.wrap (k + 1)))]) : List TableEntry).length ttOk Z Z Z Z Z Z Z Z Z Z Z Z Z ho1 (by simp) (by simp; omega) (by simp; omega) (fun _ _ => Z) ?_
    intro p5 c3
    refine WX.turn [2, 6] 7 Z (fun h hs => ol_app hs) (gs := [MF.ol (xsout2 ++ [.slice p3 (((a09 e1.name).parts).length) c2, .int .i64 (IntKind.i64.wrap (k + 1))]) ((out2 ++ [(TableEntry.mk (a09 e1.name) (IntKind.i64.wrap (k + 1)))]) : List TableEntry)]) Z ?_
    refine R0 ?_
    refine WX.see Z Z Z (fun _ hΓ => looks_wrap Z Z Z Z) ?_
    refine R0 ?_
    refine WX.turn [7] 2 Z (fun _ h => h) Z ?_
    exact WX.iter (p5, c3, (xsout2 ++ [.slice p3 (((a09 e1.name).parts).length) c2, .int .i64 (IntKind.i64.wrap (k + 1))]), ((out2 ++ [(TableEntry.mk (a09 e1.name) (IntKind.i64.wrap (k + 1)))]) : List TableEntry), IntKind.i64.wrap (k + 1)) ⟨(all_app v5 (all_cons (α := TableEntry) (And.intro hq3 (i64_wrap _)) (fun a ha => by cases ha))), (i64_wrap _), (by first | assumption | omega | (simp; omega)), (by rw [v8]; rw [a2k]; simp only [h2, h2d, h3, h3d, ct, cf, ↓reduceIte, Bool.false_eq_true])⟩ (by simp; omega) (.cons Z (.cons Z (.cons Z (.cons Z (.cons Z (.cons Z (.cons Z (.cons Z (.nil))))))))) (.cons Z (.cons Z (.cons Z (.nil)))) (.cons Z (.nil)) [0, 1, 2, 3] Z
   have h3d := B.df h3
   refine R0 ?_
   have hX1 : a2k a e1 (out : List TableEntry) (a11 b e1.name) = (((out2) : List TableEntry), k) := by rw [v8]; rw [a2k]; simp only [h2, h2d, h3, h3d, ct, cf, ↓reduceIte, Bool.false_eq_true]
   refine WX.see Z Z Z (fun _ hΓ => looks_arith Z Z Z Z (by unfold I64; first | omega | (simp only [List.length_take] at *; omega))) ?_
   refine R0 ?_
   exact WX.iter (pout2, cout2, xsout2, (out2 : List TableEntry), i + 1) ⟨(by omega), v5, (by first | assumption | omega | (simp; omega)), (by rw [v4, drop_get e1h]; simp only [a2t, hX1, ct, cf])⟩ (by first | (dsimp only; omega) | omega) (.cons Z (.cons Z (.cons Z (.cons Z (.cons Z (.cons Z (.nil))))))) (.cons Z (.cons Z (.nil))) (.cons Z (.nil)) [0, 1, 2] Z
  have h2d := B.df h2
  refine R0 ?_
  have hX2 : a2k a e1 (out : List TableEntry) (a11 b e1.name) = (((out2) : List TableEntry), k) := by rw [v8]; rw [a2k]; simp only [h2, h2d, ct, cf, ↓reduceIte, Bool.false_eq_true]
  refine WX.see Z Z Z (fun _ hΓ => looks_arith Z Z Z Z (by unfold I64; first | omega | (simp only [List.length_take] at *; omega))) ?_
  refine R0 ?_
  exact WX.iter (pout2, cout2, xsout2, (out2 : List TableEntry), i + 1) ⟨(by omega), v5, (by first | assumption | omega | (simp; omega)), (by rw [v4, drop_get e1h]; simp only [a2t, hX2, ct, cf])⟩ (by first | (dsimp only; omega) | omega) (.cons Z (.cons Z (.cons Z (.cons Z (.cons Z (.cons Z (.nil))))))) (.cons Z (.cons Z (.nil))) (.cons Z (.nil)) [0, 1, 2] Z
 have h1d := B.df h1
 refine R0 ?_
 have hX3 : a2t a b a.entries ([] : List TableEntry) = ((out) : List TableEntry) := by rw [v4, List.drop_eq_nil_of_le (show (a.entries).length ≤ i by omega)]; simp only [a2t, ct, cf]
 refine WX.seal 9 2 8 Z Z Z Z Z ?_
 have hP1 : a3g a b = out := by simp only [a3g, hX3, ct, cf]
 refine R1 ?_
 intro w1 G bs hI hΓ
 rw [hP1]
 exact Post.of [9] (pout, cout) hI hΓ Z Z Z (okl_mk (by omega) v2 : GoT.ok n (out : List TableEntry))
theorem f130 (w : World) (n : Nat) (hn : n + 0 ≤ 9) (a : StateVector) (pa : Option Addr) (ca : Nat) (N0 : RdSl (hp w) pa ca a.entries) (b : StateVector) (pb : Option Addr) (cb : Nat) (N1 : RdSl (hp w) pb cb b.entries) (hoka : GoT.ok n a) (hokb : GoT.ok n b) :
 Does Tryz.prog 130 #[.agg #[.slice pa ((a.entries).length) ca], .agg #[.slice pb ((b.entries).length) cb]] w emp (Post w emp (fun x : GoT.X ((List TableEntry)) => (GoT.sh ((a2l a b) : (List TableEntry)) x).headD undef) (fun x => GoT.oa ((a2l a b) : (List TableEntry)) x) (GoT.ok n ((a2l a b) : (List TableEntry)))) := by
 have hbP := bd_pos n
 have hbB := bd_big (n := n) (by omega)
 refine WX.enter (tt := tt) (Γ := [(0, MF.rs .stb pa ca a.entries), (1, MF.rs .stb pb cb b.entries)]) Tryz.func130 Z J Z (allS_cons Z N0 (allS_cons Z N1 allS_nil)) ?_
 refine R0 ?_
 refine WX.bld ttOk Z Z Z Z Z Z Z ?_
 intro p1
 refine R0 ?_
 refine WX.free 2 (MF.ol [] ([] : List TableEntry)) Z ?_
 have r1 : (a.entries).length ≤ bd n := (okl (ok_StateVector hoka)).1
 refine WX.loop (ι := (Option Addr) × Nat × (List Value) × (List TableEntry) × Nat) ⟨fun | (pout, cout, xsout, out, i) => (i ≤ (a.entries).length) ∧ (∀ z_ ∈ out, GoT.ok n z_) ∧ (out.length ≤ 20) ∧ (a1d a b a.entries ([] : List TableEntry) = a1d a b ((a.entries).drop i) out), fun | (pout, cout, xsout, out, i) => (a.entries).length - i, fun | (pout, cout, xsout, out, i) => [(5, .v (.slice pout ((out).length) cout)), (6, .v (.int .i64 (((i : Nat) : Int)))), (3, .p 3 0), (2, .p 2 0)], fun | (pout, cout, xsout, out, i) => [(3, ⟨57, [.slice pb ((b.entries).length) cb]⟩), (2, ⟨57, [.slice pa ((a.entries).length) ca]⟩)], fun | (pout, cout, xsout, out, i) => [(11, ⟨2, pout, (out).length, cout, xsout⟩)], fun | (pout, cout, xsout, out, i) => [(0, MF.rs .stb pa ca a.entries), (1, MF.rs .stb pb cb b.entries), (2, MF.ol xsout (out : List TableEntry))]⟩ (p1, 0, [], ([] : List TableEntry), 0) ⟨(Nat.zero_le _), (fun a ha => by cases ha), (by simp), Z⟩
  (.cons Z (.cons Z (.cons Z (.cons Z (.nil))))) (.cons Z (.cons Z (.nil))) (.cons Z (.nil)) [0, 1, 2] Z ?_
 rintro ⟨pout, cout, xsout, out, i⟩ hpre
 have hpre_ : (i ≤ (a.entries).length) ∧ (∀ z_ ∈ out, GoT.ok n z_) ∧ (out.length ≤ 20) ∧ (a1d a b a.entries ([] : List TableEntry) = a1d a b ((a.entries).drop i) out) := hpre
 clear hpre
 obtain ⟨v1, v2, v3, v4⟩ := hpre_
 refine R0 ?_
 refine WX.cases 16 Z (fun h1 => ?_) (fun h1 => ?_)
 ·skip
  have h1d := B.dt h1
  have e1i : i < (a.entries).length := (by omega)
  obtain ⟨e1, e1h⟩ : ∃ e1, (a.entries)[i]? = some e1 := ⟨_, List.getElem?_eq_getElem e1i⟩
  have ok1 : GoT.ok n e1 := (okl (ok_StateVector hoka)).2 _ (List.mem_of_getElem? e1h)
  refine R0 ?_
  refine WX.idx 0 i ttOk Z Z Z Z Z Z Z Z Z Z e1i ?_
  rintro ad1 rfl
  refine R0 ?_
  refine WX.ldE 0 3 e1 ttOk Z Z Z Z Z Z Z Z e1h O O ?_
  rintro ⟨⟨p2, c1⟩, ⟨⟩⟩
  refine R0 ?_
  refine WX.callV Z Z Z Z Z O Z (fun w G bs hI hΓ => f108 w n (by omega) a (some ad1) ca (hΓ.get 0 Z) e1.name p2 c1 (hΓ.get 3 Z) hoka ((ok_TableEntry ok1).1)) ?_
  intro hq1
  refine R0 ?_
  refine WX.callV Z Z Z Z Z O Z (fun w G bs hI hΓ => f108 w n (by omega) b pb cb (hΓ.get 1 Z) e1.name p2 c1 (hΓ.get 3 Z) hokb ((ok_TableEntry ok1).1)) ?_
  intro hq2
  refine R0 ?_
  refine WX.loop (ι := (Option Addr) × Nat × (List Value) × (List TableEntry) × Int) ⟨fun | (pout2, cout2, xsout2, out2, k) => (∀ z_ ∈ out2, GoT.ok n z_) ∧ (-9223372036854775808 ≤ k ∧ k ≤ 9223372036854775807) ∧ (out2.length ≤ 20) ∧ (a18 a e1 (out : List TableEntry) (a0b b e1.name) = a18 a e1 out2 k), fun | (pout2, cout2, xsout2, out2, k) => 20 - out2.length, fun | (pout2, cout2, xsout2, out2, k) => [(5, .v (.slice pout2 ((out2).length) cout2)), (9, .v (.int .i64 (k))), (8, .v (.int .i64 ((a0b a e1.name)))), (7, .p 7 0), (6, .v (.int .i64 (((i : Nat) : Int)))), (3, .p 3 0), (2, .p 2 0)], fun | (pout2, cout2, xsout2, out2, k) => [(7, ⟨30, [.slice p2 ((e1.name.parts).length) c1]⟩), (3, ⟨57, [.slice pb ((b.entries).length) cb]⟩), (2, ⟨57, [.slice (some ad1) ((a.entries).length) ca]⟩)], fun | (pout2, cout2, xsout2, out2, k) => [(11, ⟨2, pout2, (out2).length, cout2, xsout2⟩)], fun | (pout2, cout2, xsout2, out2, k) => [(0, MF.rs .stb (some ad1) ca a.entries), (1, MF.rs .stb pb cb b.entries), (2, MF.ol xsout2 (out2 : List TableEntry)), (3, MF.rs .stb p2 c1 e1.name.parts)]⟩ (pout, cout, xsout, (out : List TableEntry), (a0b b e1.name)) ⟨v2, hq2, (by first | assumption | omega | (simp; omega)), Z⟩
   (.cons Z (.cons Z (.cons Z (.cons Z (.cons Z (.cons Z (.cons Z (.nil)))))))) (.cons Z (.cons Z (.cons Z (.nil)))) (.cons Z (.nil)) [0, 1, 2, 3] Z ?_
  rintro ⟨pout2, cout2, xsout2, out2, k⟩ hpre
  have hpre_ : (∀ z_ ∈ out2, GoT.ok n z_) ∧ (-9223372036854775808 ≤ k ∧ k ≤ 9223372036854775807) ∧ (out2.length ≤ 20) ∧ (a18 a e1 (out : List TableEntry) (a0b b e1.name) = a18 a e1 out2 k) := hpre
  clear hpre
  obtain ⟨v5, v6, v7, v8⟩ := hpre_
  refine R0 ?_
  refine WX.cases 34 Z (fun h2 => ?_) (fun h2 => ?_)
  ·skip
   have h2d := B.dt h2
   refine R0 ?_
   refine WX.cases 38 Z (fun h3 => ?_) (fun h3 => ?_)
   ·skip
    have h3d := B.dt h3
    refine R0 ?_
    refine WX.callF 4 (fun _ _ h => GoT.ow_rd h) (fun _ f hf => GoT.fak f hf) Z Z Z Z Z O Z (fun w G bs hI hΓ => f118 w n (by omega) e1.name p2 c1 (hΓ.get 3 Z) ((ok_TableEntry ok1).1)) O O ?_
    rintro ⟨p3, c2⟩ hq3
    refine R0 ?_
    refine WX.see Z Z Z (fun _ hΓ => looks_wrap Z Z Z Z) ?_
    refine R0 ?_
    refine WX.bld ttOk Z Z Z Z Z Z Z ?_
    intro p4
    refine WX.turn [5] 6 Z (fun h hs => ol_one (α := TableEntry) (a := (TableEntry.mk (a02 e1.name) (IntKind.i64.wrap (k + 1)))) (x := ((p3, c2), ())) hs) (gs := [MF.ol [.slice p3 (((a02 e1.name).parts).length) c2, .int .i64 (IntKind.i64.wrap (k + 1))] ([(TableEntry.mk (a02 e1.name) (IntKind.i64.wrap (k + 1)))] : List TableEntry)]) Z ?_
    refine WX.know (fun G hΓ => (hΓ.get 6 Z : OwL _ _ _).rd.one) ?_
    intro ho1
    refine WX.appR1 11 48 ((out2 ++ [(TableEntry.mk (a02 e1.name) (IntKind.i64.wrap (k + 1)))]) : List TableEntry).length ttOk Z Z Z Z Z Z Z Z Z Z Z Z Z ho1 (by simp) (by simp; omega) (by simp; omega) (fun _ _ => Z) ?_
    intro p5 c3
    refine WX.turn [2, 6] 7 Z (fun h hs => ol_app hs) (gs := [MF.ol (xsout2 ++ [.slice p3 (((a02 e1.name).parts).length) c2, .int .i64 (IntKind.i64.wrap (k + 1))]) ((out2 ++ [(TableEntry.mk (a02 e1.name) (IntKind.i64.wrap (k + 1)))]) : List TableEntry)]) Z ?_
    refine R0 ?_
    refine WX.see Z Z Z (fun _ hΓ => looks_wrap Z Z Z Z) ?_
    refine R0 ?_
    refine WX.turn [7] 2 Z (fun _ h => h) Z ?_
    exact WX.iter (p5, c3, (xsout2 ++ [.slice p3 (((a02 e1.name).parts).length) c2, .int .i64 (IntKind.i64.wrap (k + 1))]), ((out2 ++ [(TableEntry.mk (a02 e1.name) (IntKind.i64.wrap (k + 1)))]) : List TableEntry), IntKind.i64.wrap (k + 1)) ⟨(all_app v5 (all_cons (α := TableEntry) (And.intro hq3 (i64_wrap _)) (fun a ha => by cases ha))), (i64_wrap _), (by first | assumption | omega | (simp; omega)), (by rw [v8]; rw [a18]; simp only [h2, h2d, h3, h3d, ct, cf, ↓reduceIte, Bool.false_eq_true])⟩ (by simp; omega) (.cons Z (.cons Z (.cons Z (.cons Z (.cons Z (.cons Z (.cons Z (.nil)))))))) (.cons Z (.cons Z (.cons Z (.nil)))) (.cons Z (.nil)) [0, 1, 2, 3] Z
   have h3d := B.df h3
   refine R0 ?_
   have hX1 : a18 a e1 (out : List TableEntry) (a0b b e1.name) = (((out2) : List TableEntry), k) := by rw [v8]; rw [a18]; simp only [h2, h2d, h3, h3d, ct, cf, ↓reduceIte, Bool.false_eq_true]
   refine WX.see Z Z Z (fun _ hΓ => looks_arith Z Z Z Z (by unfold I64; first | omega | (simp only [List.length_take] at *; omega))) ?_
   refine R0 ?_
   exact WX.iter (pout2, cout2, xsout2, (out2 : List TableEntry), i + 1) ⟨(by omega), v5, (by first | assumption | omega | (simp; omega)), (by rw [v4, drop_get e1h]; simp only [a1d, hX1, ct, cf])⟩ (by first | (dsimp only; omega) | omega) (.cons Z (.cons Z (.cons Z (.cons Z (.nil))))) (.cons Z (.cons Z (.nil))) (.cons Z (.nil)) [0, 1, 2] Z
  have h2d := B.df h2
  refine R0 ?_
  have hX2 : a18 a e1 (out : List TableEntry) (a0b b e1.name) = (((out2) : List TableEntry), k) := by rw [v8]; rw [a18]; simp only [h2, h2d, ct, cf, ↓reduceIte, Bool.false_eq_true]
  refine WX.see Z Z Z (fun _ hΓ => looks_arith Z Z Z Z (by unfold I64; first | omega | (simp only [List.length_take] at *; omega))) ?_
  refine R0 ?_
  exact WX.iter (pout2, cout2, xsout2, (out2 : List TableEntry), i + 1) ⟨(by omega), v5, (by first | assumption | omega | (simp; omega)), (by rw [v4, drop_get e1h]; simp only [a1d, hX2, ct, cf])⟩ (by first | (dsimp only; omega) | omega) (.cons Z (.cons Z (.cons Z (.cons Z (.nil))))) (.cons Z (.cons Z (.nil))) (.cons Z (.nil)) [0, 1, 2] Z
 have h1d := B.df h1
 refine R0 ?_
 have hX3 : a1d a b a.entries ([] : List TableEntry) = ((out) : List TableEntry) := by rw [v4, List.drop_eq_nil_of_le (show (a.entries).length ≤ i by omega)]; simp only [a1d, ct, cf]
 refine WX.seal 11 2 8 Z Z Z Z Z ?_
 have hP1 : a2l a b = out := by simp only [a2l, hX3, ct, cf]
 refine R1 ?_
 intro w1 G bs hI hΓ
 rw [hP1]
 exact Post.of [9] (pout, cout) hI hΓ Z Z Z (okl_mk (by omega) v2 : GoT.ok n (out : List TableEntry))
end Go.Proofs.YtolepebgdfdciaaGreat

namespace Go.Stp
set_option linter.unusedVariables false
set_option linter.unusedSimpArgs false
def a10 (m : Member) (v : StateVector) : (List TableEntry) :=
 (a3g v m.vector)
def a0q (m : Member) (v : StateVector) : (List TableEntry) :=
 (a2l v m.vector)
def slices_EqualFunc_TableEntry_L1 (eqq : TableEntry → TableEntry → Bool) (s2 : (List TableEntry)) : List TableEntry → Nat → Option (Bool)
 | [], i => none
 | e1 :: rest_, i =>
  match (s2)[i]? with
   | none => default
   | some e2 =>
    bif (!(eqq e1 e2)) then
     (some false)
    else
     slices_EqualFunc_TableEntry_L1 eqq s2 rest_ (i + 1)
def slices_EqualFunc_TableEntry (s1 : (List TableEntry)) (s2 : (List TableEntry)) (eqq : TableEntry → TableEntry → Bool) : Bool :=
 bif ((((s1).length : Nat) : Int) != (((s2).length : Nat) : Int)) then
  false
 else
  match slices_EqualFunc_TableEntry_L1 eqq s2 s1 0 with
   | some r_ => r_
   | none =>
    true
def a3a (x_ : TableEntry) (y : TableEntry) : Bool :=
 bif (a37 x_.name y.name) then
  (x_.value == y.value)
 else
  false
def a3s (a : (List TableEntry)) (b : (List TableEntry)) : Bool :=
 (slices_EqualFunc_TableEntry a b (fun e0_ e1_ => (a3a e0_ e1_)))
def a1z (b : (List TableEntry)) : List TableEntry → Nat → Option (Bool)
 | [], i => none
 | e1 :: rest_, i =>
  match (b)[i]? with
   | none => default
   | some e2 =>
    bif (e1.value != e2.value) then
     (some false)
    else
     bif (!(a1f e1.name e2.name)) then
      (some false)
     else
      a1z b rest_ (i + 1)
def a2c (a : (List TableEntry)) (b : (List TableEntry)) : Bool :=
 bif ((((a).length : Nat) : Int) != (((b).length : Nat) : Int)) then
  false
 else
  match a1z b a 0 with
   | some r_ => r_
   | none =>
    true
def slices_IndexFunc_Publication_L1 (fq : Publication → Bool) : List Publication → Nat → Option (Int)
 | [], i => none
 | e1 :: rest_, i =>
  bif fq e1 then
   (some ((i : Nat) : Int))
  else
   slices_IndexFunc_Publication_L1 fq rest_ (i + 1)
def slices_IndexFunc_Publication (s : (List Publication)) (fq : Publication → Bool) : Int :=
 match slices_IndexFunc_Publication_L1 fq s 0 with
  | some r_ => r_
  | none =>
   (-1)
def slices_ContainsFunc_Publication (s : (List Publication)) (fq : Publication → Bool) : Bool :=
 (decide ((slices_IndexFunc_Publication s fq) ≥ 0))
def a2u (i : Int) (n_ : Name) (p_ : Publication) : Bool :=
 bif (p_.seq == i) then
  (a37 p_.publisher n_)
 else
  false
def a1v (l : (List Publication)) (n_ : Name) (i : Int) : Int :=
 (slices_IndexFunc_Publication l (fun e0_ => (a2u i n_ e0_)))
def a13 (n_ : Name) (i : Int) : List Publication → Nat → Option (Int)
 | [], i2 => none
 | e1 :: rest_, i2 =>
  bif (e1.seq == i) then
   bif (a1f e1.publisher n_) then
    (some ((i2 : Nat) : Int))
   else
    a13 n_ i rest_ (i2 + 1)
  else
   a13 n_ i rest_ (i2 + 1)
def a14 (l : (List Publication)) (n_ : Name) (i : Int) : Int :=
 match a13 n_ i l 0 with
  | some r_ => r_
  | none =>
   (-1)
def a0o (m : Member) (n_ : Name) (i : Int) : (List UInt8) × Bool :=
 bif decide ((a1v m.publications n_ i) < 0) then
  (([] : List UInt8), false)
 else
  match (m.publications)[((a1v m.publications n_ i)).toNat]? with
   | none => default
   | some e1 =>
    (e1.content, true)
def a0g (m : Member) (n_ : Name) (i : Int) : (List UInt8) × Bool :=
 bif decide ((a14 m.publications n_ i) < 0) then
  (([]), false)
 else
  match (m.publications)[((a14 m.publications n_ i)).toNat]? with
   | none => default
   | some e1 =>
    (e1.content, true)
def a2v (a : Member) (p_ : Publication) : Bool :=
 bif (!((a0o a p_.publisher p_.seq).2)) then
  true
 else
  (!(slices_Equal_byte ((a0o a p_.publisher p_.seq).1) p_.content))
def a3k (a : Member) (b : Member) : Bool :=
 (!(slices_ContainsFunc_Publication b.publications (fun e0_ => (a2v a e0_))))
def a22 (b : Member) : List Publication → Option (Bool)
 | [] => none
 | e1 :: rest_ =>
  bif (!((a0g b e1.publisher e1.seq).2)) then
   (some false)
  else
   bif (!(a3d ((a0g b e1.publisher e1.seq).1) e1.content)) then
    (some false)
   else
    a22 b rest_
def a25 (a : Member) (b : Member) : Bool :=
 match a22 b a.publications with
  | some r_ => r_
  | none =>
   true
def a32 (a : Member) (b : Member) : Bool :=
 bif (a3s a.vector.entries b.vector.entries) then
  bif (a3k a b) then
   (a3k b a)
  else
   false
 else
  false
def a2w (a : Member) (b : Member) : Bool :=
 bif (a2c a.vector.entries b.vector.entries) then
  bif (a25 a b) then
   (a25 b a)
  else
   false
 else
  false
end Go.Stp

namespace Go.Proofs.YtolepebgdfdciaaGreat
open Go.Stp
set_option linter.unusedVariables false
set_option linter.unusedSimpArgs false
theorem f53 (w : World) (n : Nat) (hn : n + 0 ≤ 9) (m : Member) (K0 : Option Addr) (M0 : Nat) (N0 : RdSl (hp w) K0 M0 m.name.parts) (K1 : Option Addr) (M1 : Nat) (N1 : RdSl (hp w) K1 M1 m.vector.entries) (K2 : Option Addr) (M2 : Nat) (N2 : RdSl (hp w) K2 M2 m.publications) (v : StateVector) (pv : Option Addr) (cv : Nat) (N3 : RdSl (hp w) pv cv v.entries) (hokm : GoT.ok n m) (hokv : GoT.ok n v) :
 Does Tryz.prog 53 #[.agg #[.slice K0 ((m.name.parts).length) M0, .slice K1 ((m.vector.entries).length) M1, .slice K2 ((m.publications).length) M2], .agg #[.slice pv ((v.entries).length) cv]] w emp (Post w emp (fun x : GoT.X ((List TableEntry)) => (GoT.sh ((a10 m v) : (List TableEntry)) x).headD undef) (fun x => GoT.oa ((a10 m v) : (List TableEntry)) x) (GoT.ok n ((a10 m v) : (List TableEntry)))) := by
 have hbP := bd_pos n
 have hbB := bd_big (n := n) (by omega)
 refine WX.enter (tt := tt) (Γ := [(0, MF.rs .stb K0 M0 m.name.parts), (1, MF.rs .stb K1 M1 m.vector.entries), (2, MF.rs .stb K2 M2 m.publications), (3, MF.rs .stb pv cv v.entries)]) Tryz.func53 Z J Z (allS_cons Z N0 (allS_cons Z N1 (allS_cons Z N2 (allS_cons Z N3 allS_nil)))) ?_
 refine R0 ?_
 refine WX.callF 4 (fun _ _ h => GoT.ow_rd h) (fun _ f hf => GoT.fak f hf) Z Z Z Z Z O Z (fun w G bs hI hΓ => f129 w n (by omega) v pv cv (hΓ.get 3 Z) m.vector K1 M1 (hΓ.get 1 Z) hokv ((ok_Member hokm).2.1)) O O ?_
 rintro ⟨p1, c1⟩ hq1
 refine R0 ?_
 have hP1 : a10 m v = (a3g v m.vector) := by simp only [a10, ct, cf]
 refine R1 ?_
 intro w1 G bs hI hΓ
 rw [hP1]
 exact Post.of [5] (p1, c1) hI hΓ Z Z Z hq1
theorem f54 (w : World) (n : Nat) (hn : n + 0 ≤ 9) (m : Member) (K0 : Option Addr) (M0 : Nat) (N0 : RdSl (hp w) K0 M0 m.name.parts) (K1 : Option Addr) (M1 : Nat) (N1 : RdSl (hp w) K1 M1 m.vector.entries) (K2 : Option Addr) (M2 : Nat) (N2 : RdSl (hp w) K2 M2 m.publications) (v : StateVector) (pv : Option Addr) (cv : Nat) (N3 : RdSl (hp w) pv cv v.entries) (hokm : GoT.ok n m) (hokv : GoT.ok n v) :
 Does Tryz.prog 54 #[.agg #[.slice K0 ((m.name.parts).length) M0, .slice K1 ((m.vector.entries).length) M1, .slice K2 ((m.publications).length) M2], .agg #[.slice pv ((v.entries).length) cv]] w emp (Post w emp (fun x : GoT.X ((List TableEntry)) => (GoT.sh ((a0q m v) : (List TableEntry)) x).headD undef) (fun x => GoT.oa ((a0q m v) : (List TableEntry)) x) (GoT.ok n ((a0q m v) : (List TableEntry)))) := by
 have hbP := bd_pos n
 have hbB := bd_big (n := n) (by omega)
 refine WX.enter (tt := tt) (Γ := [(0, MF.rs .stb K0 M0 m.name.parts), (1, MF.rs .stb K1 M1 m.vector.entries), (2, MF.rs .stb K2 M2 m.publications), (3, MF.rs .stb pv cv v.entries)]) Tryz.func54 Z J Z (allS_cons Z N0 (allS_cons Z N1 (allS_cons Z N2 (allS_cons Z N3 allS_nil)))) ?_
 refine R0 ?_
 refine WX.callF 4 (fun _ _ h => GoT.ow_rd h) (fun _ f hf => GoT.fak f hf) Z Z Z Z Z O Z (fun w G bs hI hΓ => f130 w n (by omega) v pv cv (hΓ.get 3 Z) m.vector K1 M1 (hΓ.get 1 Z) hokv ((ok_Member hokm).2.1)) O O ?_
 rintro ⟨p1, c1⟩ hq1
 refine R0 ?_
 have hP1 : a0q m v = (a2l v m.vector) := by simp only [a0q, ct, cf]
 refine R1 ?_
 intro w1 G bs hI hΓ
 rw [hP1]
 exact Post.of [5] (p1, c1) hI hΓ Z Z Z hq1
theorem f200 (w : World) (n : Nat) (hn : n + 0 ≤ 9) (s1 : (List TableEntry)) (K0 : Option Addr) (M0 : Nat) (N0 : RdSl (hp w) K0 M0 s1) (s2 : (List TableEntry)) (K1 : Option Addr) (M1 : Nat) (N1 : RdSl (hp w) K1 M1 s2) (eqg : FuncId) (eqc : List Value) (eqq : TableEntry → TableEntry → Bool) (eqf : ∀ w1, Kp emp w w1 → ∀ (e0 : TableEntry) (x0 : GoT.X TableEntry), GoT.ok n e0 → All (hp w1) (GoT.fa .der e0 x0) → ∀ (e1 : TableEntry) (x1 : GoT.X TableEntry), GoT.ok n e1 → All (hp w1) (GoT.fa .der e1 x1) → Does Tryz.prog eqg ([Value.agg ⟨GoT.sh e0 x0⟩, Value.agg ⟨GoT.sh e1 x1⟩] ++ eqc).toArray w1 emp (fun rv _ => rv = .bool (eqq e0 e1) ∧ True)) (hoks1 : GoT.ok n s1) (hoks2 : GoT.ok n s2) :
 Does Tryz.prog 200 #[.slice K0 ((s1).length) M0, .slice K1 ((s2).length) M1, .func (.func eqg) #[] eqc.toArray] w emp (fun (rv : Value) (_ : World) => rv = .bool (slices_EqualFunc_TableEntry s1 s2 eqq) ∧ True) := by
 have hbP := bd_pos n
 have hbB := bd_big (n := n) (by omega)
 refine WX.enter (tt := tt) (Γ := [(0, MF.rs .stb K0 M0 s1), (1, MF.rs .stb K1 M1 s2)]) Tryz.func200 Z J Z (allS_cons Z N0 (allS_cons Z N1 allS_nil)) ?_
 refine R0 ?_
 refine WX.cases 14 Z (fun h1 => ?_) (fun h1 => ?_)
 ·skip
  have h1d := B.nt' h1
  refine R0 ?_
  have hP1 : slices_EqualFunc_TableEntry s1 s2 eqq = false := by simp only [slices_EqualFunc_TableEntry, h1, ct, cf]
  exact R3 hP1
 have h1d := B.nf' h1
 refine R0 ?_
 have r1 : (s1).length ≤ bd n := (okl hoks1).1
 refine WX.loop (ι := Nat) ⟨fun i => (i ≤ (s1).length) ∧ (slices_EqualFunc_TableEntry_L1 eqq s2 s1 0 = slices_EqualFunc_TableEntry_L1 eqq s2 ((s1).drop i) i), fun i => (s1).length - i, fun i => [(17, .v (.int .i64 (((i : Nat) : Int)))), (16, .v (.int .i64 ((((s1).length : Nat) : Int)))), (15, .v (.slice K0 ((s1).length) M0)), (1, .v (.slice K1 ((s2).length) M1)), (2, .v (.func (.func eqg) #[] eqc.toArray))], fun i => [], fun i => [], fun i => [(0, MF.rs .stb K0 M0 s1), (1, MF.rs .stb K1 M1 s2)]⟩ 0 ⟨(Nat.zero_le _), Z⟩
  (.cons Z (.cons Z (.cons Z (.cons Z (.cons Z (.nil)))))) .nil .nil [0, 1] Z ?_
 rintro i hpre
 have hpre_ : (i ≤ (s1).length) ∧ (slices_EqualFunc_TableEntry_L1 eqq s2 s1 0 = slices_EqualFunc_TableEntry_L1 eqq s2 ((s1).drop i) i) := hpre
 clear hpre
 obtain ⟨v1, v2⟩ := hpre_
 refine R0 ?_
 refine WX.cases 18 Z (fun h2 => ?_) (fun h2 => ?_)
 ·skip
  have h2d := B.dt h2
  have e1i : i < (s1).length := (by omega)
  obtain ⟨e1, e1h⟩ : ∃ e1, (s1)[i]? = some e1 := ⟨_, List.getElem?_eq_getElem e1i⟩
  have ok1 : GoT.ok n e1 := (okl hoks1).2 _ (List.mem_of_getElem? e1h)
  refine R0 ?_
  refine WX.idx 0 i ttOk Z Z Z Z Z Z Z Z Z Z e1i ?_
  rintro ad1 rfl
  refine WX.ldE 0 2 e1 ttOk Z Z Z Z Z Z Z Z e1h O O ?_
  rintro ⟨⟨p1, c1⟩, ⟨⟩⟩
  refine R0 ?_
  have e2i : i < (s2).length := (by first | assumption | omega)
  obtain ⟨e2, e2h⟩ : ∃ e2, (s2)[i]? = some e2 := ⟨_, List.getElem?_eq_getElem e2i⟩
  have ok2 : GoT.ok n e2 := (okl hoks2).2 _ (List.mem_of_getElem? e2h)
  refine WX.idx 1 i ttOk Z Z Z Z Z Z Z Z Z Z e2i ?_
  rintro ad2 rfl
  refine WX.ldE 1 3 e2 ttOk Z Z Z Z Z Z Z Z e2h O O ?_
  rintro ⟨⟨p2, c2⟩, ⟨⟩⟩
  refine R0 ?_
  refine WX.callV Z Z Z Z Z O Z (fun w G bs hI hΓ => eqf w hI.keep e1 ((p1, c1), ()) ok1 (All.cons (hΓ.get 2 Z : RdSl _ _ _ _) All.nil) e2 ((p2, c2), ()) ok2 (All.cons (hΓ.get 3 Z : RdSl _ _ _ _) All.nil)) ?_
  intro hq1
  refine R0 ?_
  refine WX.cases 30 Z (fun h3 => ?_) (fun h3 => ?_)
  ·skip
   have h3d := (B.nt h3)
   refine R0 ?_
   have hP2 : slices_EqualFunc_TableEntry_L1 eqq s2 s1 0 = (some false) := by rw [v2, drop_get e1h]; simp only [slices_EqualFunc_TableEntry_L1, e2h, h3, ct, cf]
   have hP3 : slices_EqualFunc_TableEntry s1 s2 eqq = false := by simp only [slices_EqualFunc_TableEntry, h1, hP2, ct, cf]
   exact R3 hP3
  have h3d := (B.nf h3)
  refine R0 ?_
  refine WX.see Z Z Z (fun _ hΓ => looks_arith Z Z Z Z (by unfold I64; first | omega | (simp only [List.length_take] at *; omega))) ?_
  refine R0 ?_
  exact WX.iter (i + 1) ⟨(by omega), (by rw [v2, drop_get e1h]; simp only [slices_EqualFunc_TableEntry_L1, e2h, h3, ct, cf])⟩ (by first | (dsimp only; omega) | omega) (.cons Z (.cons Z (.cons Z (.cons Z (.cons Z (.nil)))))) .nil .nil [0, 1] Z
 have h2d := B.df h2
 refine R0 ?_
 have hX1 : slices_EqualFunc_TableEntry_L1 eqq s2 s1 0 = none := by rw [v2, List.drop_eq_nil_of_le (show (s1).length ≤ i by omega)]; simp only [slices_EqualFunc_TableEntry_L1, ct, cf]
 have hP4 : slices_EqualFunc_TableEntry s1 s2 eqq = true := by simp only [slices_EqualFunc_TableEntry, h1, hX1, ct, cf]
 exact R3 hP4
theorem f201 (w : World) (n : Nat) (hn : n + 0 ≤ 9) (x_ : TableEntry) (K0 : Option Addr) (M0 : Nat) (N0 : RdSl (hp w) K0 M0 x_.name.parts) (y : TableEntry) (K1 : Option Addr) (M1 : Nat) (N1 : RdSl (hp w) K1 M1 y.name.parts) (hokx_ : GoT.ok n x_) (hoky : GoT.ok n y) :
 Does Tryz.prog 201 #[.agg #[.slice K0 ((x_.name.parts).length) M0, .int .i64 (x_.value)], .agg #[.slice K1 ((y.name.parts).length) M1, .int .i64 (y.value)]] w emp (fun (rv : Value) (_ : World) => rv = .bool (a3a x_ y) ∧ True) := by
 have hbP := bd_pos n
 have hbB := bd_big (n := n) (by omega)
 refine WX.enter (tt := tt) (Γ := [(0, MF.rs .stb K0 M0 x_.name.parts), (1, MF.rs .stb K1 M1 y.name.parts)]) Tryz.func201 Z J Z (allS_cons Z N0 (allS_cons Z N1 allS_nil)) ?_
 refine R0 ?_
 refine WX.callV Z Z Z Z Z O Z (fun w G bs hI hΓ => f94 w n (by omega) x_.name K0 M0 (hΓ.get 0 Z) y.name K1 M1 (hΓ.get 1 Z) ((ok_TableEntry hokx_).1) ((ok_TableEntry hoky).1)) ?_
 intro hq1
 refine R0 ?_
 refine WX.cases 10 Z (fun h1 => ?_) (fun h1 => ?_)
 ·skip
  refine R0 ?_
  have hP1 : a3a x_ y = (x_.value == y.value) := by simp only [a3a, h1, ct, cf]
  exact R3 hP1
 refine R0 ?_
 have hP2 : a3a x_ y = false := by simp only [a3a, h1, ct, cf]
 exact R3 hP2
theorem f125 (w : World) (n : Nat) (hn : n + 0 ≤ 9) (a : (List TableEntry)) (pa : Option Addr) (ca : Nat) (N0 : RdSl (hp w) pa ca a) (b : (List TableEntry)) (pb : Option Addr) (cb : Nat) (N1 : RdSl (hp w) pb cb b) (hoka : GoT.ok n a) (hokb : GoT.ok n b) :
 Does Tryz.prog 125 #[.slice pa ((a).length) ca, .slice pb ((b).length) cb] w emp (fun (rv : Value) (_ : World) => rv = .bool (a3s a b) ∧ True) := by
 have hbP := bd_pos n
 have hbB := bd_big (n := n) (by omega)
 refine WX.enter (tt := tt) (Γ := [(0, MF.rs .stb pa ca a), (1, MF.rs .stb pb cb b)]) Tryz.func125 Z J Z (allS_cons Z N0 (allS_cons Z N1 allS_nil)) ?_
 refine R0 ?_
 refine WX.callV Z Z Z Z Z O Z (fun w G bs hI hΓ => f200 w n (by omega) a pa ca (hΓ.get 0 Z) b pb cb (hΓ.get 1 Z) 201 [] (fun e0_ e1_ => (a3a e0_ e1_)) (fun w1_ hb_ e0_ x0_ hk0_ hx0_ e1_ x1_ hk1_ hx1_ => f201 w1_ n (by omega) e0_ x0_.1.1 x0_.1.2 (hx0_ _ List.mem_cons_self) e1_ x1_.1.1 x1_.1.2 (hx1_ _ List.mem_cons_self) hk0_ hk1_) hoka hokb) ?_
 intro hq1
 refine R0 ?_
 have hP1 : a3s a b = (slices_EqualFunc_TableEntry a b (fun e0_ e1_ => (a3a e0_ e1_))) := by simp only [a3s, ct, cf]
 exact R3 hP1
theorem f127 (w : World) (n : Nat) (hn : n + 0 ≤ 9) (a : (List TableEntry)) (pa : Option Addr) (ca : Nat) (N0 : RdSl (hp w) pa ca a) (b : (List TableEntry)) (pb : Option Addr) (cb : Nat) (N1 : RdSl (hp w) pb cb b) (hoka : GoT.ok n a) (hokb : GoT.ok n b) :
 Does Tryz.prog 127 #[.slice pa ((a).length) ca, .slice pb ((b).length) cb] w emp (fun (rv : Value) (_ : World) => rv = .bool (a2c a b) ∧ True) := by
 have hbP := bd_pos n
 have hbB := bd_big (n := n) (by omega)
 refine WX.enter (tt := tt) (Γ := [(0, MF.rs .stb pa ca a), (1, MF.rs .stb pb cb b)]) Tryz.func127 Z J Z (allS_cons Z N0 (allS_cons Z N1 allS_nil)) ?_
 refine R0 ?_
 refine WX.cases 10 Z (fun h1 => ?_) (fun h1 => ?_)
 ·skip
  have h1d := B.nt' h1
  refine R0 ?_
  have hP1 : a2c a b = false := by simp only [a2c, h1, ct, cf]
  exact R3 hP1
 have h1d := B.nf' h1
 refine R0 ?_
 have r1 : (a).length ≤ bd n := (okl hoka).1
 refine WX.loop (ι := Nat) ⟨fun i => (i ≤ (a).length) ∧ (a1z b a 0 = a1z b ((a).drop i) i), fun i => (a).length - i, fun i => [(5, .v (.int .i64 (((i : Nat) : Int)))), (0, .v (.slice pa ((a).length) ca)), (1, .v (.slice pb ((b).length) cb))], fun i => [], fun i => [], fun i => [(0, MF.rs .stb pa ca a), (1, MF.rs .stb pb cb b)]⟩ 0 ⟨(Nat.zero_le _), Z⟩
  (.cons Z (.cons Z (.cons Z (.nil)))) .nil .nil [0, 1] Z ?_
 rintro i hpre
 have hpre_ : (i ≤ (a).length) ∧ (a1z b a 0 = a1z b ((a).drop i) i) := hpre
 clear hpre
 obtain ⟨v1, v2⟩ := hpre_
 refine R0 ?_
 refine WX.cases 14 Z (fun h2 => ?_) (fun h2 => ?_)
 ·skip
  have h2d := B.dt h2
  have e1i : i < (a).length := (by omega)
  obtain ⟨e1, e1h⟩ : ∃ e1, (a)[i]? = some e1 := ⟨_, List.getElem?_eq_getElem e1i⟩
  have ok1 : GoT.ok n e1 := (okl hoka).2 _ (List.mem_of_getElem? e1h)
  refine R0 ?_
  refine WX.draw [] mixed ?_
  intro bs G0 hΓ0
  refine DX.takes (fuel := 23) ttOk [(0, true), (1, true)] J Z ?_
  refine DX.idx 2 0 i ttOk hΓ0 J Z Z Z Z Z Z Z Z Z Z Z e1i ?_
  rintro ad1 rfl
  refine DX.takes (fuel := 21) ttOk [(3, true)] J Z ?_
  refine DX.ldE 4 0 2 e1 ttOk hΓ0 J Z Z Z Z Z Z Z Z e1h O O ?_
  rintro ⟨⟨p1, c1⟩, ⟨⟩⟩
  refine DX.takes (fuel := 18) ttOk [(5, true), (6, true)] J Z ?_
  have e2i : i < (b).length := (by first | assumption | omega)
  obtain ⟨e2, e2h⟩ : ∃ e2, (b)[i]? = some e2 := ⟨_, List.getElem?_eq_getElem e2i⟩
  have ok2 : GoT.ok n e2 := (okl hokb).2 _ (List.mem_of_getElem? e2h)
  refine DX.idx 7 1 i ttOk hΓ0 J Z Z Z Z Z Z Z Z Z Z Z e2i ?_
  rintro ad2 rfl
  refine DX.takes (fuel := 16) ttOk [(8, true)] J Z ?_
  refine DX.ldE 9 1 3 e2 ttOk hΓ0 J Z Z Z Z Z Z Z Z e2h O O ?_
  rintro ⟨⟨p2, c2⟩, ⟨⟩⟩
  refine DX.takes (fuel := 13) ttOk [(10, true), (11, true)] J Z ?_
  refine DX.cases 28 Z (fun h3 => ?_) (fun h3 => ?_)
  ·skip
   have h3d := B.nt' h3
   refine DX.takes (fuel := 0) ttOk [(12, true), (13, true), (14, true), (15, true), (16, true), (17, true), (18, true), (19, true), (20, true), (21, true), (22, true), (23, true), (24, true)] J Z ?_
   refine DX.tail2 [] Z Z J ?_
   refine R0 ?_
   have hP2 : a1z b a 0 = (some false) := by rw [v2, drop_get e1h]; simp only [a1z, e2h, h3, ct, cf]
   have hP3 : a2c a b = false := by simp only [a2c, h1, hP2, ct, cf]
   exact R3 hP3
  have h3d := B.nf' h3
  refine DX.takes (fuel := 11) ttOk [(12, true), (13, true)] J Z ?_
  refine DX.idx 14 0 i ttOk hΓ0 J Z Z Z Z Z Z Z Z Z Z Z e1i ?_
  rintro ad3 ⟨⟩
  refine DX.takes (fuel := 9) ttOk [(15, true)] J Z ?_
  refine DX.ldE 16 0 4 e1 ttOk hΓ0 J Z Z Z Z Z Z Z Z e1h O O ?_
  rintro ⟨⟨p3, c3⟩, ⟨⟩⟩
  refine DX.takes (fuel := 6) ttOk [(17, true), (18, true)] J Z ?_
  refine DX.idx 19 1 i ttOk hΓ0 J Z Z Z Z Z Z Z Z Z Z Z e2i ?_
  rintro ad4 ⟨⟩
  refine DX.takes (fuel := 4) ttOk [(20, true)] J Z ?_
  refine DX.ldE 21 1 5 e2 ttOk hΓ0 J Z Z Z Z Z Z Z Z e2h O O ?_
  rintro ⟨⟨p4, c4⟩, ⟨⟩⟩
  refine DX.callV 22 Z J Z Z Z Z Z Z O Z (fun w G bs hI hΓ => f146 w n (by omega) e1.name p3 c3 (hΓ.get 4 Z) e2.name p4 c4 (hΓ.get 5 Z) ((ok_TableEntry ok1).1) ((ok_TableEntry ok2).1)) ?_
  intro hq1
  refine DX.takes (fuel := 0) ttOk [(23, true), (24, true)] J Z ?_
  refine DX.tail2 [] Z Z J ?_
  refine R0 ?_
  refine WX.cases 41 Z (fun h4 => ?_) (fun h4 => ?_)
  ·skip
   have h4d := (B.nt h4)
   refine R0 ?_
   have hP4 : a1z b a 0 = (some false) := by rw [v2, drop_get e1h]; simp only [a1z, e2h, h3, h4, ct, cf]
   have hP5 : a2c a b = false := by simp only [a2c, h1, hP4, ct, cf]
   exact R3 hP5
  have h4d := (B.nf h4)
  refine R0 ?_
  refine WX.see Z Z Z (fun _ hΓ => looks_arith Z Z Z Z (by unfold I64; first | omega | (simp only [List.length_take] at *; omega))) ?_
  refine R0 ?_
  exact WX.iter (i + 1) ⟨(by omega), (by rw [v2, drop_get e1h]; simp only [a1z, e2h, h3, h4, ct, cf])⟩ (by first | (dsimp only; omega) | omega) (.cons Z (.cons Z (.cons Z (.nil)))) .nil .nil [0, 1] Z
 have h2d := B.df h2
 refine R0 ?_
 have hX1 : a1z b a 0 = none := by rw [v2, List.drop_eq_nil_of_le (show (a).length ≤ i by omega)]; simp only [a1z, ct, cf]
 have hP6 : a2c a b = true := by simp only [a2c, h1, hX1, ct, cf]
 exact R3 hP6
theorem f195 (w : World) (n : Nat) (hn : n + 0 ≤ 9) (s : (List Publication)) (ps : Option Addr) (cs : Nat) (N0 : RdSl (hp w) ps cs s) (fg : FuncId) (fc : List Value) (fq : Publication → Bool) (ff : ∀ w1, Kp emp w w1 → ∀ (e0 : Publication) (x0 : GoT.X Publication), GoT.ok n e0 → All (hp w1) (GoT.fa .der e0 x0) → Does Tryz.prog fg ([Value.agg ⟨GoT.sh e0 x0⟩] ++ fc).toArray w1 emp (fun rv _ => rv = .bool (fq e0) ∧ True)) (hoks : GoT.ok n s) :
 Does Tryz.prog 195 #[.slice ps ((s).length) cs, .func (.func fg) #[] fc.toArray] w emp (fun (rv : Value) (_ : World) => rv = .int .i64 ((slices_IndexFunc_Publication s fq)) ∧ GoT.ok n ((slices_IndexFunc_Publication s fq) : Int)) := by
 have hbP := bd_pos n
 have hbB := bd_big (n := n) (by omega)
 refine WX.enter (tt := tt) (Γ := [(0, MF.rs .stb ps cs s)]) Tryz.func195 Z J Z (allS_cons Z N0 allS_nil) ?_
 refine R0 ?_
 have r1 : (s).length ≤ bd n := (okl hoks).1
 refine WX.loop (ι := Nat) ⟨fun i => (i ≤ (s).length) ∧ (slices_IndexFunc_Publication_L1 fq s 0 = slices_IndexFunc_Publication_L1 fq ((s).drop i) i), fun i => (s).length - i, fun i => [(8, .v (.int .i64 (((i : Nat) : Int)))), (7, .v (.int .i64 ((((s).length : Nat) : Int)))), (0, .v (.slice ps ((s).length) cs)), (1, .v (.func (.func fg) #[] fc.toArray))], fun i => [], fun i => [], fun i => [(0, MF.rs .stb ps cs s)]⟩ 0 ⟨(Nat.zero_le _), Z⟩
  (.cons Z (.cons Z (.cons Z (.cons Z (.nil))))) .nil .nil [0] Z ?_
 rintro i hpre
 have hpre_ : (i ≤ (s).length) ∧ (slices_IndexFunc_Publication_L1 fq s 0 = slices_IndexFunc_Publication_L1 fq ((s).drop i) i) := hpre
 clear hpre
 obtain ⟨v1, v2⟩ := hpre_
 refine R0 ?_
 refine WX.cases 9 Z (fun h1 => ?_) (fun h1 => ?_)
 ·skip
  have h1d := B.dt h1
  have e1i : i < (s).length := (by omega)
  obtain ⟨e1, e1h⟩ : ∃ e1, (s)[i]? = some e1 := ⟨_, List.getElem?_eq_getElem e1i⟩
  have ok1 : GoT.ok n e1 := (okl hoks).2 _ (List.mem_of_getElem? e1h)
  refine R0 ?_
  refine WX.idx 0 i ttOk Z Z Z Z Z Z Z Z Z Z e1i ?_
  rintro ad1 rfl
  refine WX.ldE 0 1 e1 ttOk Z Z Z Z Z Z Z Z e1h O O ?_
  rintro ⟨⟨p1, c1⟩, ⟨⟩, ⟨p2, c2⟩⟩
  refine WX.callV Z Z Z Z Z O Z (fun w G bs hI hΓ => ff w hI.keep e1 ((p1, c1), (), (p2, c2)) ok1 (All.cons (hΓ.get 1 Z : RdSl _ _ _ _) (All.cons (hΓ.get 2 Z : RdSl _ _ _ _) All.nil))) ?_
  intro hq1
  refine R0 ?_
  refine WX.cases 16 Z (fun h2 => ?_) (fun h2 => ?_)
  ·skip
   refine R0 ?_
   have hP1 : slices_IndexFunc_Publication_L1 fq s 0 = (some ((i : Nat) : Int)) := by rw [v2, drop_get e1h]; simp only [slices_IndexFunc_Publication_L1, h2, ct, cf]
   have hP2 : slices_IndexFunc_Publication s fq = ((i : Nat) : Int) := by simp only [slices_IndexFunc_Publication, hP1, ct, cf]
   refine R1 ?_
   intro w1 G bs hI hΓ
   rw [hP2]
   exact ⟨Z, (show I64 ((i : Nat) : Int) from (by unfold I64; omega))⟩
  refine R0 ?_
  refine WX.see Z Z Z (fun _ hΓ => looks_arith Z Z Z Z (by unfold I64; first | omega | (simp only [List.length_take] at *; omega))) ?_
  refine R0 ?_
  exact WX.iter (i + 1) ⟨(by omega), (by rw [v2, drop_get e1h]; simp only [slices_IndexFunc_Publication_L1, h2, ct, cf])⟩ (by first | (dsimp only; omega) | omega) (.cons Z (.cons Z (.cons Z (.cons Z (.nil))))) .nil .nil [0] Z
 have h1d := B.df h1
 refine R0 ?_
 have hX1 : slices_IndexFunc_Publication_L1 fq s 0 = none := by rw [v2, List.drop_eq_nil_of_le (show (s).length ≤ i by omega)]; simp only [slices_IndexFunc_Publication_L1, ct, cf]
 have hP3 : slices_IndexFunc_Publication s fq = (-1) := by simp only [slices_IndexFunc_Publication, hX1, ct, cf]
 refine R1 ?_
 intro w1 G bs hI hΓ
 rw [hP3]
 exact ⟨Z, (show I64 (-1) from (by unfold I64; omega))⟩
theorem ltL_slices_IndexFunc_Publication : ∀ (f : Publication → Bool) (l : List Publication) (i : Nat) (j : Int), slices_IndexFunc_Publication_L1 f l i = some j → j < ((i + l.length : Nat) : Int)
 | f, [], i, j, h => by cases h
 | f, x :: l, i, j, h => by
  simp only [slices_IndexFunc_Publication_L1] at h
  cases hx : f x
  ·rw [hx, cond_false] at h
   have := ltL_slices_IndexFunc_Publication f l (i + 1) j h
   simp only [List.length_cons]; omega
  ·rw [hx, cond_true] at h
   cases h
   simp only [List.length_cons]; omega
theorem ltI_slices_IndexFunc_Publication (l : List Publication) (f : Publication → Bool) : slices_IndexFunc_Publication l f < ((l.length : Nat) : Int) := by
 unfold slices_IndexFunc_Publication
 cases h : slices_IndexFunc_Publication_L1 f l 0 with
 | none => show (-1 : Int) < _; omega
 | some j => have := ltL_slices_IndexFunc_Publication f l 0 j h; show j < _; omega
theorem f202 (w : World) (n : Nat) (hn : n + 0 ≤ 9) (s : (List Publication)) (ps : Option Addr) (cs : Nat) (N0 : RdSl (hp w) ps cs s) (fg : FuncId) (fc : List Value) (fq : Publication → Bool) (ff : ∀ w1, Kp emp w w1 → ∀ (e0 : Publication) (x0 : GoT.X Publication), GoT.ok n e0 → All (hp w1) (GoT.fa .der e0 x0) → Does Tryz.prog fg ([Value.agg ⟨GoT.sh e0 x0⟩] ++ fc).toArray w1 emp (fun rv _ => rv = .bool (fq e0) ∧ True)) (hoks : GoT.ok n s) :
 Does Tryz.prog 202 #[.slice ps ((s).length) cs, .func (.func fg) #[] fc.toArray] w emp (fun (rv : Value) (_ : World) => rv = .bool (slices_ContainsFunc_Publication s fq) ∧ True) := by
 have hbP := bd_pos n
 have hbB := bd_big (n := n) (by omega)
 refine WX.enter (tt := tt) (Γ := [(0, MF.rs .stb ps cs s)]) Tryz.func202 Z J Z (allS_cons Z N0 allS_nil) ?_
 refine R0 ?_
 refine WX.callV Z Z Z Z Z O Z (fun w G bs hI hΓ => f195 w n (by omega) s ps cs (hΓ.get 0 Z) fg fc fq (fun w1_ hb_ => ff w1_ (hI.keep.trans hb_)) hoks) ?_
 intro hq1
 have q1 := ltI_slices_IndexFunc_Publication s fq
 refine R0 ?_
 have hP1 : slices_ContainsFunc_Publication s fq = (decide ((slices_IndexFunc_Publication s fq) ≥ 0)) := by simp only [slices_ContainsFunc_Publication, ct, cf]
 exact R3 hP1
theorem f196 (w : World) (n : Nat) (hn : n + 0 ≤ 9) (p_ : Publication) (K0 : Option Addr) (M0 : Nat) (N0 : RdSl (hp w) K0 M0 p_.publisher.parts) (K1 : Option Addr) (M1 : Nat) (N1 : RdSl (hp w) K1 M1 p_.content) (i : Int) (bi : Addr) (hi : RdSl (hp w) (some bi) 1 [i]) (n_ : Name) (bn_ : Addr) (hn_ : RdSl (hp w) (some bn_) 1 [n_]) (hokp_ : GoT.ok n p_) (hoki : GoT.ok n i) (hokn_ : GoT.ok n n_) :
 Does Tryz.prog 196 #[.agg #[.slice K0 ((p_.publisher.parts).length) M0, .int .i64 (p_.seq), .slice K1 ((p_.content).length) M1], .pointer (some bi), .pointer (some bn_)] w emp (fun (rv : Value) (_ : World) => rv = .bool (a2u i n_ p_) ∧ True) := by
 have hbP := bd_pos n
 have hbB := bd_big (n := n) (by omega)
 refine WX.enter (tt := tt) (Γ := [(0, MF.rs .stb K0 M0 p_.publisher.parts), (1, MF.rs .stb K1 M1 p_.content), (2, MF.rs .stb (some bi) 1 ([i])), (3, MF.rs .stb (some bn_) 1 ([n_]))]) Tryz.func196 Z J Z (allS_cons Z N0 (allS_cons Z N1 (allS_cons Z hi (allS_cons Z hn_ allS_nil)))) ?_
 have ih : ([i] : List Int)[0]? = some i := rfl
 refine WX.slot 1 (y := .e (some bi) 0 1 0) Z (fun _ => cap_eq) ?_
 have n_h : ([n_] : List Name)[0]? = some n_ := rfl
 refine WX.slot 2 (y := .e (some bn_) 0 1 0) Z (fun _ => cap_eq) ?_
 refine R0 ?_
 refine WX.ldE 2 4 i ttOk Z Z Z Z Z Z Z Z ih O O ?_
 rintro ⟨⟩
 refine R0 ?_
 refine WX.cases 9 Z (fun h1 => ?_) (fun h1 => ?_)
 ·skip
  have h1d := B.et h1
  refine R0 ?_
  refine WX.ldE 3 4 n_ ttOk Z Z Z Z Z Z Z Z n_h O O ?_
  rintro ⟨p1, c1⟩
  refine WX.callV Z Z Z Z Z O Z (fun w G bs hI hΓ => f94 w n (by omega) p_.publisher K0 M0 (hΓ.get 0 Z) n_ p1 c1 (hΓ.get 4 Z) ((ok_Publication hokp_).1) hokn_) ?_
  intro hq1
  refine R0 ?_
  have hP1 : a2u i n_ p_ = (a37 p_.publisher n_) := by simp only [a2u, h1, ct, cf]
  exact R3 hP1
 have h1d := B.ef h1
 refine R0 ?_
 have hP2 : a2u i n_ p_ = false := by simp only [a2u, h1, ct, cf]
 exact R3 hP2
theorem f120 (w : World) (n : Nat) (hn : n + 0 ≤ 9) (l : (List Publication)) (pl : Option Addr) (cl : Nat) (N0 : RdSl (hp w) pl cl l) (n_ : Name) (K1 : Option Addr) (M1 : Nat) (N1 : RdSl (hp w) K1 M1 n_.parts) (i : Int) (hokl : GoT.ok n l) (hokn_ : GoT.ok n n_) (hoki : GoT.ok n i) :
 Does Tryz.prog 120 #[.slice pl ((l).length) cl, .agg #[.slice K1 ((n_.parts).length) M1], .int .i64 (i)] w emp (fun (rv : Value) (_ : World) => rv = .int .i64 ((a1v l n_ i)) ∧ GoT.ok n ((a1v l n_ i) : Int)) := by
 have hbP := bd_pos n
 have hbB := bd_big (n := n) (by omega)
 refine WX.enter (tt := tt) (Γ := [(0, MF.rs .stb pl cl l), (1, MF.rs .stb K1 M1 n_.parts)]) Tryz.func120 Z J Z (allS_cons Z N0 (allS_cons Z N1 allS_nil)) ?_
 refine R0 ?_
 refine WX.callV Z Z Z Z Z O Z (fun w G bs hI hΓ => f195 w n (by omega) l pl cl (hΓ.get 0 Z) 196 [Value.pointer (some ⟨bs 5, 0, none⟩), Value.pointer (some ⟨bs 4, 0, none⟩)] (fun e0_ => (a2u i n_ e0_)) (fun w1_ hb_ e0_ x0_ hk0_ hx0_ => f196 w1_ n (by omega) e0_ x0_.1.1 x0_.1.2 (hx0_ _ List.mem_cons_self) x0_.2.2.1 x0_.2.2.2 (hx0_ (MF.rs .der x0_.2.2.1 x0_.2.2.2 e0_.content) (by simp [GoT.fa])) i ⟨bs 5, 0, none⟩ ((rd_box (α := Int) (a := i) (x := ()) (hI.loc 5 _ Z).1 All.nil).mono (kp_le hb_)) n_ ⟨bs 4, 0, none⟩ ((rd_box (α := Name) (a := n_) (x := (K1, M1)) (hI.loc 4 _ Z).1 (All.cons (hΓ.get 1 Z : RdSl _ _ _ _) All.nil)).mono (kp_le hb_)) hk0_ hoki hokn_) hokl) ?_
 intro hq1
 have q1 := ltI_slices_IndexFunc_Publication l (fun e0_ => (a2u i n_ e0_))
 refine R0 ?_
 have hP1 : a1v l n_ i = (slices_IndexFunc_Publication l (fun e0_ => (a2u i n_ e0_))) := by simp only [a1v, ct, cf]
 refine R1 ?_
 intro w1 G bs hI hΓ
 rw [hP1]
 exact ⟨Z, hq1⟩
theorem f121 (w : World) (n : Nat) (hn : n + 0 ≤ 9) (l : (List Publication)) (pl : Option Addr) (cl : Nat) (N0 : RdSl (hp w) pl cl l) (n_ : Name) (K1 : Option Addr) (M1 : Nat) (N1 : RdSl (hp w) K1 M1 n_.parts) (i : Int) (hokl : GoT.ok n l) (hokn_ : GoT.ok n n_) (hoki : GoT.ok n i) :
 Does Tryz.prog 121 #[.slice pl ((l).length) cl, .agg #[.slice K1 ((n_.parts).length) M1], .int .i64 (i)] w emp (fun (rv : Value) (_ : World) => rv = .int .i64 ((a14 l n_ i)) ∧ GoT.ok n ((a14 l n_ i) : Int)) := by
 have hbP := bd_pos n
 have hbB := bd_big (n := n) (by omega)
 refine WX.enter (tt := tt) (Γ := [(0, MF.rs .stb pl cl l), (1, MF.rs .stb K1 M1 n_.parts)]) Tryz.func121 Z J Z (allS_cons Z N0 (allS_cons Z N1 allS_nil)) ?_
 refine R0 ?_
 have r1 : (l).length ≤ bd n := (okl hokl).1
 refine WX.loop (ι := Nat) ⟨fun i2 => (i2 ≤ (l).length) ∧ (a13 n_ i l 0 = a13 n_ i ((l).drop i2) i2), fun i2 => (l).length - i2, fun i2 => [(7, .v (.int .i64 (((i2 : Nat) : Int)))), (4, .p 4 0), (0, .v (.slice pl ((l).length) cl)), (2, .v (.int .i64 (i)))], fun i2 => [(4, ⟨30, [.slice K1 ((n_.parts).length) M1]⟩)], fun i2 => [], fun i2 => [(0, MF.rs .stb pl cl l), (1, MF.rs .stb K1 M1 n_.parts)]⟩ 0 ⟨(Nat.zero_le _), Z⟩
  (.cons Z (.cons Z (.cons Z (.cons Z (.nil))))) (.cons Z (.nil)) .nil [0, 1] Z ?_
 rintro i2 hpre
 have hpre_ : (i2 ≤ (l).length) ∧ (a13 n_ i l 0 = a13 n_ i ((l).drop i2) i2) := hpre
 clear hpre
 obtain ⟨v1, v2⟩ := hpre_
 refine R0 ?_
 refine WX.cases 11 Z (fun h1 => ?_) (fun h1 => ?_)
 ·skip
  have h1d := B.dt h1
  have e1i : i2 < (l).length := (by omega)
  obtain ⟨e1, e1h⟩ : ∃ e1, (l)[i2]? = some e1 := ⟨_, List.getElem?_eq_getElem e1i⟩
  have ok1 : GoT.ok n e1 := (okl hokl).2 _ (List.mem_of_getElem? e1h)
  refine R0 ?_
  refine WX.draw [] mixed ?_
  intro bs G0 hΓ0
  refine DX.takes (fuel := 14) ttOk [(0, true), (1, true)] J Z ?_
  refine DX.idx 2 0 i2 ttOk hΓ0 J Z Z Z Z Z Z Z Z Z Z Z e1i ?_
  rintro ad1 rfl
  refine DX.takes (fuel := 12) ttOk [(3, true)] J Z ?_
  refine DX.ldE 4 0 2 e1 ttOk hΓ0 J Z Z Z Z Z Z Z Z e1h O O ?_
  rintro ⟨⟨p1, c1⟩, ⟨⟩, ⟨p2, c2⟩⟩
  refine DX.takes (fuel := 8) ttOk [(5, true), (6, true), (7, true)] J Z ?_
  refine DX.cases 21 Z (fun h2 => ?_) (fun h2 => ?_)
  ·skip
   have h2d := B.et h2
   refine DX.takes (fuel := 6) ttOk [(8, true), (9, true)] J Z ?_
   refine DX.idx 10 0 i2 ttOk hΓ0 J Z Z Z Z Z Z Z Z Z Z Z e1i ?_
   rintro ad2 ⟨⟩
   refine DX.takes (fuel := 4) ttOk [(11, true)] J Z ?_
   refine DX.ldE 12 0 4 e1 ttOk hΓ0 J Z Z Z Z Z Z Z Z e1h O O ?_
   rintro ⟨⟨p3, c3⟩, ⟨⟩, ⟨p4, c4⟩⟩
   refine DX.takes (fuel := 2) ttOk [(13, false)] J Z ?_
   refine DX.callV 14 Z J Z Z Z Z Z Z O Z (fun w G bs hI hΓ => f146 w n (by omega) e1.publisher p3 c3 (hΓ.get 4 Z) n_ K1 M1 (hΓ.get 1 Z) ((ok_Publication ok1).1) hokn_) ?_
   intro hq1
   refine DX.takes (fuel := 0) ttOk [(15, true)] J Z ?_
   refine DX.tail2 [] Z Z J ?_
   refine R0 ?_
   refine WX.cases 29 Z (fun h3 => ?_) (fun h3 => ?_)
   ·skip
    refine R0 ?_
    have hP1 : a13 n_ i l 0 = (some ((i2 : Nat) : Int)) := by rw [v2, drop_get e1h]; simp only [a13, h2, h3, ct, cf]
    have hP2 : a14 l n_ i = ((i2 : Nat) : Int) := by simp only [a14, hP1, ct, cf]
    refine R1 ?_
    intro w1 G bs hI hΓ
    rw [hP2]
    exact ⟨Z, (show I64 ((i2 : Nat) : Int) from (by unfold I64; omega))⟩
   refine R0 ?_
   refine WX.see Z Z Z (fun _ hΓ => looks_arith Z Z Z Z (by unfold I64; first | omega | (simp only [List.length_take] at *; omega))) ?_
   refine R0 ?_
   exact WX.iter (i2 + 1) ⟨(by omega), (by rw [v2, drop_get e1h]; simp only [a13, h2, h3, ct, cf])⟩ (by first | (dsimp only; omega) | omega) (.cons Z (.cons Z (.cons Z (.cons Z (.nil))))) (.cons Z (.nil)) .nil [0, 1] Z
  have h2d := B.ef h2
  refine DX.takes (fuel := 0) ttOk [(8, true), (9, true), (10, true), (11, true), (12, true), (13, true), (14, true), (15, true)] J Z ?_
  refine DX.tail2 [] Z Z J ?_
  refine R0 ?_
  refine WX.see Z Z Z (fun _ hΓ => looks_arith Z Z Z Z (by unfold I64; first | omega | (simp only [List.length_take] at *; omega))) ?_
  refine R0 ?_
  exact WX.iter (i2 + 1) ⟨(by omega), (by rw [v2, drop_get e1h]; simp only [a13, h2, ct, cf])⟩ (by first | (dsimp only; omega) | omega) (.cons Z (.cons Z (.cons Z (.cons Z (.nil))))) (.cons Z (.nil)) .nil [0, 1] Z
 have h1d := B.df h1
 refine R0 ?_
 have hX1 : a13 n_ i l 0 = none := by rw [v2, List.drop_eq_nil_of_le (show (l).length ≤ i2 by omega)]; simp only [a13, ct, cf]
 have hP3 : a14 l n_ i = (-1) := by simp only [a14, hX1, ct, cf]
 refine R1 ?_
 intro w1 G bs hI hΓ
 rw [hP3]
 exact ⟨Z, (show I64 (-1) from (by unfold I64; omega))⟩
theorem lt_iFP : ∀ (f : Publication → Bool) (l : List Publication) (i : Nat) (j : Int), slices_IndexFunc_Publication_L1 f l i = some j → j < ((i + l.length : Nat) : Int)
 | f, [], i, j, h => by cases h
 | f, x :: l, i, j, h => by
  simp only [slices_IndexFunc_Publication_L1] at h
  cases hx : f x
  ·rw [hx, cond_false] at h
   have := lt_iFP f l (i + 1) j h
   simp only [List.length_cons]; omega
  ·rw [hx, cond_true] at h
   cases h
   simp only [List.length_cons]; omega
theorem lt_publishedAt (l : List Publication) (n_ : Name) (i : Int) : a1v l n_ i < ((l.length : Nat) : Int) := by
 unfold a1v slices_IndexFunc_Publication
 cases h : slices_IndexFunc_Publication_L1 (fun e0_ => a2u i n_ e0_) l 0 with
 | none => show (-1 : Int) < _; omega
 | some j => have := lt_iFP _ l 0 j h; show j < _; omega
theorem lt_l28L (n_ : Name) (i : Int) : ∀ (l : List Publication) (k : Nat) (j : Int), a13 n_ i l k = some j → j < ((k + l.length : Nat) : Int)
 | [], k, j, h => by cases h
 | x :: l, k, j, h => by
  simp only [a13] at h
  cases hx : (x.seq == i)
  ·rw [hx, cond_false] at h
   have := lt_l28L n_ i l (k + 1) j h
   simp only [List.length_cons]; omega
  ·rw [hx, cond_true] at h
   cases hy : a1f x.publisher n_
   ·rw [hy, cond_false] at h
    have := lt_l28L n_ i l (k + 1) j h
    simp only [List.length_cons]; omega
   ·rw [hy, cond_true] at h
    cases h
    simp only [List.length_cons]; omega
theorem lt_l28Find (l : List Publication) (n_ : Name) (i : Int) : a14 l n_ i < ((l.length : Nat) : Int) := by
 unfold a14
 cases h : a13 n_ i l 0 with
 | none => show (-1 : Int) < _; omega
 | some j => have := lt_l28L n_ i l 0 j h; show j < _; omega
theorem f42 (w : World) (n : Nat) (hn : n + 0 ≤ 9) (m : Member) (K0 : Option Addr) (M0 : Nat) (N0 : RdSl (hp w) K0 M0 m.name.parts) (K1 : Option Addr) (M1 : Nat) (N1 : RdSl (hp w) K1 M1 m.vector.entries) (K2 : Option Addr) (M2 : Nat) (N2 : RdSl (hp w) K2 M2 m.publications) (n_ : Name) (K3 : Option Addr) (M3 : Nat) (N3 : RdSl (hp w) K3 M3 n_.parts) (i : Int) (hokm : GoT.ok n m) (hokn_ : GoT.ok n n_) (hoki : GoT.ok n i) :
 Does Tryz.prog 42 #[.agg #[.slice K0 ((m.name.parts).length) M0, .slice K1 ((m.vector.entries).length) M1, .slice K2 ((m.publications).length) M2], .agg #[.slice K3 ((n_.parts).length) M3], .int .i64 (i)] w emp (Post w emp (fun x : GoT.X ((List UInt8)) => .tuple #[(GoT.sh ((a0o m n_ i).1 : (List UInt8)) x).headD undef, .bool ((a0o m n_ i).2)]) (fun x => GoT.oa ((a0o m n_ i).1 : (List UInt8)) x) (GoT.ok n ((a0o m n_ i).1 : (List UInt8)))) := by
 have hbP := bd_pos n
 have hbB := bd_big (n := n) (by omega)
 refine WX.enter (tt := tt) (Γ := [(0, MF.rs .stb K0 M0 m.name.parts), (1, MF.rs .stb K1 M1 m.vector.entries), (2, MF.rs .stb K2 M2 m.publications), (3, MF.rs .stb K3 M3 n_.parts)]) Tryz.func42 Z J Z (allS_cons Z N0 (allS_cons Z N1 (allS_cons Z N2 (allS_cons Z N3 allS_nil)))) ?_
 refine R0 ?_
 refine WX.callV Z Z Z Z Z O Z (fun w G bs hI hΓ => f120 w n (by omega) m.publications K2 M2 (hΓ.get 2 Z) n_ K3 M3 (hΓ.get 3 Z) i ((ok_Member hokm).2.2) hokn_ hoki) ?_
 intro hq1
 have q1 := lt_publishedAt m.publications n_ i
 refine R0 ?_
 refine WX.cases 15 Z (fun h1 => ?_) (fun h1 => ?_)
 ·skip
  have h1d := B.dt h1
  refine R0 ?_
  refine WX.free 4 (MF.os none 0 ([] : List UInt8)) (owSl_nil _ _) ?_
  have hP1 : a0o m n_ i = (([] : List UInt8), false) := by simp only [a0o, h1, ct, cf]
  refine R1 ?_
  intro w1 G bs hI hΓ
  rw [hP1]
  exact Post.of [4] (none, 0) hI hΓ Z Z Z (ok_nil (α := UInt8))
 have h1d := B.df h1
 refine R0 ?_
 have r1 : (m.publications).length ≤ bd n := (okl (ok_Member hokm).2.2).1
 have r2 : -9223372036854775808 ≤ i ∧ i ≤ 9223372036854775807 := hoki
 have r3 : -9223372036854775808 ≤ (a1v m.publications n_ i) ∧ (a1v m.publications n_ i) ≤ 9223372036854775807 := hq1
 refine WX.slot 18 (y := .v (.int .i64 ((((a1v m.publications n_ i)).toNat : Nat) : Int))) Z (fun _ => congrArg (Value.int .i64) (show (a1v m.publications n_ i) = ((((a1v m.publications n_ i)).toNat : Nat) : Int) from by omega)) ?_
 have e1i : ((a1v m.publications n_ i)).toNat < (m.publications).length := (by first | assumption | omega)
 obtain ⟨e1, e1h⟩ : ∃ e1, (m.publications)[((a1v m.publications n_ i)).toNat]? = some e1 := ⟨_, List.getElem?_eq_getElem e1i⟩
 have ok1 : GoT.ok n e1 := (okl (ok_Member hokm).2.2).2 _ (List.mem_of_getElem? e1h)
 refine WX.idx 2 (((a1v m.publications n_ i)).toNat) ttOk Z Z Z Z Z Z Z Z Z Z e1i ?_
 rintro ad1 rfl
 refine R0 ?_
 refine WX.ldE 2 5 e1 ttOk Z Z Z Z Z Z Z Z e1h O O ?_
 rintro ⟨⟨p1, c1⟩, ⟨⟩, ⟨p2, c2⟩⟩
 refine WX.callF 7 (fun _ _ h => GoT.ow_rd h) (fun _ f hf => GoT.fak f hf) Z Z Z Z Z O Z (fun w G bs hI hΓ => f114 w n (by omega) e1.content p2 c2 (hΓ.get 6 Z) ((ok_Publication ok1).2.2)) O O ?_
 rintro ⟨p3, c3⟩ hq2
 refine R0 ?_
 have hP2 : a0o m n_ i = (e1.content, true) := by simp only [a0o, h1, e1h, ct, cf]
 refine R1 ?_
 intro w1 G bs hI hΓ
 rw [hP2]
 exact Post.of [8] (p3, c3) hI hΓ Z Z Z hq2
theorem f43 (w : World) (n : Nat) (hn : n + 0 ≤ 9) (m : Member) (K0 : Option Addr) (M0 : Nat) (N0 : RdSl (hp w) K0 M0 m.name.parts) (K1 : Option Addr) (M1 : Nat) (N1 : RdSl (hp w) K1 M1 m.vector.entries) (K2 : Option Addr) (M2 : Nat) (N2 : RdSl (hp w) K2 M2 m.publications) (n_ : Name) (K3 : Option Addr) (M3 : Nat) (N3 : RdSl (hp w) K3 M3 n_.parts) (i : Int) (hokm : GoT.ok n m) (hokn_ : GoT.ok n n_) (hoki : GoT.ok n i) :
 Does Tryz.prog 43 #[.agg #[.slice K0 ((m.name.parts).length) M0, .slice K1 ((m.vector.entries).length) M1, .slice K2 ((m.publications).length) M2], .agg #[.slice K3 ((n_.parts).length) M3], .int .i64 (i)] w emp (Post w emp (fun x : GoT.X ((List UInt8)) => .tuple #[(GoT.sh ((a0g m n_ i).1 : (List UInt8)) x).headD undef, .bool ((a0g m n_ i).2)]) (fun x => GoT.oa ((a0g m n_ i).1 : (List UInt8)) x) (GoT.ok n ((a0g m n_ i).1 : (List UInt8)))) := by
 have hbP := bd_pos n
 have hbB := bd_big (n := n) (by omega)
 refine WX.enter (tt := tt) (Γ := [(0, MF.rs .stb K0 M0 m.name.parts), (1, MF.rs .stb K1 M1 m.vector.entries), (2, MF.rs .stb K2 M2 m.publications), (3, MF.rs .stb K3 M3 n_.parts)]) Tryz.func43 Z J Z (allS_cons Z N0 (allS_cons Z N1 (allS_cons Z N2 (allS_cons Z N3 allS_nil)))) ?_
 refine R0 ?_
 refine WX.callV Z Z Z Z Z O Z (fun w G bs hI hΓ => f121 w n (by omega) m.publications K2 M2 (hΓ.get 2 Z) n_ K3 M3 (hΓ.get 3 Z) i ((ok_Member hokm).2.2) hokn_ hoki) ?_
 intro hq1
 have q1 := lt_l28Find m.publications n_ i
 refine R0 ?_
 refine WX.cases 15 Z (fun h1 => ?_) (fun h1 => ?_)
 ·skip
  have h1d := B.dt h1
  refine R0 ?_
  refine WX.bld ttOk Z Z Z Z Z Z Z ?_
  intro p1
  refine R0 ?_
  refine WX.free 4 (MF.ol [] ([] : List UInt8)) Z ?_
  refine WX.seal 16 4 5 Z Z Z Z Z ?_
  have hP1 : a0g m n_ i = (([]), false) := by simp only [a0g, h1, ct, cf]
  refine R1 ?_
  intro w1 G bs hI hΓ
  rw [hP1]
  exact Post.of [6] (p1, 0) hI hΓ Z Z Z (okl_mk (Nat.zero_le _) (fun _ _ => trivial) : GoT.ok n ([] : List UInt8))
 have h1d := B.df h1
 refine R0 ?_
 refine WX.bld ttOk Z Z Z Z Z Z Z ?_
 intro p2
 refine R0 ?_
 have r1 : (m.publications).length ≤ bd n := (okl (ok_Member hokm).2.2).1
 have r2 : -9223372036854775808 ≤ i ∧ i ≤ 9223372036854775807 := hoki
 have r3 : -9223372036854775808 ≤ (a14 m.publications n_ i) ∧ (a14 m.publications n_ i) ≤ 9223372036854775807 := hq1
 refine WX.slot 20 (y := .v (.int .i64 ((((a14 m.publications n_ i)).toNat : Nat) : Int))) Z (fun _ => congrArg (Value.int .i64) (show (a14 m.publications n_ i) = ((((a14 m.publications n_ i)).toNat : Nat) : Int) from by omega)) ?_
 have e1i : ((a14 m.publications n_ i)).toNat < (m.publications).length := (by first | assumption | omega)
 obtain ⟨e1, e1h⟩ : ∃ e1, (m.publications)[((a14 m.publications n_ i)).toNat]? = some e1 := ⟨_, List.getElem?_eq_getElem e1i⟩
 have ok1 : GoT.ok n e1 := (okl (ok_Member hokm).2.2).2 _ (List.mem_of_getElem? e1h)
 refine WX.idx 2 (((a14 m.publications n_ i)).toNat) ttOk Z Z Z Z Z Z Z Z Z Z e1i ?_
 rintro ad1 rfl
 refine R0 ?_
 refine WX.ldE 2 7 e1 ttOk Z Z Z Z Z Z Z Z e1h O O ?_
 rintro ⟨⟨p3, c1⟩, ⟨⟩, ⟨p4, c2⟩⟩
 refine WX.free 9 (MF.ol [] ([] : List UInt8)) Z ?_
 have r4 : (e1.content).length ≤ bd n := (okl (ok_Publication ok1).2.2).1
 refine WX.appG1 17 8 10 (e1.content : List UInt8).length ttOk Z Z Z Z Z Z Z Z Z Z Z Z Z (by first | (simp; done) | (simp; omega)) (by omega) (by omega) (fun _ _ _ => Z) ?_
 intro ys1 p5 c3
 refine WX.know (fun G hΓ => (hΓ.get 10 Z : RdL _ _ _).flat) ?_
 intro hf1
 refine WX.turn [9] 11 Z (fun h hs => ol_flat hs hf1) (gs := [MF.ol ([] ++ ys1) (e1.content : List UInt8)]) Z ?_
 refine R0 ?_
 refine WX.seal 17 11 12 Z Z Z Z Z ?_
 have hP2 : a0g m n_ i = (e1.content, true) := by simp only [a0g, h1, e1h, ct, cf]
 refine R1 ?_
 intro w1 G bs hI hΓ
 rw [hP2]
 exact Post.of [13] (p5, c3) hI hΓ Z Z Z (okl_mk (by omega) (fun _ _ => trivial) : GoT.ok n (e1.content : List UInt8))
theorem f203 (w : World) (n : Nat) (hn : n + 0 ≤ 9) (p_ : Publication) (K0 : Option Addr) (M0 : Nat) (N0 : RdSl (hp w) K0 M0 p_.publisher.parts) (K1 : Option Addr) (M1 : Nat) (N1 : RdSl (hp w) K1 M1 p_.content) (a : Member) (ba : Addr) (ha : RdSl (hp w) (some ba) 1 [a]) (hokp_ : GoT.ok n p_) (hoka : GoT.ok n a) :
 Does Tryz.prog 203 #[.agg #[.slice K0 ((p_.publisher.parts).length) M0, .int .i64 (p_.seq), .slice K1 ((p_.content).length) M1], .pointer (some ba)] w emp (fun (rv : Value) (_ : World) => rv = .bool (a2v a p_) ∧ True) := by
 have hbP := bd_pos n
 have hbB := bd_big (n := n) (by omega)
 refine WX.enter (tt := tt) (Γ := [(0, MF.rs .stb K0 M0 p_.publisher.parts), (1, MF.rs .stb K1 M1 p_.content), (2, MF.rs .stb (some ba) 1 ([a]))]) Tryz.func203 Z J Z (allS_cons Z N0 (allS_cons Z N1 (allS_cons Z ha allS_nil))) ?_
 have ah : ([a] : List Member)[0]? = some a := rfl
 refine WX.slot 1 (y := .e (some ba) 0 3 0) Z (fun _ => cap_eq) ?_
 refine R0 ?_
 refine WX.ldE 2 3 a ttOk Z Z Z Z Z Z Z Z ah O O ?_
 rintro ⟨⟨p1, c1⟩, ⟨p2, c2⟩, ⟨p3, c3⟩⟩
 refine R0 ?_
 refine WX.callF 6 (fun _ _ h => GoT.ow_rd h) (fun _ f hf => GoT.fak f hf) Z Z Z Z Z O Z (fun w G bs hI hΓ => f42 w n (by omega) a p1 c1 (hΓ.get 3 Z) p2 c2 (hΓ.get 4 Z) p3 c3 (hΓ.get 5 Z) p_.publisher K0 M0 (hΓ.get 0 Z) p_.seq hoka ((ok_Publication hokp_).1) ((ok_Publication hokp_).2.1)) O O ?_
 rintro ⟨p4, c4⟩ hq1
 refine R0 ?_
 refine WX.cases 17 Z (fun h1 => ?_) (fun h1 => ?_)
 ·skip
  have h1d := (B.nt h1)
  refine R0 ?_
  have hP1 : a2v a p_ = true := by simp only [a2v, h1, ct, cf]
  exact R3 hP1
 have h1d := (B.nf h1)
 refine R0 ?_
 refine WX.callV Z Z Z Z Z O Z (fun w G bs hI hΓ => f178 w n (by omega) ((a0o a p_.publisher p_.seq).1) p4 c4 (hΓ.get 6 Z) p_.content K1 M1 (hΓ.get 1 Z) hq1 ((ok_Publication hokp_).2.2)) ?_
 intro hq2
 refine R0 ?_
 have hP2 : a2v a p_ = (!(slices_Equal_byte ((a0o a p_.publisher p_.seq).1) p_.content)) := by simp only [a2v, h1, ct, cf]
 exact R3 hP2
theorem f126 (w : World) (n : Nat) (hn : n + 0 ≤ 9) (a : Member) (K0 : Option Addr) (M0 : Nat) (N0 : RdSl (hp w) K0 M0 a.name.parts) (K1 : Option Addr) (M1 : Nat) (N1 : RdSl (hp w) K1 M1 a.vector.entries) (K2 : Option Addr) (M2 : Nat) (N2 : RdSl (hp w) K2 M2 a.publications) (b : Member) (K3 : Option Addr) (M3 : Nat) (N3 : RdSl (hp w) K3 M3 b.name.parts) (K4 : Option Addr) (M4 : Nat) (N4 : RdSl (hp w) K4 M4 b.vector.entries) (K5 : Option Addr) (M5 : Nat) (N5 : RdSl (hp w) K5 M5 b.publications) (hoka : GoT.ok n a) (hokb : GoT.ok n b) :
 Does Tryz.prog 126 #[.agg #[.slice K0 ((a.name.parts).length) M0, .slice K1 ((a.vector.entries).length) M1, .slice K2 ((a.publications).length) M2], .agg #[.slice K3 ((b.name.parts).length) M3, .slice K4 ((b.vector.entries).length) M4, .slice K5 ((b.publications).length) M5]] w emp (fun (rv : Value) (_ : World) => rv = .bool (a3k a b) ∧ True) := by
 have hbP := bd_pos n
 have hbB := bd_big (n := n) (by omega)
 refine WX.enter (tt := tt) (Γ := [(0, MF.rs .stb K0 M0 a.name.parts), (1, MF.rs .stb K1 M1 a.vector.entries), (2, MF.rs .stb K2 M2 a.publications), (3, MF.rs .stb K3 M3 b.name.parts), (4, MF.rs .stb K4 M4 b.vector.entries), (5, MF.rs .stb K5 M5 b.publications)]) Tryz.func126 Z J Z (allS_cons Z N0 (allS_cons Z N1 (allS_cons Z N2 (allS_cons Z N3 (allS_cons Z N4 (allS_cons Z N5 allS_nil)))))) ?_
 refine R0 ?_
 refine WX.callV Z Z Z Z Z O Z (fun w G bs hI hΓ => f202 w n (by omega) b.publications K5 M5 (hΓ.get 5 Z) 203 [Value.pointer (some ⟨bs 2, 0, none⟩)] (fun e0_ => (a2v a e0_)) (fun w1_ hb_ e0_ x0_ hk0_ hx0_ => f203 w1_ n (by omega) e0_ x0_.1.1 x0_.1.2 (hx0_ _ List.mem_cons_self) x0_.2.2.1 x0_.2.2.2 (hx0_ (MF.rs .der x0_.2.2.1 x0_.2.2.2 e0_.content) (by simp [GoT.fa])) a ⟨bs 2, 0, none⟩ ((rd_box (α := Member) (a := a) (x := ((K0, M0), (K1, M1), (K2, M2))) (hI.loc 2 _ Z).1 (All.cons (hΓ.get 0 Z : RdSl _ _ _ _) (All.cons (hΓ.get 1 Z : RdSl _ _ _ _) (All.cons (hΓ.get 2 Z : RdSl _ _ _ _) All.nil)))).mono (kp_le hb_)) hk0_ hoka) ((ok_Member hokb).2.2)) ?_
 intro hq1
 refine R0 ?_
 have hP1 : a3k a b = (!(slices_ContainsFunc_Publication b.publications (fun e0_ => (a2v a e0_)))) := by simp only [a3k, ct, cf]
 exact R3 hP1
theorem f128 (w : World) (n : Nat) (hn : n + 0 ≤ 9) (a : Member) (K0 : Option Addr) (M0 : Nat) (N0 : RdSl (hp w) K0 M0 a.name.parts) (K1 : Option Addr) (M1 : Nat) (N1 : RdSl (hp w) K1 M1 a.vector.entries) (K2 : Option Addr) (M2 : Nat) (N2 : RdSl (hp w) K2 M2 a.publications) (b : Member) (K3 : Option Addr) (M3 : Nat) (N3 : RdSl (hp w) K3 M3 b.name.parts) (K4 : Option Addr) (M4 : Nat) (N4 : RdSl (hp w) K4 M4 b.vector.entries) (K5 : Option Addr) (M5 : Nat) (N5 : RdSl (hp w) K5 M5 b.publications) (hoka : GoT.ok n a) (hokb : GoT.ok n b) :
 Does Tryz.prog 128 #[.agg #[.slice K0 ((a.name.parts).length) M0, .slice K1 ((a.vector.entries).length) M1, .slice K2 ((a.publications).length) M2], .agg #[.slice K3 ((b.name.parts).length) M3, .slice K4 ((b.vector.entries).length) M4, .slice K5 ((b.publications).length) M5]] w emp (fun (rv : Value) (_ : World) => rv = .bool (a25 a b) ∧ True) := by
 have hbP := bd_pos n
 have hbB := bd_big (n := n) (by omega)
 refine WX.enter (tt := tt) (Γ := [(0, MF.rs .stb K0 M0 a.name.parts), (1, MF.rs .stb K1 M1 a.vector.entries), (2, MF.rs .stb K2 M2 a.publications), (3, MF.rs .stb K3 M3 b.name.parts), (4, MF.rs .stb K4 M4 b.vector.entries), (5, MF.rs .stb K5 M5 b.publications)]) Tryz.func128 Z J Z (allS_cons Z N0 (allS_cons Z N1 (allS_cons Z N2 (allS_cons Z N3 (allS_cons Z N4 (allS_cons Z N5 allS_nil)))))) ?_
 refine R0 ?_
 have r1 : (a.publications).length ≤ bd n := (okl (ok_Member hoka).2.2).1
 refine WX.loop (ι := Nat) ⟨fun i => (i ≤ (a.publications).length) ∧ (a22 b a.publications = a22 b ((a.publications).drop i)), fun i => (a.publications).length - i, fun i => [(5, .v (.int .i64 (((i : Nat) : Int)))), (3, .p 3 0), (2, .p 2 0)], fun i => [(3, ⟨60, [.slice K3 ((b.name.parts).length) M3, .slice K4 ((b.vector.entries).length) M4, .slice K5 ((b.publications).length) M5]⟩), (2, ⟨60, [.slice K0 ((a.name.parts).length) M0, .slice K1 ((a.vector.entries).length) M1, .slice K2 ((a.publications).length) M2]⟩)], fun i => [], fun i => [(0, MF.rs .stb K0 M0 a.name.parts), (1, MF.rs .stb K1 M1 a.vector.entries), (2, MF.rs .stb K2 M2 a.publications), (3, MF.rs .stb K3 M3 b.name.parts), (4, MF.rs .stb K4 M4 b.vector.entries), (5, MF.rs .stb K5 M5 b.publications)]⟩ 0 ⟨(Nat.zero_le _), Z⟩
  (.cons Z (.cons Z (.cons Z (.nil)))) (.cons Z (.cons Z (.nil))) .nil [0, 1, 2, 3, 4, 5] Z ?_
 rintro i hpre
 have hpre_ : (i ≤ (a.publications).length) ∧ (a22 b a.publications = a22 b ((a.publications).drop i)) := hpre
 clear hpre
 obtain ⟨v1, v2⟩ := hpre_
 refine R0 ?_
 refine WX.cases 12 Z (fun h1 => ?_) (fun h1 => ?_)
 ·skip
  have h1d := B.dt h1
  have e1i : i < (a.publications).length := (by omega)
  obtain ⟨e1, e1h⟩ : ∃ e1, (a.publications)[i]? = some e1 := ⟨_, List.getElem?_eq_getElem e1i⟩
  have ok1 : GoT.ok n e1 := (okl (ok_Member hoka).2.2).2 _ (List.mem_of_getElem? e1h)
  refine R0 ?_
  refine WX.draw [] mixed ?_
  intro bs G0 hΓ0
  refine DX.takes (fuel := 15) ttOk [(0, false), (1, true), (2, false), (3, true)] J Z ?_
  refine DX.idx 4 2 i ttOk hΓ0 J Z Z Z Z Z Z Z Z Z Z Z e1i ?_
  rintro ad1 rfl
  refine DX.takes (fuel := 13) ttOk [(5, true)] J Z ?_
  refine DX.ldE 6 2 6 e1 ttOk hΓ0 J Z Z Z Z Z Z Z Z e1h O O ?_
  rintro ⟨⟨p1, c1⟩, ⟨⟩, ⟨p2, c2⟩⟩
  refine DX.takes (fuel := 9) ttOk [(7, true), (8, false), (9, true)] J Z ?_
  refine DX.idx 10 2 i ttOk hΓ0 J Z Z Z Z Z Z Z Z Z Z Z e1i ?_
  rintro ad2 ⟨⟩
  refine DX.takes (fuel := 7) ttOk [(11, true)] J Z ?_
  refine DX.ldE 12 2 8 e1 ttOk hΓ0 J Z Z Z Z Z Z Z Z e1h O O ?_
  rintro ⟨⟨p3, c3⟩, ⟨⟩, ⟨p4, c4⟩⟩
  refine DX.callF 13 10 (fun _ _ h => GoT.ow_rd h) (fun _ f hf => GoT.fak f hf) Z J Z Z Z Z Z Z O Z (fun w G bs hI hΓ => f43 w n (by omega) b K3 M3 (hΓ.get 3 Z) K4 M4 (hΓ.get 4 Z) K5 M5 (hΓ.get 5 Z) e1.publisher p1 c1 (hΓ.get 6 Z) e1.seq hokb ((ok_Publication ok1).1) ((ok_Publication ok1).2.1)) O O ?_
  rintro ⟨p5, c5⟩ hq1
  refine DX.takes (fuel := 0) ttOk [(14, true), (15, true), (16, true), (17, true), (18, true)] J Z ?_
  refine DX.tail2 [] Z Z J ?_
  refine R0 ?_
  refine WX.cases 34 Z (fun h2 => ?_) (fun h2 => ?_)
  ·skip
   have h2d := (B.nt h2)
   refine R0 ?_
   have hP1 : a22 b a.publications = (some false) := by rw [v2, drop_get e1h]; simp only [a22, h2, ct, cf]
   have hP2 : a25 a b = false := by simp only [a25, hP1, ct, cf]
   exact R3 hP2
  have h2d := (B.nf h2)
  refine R0 ?_
  refine WX.idx 2 i ttOk Z Z Z Z Z Z Z Z Z Z e1i ?_
  rintro ad3 ⟨⟩
  refine R0 ?_
  refine WX.ldE 2 12 e1 ttOk Z Z Z Z Z Z Z Z e1h O O ?_
  rintro ⟨⟨p6, c6⟩, ⟨⟩, ⟨p7, c7⟩⟩
  refine WX.callV Z Z Z Z Z O Z (fun w G bs hI hΓ => f180 w n (by omega) ((a0g b e1.publisher e1.seq).1) p5 c5 (hΓ.get 10 Z) e1.content p7 c7 (hΓ.get 13 Z) hq1 ((ok_Publication ok1).2.2)) ?_
  intro hq2
  refine R0 ?_
  refine WX.cases 44 Z (fun h3 => ?_) (fun h3 => ?_)
  ·skip
   have h3d := (B.nt h3)
   refine R0 ?_
   have hP3 : a22 b a.publications = (some false) := by rw [v2, drop_get e1h]; simp only [a22, h2, h3, ct, cf]
   have hP4 : a25 a b = false := by simp only [a25, hP3, ct, cf]
   exact R3 hP4
  have h3d := (B.nf h3)
  refine R0 ?_
  refine WX.see Z Z Z (fun _ hΓ => looks_arith Z Z Z Z (by unfold I64; first | omega | (simp only [List.length_take] at *; omega))) ?_
  refine R0 ?_
  exact WX.iter (i + 1) ⟨(by omega), (by rw [v2, drop_get e1h]; simp only [a22, h2, h3, ct, cf])⟩ (by first | (dsimp only; omega) | omega) (.cons Z (.cons Z (.cons Z (.nil)))) (.cons Z (.cons Z (.nil))) .nil [0, 1, 2, 3, 4, 5] Z
 have h1d := B.df h1
 refine R0 ?_
 have hX1 : a22 b a.publications = none := by rw [v2, List.drop_eq_nil_of_le (show (a.publications).length ≤ i by omega)]; simp only [a22, ct, cf]
 have hP5 : a25 a b = true := by simp only [a25, hX1, ct, cf]
 exact R3 hP5
theorem f49 (w : World) (n : Nat) (hn : n + 0 ≤ 9) (a : Member) (K0 : Option Addr) (M0 : Nat) (N0 : RdSl (hp w) K0 M0 a.name.parts) (K1 : Option Addr) (M1 : Nat) (N1 : RdSl (hp w) K1 M1 a.vector.entries) (K2 : Option Addr) (M2 : Nat) (N2 : RdSl (hp w) K2 M2 a.publications) (b : Member) (K3 : Option Addr) (M3 : Nat) (N3 : RdSl (hp w) K3 M3 b.name.parts) (K4 : Option Addr) (M4 : Nat) (N4 : RdSl (hp w) K4 M4 b.vector.entries) (K5 : Option Addr) (M5 : Nat) (N5 : RdSl (hp w) K5 M5 b.publications) (hoka : GoT.ok n a) (hokb : GoT.ok n b) :
 Does Tryz.prog 49 #[.agg #[.slice K0 ((a.name.parts).length) M0, .slice K1 ((a.vector.entries).length) M1, .slice K2 ((a.publications).length) M2], .agg #[.slice K3 ((b.name.parts).length) M3, .slice K4 ((b.vector.entries).length) M4, .slice K5 ((b.publications).length) M5]] w emp (fun (rv : Value) (_ : World) => rv = .bool (a32 a b) ∧ True) := by
 have hbP := bd_pos n
 have hbB := bd_big (n := n) (by omega)
 refine WX.enter (tt := tt) (Γ := [(0, MF.rs .stb K0 M0 a.name.parts), (1, MF.rs .stb K1 M1 a.vector.entries), (2, MF.rs .stb K2 M2 a.publications), (3, MF.rs .stb K3 M3 b.name.parts), (4, MF.rs .stb K4 M4 b.vector.entries), (5, MF.rs .stb K5 M5 b.publications)]) Tryz.func49 Z J Z (allS_cons Z N0 (allS_cons Z N1 (allS_cons Z N2 (allS_cons Z N3 (allS_cons Z N4 (allS_cons Z N5 allS_nil)))))) ?_
 refine R0 ?_
 refine WX.callV Z Z Z Z Z O Z (fun w G bs hI hΓ => f125 w n (by omega) a.vector.entries K1 M1 (hΓ.get 1 Z) b.vector.entries K4 M4 (hΓ.get 4 Z) (ok_StateVector (ok_Member hoka).2.1) (ok_StateVector (ok_Member hokb).2.1)) ?_
 intro hq1
 refine R0 ?_
 refine WX.cases 12 Z (fun h1 => ?_) (fun h1 => ?_)
 ·skip
  refine R0 ?_
  refine WX.callV Z Z Z Z Z O Z (fun w G bs hI hΓ => f126 w n (by omega) a K0 M0 (hΓ.get 0 Z) K1 M1 (hΓ.get 1 Z) K2 M2 (hΓ.get 2 Z) b K3 M3 (hΓ.get 3 Z) K4 M4 (hΓ.get 4 Z) K5 M5 (hΓ.get 5 Z) hoka hokb) ?_
  intro hq2
  refine R0 ?_
  refine WX.cases 17 Z (fun h2 => ?_) (fun h2 => ?_)
  ·skip
   refine R0 ?_
   refine WX.callV Z Z Z Z Z O Z (fun w G bs hI hΓ => f126 w n (by omega) b K3 M3 (hΓ.get 3 Z) K4 M4 (hΓ.get 4 Z) K5 M5 (hΓ.get 5 Z) a K0 M0 (hΓ.get 0 Z) K1 M1 (hΓ.get 1 Z) K2 M2 (hΓ.get 2 Z) hokb hoka) ?_
   intro hq3
   refine R0 ?_
   have hP1 : a32 a b = (a3k b a) := by simp only [a32, h1, h2, ct, cf]
   exact R3 hP1
  refine R0 ?_
  have hP2 : a32 a b = false := by simp only [a32, h1, h2, ct, cf]
  exact R3 hP2
 refine R0 ?_
 have hP3 : a32 a b = false := by simp only [a32, h1, ct, cf]
 exact R3 hP3
theorem f50 (w : World) (n : Nat) (hn : n + 0 ≤ 9) (a : Member) (K0 : Option Addr) (M0 : Nat) (N0 : RdSl (hp w) K0 M0 a.name.parts) (K1 : Option Addr) (M1 : Nat) (N1 : RdSl (hp w) K1 M1 a.vector.entries) (K2 : Option Addr) (M2 : Nat) (N2 : RdSl (hp w) K2 M2 a.publications) (b : Member) (K3 : Option Addr) (M3 : Nat) (N3 : RdSl (hp w) K3 M3 b.name.parts) (K4 : Option Addr) (M4 : Nat) (N4 : RdSl (hp w) K4 M4 b.vector.entries) (K5 : Option Addr) (M5 : Nat) (N5 : RdSl (hp w) K5 M5 b.publications) (hoka : GoT.ok n a) (hokb : GoT.ok n b) :
 Does Tryz.prog 50 #[.agg #[.slice K0 ((a.name.parts).length) M0, .slice K1 ((a.vector.entries).length) M1, .slice K2 ((a.publications).length) M2], .agg #[.slice K3 ((b.name.parts).length) M3, .slice K4 ((b.vector.entries).length) M4, .slice K5 ((b.publications).length) M5]] w emp (fun (rv : Value) (_ : World) => rv = .bool (a2w a b) ∧ True) := by
 have hbP := bd_pos n
 have hbB := bd_big (n := n) (by omega)
 refine WX.enter (tt := tt) (Γ := [(0, MF.rs .stb K0 M0 a.name.parts), (1, MF.rs .stb K1 M1 a.vector.entries), (2, MF.rs .stb K2 M2 a.publications), (3, MF.rs .stb K3 M3 b.name.parts), (4, MF.rs .stb K4 M4 b.vector.entries), (5, MF.rs .stb K5 M5 b.publications)]) Tryz.func50 Z J Z (allS_cons Z N0 (allS_cons Z N1 (allS_cons Z N2 (allS_cons Z N3 (allS_cons Z N4 (allS_cons Z N5 allS_nil)))))) ?_
 refine R0 ?_
 refine WX.callV Z Z Z Z Z O Z (fun w G bs hI hΓ => f127 w n (by omega) a.vector.entries K1 M1 (hΓ.get 1 Z) b.vector.entries K4 M4 (hΓ.get 4 Z) (ok_StateVector (ok_Member hoka).2.1) (ok_StateVector (ok_Member hokb).2.1)) ?_
 intro hq1
 refine R0 ?_
 refine WX.cases 12 Z (fun h1 => ?_) (fun h1 => ?_)
 ·skip
  refine R0 ?_
  refine WX.callV Z Z Z Z Z O Z (fun w G bs hI hΓ => f128 w n (by omega) a K0 M0 (hΓ.get 0 Z) K1 M1 (hΓ.get 1 Z) K2 M2 (hΓ.get 2 Z) b K3 M3 (hΓ.get 3 Z) K4 M4 (hΓ.get 4 Z) K5 M5 (hΓ.get 5 Z) hoka hokb) ?_
  intro hq2
  refine R0 ?_
  refine WX.cases 17 Z (fun h2 => ?_) (fun h2 => ?_)
  ·skip
   refine R0 ?_
   refine WX.callV Z Z Z Z Z O Z (fun w G bs hI hΓ => f128 w n (by omega) b K3 M3 (hΓ.get 3 Z) K4 M4 (hΓ.get 4 Z) K5 M5 (hΓ.get 5 Z) a K0 M0 (hΓ.get 0 Z) K1 M1 (hΓ.get 1 Z) K2 M2 (hΓ.get 2 Z) hokb hoka) ?_
   intro hq3
   refine R0 ?_
   have hP1 : a2w a b = (a25 b a) := by simp only [a2w, h1, h2, ct, cf]
   exact R3 hP1
  refine R0 ?_
  have hP2 : a2w a b = false := by simp only [a2w, h1, h2, ct, cf]
  exact R3 hP2
 refine R0 ?_
 have hP3 : a2w a b = false := by simp only [a2w, h1, ct, cf]
 exact R3 hP3
end Go.Proofs.YtolepebgdfdciaaGreat

namespace Go.Stp
set_option linter.unusedVariables false
set_option linter.unusedSimpArgs false
def a3b : List TableEntry → Int → Int
 | [], sum_ => sum_
 | e1 :: rest_, sum_ =>
  a3b rest_ (IntKind.i64.wrap (sum_ + e1.value))
def a3r (v : StateVector) : Int :=
 match a3b v.entries 0 with
  | sum_ =>
   sum_
def a2m : List TableEntry → Int → Int
 | [], n_ => n_
 | e1 :: rest_, n_ =>
  a2m rest_ (IntKind.i64.wrap (n_ + e1.value))
def a3c (v : StateVector) : Int :=
 match a2m v.entries 0 with
  | n_ =>
   n_
def a23 (m : Member) : List Publication → Nat → Option (Bool)
 | [], i => none
 | e1 :: rest_, i =>
  bif (!(a2g e1.seq 1 (a11 m.vector e1.publisher))) then
   (some false)
  else
   bif decide ((((e1.content).length : Nat) : Int) > 60) then
    (some false)
   else
    bif decide ((a1v (List.take i m.publications) e1.publisher e1.seq) ≥ 0) then
     (some false)
    else
     a23 m rest_ (i + 1)
def a1e (m : Member) : Bool :=
 bif (!(a3e m.name)) then
  false
 else
  bif ((((m.name.parts).length : Nat) : Int) == 0) then
   false
  else
   bif (!(a3j m.vector)) then
    false
   else
    bif decide ((((m.publications).length : Nat) : Int) > 16) then
     false
    else
     match a23 m m.publications 0 with
      | some r_ => r_
      | none =>
       ((a3r m.vector) == (((m.publications).length : Nat) : Int))
def a1m (m : Member) : List Publication → Nat → Option (Bool)
 | [], i => none
 | e1 :: rest_, i =>
  bif (!(a1c e1.seq 1 (a0b m.vector e1.publisher))) then
   (some false)
  else
   bif decide ((((e1.content).length : Nat) : Int) > 60) then
    (some false)
   else
    bif decide ((a14 (List.take i m.publications) e1.publisher e1.seq) ≥ 0) then
     (some false)
    else
     a1m m rest_ (i + 1)
def a15 (m : Member) : Bool :=
 bif (!(a0z m.name)) then
  false
 else
  bif ((((m.name.parts).length : Nat) : Int) == 0) then
   false
  else
   bif (!(a38 m.vector)) then
    false
   else
    bif decide ((((m.publications).length : Nat) : Int) > 16) then
     false
    else
     bif ((((m.publications).length : Nat) : Int) != (a3c m.vector)) then
      false
     else
      match a1m m m.publications 0 with
       | some r_ => r_
       | none =>
        true
end Go.Stp

