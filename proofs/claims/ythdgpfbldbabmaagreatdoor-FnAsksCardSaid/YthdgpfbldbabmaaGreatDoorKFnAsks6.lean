/-
  What the proof of one law needs: rules of the program logic, functions as Lean functions, contracts. No condition but what each says. Written by a program (pack.py) out of my own texts.
-/
import Derived.Test.YthdgpfbldbabmaaGreatDoorKFnAsks5
namespace Go.Stp
set_option linter.unusedVariables false
set_option linter.unusedSimpArgs false
theorem l9F_L (n_ : Name) : ∀ (l : List Key) (i : Nat) (r : Int), a2c n_ l i = some r → r < ((i + l.length : Nat) : Int)
 | [], _, _, h => by cases h
 | x :: l, i, r, h => by
  rw [List.length_cons]
  simp only [a2c] at h
  cases hA : a22 x.name n_ <;> simp only [hA, cond_true, cond_false] at h
  ·have := l9F_L n_ l (i + 1) r h; omega
  ·injection h with h; omega
theorem l9F_lt (l : List Key) (n_ : Name) : a1l l n_ < ((l.length : Nat) : Int) := by
 unfold a1l
 cases h : a2c n_ l 0 with
 | none => show (-1 : Int) < _; omega
 | some r => have := l9F_L n_ l 0 r h; show r < _; omega
def a0n (l : (List Key)) (n_ : Name) : Int :=
 bif decide ((a1l l n_) < 0) then
  0
 else
  match (l)[((a1l l n_)).toNat]? with
   | none => default
   | some e1 =>
    e1.secret
def a4m (secret : Int) (x_ : DataP) : Bool :=
 bif (a4v secret) then
  (x_.signature == (a3x secret (a2z x_)))
 else
  false
def a48 (l : (List Key)) (x_ : DataP) : Bool :=
 (a4m (a0n l x_.keyName) x_)
def a36 (n_ : Name) : List Key → Option (Int)
 | [] => none
 | e1 :: rest_ =>
  bif (a2d e1.name n_) then
   (some e1.secret)
  else
   a36 n_ rest_
def a15 (l : (List Key)) (n_ : Name) : Int :=
 match a36 n_ l with
  | some r_ => r_
  | none =>
   0
def a4n (secret : Int) (x_ : DataP) : Bool :=
 bif (a4u secret) then
  (x_.signature == (a4d secret (a29 x_)))
 else
  false
def a4i (l : (List Key)) (x_ : DataP) : Bool :=
 (a4n (a15 l x_.keyName) x_)
def a2i (k : Str) : List Binding → Nat → Option (Int)
 | [], i => none
 | e1 :: rest_, i =>
  bif ((e1.letter).toList == (k).toList) then
   (some ((i : Nat) : Int))
  else
   a2i k rest_ (i + 1)
def a19 (l : (List Binding)) (k : Str) : Int :=
 match a2i k l 0 with
  | some r_ => r_
  | none =>
   (-1)
theorem l5F_L (k : Str) : ∀ (l : List Binding) (i : Nat) (r : Int), a2i k l i = some r → r < ((i + l.length : Nat) : Int)
 | [], _, _, h => by cases h
 | x :: l, i, r, h => by
  rw [List.length_cons]
  simp only [a2i] at h
  cases hA : ((x.letter).toList == (k).toList) <;> simp only [hA, cond_true, cond_false] at h
  ·have := l5F_L k l (i + 1) r h; omega
  ·injection h with h; omega
theorem l5F_lt (l : List Binding) (k : Str) : a19 l k < ((l.length : Nat) : Int) := by
 unfold a19
 cases h : a2i k l 0 with
 | none => show (-1 : Int) < _; omega
 | some r => have := l5F_L k l 0 r h; show r < _; omega
def a0v (n_ : Name) (l : (List Binding)) : List Str → Nat → (List Binding) → Ctl ((List Binding) × Bool) ((List Binding))
 | [], i, out => (Ctl.nxt ((out) : List Binding))
 | e1 :: rest_, i, out =>
  bif ((e1).toList == ((⟨#[42, 42]⟩ : Str)).toList) then
   (Ctl.ret (out, true))
  else
   bif decide (((i : Nat) : Int) ≥ (((n_.parts).length : Nat) : Int)) then
    (Ctl.ret (l, false))
   else
    bif ((e1).toList == ((⟨#[42]⟩ : Str)).toList) then
     a0v n_ l rest_ (i + 1) ((out) : List Binding)
    else
     bif (a2a e1) then
      bif decide ((a19 out e1) < 0) then
       match (n_.parts)[i]? with
        | none => default
        | some e2 =>
         a0v n_ l rest_ (i + 1) (((out ++ [(Binding.mk e1 e2)])) : List Binding)
      else
       match (out)[((a19 out e1)).toNat]? with
        | none => default
        | some e3 =>
         match (n_.parts)[i]? with
          | none => default
          | some e4 =>
           bif (!((e3.value).toList == (e4).toList)) then
            (Ctl.ret (l, false))
           else
            a0v n_ l rest_ (i + 1) ((out) : List Binding)
     else
      match (n_.parts)[i]? with
       | none => default
       | some e5 =>
        bif (!((e1).toList == (e5).toList)) then
         (Ctl.ret (l, false))
        else
         a0v n_ l rest_ (i + 1) ((out) : List Binding)
def a0w (p_ : Pattern) (n_ : Name) (l : (List Binding)) : (List Binding) × Bool :=
 bif (!(a2b p_)) then
  (l, false)
 else
  bif (!(a13 n_)) then
   (l, false)
  else
   match a0v n_ l p_.parts 0 (l : List Binding) with
    | .ret r_ => r_
    | .nxt out =>
     bif ((((n_.parts).length : Nat) : Int) != (((p_.parts).length : Nat) : Int)) then
      (l, false)
     else
      (out, true)
def slices_IndexFunc_Binding_L1 (fq : Binding → Bool) : List Binding → Nat → Option (Int)
 | [], i => none
 | e1 :: rest_, i =>
  bif fq e1 then
   (some ((i : Nat) : Int))
  else
   slices_IndexFunc_Binding_L1 fq rest_ (i + 1)
def slices_IndexFunc_Binding (s : (List Binding)) (fq : Binding → Bool) : Int :=
 match slices_IndexFunc_Binding_L1 fq s 0 with
  | some r_ => r_
  | none =>
   (-1)
def a26 (part : Str) (b : Binding) : Bool :=
 ((b.letter).toList == (part).toList)
def a16 (n_ : Name) (l : (List Binding)) : List Str → Nat → (List Binding) → Ctl ((List Binding) × Bool) ((List Binding))
 | [], i, out => (Ctl.nxt ((out) : List Binding))
 | e1 :: rest_, i, out =>
  bif ((e1).toList == ((⟨#[42, 42]⟩ : Str)).toList) then
   (Ctl.ret (out, true))
  else
   bif decide (((i : Nat) : Int) ≥ (((n_.parts).length : Nat) : Int)) then
    (Ctl.ret (l, false))
   else
    match (n_.parts)[i]? with
     | none => default
     | some e2 =>
      bif ((e1).toList == ((⟨#[42]⟩ : Str)).toList) then
       a16 n_ l rest_ (i + 1) ((out) : List Binding)
      else
       bif (!(a3p e1)) then
        bif (!((e1).toList == (e2).toList)) then
         (Ctl.ret (l, false))
        else
         a16 n_ l rest_ (i + 1) ((out) : List Binding)
       else
        bif decide ((slices_IndexFunc_Binding out (fun e0_ => (a26 e1 e0_))) < 0) then
         a16 n_ l rest_ (i + 1) (((out ++ [(Binding.mk e1 e2)])) : List Binding)
        else
         match (out)[((slices_IndexFunc_Binding out (fun e0_ => (a26 e1 e0_)))).toNat]? with
          | none => default
          | some e3 =>
           bif (!((e3.value).toList == (e2).toList)) then
            (Ctl.ret (l, false))
           else
            a16 n_ l rest_ (i + 1) ((out) : List Binding)
def a0x (p_ : Pattern) (n_ : Name) (l : (List Binding)) : (List Binding) × Bool :=
 bif (!(a40 p_)) then
  (l, false)
 else
  bif (!(a23 n_)) then
   (l, false)
  else
   match a16 n_ l p_.parts 0 (l : List Binding) with
    | .ret r_ => r_
    | .nxt out =>
     bif decide ((((n_.parts).length : Nat) : Int) > (((p_.parts).length : Nat) : Int)) then
      (l, false)
     else
      (out, true)
def a4e (r : Rule) (n_ : Name) (by_ : Name) : Bool :=
 bif (a35 r) then
  bif (a0w r.dataPattern n_ ([])).2 then
   ((a0w r.keyPattern by_ ((a0w r.dataPattern n_ ([])).1)).2)
  else
   false
 else
  false
def a4f (r : Rule) (n_ : Name) (key : Name) : Bool :=
 bif (a47 r) then
  bif (a0x r.dataPattern n_ ([] : List Binding)).2 then
   ((a0x r.keyPattern key ((a0x r.dataPattern n_ ([] : List Binding)).1)).2)
  else
   false
 else
  false
def a3f (n_ : Name) (by_ : Name) : List Rule → Nat → Option (Int)
 | [], i => none
 | e1 :: rest_, i =>
  bif (a4e e1 n_ by_) then
   (some ((i : Nat) : Int))
  else
   a3f n_ by_ rest_ (i + 1)
def a49 (l : (List Rule)) (n_ : Name) (by_ : Name) : Int :=
 match a3f n_ by_ l 0 with
  | some r_ => r_
  | none =>
   (-1)
def a41 (key : Name) (n_ : Name) (r : Rule) : Bool :=
 (a4f r key n_)
def a4j (l : (List Rule)) (n_ : Name) (key : Name) : Int :=
 (slices_IndexFunc_Rule l (fun e0_ => (a41 n_ key e0_)))
def a4o (l : (List Rule)) (n_ : Name) (by_ : Name) : Bool :=
 (decide ((a49 l n_ by_) ≥ 0))
def a4p (l : (List Rule)) (n_ : Name) (key : Name) : Bool :=
 (decide ((a4j l n_ key) ≥ 0))
def a38 (n_ : Name) : List Name → Option (Bool)
 | [] => none
 | e1 :: rest_ =>
  bif (a22 e1 n_) then
   (some true)
  else
   a38 n_ rest_
def a4k (t : TrustPolicy) (n_ : Name) : Bool :=
 match a38 n_ t.anchors with
  | some r_ => r_
  | none =>
   false
def slices_IndexFunc_Name_L1 (fq : Name → Bool) : List Name → Nat → Option (Int)
 | [], i => none
 | e1 :: rest_, i =>
  bif fq e1 then
   (some ((i : Nat) : Int))
  else
   slices_IndexFunc_Name_L1 fq rest_ (i + 1)
def slices_IndexFunc_Name (s : (List Name)) (fq : Name → Bool) : Int :=
 match slices_IndexFunc_Name_L1 fq s 0 with
  | some r_ => r_
  | none =>
   (-1)
def slices_ContainsFunc_Name (s : (List Name)) (fq : Name → Bool) : Bool :=
 (decide ((slices_IndexFunc_Name s fq) ≥ 0))
def a4a (n_ : Name) (a : Name) : Bool :=
 (a2d a n_)
def a4q (t : TrustPolicy) (n_ : Name) : Bool :=
 (slices_ContainsFunc_Name t.anchors (fun e0_ => (a4a n_ e0_)))
def a4r (x_ : DataP) (now : Int) : Bool :=
 (decide (now ≤ x_.freshUntil))
def a4w (x_ : DataP) (now : Int) : Bool :=
 (decide (now ≤ x_.freshUntil))
def a1v (l : (List Key)) (n_ : Name) : (List UInt8) :=
 bif ((a0n l n_) == 0) then
  ([])
 else
  (a11 ([]) (a30 ([(a0n l n_)])))
def a3g (l : (List Key)) (n_ : Name) : (List UInt8) :=
 bif ((a15 l n_) == 0) then
  ([] : List UInt8)
 else
  (a10 ([] : List UInt8) (a33 ([(a15 l n_)])))
def a1c (t : TrustPolicy) (n_ : Name) (now : Int) : List DataP → Nat → Option (Int)
 | [], i => none
 | e1 :: rest_, i =>
  bif (a22 e1.name n_) then
   bif (a4r e1 now) then
    bif (a48 t.keys e1) then
     bif (a4b e1.content (a1v t.keys n_)) then
      (some ((i : Nat) : Int))
     else
      a1c t n_ now rest_ (i + 1)
    else
     a1c t n_ now rest_ (i + 1)
   else
    a1c t n_ now rest_ (i + 1)
  else
   a1c t n_ now rest_ (i + 1)
def a17 (t : TrustPolicy) (n_ : Name) (now : Int) : Int :=
 bif ((a0n t.keys n_) == 0) then
  (-1)
 else
  match a1c t n_ now t.certificates 0 with
   | some r_ => r_
   | none =>
    (-1)
theorem fcS_L (t : TrustPolicy) (n_ : Name) (now : Int) : ∀ (l : List DataP) (i : Nat) (r : Int), a1c t n_ now l i = some r → r < ((i + l.length : Nat) : Int)
 | [], _, _, h => by cases h
 | x :: l, i, r, h => by
  have go : a1c t n_ now l (i + 1) = some r → r < ((i + (x :: l).length : Nat) : Int) := fun h' => by
   have := fcS_L t n_ now l (i + 1) r h'; rw [List.length_cons]; omega
  simp only [a1c] at h
  cases hA : a22 x.name n_ <;> simp only [hA, cond_true, cond_false] at h
  ·exact go h
  ·cases hB : a4r x now <;> simp only [hB, cond_true, cond_false] at h
   ·exact go h
   ·cases hC : a48 t.keys x <;> simp only [hC, cond_true, cond_false] at h
    ·exact go h
    ·cases hD : a4b x.content (a1v t.keys n_) <;> simp only [hD, cond_true, cond_false] at h
     ·exact go h
     ·injection h with h; rw [List.length_cons]; omega
theorem fcS_lt (t : TrustPolicy) (n_ : Name) (now : Int) : a17 t n_ now < ((t.certificates.length : Nat) : Int) := by
 unfold a17
 cases (a0n t.keys n_ == 0)
 ·simp only [cond_false]
  cases h : a1c t n_ now t.certificates 0 with
  | none => show (-1 : Int) < _; omega
  | some r => have := fcS_L t n_ now t.certificates 0 r h; show r < _; omega
 ·simp only [cond_true]; omega
def a39 (n_ : Name) (now : Int) (t : TrustPolicy) (x_ : DataP) : Bool :=
 bif (a2d x_.name n_) then
  bif (a4w x_ now) then
   bif (a4i t.keys x_) then
    (slices_Equal_byte x_.content (a3g t.keys n_))
   else
    false
  else
   false
 else
  false
def a1g (t : TrustPolicy) (n_ : Name) (now : Int) : Int :=
 bif ((a15 t.keys n_) == 0) then
  (-1)
 else
  (slices_IndexFunc_Data t.certificates (fun e0_ => (a39 n_ now t e0_)))
theorem fcI_L (f : DataP → Bool) : ∀ (l : List DataP) (i : Nat) (r : Int), slices_IndexFunc_Data_L1 f l i = some r → r < ((i + l.length : Nat) : Int)
 | [], _, _, h => by cases h
 | x :: l, i, r, h => by
  rw [List.length_cons]
  simp only [slices_IndexFunc_Data_L1] at h
  cases hA : f x <;> simp only [hA, cond_true, cond_false] at h
  ·have := fcI_L f l (i + 1) r h; omega
  ·injection h with h; omega
theorem fcI_lt (t : TrustPolicy) (n_ : Name) (now : Int) : a1g t n_ now < ((t.certificates.length : Nat) : Int) := by
 unfold a1g slices_IndexFunc_Data
 cases (a15 t.keys n_ == 0)
 ·simp only [cond_false]
  cases h : slices_IndexFunc_Data_L1 (fun e0_ => (a39 n_ now t e0_)) t.certificates 0 with
  | none => show (-1 : Int) < _; omega
  | some r => have := fcI_L _ t.certificates 0 r h; show r < _; omega
 ·simp only [cond_true]; omega
def a1m (t : TrustPolicy) (now : Int) (out : List Name) (xName : List Str) (xContent : List UInt8) (xKeyName : List Str) (xFreshUntil : Int) (xSignature : Int) : Ctl ((List Name) × Bool) ((List Name) × (List Str) × (List UInt8) × (List Str) × Int × Int) :=
 if (((out).length : Nat) : Int) < 4 then
  if (!(a48 t.keys (DataP.mk (Name.mk xName) xContent (Name.mk xKeyName) xFreshUntil xSignature))) = true then
   (Ctl.ret (([]), false))
  else
   if (!(a4o t.rules (Name.mk xName) (Name.mk xKeyName))) = true then
    (Ctl.ret (([]), false))
   else
    if (a4k t (a0f (Name.mk xKeyName))) = true then
     (Ctl.ret ((out ++ [(a0f (Name.mk xKeyName))]), true))
    else
     if (a17 t (a0f (Name.mk xKeyName)) now) < 0 then
      (Ctl.ret (([]), false))
     else
      match (t.certificates)[((a17 t (a0f (Name.mk xKeyName)) now)).toNat]? with
       | none => default
       | some e1 =>
        a1m t now (((out ++ [(a0f (Name.mk xKeyName))])) : List Name) ((e1.name.parts) : List Str) ((e1.content) : List UInt8) ((e1.keyName.parts) : List Str) e1.freshUntil e1.signature
 else
  (Ctl.nxt (((out) : List Name), ((xName) : List Str), ((xContent) : List UInt8), ((xKeyName) : List Str), xFreshUntil, xSignature))
termination_by 4 - out.length
decreasing_by all_goals (simp_wf; omega)
def a1s (t : TrustPolicy) (x_ : DataP) (now : Int) : (List Name) × Bool :=
 match a1m t now ([] : List Name) (x_.name.parts : List Str) (x_.content : List UInt8) (x_.keyName.parts : List Str) x_.freshUntil x_.signature with
  | .ret r_ => r_
  | .nxt (out, xName, xContent, xKeyName, xFreshUntil, xSignature) =>
   (([]), false)
def a1n (t : TrustPolicy) (now : Int) (chain : List Name) (xName : List Str) (xContent : List UInt8) (xKeyName : List Str) (xFreshUntil : Int) (xSignature : Int) : Ctl ((List Name) × Bool) ((List Name) × (List Str) × (List UInt8) × (List Str) × Int × Int) :=
 if chain.length ≤ 4 then
 if (!(a4i t.keys (DataP.mk (Name.mk xName) xContent (Name.mk xKeyName) xFreshUntil xSignature))) = true then
  (Ctl.ret (([] : List Name), false))
 else
  if (!(a4p t.rules (Name.mk xName) (Name.mk xKeyName))) = true then
   (Ctl.ret (([] : List Name), false))
  else
   if ((((chain).length : Nat) : Int) == 4) = true then
    (Ctl.ret (([] : List Name), false))
   else
    if (a4q t (Name.mk xKeyName)) = true then
     (Ctl.ret ((chain ++ [(a0s (Name.mk xKeyName))]), true))
    else
     if (a1g t (Name.mk xKeyName) now) < 0 then
      (Ctl.ret (([] : List Name), false))
     else
      match (t.certificates)[((a1g t (Name.mk xKeyName) now)).toNat]? with
       | none => default
       | some e1 =>
        a1n t now (((chain ++ [(a0s (Name.mk xKeyName))])) : List Name) ((e1.name.parts) : List Str) ((e1.content) : List UInt8) ((e1.keyName.parts) : List Str) e1.freshUntil e1.signature
 else default
termination_by 4 - chain.length
decreasing_by all_goals (simp_wf; simp only [beq_iff_eq] at *; omega)
def a1w (t : TrustPolicy) (x_ : DataP) (now : Int) : (List Name) × Bool :=
 match a1n t now ([] : List Name) (x_.name.parts : List Str) (x_.content : List UInt8) (x_.keyName.parts : List Str) x_.freshUntil x_.signature with
  | .ret r_ => r_
  | .nxt (chain, xName, xContent, xKeyName, xFreshUntil, xSignature) =>
   default
def a4l (t : TrustPolicy) (x_ : DataP) (now : Int) : Bool :=
 bif (a24 x_) then
  ((a1s t x_ now).2)
 else
  false
def a3q (t : TrustPolicy) (x_ : DataP) (now : Int) : Bool :=
 bif (a1w t x_ now).2 then
  (a3c x_)
 else
  false
def a0j (a : Consumer) (t : TrustPolicy) (x_ : DataP) (now : Int) : Consumer :=
 bif (!a.satisfied) then
  bif (a22 x_.name a.name) then
   bif (a4l t x_ now) then
    (Consumer.mk ((a0g a).node) ((a0g a).index) ((a0g a).name) ((a0g a).attempts) ((a0g a).wait) true (a1t x_))
   else
    (a0g a)
  else
   (a0g a)
 else
  (a0g a)
def a0q (a : Consumer) (t : TrustPolicy) (x_ : DataP) (now : Int) : Consumer :=
 bif (!a.satisfied) then
  bif (a2d x_.name a.name) then
   bif (a3q t x_ now) then
    (Consumer.mk ((a0d a).node) ((a0d a).index) ((a0d a).name) ((a0d a).attempts) ((a0d a).wait) true (a3l x_))
   else
    (a0d a)
  else
   (a0d a)
 else
  (a0d a)
end Go.Stp

namespace Go.Proofs.YthdgpfbldbabmaaGreatDoor
open Go.Stp
set_option linter.unusedVariables false
set_option linter.unusedSimpArgs false
theorem f67 (w : World) (n : Nat) (hn : n + 0 ≤ 9) (l : (List Key)) (pl cl) (N0 : RdSl (hp w) pl cl l) (n_ : Name) (K1 M1) (N1 : RdSl (hp w) K1 M1 n_.parts) (hokl : GoT.ok n l) (hokn_ : GoT.ok n n_) :
 Does Tryz.prog 67 #[.slice pl ((l).length) cl, .agg #[.slice K1 ((n_.parts).length) M1]] w emp (fun (rv : Value) (_ : World) => rv = .int .i64 ((a0n l n_)) ∧ GoT.ok n ((a0n l n_) : Int)) := by
 have hb := bS0 hn
 refine EN Tryz.func67 Z (aS2 N0 N1) ?_
 refine R0 ?_
 refine CV Z Z Z Z Z O Z (fun w γ => f91 w n τ1 l pl cl (γ.q 0 Z) n_ K1 M1 (γ.q 1 Z) hokl hokn_) ?_
 intro hq1
 have q1 := l9F_lt l n_
 refine R0 ?_
 refine WX.cases 10 Z ?_ ?_ <;> intro h1
 ·skip
  have h1d := B.dt h1
  refine R0 ?_
  have hP1 : a0n l n_ = 0 := by simp only [a0n, h1, cT, cF]
  refine R1 ?_
  intro w1 G bs hI hΓ
  rw [hP1]
  exact ⟨Z, (i6 0)⟩
 have h1d := B.df h1
 refine R0 ?_
 have r1 : (l).length ≤ bd n := (okl hokl).1
 have r2 : -9223372036854775808 ≤ (a1l l n_) ∧ (a1l l n_) ≤ 9223372036854775807 := hq1
 refine WX.slot 12 (y := .v (.int .i64 ((((a1l l n_)).toNat : Nat) : Int))) Z (fun _ => congrArg (Value.int .i64) (show (a1l l n_) = ((((a1l l n_)).toNat : Nat) : Int) from by omega)) ?_
 have e1i : ((a1l l n_)).toNat < (l).length := τ6
 obtain ⟨e1, e1h⟩ : ∃ e1, (l)[((a1l l n_)).toNat]? = some e1 := ⟨_, List.getElem?_eq_getElem e1i⟩
 have ok1 : GoT.ok n e1 := (okl hokl).2 _ (List.mem_of_getElem? e1h)
 refine WX.idx 0 (((a1l l n_)).toNat) ttOk Z Z Z Z Z Z Z Z Z Z e1i ?_
 rintro ad1 rfl
 refine R0 ?_
 refine WX.ldE 0 2 e1 ttOk Z Z Z Z Z Z Z Z e1h O O ?_
 rintro ⟨⟨p1, c1⟩, ⟨⟩⟩
 refine R0 ?_
 have hP2 : a0n l n_ = e1.secret := by simp only [a0n, h1, e1h, cT, cF]
 refine R1 ?_
 intro w1 G bs hI hΓ
 rw [hP2]
 exact ⟨Z, (ok_Key ok1).2⟩
theorem f117 (w : World) (n : Nat) (hn : n + 7 ≤ 9) (secret : Int) (x_ : DataP) (K0 M0) (N0 : RdSl (hp w) K0 M0 x_.name.parts) (K1 M1) (N1 : RdSl (hp w) K1 M1 x_.content) (K2 M2) (N2 : RdSl (hp w) K2 M2 x_.keyName.parts) (hoksecret : GoT.ok n secret) (hokx_ : GoT.ok n x_) :
 Does Tryz.prog 117 #[.int .i64 (secret), .agg #[.slice K0 ((x_.name.parts).length) M0, .slice K1 ((x_.content).length) M1, .slice K2 ((x_.keyName.parts).length) M2, .int .i64 (x_.freshUntil), .int .i64 (x_.signature)]] w emp (pB (a4m secret x_)) := by
 have hb := bS7 hn
 refine EN Tryz.func117 Z (aS3 N0 N1 N2) ?_
 refine R0 ?_
 refine WX.draw [] mixed ?_
 intro bs G0 hΓ0
 refine DX.takes (fuel := 11) ttOk [(0, true)] J Z ?_
 refine DXV 1 Z J Z Z Z Z Z Z O Z (fun w γ => f139 w n τ1 secret hoksecret) ?_
 intro hq1
 refine DX.takes (fuel := 9) ttOk [(2, true)] J Z ?_
 refine DX.cases 7 Z ?_ ?_ <;> intro h1
 ·skip
  refine DX.takes (fuel := 5) ttOk [(3, true), (4, false), (5, true), (6, false)] J Z ?_
  refine DXF 7 3 Z J Z Z Z Z Z Z O Z (fun w γ => f90 w n τ1 x_ K0 M0 (γ.q 0 Z) K1 M1 (γ.q 1 Z) K2 M2 (γ.q 2 Z) hokx_) ?_
  rintro ⟨p1, c1⟩ hq2
  refine DXV 8 Z J Z Z Z Z Z Z O Z (fun w γ => f89 w (n + 5) τ1 secret (a2z x_) p1 c1 (γ.q 3 Z) hoksecret hq2) ?_
  intro hq3
  refine DX.takes (fuel := 0) ttOk [(9, true), (10, true), (11, true)] J Z ?_
  refine DX.tail2 [] Z Z J ?_
  refine R0 ?_
  exact R4 Z (by simp only [a4m, h1, cT, cF])
 refine DX.takes (fuel := 0) ttOk [(3, true), (4, true), (5, true), (6, true), (7, true), (8, true), (9, true), (10, true), (11, true)] J Z ?_
 refine DX.tail2 [] Z Z J ?_
 refine R0 ?_
 exact R4 Z (by simp only [a4m, h1, cT, cF])
theorem f96 (w : World) (n : Nat) (hn : n + 7 ≤ 9) (l : (List Key)) (pl cl) (N0 : RdSl (hp w) pl cl l) (x_ : DataP) (K1 M1) (N1 : RdSl (hp w) K1 M1 x_.name.parts) (K2 M2) (N2 : RdSl (hp w) K2 M2 x_.content) (K3 M3) (N3 : RdSl (hp w) K3 M3 x_.keyName.parts) (hokl : GoT.ok n l) (hokx_ : GoT.ok n x_) :
 Does Tryz.prog 96 #[.slice pl ((l).length) cl, .agg #[.slice K1 ((x_.name.parts).length) M1, .slice K2 ((x_.content).length) M2, .slice K3 ((x_.keyName.parts).length) M3, .int .i64 (x_.freshUntil), .int .i64 (x_.signature)]] w emp (pB (a48 l x_)) := by
 have hb := bS7 hn
 refine EN Tryz.func96 Z (aS4 N0 N1 N2 N3) ?_
 refine R0 ?_
 refine WX.draw [] mixed ?_
 intro bs G0 hΓ0
 refine DX.takes (fuel := 3) ttOk [(0, true), (1, true), (2, false), (4, false)] J Z ?_
 refine DXV 3 Z J Z Z Z Z Z Z O Z (fun w γ => f67 w n τ1 l pl cl (γ.q 0 Z) x_.keyName K3 M3 (γ.q 3 Z) hokl ((ok_DataP hokx_).2.2.1)) ?_
 intro hq1
 refine DXV 5 Z J Z Z Z Z Z Z O Z (fun w γ => f117 w n τ1 (a0n l x_.keyName) x_ K1 M1 (γ.q 1 Z) K2 M2 (γ.q 2 Z) K3 M3 (γ.q 3 Z) hq1 hokx_) ?_
 intro hq2
 refine DX.takes (fuel := 0) ttOk [(6, true)] J Z ?_
 refine DX.tail2 [] Z Z J ?_
 refine R0 ?_
 exact R4 Z (by simp only [a48, cT, cF])
theorem f104 (w : World) (n : Nat) (hn : n + 0 ≤ 9) (l : (List Key)) (pl cl) (N0 : RdSl (hp w) pl cl l) (n_ : Name) (K1 M1) (N1 : RdSl (hp w) K1 M1 n_.parts) (hokl : GoT.ok n l) (hokn_ : GoT.ok n n_) :
 Does Tryz.prog 104 #[.slice pl ((l).length) cl, .agg #[.slice K1 ((n_.parts).length) M1]] w emp (fun (rv : Value) (_ : World) => rv = .int .i64 ((a15 l n_)) ∧ GoT.ok n ((a15 l n_) : Int)) := by
 have hb := bS0 hn
 refine EN Tryz.func104 Z (aS2 N0 N1) ?_
 refine R0 ?_
 have r1 : (l).length ≤ bd n := (okl hokl).1
 refine WX.loop (ι := Nat) ⟨fun i => (i ≤ (l).length) ∧ (a36 n_ l = a36 n_ ((l).drop i)), fun i => (l).length - i, fun i => [(9, .v (.int .i64 (((i : Nat) : Int)))), (8, .v (.int .i64 ((((l).length : Nat) : Int)))), (7, .v (.slice pl ((l).length) cl)), (3, .p 3 0)], fun i => [(3, ⟨26, [.slice K1 ((n_.parts).length) M1]⟩)], fun i => [], fun i => [(0, MF.rs .stb pl cl l), (1, MF.rs .stb K1 M1 n_.parts)]⟩ 0 ⟨(Nat.zero_le _), Z⟩
  (.cons Z (.cons Z (.cons Z (.cons Z (.nil))))) (.cons Z (.nil)) .nil [0, 1] Z ?_
 rintro i ⟨v1, v2⟩
 refine R0 ?_
 refine WX.cases 10 Z ?_ ?_ <;> intro h1
 ·skip
  have h1d := B.dt h1
  have e1i : i < (l).length := τ1
  obtain ⟨e1, e1h⟩ : ∃ e1, (l)[i]? = some e1 := ⟨_, List.getElem?_eq_getElem e1i⟩
  have ok1 : GoT.ok n e1 := (okl hokl).2 _ (List.mem_of_getElem? e1h)
  refine R0 ?_
  refine WX.idx 0 i ttOk Z Z Z Z Z Z Z Z Z Z e1i ?_
  rintro ad1 rfl
  refine WX.ldE 0 2 e1 ttOk Z Z Z Z Z Z Z Z e1h O O ?_
  rintro ⟨⟨p1, c1⟩, ⟨⟩⟩
  refine R0 ?_
  refine CV Z Z Z Z Z O Z (fun w γ => f38 w n τ1 e1.name p1 c1 (γ.q 2 Z) n_ K1 M1 (γ.q 1 Z) ((ok_Key ok1).1) hokn_) ?_
  intro hq1
  refine R0 ?_
  refine WX.cases 16 Z ?_ ?_ <;> intro h2
  ·skip
   refine R0 ?_
   have hP1 : a36 n_ l = (some e1.secret) := by rw [v2, drop_get e1h]; simp only [a36, h2, cT, cF]
   have hP2 : a15 l n_ = e1.secret := by simp only [a15, hP1, cT, cF]
   refine R1 ?_
   intro w1 G bs hI hΓ
   rw [hP2]
   exact ⟨Z, (ok_Key ok1).2⟩
  refine R0 ?_
  refine WX.see Z Z Z (fun _ hΓ => looks_arith Z Z Z Z τ2) ?_
  refine R0 ?_
  exact WX.iter (i + 1) ⟨τ1, (by rw [v2, drop_get e1h]; simp only [a36, h2, cT, cF])⟩ τ4 (.cons Z (.cons Z (.cons Z (.cons Z (.nil))))) (.cons Z (.nil)) .nil [0, 1] Z
 have h1d := B.df h1
 refine R0 ?_
 have hX1 : a36 n_ l = none := by rw [v2, List.drop_eq_nil_of_le (show (l).length ≤ i by omega)]; simp only [a36, cT, cF]
 have hP3 : a15 l n_ = 0 := by simp only [a15, hX1, cT, cF]
 refine R1 ?_
 intro w1 G bs hI hΓ
 rw [hP3]
 exact ⟨Z, (i6 0)⟩
theorem f103 (w : World) (n : Nat) (hn : n + 6 ≤ 9) (secret : Int) (x_ : DataP) (K0 M0) (N0 : RdSl (hp w) K0 M0 x_.name.parts) (K1 M1) (N1 : RdSl (hp w) K1 M1 x_.content) (K2 M2) (N2 : RdSl (hp w) K2 M2 x_.keyName.parts) (hoksecret : GoT.ok n secret) (hokx_ : GoT.ok n x_) :
 Does Tryz.prog 103 #[.int .i64 (secret), .agg #[.slice K0 ((x_.name.parts).length) M0, .slice K1 ((x_.content).length) M1, .slice K2 ((x_.keyName.parts).length) M2, .int .i64 (x_.freshUntil), .int .i64 (x_.signature)]] w emp (pB (a4n secret x_)) := by
 have hb := bS6 hn
 refine EN Tryz.func103 Z (aS3 N0 N1 N2) ?_
 refine R0 ?_
 refine WX.draw [] mixed ?_
 intro bs G0 hΓ0
 refine DX.takes (fuel := 11) ttOk [(0, true)] J Z ?_
 refine DXV 1 Z J Z Z Z Z Z Z O Z (fun w γ => f125 w n τ1 secret hoksecret) ?_
 intro hq1
 refine DX.takes (fuel := 9) ttOk [(2, true)] J Z ?_
 refine DX.cases 7 Z ?_ ?_ <;> intro h1
 ·skip
  refine DX.takes (fuel := 5) ttOk [(3, true), (4, false), (5, true), (6, false)] J Z ?_
  refine DXF 7 3 Z J Z Z Z Z Z Z O Z (fun w γ => f127 w n τ1 x_ K0 M0 (γ.q 0 Z) K1 M1 (γ.q 1 Z) K2 M2 (γ.q 2 Z) hokx_) ?_
  rintro ⟨p1, c1⟩ hq2
  refine DXV 8 Z J Z Z Z Z Z Z O Z (fun w γ => f126 w (n + 5) τ1 secret (a29 x_) p1 c1 (γ.q 3 Z) hoksecret hq2) ?_
  intro hq3
  refine DX.takes (fuel := 0) ttOk [(9, true), (10, true), (11, true)] J Z ?_
  refine DX.tail2 [] Z Z J ?_
  refine R0 ?_
  exact R4 Z (by simp only [a4n, h1, cT, cF])
 refine DX.takes (fuel := 0) ttOk [(3, true), (4, true), (5, true), (6, true), (7, true), (8, true), (9, true), (10, true), (11, true)] J Z ?_
 refine DX.tail2 [] Z Z J ?_
 refine R0 ?_
 exact R4 Z (by simp only [a4n, h1, cT, cF])
theorem f85 (w : World) (n : Nat) (hn : n + 6 ≤ 9) (l : (List Key)) (pl cl) (N0 : RdSl (hp w) pl cl l) (x_ : DataP) (K1 M1) (N1 : RdSl (hp w) K1 M1 x_.name.parts) (K2 M2) (N2 : RdSl (hp w) K2 M2 x_.content) (K3 M3) (N3 : RdSl (hp w) K3 M3 x_.keyName.parts) (hokl : GoT.ok n l) (hokx_ : GoT.ok n x_) :
 Does Tryz.prog 85 #[.slice pl ((l).length) cl, .agg #[.slice K1 ((x_.name.parts).length) M1, .slice K2 ((x_.content).length) M2, .slice K3 ((x_.keyName.parts).length) M3, .int .i64 (x_.freshUntil), .int .i64 (x_.signature)]] w emp (pB (a4i l x_)) := by
 have hb := bS6 hn
 refine EN Tryz.func85 Z (aS4 N0 N1 N2 N3) ?_
 refine R0 ?_
 refine WX.draw [] mixed ?_
 intro bs G0 hΓ0
 refine DX.takes (fuel := 3) ttOk [(0, true), (1, true), (2, false), (4, false)] J Z ?_
 refine DXV 3 Z J Z Z Z Z Z Z O Z (fun w γ => f104 w n τ1 l pl cl (γ.q 0 Z) x_.keyName K3 M3 (γ.q 3 Z) hokl ((ok_DataP hokx_).2.2.1)) ?_
 intro hq1
 refine DXV 5 Z J Z Z Z Z Z Z O Z (fun w γ => f103 w n τ1 (a15 l x_.keyName) x_ K1 M1 (γ.q 1 Z) K2 M2 (γ.q 2 Z) K3 M3 (γ.q 3 Z) hq1 hokx_) ?_
 intro hq2
 refine DX.takes (fuel := 0) ttOk [(6, true)] J Z ?_
 refine DX.tail2 [] Z Z J ?_
 refine R0 ?_
 exact R4 Z (by simp only [a4i, cT, cF])
theorem f172 (w : World) (n : Nat) (hn : n + 0 ≤ 9) (l : (List Binding)) (pl cl) (N0 : RdSl (hp w) pl cl l) (k : Str) (hokl : GoT.ok n l) (hokk : GoT.ok n k) :
 Does Tryz.prog 172 #[.slice pl ((l).length) cl, .string k] w emp (fun (rv : Value) (_ : World) => rv = .int .i64 ((a19 l k)) ∧ GoT.ok n ((a19 l k) : Int)) := by
 have hb := bS0 hn
 refine EN Tryz.func172 Z (aS1 N0) ?_
 refine R0 ?_
 have r1 : (l).length ≤ bd n := (okl hokl).1
 refine WX.loop (ι := Nat) ⟨fun i => (i ≤ (l).length) ∧ (a2i k l 0 = a2i k ((l).drop i) i), fun i => (l).length - i, fun i => [(5, .v (.int .i64 (((i : Nat) : Int)))), (0, .v (.slice pl ((l).length) cl)), (1, .v (.string k))], fun i => [], fun i => [], fun i => [(0, MF.rs .stb pl cl l)]⟩ 0 ⟨(Nat.zero_le _), Z⟩
  (.cons Z (.cons Z (.cons Z (.nil)))) .nil .nil [0] Z ?_
 rintro i ⟨v1, v2⟩
 refine R0 ?_
 refine WX.cases 9 Z ?_ ?_ <;> intro h1
 ·skip
  have h1d := B.dt h1
  have e1i : i < (l).length := τ1
  obtain ⟨e1, e1h⟩ : ∃ e1, (l)[i]? = some e1 := ⟨_, List.getElem?_eq_getElem e1i⟩
  have ok1 : GoT.ok n e1 := (okl hokl).2 _ (List.mem_of_getElem? e1h)
  refine R0 ?_
  refine WX.idx 0 i ttOk Z Z Z Z Z Z Z Z Z Z e1i ?_
  rintro ad1 rfl
  refine R0 ?_
  refine WX.ldE 0 1 e1 ttOk Z Z Z Z Z Z Z Z e1h O O ?_
  rintro ⟨⟨⟩, ⟨⟩⟩
  refine R0 ?_
  refine WX.cases 18 Z ?_ ?_ <;> intro h2
  ·skip
   have h2d := B.et h2
   refine R0 ?_
   have hP1 : a2i k l 0 = (some ((i : Nat) : Int)) := by rw [v2, drop_get e1h]; simp only [a2i, h2, cT, cF]
   have hP2 : a19 l k = ((i : Nat) : Int) := by simp only [a19, hP1, cT, cF]
   refine R1 ?_
   intro w1 G bs hI hΓ
   rw [hP2]
   exact ⟨Z, (i6 ((i : Nat) : Int))⟩
  have h2d := B.ef h2
  refine R0 ?_
  refine WX.see Z Z Z (fun _ hΓ => looks_arith Z Z Z Z τ2) ?_
  refine R0 ?_
  exact WX.iter (i + 1) ⟨τ1, (by rw [v2, drop_get e1h]; simp only [a2i, h2, cT, cF])⟩ τ4 (.cons Z (.cons Z (.cons Z (.nil)))) .nil .nil [0] Z
 have h1d := B.df h1
 refine R0 ?_
 have hX1 : a2i k l 0 = none := by rw [v2, List.drop_eq_nil_of_le (show (l).length ≤ i by omega)]; simp only [a2i, cT, cF]
 have hP3 : a19 l k = (-1) := by simp only [a19, hX1, cT, cF]
 refine R1 ?_
 intro w1 G bs hI hΓ
 rw [hP3]
 exact ⟨Z, (i6 (-1))⟩
theorem f156 (w : World) (n : Nat) (hn : n + 1 ≤ 9) (p_ : Pattern) (K0 M0) (N0 : RdSl (hp w) K0 M0 p_.parts) (n_ : Name) (K1 M1) (N1 : RdSl (hp w) K1 M1 n_.parts) (l : (List Binding)) (pl cl) (N2 : RdSl (hp w) pl cl l) (hokp_ : GoT.ok n p_) (hokn_ : GoT.ok n n_) (hokl : GoT.ok n l) :
 Does Tryz.prog 156 #[.agg #[.slice K0 ((p_.parts).length) M0], .agg #[.slice K1 ((n_.parts).length) M1], .slice pl ((l).length) cl] w emp (Post w emp (fun x : GoT.X ((List Binding)) => .tuple #[(GoT.sh ((a0w p_ n_ l).1 : (List Binding)) x).headD undef, .bool ((a0w p_ n_ l).2)]) (fun x => GoT.oa ((a0w p_ n_ l).1 : (List Binding)) x) (GoT.ok (n + 1) ((a0w p_ n_ l).1 : (List Binding)))) := by
 have hb := bS1 hn
 refine EN Tryz.func156 Z (aS3 N0 N1 N2) ?_
 refine R0 ?_
 refine WX.bld ttOk Z Z Z Z Z Z Z ?_
 intro p1
 refine R0 ?_
 refine WX.free 3 (MF.ol [] ([] : List Binding)) Z ?_
 have r1 : (l).length ≤ bd n := (okl hokl).1
 refine WX.appG1 13 2 4 (l : List Binding).length ttOk Z Z Z Z Z Z Z Z Z Z Z Z Z τ7 τ1 τ1 (fun _ _ _ => Z) ?_
 intro ys1 p2 c1
 refine WX.know (fun G hΓ => (hΓ.get 4 Z : RdL _ _ _).flat) ?_
 intro hf1
 refine WX.turn [3] 5 Z (fun h hs => ol_flat hs hf1) (gs := [MF.ol ([] ++ ys1) (l : List Binding)]) Z ?_
 refine R0 ?_
 refine CV Z Z Z Z Z O Z (fun w γ => f153 w n τ1 p_ K0 M0 (γ.q 0 Z) hokp_) ?_
 intro hq1
 refine R0 ?_
 refine WX.cases 19 Z ?_ ?_ <;> intro h1
 ·skip
  have h1d := (B.nt h1)
  refine R0 ?_
  refine WX.seal 13 5 6 Z Z Z Z Z ?_
  have hP1 : a0w p_ n_ l = (l, false) := by simp only [a0w, h1, cT, cF]
  refine R1 ?_
  intro w1 G bs hI hΓ
  rw [hP1]
  exact Post.of [7] (p2, c1) hI hΓ Z Z Z (okl_mk τ1 (fun a ha => GoT.okm τ1 ((okl hokl).2 a ha)) : GoT.ok (n + 1) (l : List Binding))
 have h1d := (B.nf h1)
 refine R0 ?_
 refine CV Z Z Z Z Z O Z (fun w γ => f56 w n τ1 n_ K1 M1 (γ.q 1 Z) hokn_) ?_
 intro hq2
 refine R0 ?_
 refine WX.cases 23 Z ?_ ?_ <;> intro h2
 ·skip
  have h2d := (B.nt h2)
  refine R0 ?_
  refine WX.seal 13 5 8 Z Z Z Z Z ?_
  have hP2 : a0w p_ n_ l = (l, false) := by simp only [a0w, h1, h2, cT, cF]
  refine R1 ?_
  intro w1 G bs hI hΓ
  rw [hP2]
  exact Post.of [9] (p2, c1) hI hΓ Z Z Z (okl_mk τ1 (fun a ha => GoT.okm τ1 ((okl hokl).2 a ha)) : GoT.ok (n + 1) (l : List Binding))
 have h2d := (B.nf h2)
 refine R0 ?_
 refine WX.bld ttOk Z Z Z Z Z Z Z ?_
 intro p3
 refine R0 ?_
 refine WX.free 10 (MF.ol [] ([] : List Binding)) Z ?_
 refine WX.appG1 25 2 11 (l : List Binding).length ttOk Z Z Z Z Z Z Z Z Z Z Z Z Z τ7 τ1 τ1 (fun _ _ _ => Z) ?_
 intro ys2 p4 c2
 refine WX.know (fun G hΓ => (hΓ.get 11 Z : RdL _ _ _).flat) ?_
 intro hf2
 refine WX.turn [10] 12 Z (fun h hs => ol_flat hs hf2) (gs := [MF.ol ([] ++ ys2) (l : List Binding)]) Z ?_
 refine R0 ?_
 refine WX.seal 25 12 13 Z Z Z Z Z ?_
 have r2 : (p_.parts).length ≤ bd n := (okl (ok_Pattern hokp_)).1
 refine WX.loop (ι := (Option Addr) × Nat × (List Binding) × Nat) ⟨fun | (pout, cout, out, i) => (i ≤ (p_.parts).length) ∧ (out.length ≤ bd (n + 1) ∧ ∀ z_ ∈ out, GoT.ok (n + 1) z_) ∧ (out.length ≤ i + (l).length) ∧ (a0v n_ l p_.parts 0 (l : List Binding) = a0v n_ l ((p_.parts).drop i) i out), fun | (pout, cout, out, i) => (p_.parts).length - i, fun | (pout, cout, out, i) => [(9, .v (.slice pout ((out).length) cout)), (10, .v (.int .i64 (((i : Nat) : Int)))), (8, .v (.slice p2 ((l).length) c1)), (4, .p 4 0), (3, .p 3 0)], fun | (pout, cout, out, i) => [(4, ⟨26, [.slice K1 ((n_.parts).length) M1]⟩), (3, ⟨128, [.slice K0 ((p_.parts).length) M0]⟩)], fun | (pout, cout, out, i) => [(13, ⟨2, p2, (l).length, c1, ([] ++ ys1)⟩)], fun | (pout, cout, out, i) => [(0, MF.rs .stb K0 M0 p_.parts), (1, MF.rs .stb K1 M1 n_.parts), (2, MF.rs .stb pl cl l), (5, MF.ol ([] ++ ys1) (l : List Binding)), (14, MF.os pout cout out)]⟩ (p4, c2, (l : List Binding), 0) ⟨(Nat.zero_le _), (okl_mk τ1 (fun a ha => GoT.okm τ1 ((okl hokl).2 a ha)) : GoT.ok (n + 1) (l : List Binding)), τ11, Z⟩
  (.cons Z (.cons Z (.cons Z (.cons Z (.cons Z (.nil)))))) (.cons Z (.cons Z (.nil))) (.cons Z (.nil)) [0, 1, 2, 5, 14] Z ?_
 rintro ⟨pout, cout, out, i⟩ ⟨v1, v2, v3, v4⟩
 have v2L := v2.1
 refine R0 ?_
 refine WX.cases 32 Z ?_ ?_ <;> intro h3
 ·skip
  have h3d := B.dt h3
  have e1i : i < (p_.parts).length := τ1
  obtain ⟨e1, e1h⟩ : ∃ e1, (p_.parts)[i]? = some e1 := ⟨_, List.getElem?_eq_getElem e1i⟩
  have ok1 : GoT.ok n e1 := (okl (ok_Pattern hokp_)).2 _ (List.mem_of_getElem? e1h)
  refine R0 ?_
  refine WX.idx 0 i ttOk Z Z Z Z Z Z Z Z Z Z e1i ?_
  rintro ad1 rfl
  refine WX.ldE 0 15 e1 ttOk Z Z Z Z Z Z Z Z e1h O O ?_
  rintro ⟨⟩
  refine R0 ?_
  refine WX.cases 41 Z ?_ ?_ <;> intro h4
  ·skip
   have h4d := B.et h4
   refine R0 ?_
   have hP3 : a0v n_ l p_.parts 0 (l : List Binding) = (Ctl.ret (out, true)) := by rw [v4, drop_get e1h]; simp only [a0v, h4, cT, cF]
   have hP4 : a0w p_ n_ l = (out, true) := by simp only [a0w, h1, h2, hP3, cT, cF]
   refine R1 ?_
   intro w1 G bs hI hΓ
   rw [hP4]
   exact Post.of [14] (pout, cout) hI hΓ Z Z Z (okl_of v2)
  have h4d := B.ef h4
  refine R0 ?_
  refine WX.cases 47 Z ?_ ?_ <;> intro h5
  ·skip
   have h5d := B.dt h5
   refine R0 ?_
   refine WX.seal 13 5 15 Z Z Z Z Z ?_
   have hP5 : a0v n_ l p_.parts 0 (l : List Binding) = (Ctl.ret (l, false)) := by rw [v4, drop_get e1h]; simp only [a0v, h4, h5, cT, cF]
   have hP6 : a0w p_ n_ l = (l, false) := by simp only [a0w, h1, h2, hP5, cT, cF]
   refine R1 ?_
   intro w1 G bs hI hΓ
   rw [hP6]
   exact Post.of [16] (p2, c1) hI hΓ Z Z Z (okl_mk τ1 (fun a ha => GoT.okm τ1 ((okl hokl).2 a ha)) : GoT.ok (n + 1) (l : List Binding))
  have h5d := B.df h5
  refine R0 ?_
  refine WX.cases 49 Z ?_ ?_ <;> intro h6
  ·skip
   have h6d := B.et h6
   refine R0 ?_
   refine WX.see Z Z Z (fun _ hΓ => looks_arith Z Z Z Z τ2) ?_
   refine R0 ?_
   exact WX.iter (pout, cout, out, i + 1) ⟨τ1, (okl_of v2), τ5, (by rw [v4, drop_get e1h]; simp only [a0v, h4, h5, h6, cT, cF])⟩ τ4 (.cons Z (.cons Z (.cons Z (.cons Z (.cons Z (.nil)))))) (.cons Z (.cons Z (.nil))) (.cons Z (.nil)) [0, 1, 2, 5, 14] Z
  have h6d := B.ef h6
  refine R0 ?_
  refine CV Z Z Z Z Z O Z (fun w γ => f154 w n τ1 e1 ok1) ?_
  intro hq3
  refine R0 ?_
  refine WX.cases 52 Z ?_ ?_ <;> intro h7
  ·skip
   refine R0 ?_
   refine WX.der 17 (MF.rs .der pout cout out) Z (fun _ hΓ => (hΓ.get 14 Z : OwSl _ _ _ _).rd) ?_
   refine CV Z Z Z Z Z O Z (fun w γ => f172 w (n + 1) τ1 out pout cout (γ.q 17 Z) e1 (okl_of v2) (GoT.okm (α := Str) τ1 ok1)) ?_
   intro hq4
   have q1 := l5F_lt out e1
   refine R0 ?_
   refine WX.cases 59 Z ?_ ?_ <;> intro h8
   ·skip
    have h8d := B.dt h8
    refine R0 ?_
    have e2i : i < (n_.parts).length := τ6
    obtain ⟨e2, e2h⟩ : ∃ e2, (n_.parts)[i]? = some e2 := ⟨_, List.getElem?_eq_getElem e2i⟩
    have ok2 : GoT.ok n e2 := (okl (ok_Name hokn_)).2 _ (List.mem_of_getElem? e2h)
    refine WX.idx 1 i ttOk Z Z Z Z Z Z Z Z Z Z e2i ?_
    rintro ad2 rfl
    refine WX.ldE 1 18 e2 ttOk Z Z Z Z Z Z Z Z e2h O O ?_
    rintro ⟨⟩
    refine R0 ?_
    refine WX.bld ttOk Z Z Z Z Z Z Z ?_
    intro p5
    refine WX.opn (kk := 2) 501 14 18 Z Z Z ?_
    intro xs1 hx1
    refine WX.turn [] 19 Z (fun h hs => ol_one (α := Binding) (a := (Binding.mk e1 e2)) (x := ((), ())) hs) (gs := [MF.ol [.string e1, .string e2] ([(Binding.mk e1 e2)] : List Binding)]) Z ?_
    have r3 : (e1).size ≤ bd n := ok1
    have r4 : (e2).size ≤ bd n := ok2
    refine WX.know (fun G hΓ => (hΓ.get 19 Z : OwL _ _ _).rd.one) ?_
    intro ho1
    refine WX.appR1 501 68 ((out ++ [(Binding.mk e1 e2)]) : List Binding).length ttOk Z Z Z Z Z Z Z Z Z Z Z Z Z ho1 τ11 τ3 τ3 (fun _ _ => Z) ?_
    intro p6 c3
    refine WX.turn [18, 19] 20 Z (fun h hs => ol_app hs) (gs := [MF.ol (xs1 ++ [.string e1, .string e2]) ((out ++ [(Binding.mk e1 e2)]) : List Binding)]) Z ?_
    refine R0 ?_
    refine WX.see Z Z Z (fun _ hΓ => looks_arith Z Z Z Z τ2) ?_
    refine R0 ?_
    refine WX.seal 501 20 21 Z Z Z Z Z ?_
    refine WX.turn [22] 14 Z (fun _ h => h) Z ?_
    exact WX.iter (p6, c3, (out ++ [(Binding.mk e1 e2)]), i + 1) ⟨τ1, (okl_mk τ3 (all_app v2.2 (fun a ha => GoT.okm τ1 ((all_cons (α := Binding) (And.intro ok1 ok2) (fun a ha => by cases ha)) a ha))) : GoT.ok (n + 1) ((out ++ [(Binding.mk e1 e2)]) : List Binding)), τ5, (by rw [v4, drop_get e1h]; simp only [a0v, h4, h5, h6, h7, h8, e2h, cT, cF])⟩ τ4 (.cons Z (.cons Z (.cons Z (.cons Z (.cons Z (.nil)))))) (.cons Z (.cons Z (.nil))) (.cons Z (.nil)) [0, 1, 2, 5, 14] Z
   have h8d := B.df h8
   refine R0 ?_
   refine WX.draw [] mixed ?_
   intro bs G0 hΓ0
   refine DX.takes (fuel := 9) ttOk [(0, true), (1, true)] J Z ?_
   have r5 : (e1).size ≤ bd n := ok1
   have r6 : -9223372036854775808 ≤ (a19 out e1) ∧ (a19 out e1) ≤ 9223372036854775807 := hq4
   refine DX.slot 71 (y := .v (.int .i64 ((((a19 out e1)).toNat : Nat) : Int))) Z (fun _ => congrArg (Value.int .i64) (show (a19 out e1) = ((((a19 out e1)).toNat : Nat) : Int) from by omega)) ?_
   have e3i : ((a19 out e1)).toNat < (out).length := τ6
   obtain ⟨e3, e3h⟩ : ∃ e3, (out)[((a19 out e1)).toNat]? = some e3 := ⟨_, List.getElem?_eq_getElem e3i⟩
   have ok3 : GoT.ok (n + 1) e3 := v2.2 _ (List.mem_of_getElem? e3h)
   refine DX.idx 2 17 (((a19 out e1)).toNat) ttOk hΓ0 J Z Z Z Z Z Z Z Z Z Z Z e3i ?_
   rintro ad3 rfl
   refine DX.takes (fuel := 7) ttOk [(3, true)] J Z ?_
   refine DX.ldE 4 17 23 e3 ttOk hΓ0 J Z Z Z Z Z Z Z Z e3h O O ?_
   rintro ⟨⟨⟩, ⟨⟩⟩
   refine DX.takes (fuel := 3) ttOk [(5, true), (6, false), (7, true)] J Z ?_
   have e4i : i < (n_.parts).length := τ6
   obtain ⟨e4, e4h⟩ : ∃ e4, (n_.parts)[i]? = some e4 := ⟨_, List.getElem?_eq_getElem e4i⟩
   have ok4 : GoT.ok n e4 := (okl (ok_Name hokn_)).2 _ (List.mem_of_getElem? e4h)
   refine DX.idx 8 1 i ttOk hΓ0 J Z Z Z Z Z Z Z Z Z Z Z e4i ?_
   rintro ad4 rfl
   refine DX.ldE 9 1 23 e4 ttOk hΓ0 J Z Z Z Z Z Z Z Z e4h O O ?_
   rintro ⟨⟩
   refine DX.takes (fuel := 0) ttOk [(10, true)] J Z ?_
   refine DX.tail2 [] Z Z J ?_
   refine R0 ?_
   refine WX.cases 80 Z ?_ ?_ <;> intro h9
   ·skip
    have h9d := B.ef (B.nt h9)
    refine R0 ?_
    refine WX.seal 13 5 23 Z Z Z Z Z ?_
    have hP7 : a0v n_ l p_.parts 0 (l : List Binding) = (Ctl.ret (l, false)) := by rw [v4, drop_get e1h]; simp only [a0v, h4, h5, h6, h7, h8, e3h, e4h, h9, cT, cF]
    have hP8 : a0w p_ n_ l = (l, false) := by simp only [a0w, h1, h2, hP7, cT, cF]
    refine R1 ?_
    intro w1 G bs hI hΓ
    rw [hP8]
    exact Post.of [24] (p2, c1) hI hΓ Z Z Z (okl_mk τ1 (fun a ha => GoT.okm τ1 ((okl hokl).2 a ha)) : GoT.ok (n + 1) (l : List Binding))
   have h9d := B.et (B.nf h9)
   refine R0 ?_
   refine WX.see Z Z Z (fun _ hΓ => looks_arith Z Z Z Z τ2) ?_
   refine R0 ?_
   exact WX.iter ((some ad3), cout, out, i + 1) ⟨τ1, (okl_of v2), τ5, (by rw [v4, drop_get e1h]; simp only [a0v, h4, h5, h6, h7, h8, e3h, e4h, h9, cT, cF])⟩ τ4 (.cons Z (.cons Z (.cons Z (.cons Z (.cons Z (.nil)))))) (.cons Z (.cons Z (.nil))) (.cons Z (.nil)) [0, 1, 2, 5, 14] Z
  refine R0 ?_
  have e5i : i < (n_.parts).length := τ6
  obtain ⟨e5, e5h⟩ : ∃ e5, (n_.parts)[i]? = some e5 := ⟨_, List.getElem?_eq_getElem e5i⟩
  have ok5 : GoT.ok n e5 := (okl (ok_Name hokn_)).2 _ (List.mem_of_getElem? e5h)
  refine WX.idx 1 i ttOk Z Z Z Z Z Z Z Z Z Z e5i ?_
  rintro ad5 rfl
  refine WX.ldE 1 25 e5 ttOk Z Z Z Z Z Z Z Z e5h O O ?_
  rintro ⟨⟩
  refine R0 ?_
  refine WX.cases 82 Z ?_ ?_ <;> intro h10
  ·skip
   have h10d := B.ef (B.nt h10)
   refine R0 ?_
   refine WX.seal 13 5 25 Z Z Z Z Z ?_
   have hP9 : a0v n_ l p_.parts 0 (l : List Binding) = (Ctl.ret (l, false)) := by rw [v4, drop_get e1h]; simp only [a0v, h4, h5, h6, h7, e5h, h10, cT, cF]
   have hP10 : a0w p_ n_ l = (l, false) := by simp only [a0w, h1, h2, hP9, cT, cF]
   refine R1 ?_
   intro w1 G bs hI hΓ
   rw [hP10]
   exact Post.of [26] (p2, c1) hI hΓ Z Z Z (okl_mk τ1 (fun a ha => GoT.okm τ1 ((okl hokl).2 a ha)) : GoT.ok (n + 1) (l : List Binding))
  have h10d := B.et (B.nf h10)
  refine R0 ?_
  refine WX.see Z Z Z (fun _ hΓ => looks_arith Z Z Z Z τ2) ?_
  refine R0 ?_
  exact WX.iter (pout, cout, out, i + 1) ⟨τ1, (okl_of v2), τ5, (by rw [v4, drop_get e1h]; simp only [a0v, h4, h5, h6, h7, e5h, h10, cT, cF])⟩ τ4 (.cons Z (.cons Z (.cons Z (.cons Z (.cons Z (.nil)))))) (.cons Z (.cons Z (.nil))) (.cons Z (.nil)) [0, 1, 2, 5, 14] Z
 have h3d := B.df h3
 refine R0 ?_
 have hX1 : a0v n_ l p_.parts 0 (l : List Binding) = (Ctl.nxt ((out) : List Binding)) := by rw [v4, List.drop_eq_nil_of_le (show (p_.parts).length ≤ i by omega)]; simp only [a0v, cT, cF]
 refine WX.cases 97 Z ?_ ?_ <;> intro h11
 ·skip
  have h11d := B.nt' h11
  refine R0 ?_
  refine WX.seal 13 5 27 Z Z Z Z Z ?_
  have hP11 : a0w p_ n_ l = (l, false) := by simp only [a0w, h1, h2, hX1, h11, cT, cF]
  refine R1 ?_
  intro w1 G bs hI hΓ
  rw [hP11]
  exact Post.of [28] (p2, c1) hI hΓ Z Z Z (okl_mk τ1 (fun a ha => GoT.okm τ1 ((okl hokl).2 a ha)) : GoT.ok (n + 1) (l : List Binding))
 have h11d := B.nf' h11
 refine R0 ?_
 have hP12 : a0w p_ n_ l = (out, true) := by simp only [a0w, h1, h2, hX1, h11, cT, cF]
 refine R1 ?_
 intro w1 G bs hI hΓ
 rw [hP12]
 exact Post.of [14] (pout, cout) hI hΓ Z Z Z (okl_of v2)
theorem f166 (w : World) (n : Nat) (hn : n + 0 ≤ 9) (s : (List Binding)) (ps cs) (N0 : RdSl (hp w) ps cs s) (hoks : GoT.ok n s) :
 Does Tryz.prog 166 #[.slice ps ((s).length) cs] w emp (Post w emp (fun x : GoT.X ((List Binding)) => (GoT.sh (s : (List Binding)) x).headD undef) (fun x => GoT.oa (s : (List Binding)) x) (GoT.ok n (s : (List Binding)))) := by
 have hb := bS0 hn
 refine EN Tryz.func166 Z (aS1 N0) ?_
 refine R0 ?_
 refine WX.see Z Z Z (fun _ hΓ => looks_nil ttOk Z Z Z Z) ?_
 refine WX.cases 4 Z (fun hp1 => ?_) (fun hp1 => ?_)
 ·skip
  obtain rfl : ps = none := by simpa using hp1
  refine WX.know (fun G hΓ => rdSl_none (hΓ.get 0 Z)) ?_
  intro ln1
  refine R0 ?_
  subst ln1
  refine WX.free 1 (MF.os none 0 ([] : List Binding)) (owSl_nil _ _) ?_
  refine R1 ?_
  intro w1 G bs hI hΓ
  exact Post.of [1] (none, 0) hI hΓ Z Z Z (by assumption)
 refine R0 ?_
 refine WX.bld ttOk Z Z Z Z Z Z Z ?_
 intro p1
 refine R0 ?_
 refine WX.free 2 (MF.ol [] ([] : List Binding)) Z ?_
 have r1 : (s).length ≤ bd n := (okl hoks).1
 refine WX.appG1 5 0 3 (s : List Binding).length ttOk Z Z Z Z Z Z Z Z Z Z Z Z Z τ7 τ1 τ1 (fun _ _ _ => Z) ?_
 intro ys1 p2 c1
 refine WX.know (fun G hΓ => (hΓ.get 3 Z : RdL _ _ _).flat) ?_
 intro hf1
 refine WX.turn [2] 4 Z (fun h hs => ol_flat hs hf1) (gs := [MF.ol ([] ++ ys1) (s : List Binding)]) Z ?_
 refine R0 ?_
 refine WX.seal 5 4 5 Z Z Z Z Z ?_
 refine R1 ?_
 intro w1 G bs hI hΓ
 exact Post.of [6] (p2, c1) hI hΓ Z Z Z (by assumption)
theorem f168 (w : World) (n : Nat) (hn : n + 0 ≤ 9) (s : (List Binding)) (ps cs) (N0 : RdSl (hp w) ps cs s) (fg : FuncId) (fc : List Value) (fq : Binding → Bool) (ff : ∀ w1, Kp emp w w1 → ∀ (e0 : Binding) (x0 : GoT.X Binding), GoT.ok n e0 → All (hp w1) (GoT.fa .der e0 x0) → Does Tryz.prog fg ([Value.agg ⟨GoT.sh e0 x0⟩] ++ fc).toArray w1 emp (fun rv _ => rv = .bool (fq e0) ∧ True)) (hoks : GoT.ok n s) :
 Does Tryz.prog 168 #[.slice ps ((s).length) cs, .func (.func fg) #[] fc.toArray] w emp (fun (rv : Value) (_ : World) => rv = .int .i64 ((slices_IndexFunc_Binding s fq)) ∧ GoT.ok n ((slices_IndexFunc_Binding s fq) : Int)) := by
 have hb := bS0 hn
 refine EN Tryz.func168 Z (aS1 N0) ?_
 refine R0 ?_
 have r1 : (s).length ≤ bd n := (okl hoks).1
 refine WX.loop (ι := Nat) ⟨fun i => (i ≤ (s).length) ∧ (slices_IndexFunc_Binding_L1 fq s 0 = slices_IndexFunc_Binding_L1 fq ((s).drop i) i), fun i => (s).length - i, fun i => [(8, .v (.int .i64 (((i : Nat) : Int)))), (7, .v (.int .i64 ((((s).length : Nat) : Int)))), (0, .v (.slice ps ((s).length) cs)), (1, .v (.func (.func fg) #[] fc.toArray))], fun i => [], fun i => [], fun i => [(0, MF.rs .stb ps cs s)]⟩ 0 ⟨(Nat.zero_le _), Z⟩
  (.cons Z (.cons Z (.cons Z (.cons Z (.nil))))) .nil .nil [0] Z ?_
 rintro i ⟨v1, v2⟩
 refine R0 ?_
 refine WX.cases 9 Z ?_ ?_ <;> intro h1
 ·skip
  have h1d := B.dt h1
  have e1i : i < (s).length := τ1
  obtain ⟨e1, e1h⟩ : ∃ e1, (s)[i]? = some e1 := ⟨_, List.getElem?_eq_getElem e1i⟩
  have ok1 : GoT.ok n e1 := (okl hoks).2 _ (List.mem_of_getElem? e1h)
  refine R0 ?_
  refine WX.idx 0 i ttOk Z Z Z Z Z Z Z Z Z Z e1i ?_
  rintro ad1 rfl
  refine WX.ldE 0 1 e1 ttOk Z Z Z Z Z Z Z Z e1h O O ?_
  rintro ⟨⟨⟩, ⟨⟩⟩
  refine WX.callV Z Z Z Z Z O Z (fun w G bs hI hΓ => ff w hI.keep e1 ((), ()) ok1 All.nil) ?_
  intro hq1
  refine R0 ?_
  refine WX.cases 16 Z ?_ ?_ <;> intro h2
  ·skip
   refine R0 ?_
   have hP1 : slices_IndexFunc_Binding_L1 fq s 0 = (some ((i : Nat) : Int)) := by rw [v2, drop_get e1h]; simp only [slices_IndexFunc_Binding_L1, h2, cT, cF]
   have hP2 : slices_IndexFunc_Binding s fq = ((i : Nat) : Int) := by simp only [slices_IndexFunc_Binding, hP1, cT, cF]
   refine R1 ?_
   intro w1 G bs hI hΓ
   rw [hP2]
   exact ⟨Z, (i6 ((i : Nat) : Int))⟩
  refine R0 ?_
  refine WX.see Z Z Z (fun _ hΓ => looks_arith Z Z Z Z τ2) ?_
  refine R0 ?_
  exact WX.iter (i + 1) ⟨τ1, (by rw [v2, drop_get e1h]; simp only [slices_IndexFunc_Binding_L1, h2, cT, cF])⟩ τ4 (.cons Z (.cons Z (.cons Z (.cons Z (.nil))))) .nil .nil [0] Z
 have h1d := B.df h1
 refine R0 ?_
 have hX1 : slices_IndexFunc_Binding_L1 fq s 0 = none := by rw [v2, List.drop_eq_nil_of_le (show (s).length ≤ i by omega)]; simp only [slices_IndexFunc_Binding_L1, cT, cF]
 have hP3 : slices_IndexFunc_Binding s fq = (-1) := by simp only [slices_IndexFunc_Binding, hX1, cT, cF]
 refine R1 ?_
 intro w1 G bs hI hΓ
 rw [hP3]
 exact ⟨Z, (i6 (-1))⟩
theorem ltL_slices_IndexFunc_Binding : ∀ (f : Binding → Bool) (l : List Binding) (i : Nat) (j : Int), slices_IndexFunc_Binding_L1 f l i = some j → j < ((i + l.length : Nat) : Int)
 | f, [], i, j, h => by cases h
 | f, x :: l, i, j, h => by
  simp only [slices_IndexFunc_Binding_L1] at h
  cases hx : f x
  ·rw [hx, cond_false] at h
   have := ltL_slices_IndexFunc_Binding f l (i + 1) j h
   simp only [List.length_cons]; omega
  ·rw [hx, cond_true] at h
   cases h
   simp only [List.length_cons]; omega
theorem ltI_slices_IndexFunc_Binding (l : List Binding) (f : Binding → Bool) : slices_IndexFunc_Binding l f < ((l.length : Nat) : Int) := by
 unfold slices_IndexFunc_Binding
 cases h : slices_IndexFunc_Binding_L1 f l 0 with
 | none => show (-1 : Int) < _; omega
 | some j => have := ltL_slices_IndexFunc_Binding f l 0 j h; show j < _; omega
theorem f169 (w : World) (n : Nat) (hn : n + 0 ≤ 9) (b : Binding) (part : Str) (bpart : Addr) (hpart : RdSl (hp w) (some bpart) 1 [part]) (hokb : GoT.ok n b) (hokpart : GoT.ok n part) :
 Does Tryz.prog 169 #[.agg #[.string b.letter, .string b.value], .pointer (some bpart)] w emp (pB (a26 part b)) := by
 refine EN Tryz.func169 Z (aS1 hpart) ?_
 have parth : ([part] : List Str)[0]? = some part := rfl
 refine WX.slot 1 (y := .e (some bpart) 0 1 0) Z (fun _ => cap_eq) ?_
 refine R0 ?_
 refine WX.ldE 0 1 part ttOk Z Z Z Z Z Z Z Z parth O O ?_
 rintro ⟨⟩
 refine R0 ?_
 exact R4 Z (by simp only [a26, cT, cF])
theorem f150 (w : World) (n : Nat) (hn : n + 1 ≤ 9) (p_ : Pattern) (K0 M0) (N0 : RdSl (hp w) K0 M0 p_.parts) (n_ : Name) (K1 M1) (N1 : RdSl (hp w) K1 M1 n_.parts) (l : (List Binding)) (pl cl) (N2 : RdSl (hp w) pl cl l) (hokp_ : GoT.ok n p_) (hokn_ : GoT.ok n n_) (hokl : GoT.ok n l) :
 Does Tryz.prog 150 #[.agg #[.slice K0 ((p_.parts).length) M0], .agg #[.slice K1 ((n_.parts).length) M1], .slice pl ((l).length) cl] w emp (Post w emp (fun x : GoT.X ((List Binding)) => .tuple #[(GoT.sh ((a0x p_ n_ l).1 : (List Binding)) x).headD undef, .bool ((a0x p_ n_ l).2)]) (fun x => GoT.oa ((a0x p_ n_ l).1 : (List Binding)) x) (GoT.ok (n + 1) ((a0x p_ n_ l).1 : (List Binding)))) := by
 have hb := bS1 hn
 refine EN Tryz.func150 Z (aS3 N0 N1 N2) ?_
 refine R0 ?_
 refine CF 3 Z Z Z Z Z O Z (fun w γ => f166 w n τ1 l pl cl (γ.q 2 Z) hokl) ?_
 rintro ⟨p1, c1⟩ hq1
 refine R0 ?_
 refine CV Z Z Z Z Z O Z (fun w γ => f167 w n τ1 p_ K0 M0 (γ.q 0 Z) hokp_) ?_
 intro hq2
 refine R0 ?_
 refine WX.cases 18 Z ?_ ?_ <;> intro h1
 ·skip
  have h1d := (B.nt h1)
  refine R0 ?_
  have hP1 : a0x p_ n_ l = (l, false) := by simp only [a0x, h1, cT, cF]
  refine R1 ?_
  intro w1 G bs hI hΓ
  rw [hP1]
  exact Post.of [4] (p1, c1) hI hΓ Z Z Z (GoT.okm (α := List Binding) τ1 hq1)
 have h1d := (B.nf h1)
 refine R0 ?_
 refine CV Z Z Z Z Z O Z (fun w γ => f53 w n τ1 n_ K1 M1 (γ.q 1 Z) hokn_) ?_
 intro hq3
 refine R0 ?_
 refine WX.cases 22 Z ?_ ?_ <;> intro h2
 ·skip
  have h2d := (B.nt h2)
  refine R0 ?_
  have hP2 : a0x p_ n_ l = (l, false) := by simp only [a0x, h1, h2, cT, cF]
  refine R1 ?_
  intro w1 G bs hI hΓ
  rw [hP2]
  exact Post.of [4] (p1, c1) hI hΓ Z Z Z (GoT.okm (α := List Binding) τ1 hq1)
 have h2d := (B.nf h2)
 refine R0 ?_
 have r1 : (p_.parts).length ≤ bd n := (okl (ok_Pattern hokp_)).1
 have hl0 : l.length ≤ bd n := (okl hokl).1
 refine WX.loop (ι := (Option Addr) × Nat × (List Binding) × Nat) ⟨fun | (pout, cout, out, i) => (i ≤ (p_.parts).length) ∧ (out.length ≤ bd (n + 1) ∧ ∀ z_ ∈ out, GoT.ok (n + 1) z_) ∧ (out.length ≤ i + (l).length) ∧ (a16 n_ l p_.parts 0 (l : List Binding) = a16 n_ l ((p_.parts).drop i) i out), fun | (pout, cout, out, i) => (p_.parts).length - i, fun | (pout, cout, out, i) => [(8, .v (.slice pout ((out).length) cout)), (27, .v (.int .i64 (((i : Nat) : Int)))), (26, .v (.int .i64 ((((p_.parts).length : Nat) : Int)))), (25, .v (.slice K0 ((p_.parts).length) M0)), (4, .p 4 0), (3, .p 3 0), (2, .v (.slice pl ((l).length) cl))], fun | (pout, cout, out, i) => [(4, ⟨26, [.slice K1 ((n_.parts).length) M1]⟩), (3, ⟨128, [.slice K0 ((p_.parts).length) M0]⟩)], fun | (pout, cout, out, i) => [], fun | (pout, cout, out, i) => [(0, MF.rs .stb K0 M0 p_.parts), (1, MF.rs .stb K1 M1 n_.parts), (2, MF.rs .stb pl cl l), (4, MF.os pout cout out)]⟩ (p1, c1, (l : List Binding), 0) ⟨(Nat.zero_le _), (GoT.okm (α := List Binding) τ1 hq1), τ11, Z⟩
  (.cons Z (.cons Z (.cons Z (.cons Z (.cons Z (.cons Z (.cons Z (.nil)))))))) (.cons Z (.cons Z (.nil))) .nil [0, 1, 2, 4] Z ?_
 rintro ⟨pout, cout, out, i⟩ ⟨v1, v2, v3, v4⟩
 have v2L := v2.1
 refine R0 ?_
 refine WX.cases 28 Z ?_ ?_ <;> intro h3
 ·skip
  have h3d := B.dt h3
  have e1i : i < (p_.parts).length := τ1
  obtain ⟨e1, e1h⟩ : ∃ e1, (p_.parts)[i]? = some e1 := ⟨_, List.getElem?_eq_getElem e1i⟩
  have ok1 : GoT.ok n e1 := (okl (ok_Pattern hokp_)).2 _ (List.mem_of_getElem? e1h)
  refine R0 ?_
  refine WX.idx 0 i ttOk Z Z Z Z Z Z Z Z Z Z e1i ?_
  rintro ad1 rfl
  refine WX.ldE 0 5 e1 ttOk Z Z Z Z Z Z Z Z e1h O O ?_
  rintro ⟨⟩
  refine R0 ?_
  refine WX.cases 33 Z ?_ ?_ <;> intro h4
  ·skip
   have h4d := B.et h4
   refine R0 ?_
   have hP3 : a16 n_ l p_.parts 0 (l : List Binding) = (Ctl.ret (out, true)) := by rw [v4, drop_get e1h]; simp only [a16, h4, cT, cF]
   have hP4 : a0x p_ n_ l = (out, true) := by simp only [a0x, h1, h2, hP3, cT, cF]
   refine R1 ?_
   intro w1 G bs hI hΓ
   rw [hP4]
   exact Post.of [4] (pout, cout) hI hΓ Z Z Z (okl_of v2)
  have h4d := B.ef h4
  refine R0 ?_
  refine WX.cases 39 Z ?_ ?_ <;> intro h5
  ·skip
   have h5d := B.dt h5
   refine R0 ?_
   refine CF 5 Z Z Z Z Z O Z (fun w γ => f166 w n τ1 l pl cl (γ.q 2 Z) hokl) ?_
   rintro ⟨p2, c2⟩ hq4
   refine R0 ?_
   have hP5 : a16 n_ l p_.parts 0 (l : List Binding) = (Ctl.ret (l, false)) := by rw [v4, drop_get e1h]; simp only [a16, h4, h5, cT, cF]
   have hP6 : a0x p_ n_ l = (l, false) := by simp only [a0x, h1, h2, hP5, cT, cF]
   refine R1 ?_
   intro w1 G bs hI hΓ
   rw [hP6]
   exact Post.of [6] (p2, c2) hI hΓ Z Z Z (GoT.okm (α := List Binding) τ1 hq4)
  have h5d := B.df h5
  refine R0 ?_
  have e2i : i < (n_.parts).length := τ6
  obtain ⟨e2, e2h⟩ : ∃ e2, (n_.parts)[i]? = some e2 := ⟨_, List.getElem?_eq_getElem e2i⟩
  have ok2 : GoT.ok n e2 := (okl (ok_Name hokn_)).2 _ (List.mem_of_getElem? e2h)
  refine WX.idx 1 i ttOk Z Z Z Z Z Z Z Z Z Z e2i ?_
  rintro ad2 rfl
  refine WX.ldE 1 7 e2 ttOk Z Z Z Z Z Z Z Z e2h O O ?_
  rintro ⟨⟩
  refine R0 ?_
  refine WX.der 7 (MF.rs .der pout cout out) Z (fun _ hΓ => (hΓ.get 4 Z : OwSl _ _ _ _).rd) ?_
  refine WX.callV Z Z Z Z Z O Z (fun w G bs hI hΓ => f168 w (n + 1) τ1 out pout cout (hΓ.get 7 Z) 169 [Value.pointer (some ⟨bs 10, 0, none⟩)] (fun e0_ => (a26 e1 e0_)) (fun w1_ hb_ e0_ x0_ hk0_ hx0_ => f169 w1_ (n + 1) τ1 e0_ e1 ⟨bs 10, 0, none⟩ ((rd_box (α := Str) (a := e1) (x := ()) (hI.loc 10 _ Z).1 All.nil).mono (kp_le hb_)) hk0_ (GoT.okm (α := Str) τ1 ok1)) (okl_of v2)) ?_
  intro hq5
  have q1 := ltI_slices_IndexFunc_Binding out (fun e0_ => (a26 e1 e0_))
  refine R0 ?_
  refine WX.cases 50 Z ?_ ?_ <;> intro h6
  ·skip
   have h6d := B.et h6
   refine R0 ?_
   refine WX.see Z Z Z (fun _ hΓ => looks_arith Z Z Z Z τ2) ?_
   refine R0 ?_
   exact WX.iter (pout, cout, out, i + 1) ⟨τ1, (okl_of v2), τ5, (by rw [v4, drop_get e1h]; simp only [a16, h4, h5, e2h, h6, cT, cF])⟩ τ4 (.cons Z (.cons Z (.cons Z (.cons Z (.cons Z (.cons Z (.cons Z (.nil)))))))) (.cons Z (.cons Z (.nil))) .nil [0, 1, 2, 4] Z
  have h6d := B.ef h6
  refine R0 ?_
  refine CV Z Z Z Z Z O Z (fun w γ => f170 w n τ1 e1 ok1) ?_
  intro hq6
  refine R0 ?_
  refine WX.cases 53 Z ?_ ?_ <;> intro h7
  ·skip
   have h7d := (B.nt h7)
   refine R0 ?_
   refine WX.cases 59 Z ?_ ?_ <;> intro h8
   ·skip
    have h8d := B.ef (B.nt h8)
    refine R0 ?_
    refine CF 8 Z Z Z Z Z O Z (fun w γ => f166 w n τ1 l pl cl (γ.q 2 Z) hokl) ?_
    rintro ⟨p3, c3⟩ hq7
    refine R0 ?_
    have hP7 : a16 n_ l p_.parts 0 (l : List Binding) = (Ctl.ret (l, false)) := by rw [v4, drop_get e1h]; simp only [a16, h4, h5, e2h, h6, h7, h8, cT, cF]
    have hP8 : a0x p_ n_ l = (l, false) := by simp only [a0x, h1, h2, hP7, cT, cF]
    refine R1 ?_
    intro w1 G bs hI hΓ
    rw [hP8]
    exact Post.of [9] (p3, c3) hI hΓ Z Z Z (GoT.okm (α := List Binding) τ1 hq7)
   have h8d := B.et (B.nf h8)
   refine R0 ?_
   refine WX.see Z Z Z (fun _ hΓ => looks_arith Z Z Z Z τ2) ?_
   refine R0 ?_
   exact WX.iter (pout, cout, out, i + 1) ⟨τ1, (okl_of v2), τ5, (by rw [v4, drop_get e1h]; simp only [a16, h4, h5, e2h, h6, h7, h8, cT, cF])⟩ τ4 (.cons Z (.cons Z (.cons Z (.cons Z (.cons Z (.cons Z (.cons Z (.nil)))))))) (.cons Z (.cons Z (.nil))) .nil [0, 1, 2, 4] Z
  have h7d := (B.nf h7)
  refine R0 ?_
  refine WX.cases 62 Z ?_ ?_ <;> intro h9
  ·skip
   have h9d := B.dt h9
   refine R0 ?_
   refine WX.bld ttOk Z Z Z Z Z Z Z ?_
   intro p4
   refine WX.opn (kk := 2) 501 4 10 Z Z Z ?_
   intro xs1 hx1
   refine WX.turn [] 11 Z (fun h hs => ol_one (α := Binding) (a := (Binding.mk e1 e2)) (x := ((), ())) hs) (gs := [MF.ol [.string e1, .string e2] ([(Binding.mk e1 e2)] : List Binding)]) Z ?_
   have r2 : (e1).size ≤ bd n := ok1
   have r3 : (e2).size ≤ bd n := ok2
   refine WX.know (fun G hΓ => (hΓ.get 11 Z : OwL _ _ _).rd.one) ?_
   intro ho1
   refine WX.appR1 501 69 ((out ++ [(Binding.mk e1 e2)]) : List Binding).length ttOk Z Z Z Z Z Z Z Z Z Z Z Z Z ho1 τ11 τ3 τ3 (fun _ _ => Z) ?_
   intro p5 c4
   refine WX.turn [10, 11] 12 Z (fun h hs => ol_app hs) (gs := [MF.ol (xs1 ++ [.string e1, .string e2]) ((out ++ [(Binding.mk e1 e2)]) : List Binding)]) Z ?_
   refine R0 ?_
   refine WX.see Z Z Z (fun _ hΓ => looks_arith Z Z Z Z τ2) ?_
   refine R0 ?_
   refine WX.seal 501 12 13 Z Z Z Z Z ?_
   refine WX.turn [14] 4 Z (fun _ h => h) Z ?_
   exact WX.iter (p5, c4, (out ++ [(Binding.mk e1 e2)]), i + 1) ⟨τ1, (okl_mk τ3 (all_app v2.2 (fun a ha => GoT.okm τ1 ((all_cons (α := Binding) (And.intro ok1 ok2) (fun a ha => by cases ha)) a ha))) : GoT.ok (n + 1) ((out ++ [(Binding.mk e1 e2)]) : List Binding)), τ5, (by rw [v4, drop_get e1h]; simp only [a16, h4, h5, e2h, h6, h7, h9, cT, cF])⟩ τ4 (.cons Z (.cons Z (.cons Z (.cons Z (.cons Z (.cons Z (.cons Z (.nil)))))))) (.cons Z (.cons Z (.nil))) .nil [0, 1, 2, 4] Z
  have h9d := B.df h9
  refine R0 ?_
  have r4 : (e1).size ≤ bd n := ok1
  have r5 : -9223372036854775808 ≤ (slices_IndexFunc_Binding out (fun e0_ => (a26 e1 e0_))) ∧ (slices_IndexFunc_Binding out (fun e0_ => (a26 e1 e0_))) ≤ 9223372036854775807 := hq5
  refine WX.slot 73 (y := .v (.int .i64 ((((slices_IndexFunc_Binding out (fun e0_ => (a26 e1 e0_)))).toNat : Nat) : Int))) Z (fun _ => congrArg (Value.int .i64) (show (slices_IndexFunc_Binding out (fun e0_ => (a26 e1 e0_))) = ((((slices_IndexFunc_Binding out (fun e0_ => (a26 e1 e0_)))).toNat : Nat) : Int) from by omega)) ?_
  have e3i : ((slices_IndexFunc_Binding out (fun e0_ => (a26 e1 e0_)))).toNat < (out).length := τ6
  obtain ⟨e3, e3h⟩ : ∃ e3, (out)[((slices_IndexFunc_Binding out (fun e0_ => (a26 e1 e0_)))).toNat]? = some e3 := ⟨_, List.getElem?_eq_getElem e3i⟩
  have ok3 : GoT.ok (n + 1) e3 := v2.2 _ (List.mem_of_getElem? e3h)
  refine WX.idx 7 (((slices_IndexFunc_Binding out (fun e0_ => (a26 e1 e0_)))).toNat) ttOk Z Z Z Z Z Z Z Z Z Z e3i ?_
  rintro ad3 rfl
  refine R0 ?_
  refine WX.ldE 7 15 e3 ttOk Z Z Z Z Z Z Z Z e3h O O ?_
  rintro ⟨⟨⟩, ⟨⟩⟩
  refine R0 ?_
  refine WX.cases 71 Z ?_ ?_ <;> intro h10
  ·skip
   have h10d := B.ef (B.nt h10)
   refine R0 ?_
   refine CF 15 Z Z Z Z Z O Z (fun w γ => f166 w n τ1 l pl cl (γ.q 2 Z) hokl) ?_
   rintro ⟨p6, c5⟩ hq8
   refine R0 ?_
   have hP9 : a16 n_ l p_.parts 0 (l : List Binding) = (Ctl.ret (l, false)) := by rw [v4, drop_get e1h]; simp only [a16, h4, h5, e2h, h6, h7, h9, e3h, h10, cT, cF]
   have hP10 : a0x p_ n_ l = (l, false) := by simp only [a0x, h1, h2, hP9, cT, cF]
   refine R1 ?_
   intro w1 G bs hI hΓ
   rw [hP10]
   exact Post.of [16] (p6, c5) hI hΓ Z Z Z (GoT.okm (α := List Binding) τ1 hq8)
  have h10d := B.et (B.nf h10)
  refine R0 ?_
  refine WX.see Z Z Z (fun _ hΓ => looks_arith Z Z Z Z τ2) ?_
  refine R0 ?_
  exact WX.iter ((some ad3), cout, out, i + 1) ⟨τ1, (okl_of v2), τ5, (by rw [v4, drop_get e1h]; simp only [a16, h4, h5, e2h, h6, h7, h9, e3h, h10, cT, cF])⟩ τ4 (.cons Z (.cons Z (.cons Z (.cons Z (.cons Z (.cons Z (.cons Z (.nil)))))))) (.cons Z (.cons Z (.nil))) .nil [0, 1, 2, 4] Z
 have h3d := B.df h3
 refine R0 ?_
 have hX1 : a16 n_ l p_.parts 0 (l : List Binding) = (Ctl.nxt ((out) : List Binding)) := by rw [v4, List.drop_eq_nil_of_le (show (p_.parts).length ≤ i by omega)]; simp only [a16, cT, cF]
 refine WX.cases 88 Z ?_ ?_ <;> intro h11
 ·skip
  have h11d := B.dt h11
  refine R0 ?_
  refine CF 17 Z Z Z Z Z O Z (fun w γ => f166 w n τ1 l pl cl (γ.q 2 Z) hokl) ?_
  rintro ⟨p7, c6⟩ hq9
  refine R0 ?_
  have hP11 : a0x p_ n_ l = (l, false) := by simp only [a0x, h1, h2, hX1, h11, cT, cF]
  refine R1 ?_
  intro w1 G bs hI hΓ
  rw [hP11]
  exact Post.of [18] (p7, c6) hI hΓ Z Z Z (GoT.okm (α := List Binding) τ1 hq9)
 have h11d := B.df h11
 refine R0 ?_
 have hP12 : a0x p_ n_ l = (out, true) := by simp only [a0x, h1, h2, hX1, h11, cT, cF]
 refine R1 ?_
 intro w1 G bs hI hΓ
 rw [hP12]
 exact Post.of [4] (pout, cout) hI hΓ Z Z Z (okl_of v2)
theorem f140 (w : World) (n : Nat) (hn : n + 2 ≤ 9) (r : Rule) (K0 M0) (N0 : RdSl (hp w) K0 M0 r.dataPattern.parts) (K1 M1) (N1 : RdSl (hp w) K1 M1 r.keyPattern.parts) (n_ : Name) (K2 M2) (N2 : RdSl (hp w) K2 M2 n_.parts) (by_ : Name) (K3 M3) (N3 : RdSl (hp w) K3 M3 by_.parts) (hokr : GoT.ok n r) (hokn_ : GoT.ok n n_) (hokby_ : GoT.ok n by_) :
 Does Tryz.prog 140 #[.agg #[.slice K0 ((r.dataPattern.parts).length) M0, .slice K1 ((r.keyPattern.parts).length) M1], .agg #[.slice K2 ((n_.parts).length) M2], .agg #[.slice K3 ((by_.parts).length) M3]] w emp (pB (a4e r n_ by_)) := by
 have hb := bS2 hn
 refine EN Tryz.func140 Z (aS4 N0 N1 N2 N3) ?_
 refine R0 ?_
 refine WX.bld ttOk Z Z Z Z Z Z Z ?_
 intro p1
 refine WX.free 4 (MF.ol [] ([] : List Binding)) Z ?_
 refine WX.seal 15 4 5 Z Z Z Z Z ?_
 refine CF 7 Z Z Z Z Z O Z (fun w γ => f156 w n τ1 r.dataPattern K0 M0 (γ.q 0 Z) n_ K2 M2 (γ.q 2 Z) ([]) p1 0 (γ.q 5 Z) ((ok_Rule hokr).1) hokn_ (okl_mk (Nat.zero_le _) (fun a ha => by cases ha) : GoT.ok n ([] : List Binding))) ?_
 rintro ⟨p2, c1⟩ hq1
 refine R0 ?_
 refine CF 9 Z Z Z Z Z O Z (fun w γ => f156 w (n + 1) τ1 r.keyPattern K1 M1 (γ.q 1 Z) by_ K3 M3 (γ.q 3 Z) ((a0w r.dataPattern n_ ([])).1) p2 c1 (γ.q 7 Z) (GoT.okm (α := List Str) τ1 (ok_Pattern (ok_Rule hokr).2)) (GoT.okm (α := List Str) τ1 (ok_Name hokby_)) hq1) ?_
 rintro ⟨p3, c2⟩ hq2
 refine R0 ?_
 refine CV Z Z Z Z Z O Z (fun w γ => f138 w n τ1 r K0 M0 (γ.q 0 Z) K1 M1 (γ.q 1 Z) hokr) ?_
 intro hq3
 refine R0 ?_
 refine WX.cases 29 Z ?_ ?_ <;> intro h1
 ·skip
  refine R0 ?_
  refine WX.cases 32 Z ?_ ?_ <;> intro h2
  ·skip
   refine R0 ?_
   exact R4 Z (by simp only [a4e, h1, h2, cT, cF])
  refine R0 ?_
  exact R4 Z (by simp only [a4e, h1, h2, cT, cF])
 refine R0 ?_
 exact R4 Z (by simp only [a4e, h1, cT, cF])
theorem f130 (w : World) (n : Nat) (hn : n + 2 ≤ 9) (r : Rule) (K0 M0) (N0 : RdSl (hp w) K0 M0 r.dataPattern.parts) (K1 M1) (N1 : RdSl (hp w) K1 M1 r.keyPattern.parts) (n_ : Name) (K2 M2) (N2 : RdSl (hp w) K2 M2 n_.parts) (key : Name) (K3 M3) (N3 : RdSl (hp w) K3 M3 key.parts) (hokr : GoT.ok n r) (hokn_ : GoT.ok n n_) (hokkey : GoT.ok n key) :
 Does Tryz.prog 130 #[.agg #[.slice K0 ((r.dataPattern.parts).length) M0, .slice K1 ((r.keyPattern.parts).length) M1], .agg #[.slice K2 ((n_.parts).length) M2], .agg #[.slice K3 ((key.parts).length) M3]] w emp (pB (a4f r n_ key)) := by
 have hb := bS2 hn
 refine EN Tryz.func130 Z (aS4 N0 N1 N2 N3) ?_
 refine R0 ?_
 refine CF 4 Z Z Z Z Z O Z (fun w γ => f150 w n τ1 r.dataPattern K0 M0 (γ.q 0 Z) n_ K2 M2 (γ.q 2 Z) ([] : List Binding) none 0 (rdSl_nil _ _ _) ((ok_Rule hokr).1) hokn_ (ok_nil (α := Binding))) ?_
 rintro ⟨p1, c1⟩ hq1
 refine R0 ?_
 refine CF 6 Z Z Z Z Z O Z (fun w γ => f150 w (n + 1) τ1 r.keyPattern K1 M1 (γ.q 1 Z) key K3 M3 (γ.q 3 Z) ((a0x r.dataPattern n_ ([] : List Binding)).1) p1 c1 (γ.q 4 Z) (GoT.okm (α := List Str) τ1 (ok_Pattern (ok_Rule hokr).2)) (GoT.okm (α := List Str) τ1 (ok_Name hokkey)) hq1) ?_
 rintro ⟨p2, c2⟩ hq2
 refine R0 ?_
 refine CV Z Z Z Z Z O Z (fun w γ => f151 w n τ1 r K0 M0 (γ.q 0 Z) K1 M1 (γ.q 1 Z) hokr) ?_
 intro hq3
 refine R0 ?_
 refine WX.cases 28 Z ?_ ?_ <;> intro h1
 ·skip
  refine R0 ?_
  refine WX.cases 31 Z ?_ ?_ <;> intro h2
  ·skip
   refine R0 ?_
   exact R4 Z (by simp only [a4f, h1, h2, cT, cF])
  refine R0 ?_
  exact R4 Z (by simp only [a4f, h1, h2, cT, cF])
 refine R0 ?_
 exact R4 Z (by simp only [a4f, h1, cT, cF])
theorem f118 (w : World) (n : Nat) (hn : n + 2 ≤ 9) (l : (List Rule)) (pl cl) (N0 : RdSl (hp w) pl cl l) (n_ : Name) (K1 M1) (N1 : RdSl (hp w) K1 M1 n_.parts) (by_ : Name) (K2 M2) (N2 : RdSl (hp w) K2 M2 by_.parts) (hokl : GoT.ok n l) (hokn_ : GoT.ok n n_) (hokby_ : GoT.ok n by_) :
 Does Tryz.prog 118 #[.slice pl ((l).length) cl, .agg #[.slice K1 ((n_.parts).length) M1], .agg #[.slice K2 ((by_.parts).length) M2]] w emp (fun (rv : Value) (_ : World) => rv = .int .i64 ((a49 l n_ by_)) ∧ GoT.ok n ((a49 l n_ by_) : Int)) := by
 have hb := bS2 hn
 refine EN Tryz.func118 Z (aS3 N0 N1 N2) ?_
 refine R0 ?_
 have r1 : (l).length ≤ bd n := (okl hokl).1
 refine WX.loop (ι := Nat) ⟨fun i => (i ≤ (l).length) ∧ (a3f n_ by_ l 0 = a3f n_ by_ ((l).drop i) i), fun i => (l).length - i, fun i => [(7, .v (.int .i64 (((i : Nat) : Int)))), (5, .p 5 0), (4, .p 4 0), (0, .v (.slice pl ((l).length) cl))], fun i => [(5, ⟨26, [.slice K2 ((by_.parts).length) M2]⟩), (4, ⟨26, [.slice K1 ((n_.parts).length) M1]⟩)], fun i => [], fun i => [(0, MF.rs .stb pl cl l), (1, MF.rs .stb K1 M1 n_.parts), (2, MF.rs .stb K2 M2 by_.parts)]⟩ 0 ⟨(Nat.zero_le _), Z⟩
  (.cons Z (.cons Z (.cons Z (.cons Z (.nil))))) (.cons Z (.cons Z (.nil))) .nil [0, 1, 2] Z ?_
 rintro i ⟨v1, v2⟩
 refine R0 ?_
 refine WX.cases 11 Z ?_ ?_ <;> intro h1
 ·skip
  have h1d := B.dt h1
  have e1i : i < (l).length := τ1
  obtain ⟨e1, e1h⟩ : ∃ e1, (l)[i]? = some e1 := ⟨_, List.getElem?_eq_getElem e1i⟩
  have ok1 : GoT.ok n e1 := (okl hokl).2 _ (List.mem_of_getElem? e1h)
  refine R0 ?_
  refine WX.draw [] mixed ?_
  intro bs G0 hΓ0
  refine DX.takes (fuel := 5) ttOk [(0, true), (1, true)] J Z ?_
  refine DX.idx 2 0 i ttOk hΓ0 J Z Z Z Z Z Z Z Z Z Z Z e1i ?_
  rintro ad1 rfl
  refine DX.ldE 3 0 3 e1 ttOk hΓ0 J Z Z Z Z Z Z Z Z e1h O O ?_
  rintro ⟨⟨p1, c1⟩, ⟨p2, c2⟩⟩
  refine DX.takes (fuel := 1) ttOk [(4, false), (5, false)] J Z ?_
  refine DXV 6 Z J Z Z Z Z Z Z O Z (fun w γ => f140 w n τ1 e1 p1 c1 (γ.q 3 Z) p2 c2 (γ.q 4 Z) n_ K1 M1 (γ.q 1 Z) by_ K2 M2 (γ.q 2 Z) ok1 hokn_ hokby_) ?_
  intro hq1
  refine DX.tail2 [] Z Z J ?_
  refine R0 ?_
  refine WX.cases 20 Z ?_ ?_ <;> intro h2
  ·skip
   refine R0 ?_
   have hP1 : a3f n_ by_ l 0 = (some ((i : Nat) : Int)) := by rw [v2, drop_get e1h]; simp only [a3f, h2, cT, cF]
   have hP2 : a49 l n_ by_ = ((i : Nat) : Int) := by simp only [a49, hP1, cT, cF]
   refine R1 ?_
   intro w1 G bs hI hΓ
   rw [hP2]
   exact ⟨Z, (i6 ((i : Nat) : Int))⟩
  refine R0 ?_
  refine WX.see Z Z Z (fun _ hΓ => looks_arith Z Z Z Z τ2) ?_
  refine R0 ?_
  exact WX.iter (i + 1) ⟨τ1, (by rw [v2, drop_get e1h]; simp only [a3f, h2, cT, cF])⟩ τ4 (.cons Z (.cons Z (.cons Z (.cons Z (.nil))))) (.cons Z (.cons Z (.nil))) .nil [0, 1, 2] Z
 have h1d := B.df h1
 refine R0 ?_
 have hX1 : a3f n_ by_ l 0 = none := by rw [v2, List.drop_eq_nil_of_le (show (l).length ≤ i by omega)]; simp only [a3f, cT, cF]
 have hP3 : a49 l n_ by_ = (-1) := by simp only [a49, hX1, cT, cF]
 refine R1 ?_
 intro w1 G bs hI hΓ
 rw [hP3]
 exact ⟨Z, (i6 (-1))⟩
theorem f129 (w : World) (n : Nat) (hn : n + 2 ≤ 9) (r : Rule) (K0 M0) (N0 : RdSl (hp w) K0 M0 r.dataPattern.parts) (K1 M1) (N1 : RdSl (hp w) K1 M1 r.keyPattern.parts) (key : Name) (bkey : Addr) (hkey : RdSl (hp w) (some bkey) 1 [key]) (n_ : Name) (bn_ : Addr) (hn_ : RdSl (hp w) (some bn_) 1 [n_]) (hokr : GoT.ok n r) (hokkey : GoT.ok n key) (hokn_ : GoT.ok n n_) :
 Does Tryz.prog 129 #[.agg #[.slice K0 ((r.dataPattern.parts).length) M0, .slice K1 ((r.keyPattern.parts).length) M1], .pointer (some bkey), .pointer (some bn_)] w emp (pB (a41 key n_ r)) := by
 have hb := bS2 hn
 refine EN Tryz.func129 Z (aS4 N0 N1 hkey hn_) ?_
 have keyh : ([key] : List Name)[0]? = some key := rfl
 refine WX.slot 1 (y := .e (some bkey) 0 1 0) Z (fun _ => cap_eq) ?_
 have n_h : ([n_] : List Name)[0]? = some n_ := rfl
 refine WX.slot 2 (y := .e (some bn_) 0 1 0) Z (fun _ => cap_eq) ?_
 refine R0 ?_
 refine WX.ldE 2 4 key ttOk Z Z Z Z Z Z Z Z keyh O O ?_
 rintro ⟨p1, c1⟩
 refine WX.ldE 3 5 n_ ttOk Z Z Z Z Z Z Z Z n_h O O ?_
 rintro ⟨p2, c2⟩
 refine CV Z Z Z Z Z O Z (fun w γ => f130 w n τ1 r K0 M0 (γ.q 0 Z) K1 M1 (γ.q 1 Z) key p1 c1 (γ.q 4 Z) n_ p2 c2 (γ.q 5 Z) hokr hokkey hokn_) ?_
 intro hq1
 refine R0 ?_
 exact R4 Z (by simp only [a41, cT, cF])
theorem f105 (w : World) (n : Nat) (hn : n + 2 ≤ 9) (l : (List Rule)) (pl cl) (N0 : RdSl (hp w) pl cl l) (n_ : Name) (K1 M1) (N1 : RdSl (hp w) K1 M1 n_.parts) (key : Name) (K2 M2) (N2 : RdSl (hp w) K2 M2 key.parts) (hokl : GoT.ok n l) (hokn_ : GoT.ok n n_) (hokkey : GoT.ok n key) :
 Does Tryz.prog 105 #[.slice pl ((l).length) cl, .agg #[.slice K1 ((n_.parts).length) M1], .agg #[.slice K2 ((key.parts).length) M2]] w emp (fun (rv : Value) (_ : World) => rv = .int .i64 ((a4j l n_ key)) ∧ GoT.ok n ((a4j l n_ key) : Int)) := by
 have hb := bS2 hn
 refine EN Tryz.func105 Z (aS3 N0 N1 N2) ?_
 refine R0 ?_
 refine WX.callV Z Z Z Z Z O Z (fun w G bs hI hΓ => f128 w n τ1 l pl cl (hΓ.get 0 Z) 129 [Value.pointer (some ⟨bs 4, 0, none⟩), Value.pointer (some ⟨bs 5, 0, none⟩)] (fun e0_ => (a41 n_ key e0_)) (fun w1_ hb_ e0_ x0_ hk0_ hx0_ => f129 w1_ n τ1 e0_ x0_.1.1 x0_.1.2 (hx0_ _ List.mem_cons_self) x0_.2.1 x0_.2.2 (hx0_ (MF.rs .der x0_.2.1 x0_.2.2 e0_.keyPattern.parts) (by simp [GoT.fa])) n_ ⟨bs 4, 0, none⟩ ((rd_box (α := Name) (a := n_) (x := (K1, M1)) (hI.loc 4 _ Z).1 (All.cons (hΓ.get 1 Z : RdSl _ _ _ _) All.nil)).mono (kp_le hb_)) key ⟨bs 5, 0, none⟩ ((rd_box (α := Name) (a := key) (x := (K2, M2)) (hI.loc 5 _ Z).1 (All.cons (hΓ.get 2 Z : RdSl _ _ _ _) All.nil)).mono (kp_le hb_)) hk0_ hokn_ hokkey) hokl) ?_
 intro hq1
 have q1 := ltI_slices_IndexFunc_Rule l (fun e0_ => (a41 n_ key e0_))
 refine R0 ?_
 have hP1 : a4j l n_ key = (slices_IndexFunc_Rule l (fun e0_ => (a41 n_ key e0_))) := by simp only [a4j, cT, cF]
 refine R1 ?_
 intro w1 G bs hI hΓ
 rw [hP1]
 exact ⟨Z, hq1⟩
theorem f97 (w : World) (n : Nat) (hn : n + 2 ≤ 9) (l : (List Rule)) (pl cl) (N0 : RdSl (hp w) pl cl l) (n_ : Name) (K1 M1) (N1 : RdSl (hp w) K1 M1 n_.parts) (by_ : Name) (K2 M2) (N2 : RdSl (hp w) K2 M2 by_.parts) (hokl : GoT.ok n l) (hokn_ : GoT.ok n n_) (hokby_ : GoT.ok n by_) :
 Does Tryz.prog 97 #[.slice pl ((l).length) cl, .agg #[.slice K1 ((n_.parts).length) M1], .agg #[.slice K2 ((by_.parts).length) M2]] w emp (pB (a4o l n_ by_)) := by
 have hb := bS2 hn
 refine EN Tryz.func97 Z (aS3 N0 N1 N2) ?_
 refine R0 ?_
 refine CV Z Z Z Z Z O Z (fun w γ => f118 w n τ1 l pl cl (γ.q 0 Z) n_ K1 M1 (γ.q 1 Z) by_ K2 M2 (γ.q 2 Z) hokl hokn_ hokby_) ?_
 intro hq1
 refine R0 ?_
 exact R4 Z (by simp only [a4o, cT, cF])
theorem f86 (w : World) (n : Nat) (hn : n + 2 ≤ 9) (l : (List Rule)) (pl cl) (N0 : RdSl (hp w) pl cl l) (n_ : Name) (K1 M1) (N1 : RdSl (hp w) K1 M1 n_.parts) (key : Name) (K2 M2) (N2 : RdSl (hp w) K2 M2 key.parts) (hokl : GoT.ok n l) (hokn_ : GoT.ok n n_) (hokkey : GoT.ok n key) :
 Does Tryz.prog 86 #[.slice pl ((l).length) cl, .agg #[.slice K1 ((n_.parts).length) M1], .agg #[.slice K2 ((key.parts).length) M2]] w emp (pB (a4p l n_ key)) := by
 have hb := bS2 hn
 refine EN Tryz.func86 Z (aS3 N0 N1 N2) ?_
 refine R0 ?_
 refine CV Z Z Z Z Z O Z (fun w γ => f105 w n τ1 l pl cl (γ.q 0 Z) n_ K1 M1 (γ.q 1 Z) key K2 M2 (γ.q 2 Z) hokl hokn_ hokkey) ?_
 intro hq1
 refine R0 ?_
 exact R4 Z (by simp only [a4p, cT, cF])
theorem f98 (w : World) (n : Nat) (hn : n + 0 ≤ 9) (t : TrustPolicy) (K0 M0) (N0 : RdSl (hp w) K0 M0 t.keys) (K1 M1) (N1 : RdSl (hp w) K1 M1 t.rules) (K2 M2) (N2 : RdSl (hp w) K2 M2 t.anchors) (K3 M3) (N3 : RdSl (hp w) K3 M3 t.certificates) (n_ : Name) (K4 M4) (N4 : RdSl (hp w) K4 M4 n_.parts) (hokt : GoT.ok n t) (hokn_ : GoT.ok n n_) :
 Does Tryz.prog 98 #[.agg #[.slice K0 ((t.keys).length) M0, .slice K1 ((t.rules).length) M1, .slice K2 ((t.anchors).length) M2, .slice K3 ((t.certificates).length) M3], .agg #[.slice K4 ((n_.parts).length) M4]] w emp (pB (a4k t n_)) := by
 have hb := bS0 hn
 refine EN Tryz.func98 Z (aS5 N0 N1 N2 N3 N4) ?_
 refine R0 ?_
 have r1 : (t.anchors).length ≤ bd n := (okl (ok_TrustPolicy hokt).2.2.1).1
 refine WX.loop (ι := Nat) ⟨fun i => (i ≤ (t.anchors).length) ∧ (a38 n_ t.anchors = a38 n_ ((t.anchors).drop i)), fun i => (t.anchors).length - i, fun i => [(5, .v (.int .i64 (((i : Nat) : Int)))), (3, .p 3 0), (2, .p 2 0)], fun i => [(3, ⟨26, [.slice K4 ((n_.parts).length) M4]⟩), (2, ⟨41, [.slice K0 ((t.keys).length) M0, .slice K1 ((t.rules).length) M1, .slice K2 ((t.anchors).length) M2, .slice K3 ((t.certificates).length) M3]⟩)], fun i => [], fun i => [(0, MF.rs .stb K0 M0 t.keys), (1, MF.rs .stb K1 M1 t.rules), (2, MF.rs .stb K2 M2 t.anchors), (3, MF.rs .stb K3 M3 t.certificates), (4, MF.rs .stb K4 M4 n_.parts)]⟩ 0 ⟨(Nat.zero_le _), Z⟩
  (.cons Z (.cons Z (.cons Z (.nil)))) (.cons Z (.cons Z (.nil))) .nil [0, 1, 2, 3, 4] Z ?_
 rintro i ⟨v1, v2⟩
 refine R0 ?_
 refine WX.cases 10 Z ?_ ?_ <;> intro h1
 ·skip
  have h1d := B.dt h1
  have e1i : i < (t.anchors).length := τ1
  obtain ⟨e1, e1h⟩ : ∃ e1, (t.anchors)[i]? = some e1 := ⟨_, List.getElem?_eq_getElem e1i⟩
  have ok1 : GoT.ok n e1 := (okl (ok_TrustPolicy hokt).2.2.1).2 _ (List.mem_of_getElem? e1h)
  refine R0 ?_
  refine WX.draw [] mixed ?_
  intro bs G0 hΓ0
  refine DX.takes (fuel := 4) ttOk [(0, true), (1, false), (2, true)] J Z ?_
  refine DX.idx 3 2 i ttOk hΓ0 J Z Z Z Z Z Z Z Z Z Z Z e1i ?_
  rintro ad1 rfl
  refine DX.ldE 4 2 5 e1 ttOk hΓ0 J Z Z Z Z Z Z Z Z e1h O O ?_
  rintro ⟨p1, c1⟩
  refine DX.takes (fuel := 1) ttOk [(5, false)] J Z ?_
  refine DXV 6 Z J Z Z Z Z Z Z O Z (fun w γ => f44 w n τ1 e1 p1 c1 (γ.q 5 Z) n_ K4 M4 (γ.q 4 Z) ok1 hokn_) ?_
  intro hq1
  refine DX.tail2 [] Z Z J ?_
  refine R0 ?_
  refine WX.cases 19 Z ?_ ?_ <;> intro h2
  ·skip
   refine R0 ?_
   have hP1 : a38 n_ t.anchors = (some true) := by rw [v2, drop_get e1h]; simp only [a38, h2, cT, cF]
   exact R4 Z (by simp only [a4k, hP1, cT, cF])
  refine R0 ?_
  refine WX.see Z Z Z (fun _ hΓ => looks_arith Z Z Z Z τ2) ?_
  refine R0 ?_
  exact WX.iter (i + 1) ⟨τ1, (by rw [v2, drop_get e1h]; simp only [a38, h2, cT, cF])⟩ τ4 (.cons Z (.cons Z (.cons Z (.nil)))) (.cons Z (.cons Z (.nil))) .nil [0, 1, 2, 3, 4] Z
 have h1d := B.df h1
 refine R0 ?_
 have hX1 : a38 n_ t.anchors = none := by rw [v2, List.drop_eq_nil_of_le (show (t.anchors).length ≤ i by omega)]; simp only [a38, cT, cF]
 exact R4 Z (by simp only [a4k, hX1, cT, cF])
theorem f131 (w : World) (n : Nat) (hn : n + 0 ≤ 9) (s : (List Name)) (ps cs) (N0 : RdSl (hp w) ps cs s) (fg : FuncId) (fc : List Value) (fq : Name → Bool) (ff : ∀ w1, Kp emp w w1 → ∀ (e0 : Name) (x0 : GoT.X Name), GoT.ok n e0 → All (hp w1) (GoT.fa .der e0 x0) → Does Tryz.prog fg ([Value.agg ⟨GoT.sh e0 x0⟩] ++ fc).toArray w1 emp (fun rv _ => rv = .bool (fq e0) ∧ True)) (hoks : GoT.ok n s) :
 Does Tryz.prog 131 #[.slice ps ((s).length) cs, .func (.func fg) #[] fc.toArray] w emp (fun (rv : Value) (_ : World) => rv = .int .i64 ((slices_IndexFunc_Name s fq)) ∧ GoT.ok n ((slices_IndexFunc_Name s fq) : Int)) := by
 have hb := bS0 hn
 refine EN Tryz.func131 Z (aS1 N0) ?_
 refine R0 ?_
 have r1 : (s).length ≤ bd n := (okl hoks).1
 refine WX.loop (ι := Nat) ⟨fun i => (i ≤ (s).length) ∧ (slices_IndexFunc_Name_L1 fq s 0 = slices_IndexFunc_Name_L1 fq ((s).drop i) i), fun i => (s).length - i, fun i => [(8, .v (.int .i64 (((i : Nat) : Int)))), (7, .v (.int .i64 ((((s).length : Nat) : Int)))), (0, .v (.slice ps ((s).length) cs)), (1, .v (.func (.func fg) #[] fc.toArray))], fun i => [], fun i => [], fun i => [(0, MF.rs .stb ps cs s)]⟩ 0 ⟨(Nat.zero_le _), Z⟩
  (.cons Z (.cons Z (.cons Z (.cons Z (.nil))))) .nil .nil [0] Z ?_
 rintro i ⟨v1, v2⟩
 refine R0 ?_
 refine WX.cases 9 Z ?_ ?_ <;> intro h1
 ·skip
  have h1d := B.dt h1
  have e1i : i < (s).length := τ1
  obtain ⟨e1, e1h⟩ : ∃ e1, (s)[i]? = some e1 := ⟨_, List.getElem?_eq_getElem e1i⟩
  have ok1 : GoT.ok n e1 := (okl hoks).2 _ (List.mem_of_getElem? e1h)
  refine R0 ?_
  refine WX.idx 0 i ttOk Z Z Z Z Z Z Z Z Z Z e1i ?_
  rintro ad1 rfl
  refine WX.ldE 0 1 e1 ttOk Z Z Z Z Z Z Z Z e1h O O ?_
  rintro ⟨p1, c1⟩
  refine WX.callV Z Z Z Z Z O Z (fun w G bs hI hΓ => ff w hI.keep e1 (p1, c1) ok1 (All.cons (hΓ.get 1 Z : RdSl _ _ _ _) All.nil)) ?_
  intro hq1
  refine R0 ?_
  refine WX.cases 16 Z ?_ ?_ <;> intro h2
  ·skip
   refine R0 ?_
   have hP1 : slices_IndexFunc_Name_L1 fq s 0 = (some ((i : Nat) : Int)) := by rw [v2, drop_get e1h]; simp only [slices_IndexFunc_Name_L1, h2, cT, cF]
   have hP2 : slices_IndexFunc_Name s fq = ((i : Nat) : Int) := by simp only [slices_IndexFunc_Name, hP1, cT, cF]
   refine R1 ?_
   intro w1 G bs hI hΓ
   rw [hP2]
   exact ⟨Z, (i6 ((i : Nat) : Int))⟩
  refine R0 ?_
  refine WX.see Z Z Z (fun _ hΓ => looks_arith Z Z Z Z τ2) ?_
  refine R0 ?_
  exact WX.iter (i + 1) ⟨τ1, (by rw [v2, drop_get e1h]; simp only [slices_IndexFunc_Name_L1, h2, cT, cF])⟩ τ4 (.cons Z (.cons Z (.cons Z (.cons Z (.nil))))) .nil .nil [0] Z
 have h1d := B.df h1
 refine R0 ?_
 have hX1 : slices_IndexFunc_Name_L1 fq s 0 = none := by rw [v2, List.drop_eq_nil_of_le (show (s).length ≤ i by omega)]; simp only [slices_IndexFunc_Name_L1, cT, cF]
 have hP3 : slices_IndexFunc_Name s fq = (-1) := by simp only [slices_IndexFunc_Name, hX1, cT, cF]
 refine R1 ?_
 intro w1 G bs hI hΓ
 rw [hP3]
 exact ⟨Z, (i6 (-1))⟩
theorem ltL_slices_IndexFunc_Name : ∀ (f : Name → Bool) (l : List Name) (i : Nat) (j : Int), slices_IndexFunc_Name_L1 f l i = some j → j < ((i + l.length : Nat) : Int)
 | f, [], i, j, h => by cases h
 | f, x :: l, i, j, h => by
  simp only [slices_IndexFunc_Name_L1] at h
  cases hx : f x
  ·rw [hx, cond_false] at h
   have := ltL_slices_IndexFunc_Name f l (i + 1) j h
   simp only [List.length_cons]; omega
  ·rw [hx, cond_true] at h
   cases h
   simp only [List.length_cons]; omega
theorem ltI_slices_IndexFunc_Name (l : List Name) (f : Name → Bool) : slices_IndexFunc_Name l f < ((l.length : Nat) : Int) := by
 unfold slices_IndexFunc_Name
 cases h : slices_IndexFunc_Name_L1 f l 0 with
 | none => show (-1 : Int) < _; omega
 | some j => have := ltL_slices_IndexFunc_Name f l 0 j h; show j < _; omega
theorem f106 (w : World) (n : Nat) (hn : n + 0 ≤ 9) (s : (List Name)) (ps cs) (N0 : RdSl (hp w) ps cs s) (fg : FuncId) (fc : List Value) (fq : Name → Bool) (ff : ∀ w1, Kp emp w w1 → ∀ (e0 : Name) (x0 : GoT.X Name), GoT.ok n e0 → All (hp w1) (GoT.fa .der e0 x0) → Does Tryz.prog fg ([Value.agg ⟨GoT.sh e0 x0⟩] ++ fc).toArray w1 emp (fun rv _ => rv = .bool (fq e0) ∧ True)) (hoks : GoT.ok n s) :
 Does Tryz.prog 106 #[.slice ps ((s).length) cs, .func (.func fg) #[] fc.toArray] w emp (pB (slices_ContainsFunc_Name s fq)) := by
 have hb := bS0 hn
 refine EN Tryz.func106 Z (aS1 N0) ?_
 refine R0 ?_
 refine WX.callV Z Z Z Z Z O Z (fun w G bs hI hΓ => f131 w n τ1 s ps cs (hΓ.get 0 Z) fg fc fq (fun w1_ hb_ => ff w1_ (hI.keep.trans hb_)) hoks) ?_
 intro hq1
 have q1 := ltI_slices_IndexFunc_Name s fq
 refine R0 ?_
 exact R4 Z (by simp only [slices_ContainsFunc_Name, cT, cF])
theorem f107 (w : World) (n : Nat) (hn : n + 0 ≤ 9) (a : Name) (pa ca) (N0 : RdSl (hp w) pa ca a.parts) (n_ : Name) (bn_ : Addr) (hn_ : RdSl (hp w) (some bn_) 1 [n_]) (hoka : GoT.ok n a) (hokn_ : GoT.ok n n_) :
 Does Tryz.prog 107 #[.agg #[.slice pa ((a.parts).length) ca], .pointer (some bn_)] w emp (pB (a4a n_ a)) := by
 have hb := bS0 hn
 refine EN Tryz.func107 Z (aS2 N0 hn_) ?_
 have n_h : ([n_] : List Name)[0]? = some n_ := rfl
 refine WX.slot 1 (y := .e (some bn_) 0 1 0) Z (fun _ => cap_eq) ?_
 refine R0 ?_
 refine WX.ldE 1 2 n_ ttOk Z Z Z Z Z Z Z Z n_h O O ?_
 rintro ⟨p1, c1⟩
 refine CV Z Z Z Z Z O Z (fun w γ => f38 w n τ1 a pa ca (γ.q 0 Z) n_ p1 c1 (γ.q 2 Z) hoka hokn_) ?_
 intro hq1
 refine R0 ?_
 exact R4 Z (by simp only [a4a, cT, cF])
theorem f87 (w : World) (n : Nat) (hn : n + 0 ≤ 9) (t : TrustPolicy) (K0 M0) (N0 : RdSl (hp w) K0 M0 t.keys) (K1 M1) (N1 : RdSl (hp w) K1 M1 t.rules) (K2 M2) (N2 : RdSl (hp w) K2 M2 t.anchors) (K3 M3) (N3 : RdSl (hp w) K3 M3 t.certificates) (n_ : Name) (K4 M4) (N4 : RdSl (hp w) K4 M4 n_.parts) (hokt : GoT.ok n t) (hokn_ : GoT.ok n n_) :
 Does Tryz.prog 87 #[.agg #[.slice K0 ((t.keys).length) M0, .slice K1 ((t.rules).length) M1, .slice K2 ((t.anchors).length) M2, .slice K3 ((t.certificates).length) M3], .agg #[.slice K4 ((n_.parts).length) M4]] w emp (pB (a4q t n_)) := by
 have hb := bS0 hn
 refine EN Tryz.func87 Z (aS5 N0 N1 N2 N3 N4) ?_
 refine R0 ?_
 refine WX.callV Z Z Z Z Z O Z (fun w G bs hI hΓ => f106 w n τ1 t.anchors K2 M2 (hΓ.get 2 Z) 107 [Value.pointer (some ⟨bs 3, 0, none⟩)] (fun e0_ => (a4a n_ e0_)) (fun w1_ hb_ e0_ x0_ hk0_ hx0_ => f107 w1_ n τ1 e0_ x0_.1 x0_.2 (hx0_ _ List.mem_cons_self) n_ ⟨bs 3, 0, none⟩ ((rd_box (α := Name) (a := n_) (x := (K4, M4)) (hI.loc 3 _ Z).1 (All.cons (hΓ.get 4 Z : RdSl _ _ _ _) All.nil)).mono (kp_le hb_)) hk0_ hokn_) ((ok_TrustPolicy hokt).2.2.1)) ?_
 intro hq1
 refine R0 ?_
 exact R4 Z (by simp only [a4q, cT, cF])
theorem f119 (w : World) (n : Nat) (hn : n + 0 ≤ 9) (x_ : DataP) (K0 M0) (N0 : RdSl (hp w) K0 M0 x_.name.parts) (K1 M1) (N1 : RdSl (hp w) K1 M1 x_.content) (K2 M2) (N2 : RdSl (hp w) K2 M2 x_.keyName.parts) (now : Int) (hokx_ : GoT.ok n x_) (hoknow : GoT.ok n now) :
 Does Tryz.prog 119 #[.agg #[.slice K0 ((x_.name.parts).length) M0, .slice K1 ((x_.content).length) M1, .slice K2 ((x_.keyName.parts).length) M2, .int .i64 (x_.freshUntil), .int .i64 (x_.signature)], .int .i64 (now)] w emp (pB (a4r x_ now)) := by
 refine EN Tryz.func119 Z (aS3 N0 N1 N2) ?_
 refine R0 ?_
 exact R4 Z (by simp only [a4r, cT, cF])
theorem f110 (w : World) (n : Nat) (hn : n + 0 ≤ 9) (x_ : DataP) (K0 M0) (N0 : RdSl (hp w) K0 M0 x_.name.parts) (K1 M1) (N1 : RdSl (hp w) K1 M1 x_.content) (K2 M2) (N2 : RdSl (hp w) K2 M2 x_.keyName.parts) (now : Int) (hokx_ : GoT.ok n x_) (hoknow : GoT.ok n now) :
 Does Tryz.prog 110 #[.agg #[.slice K0 ((x_.name.parts).length) M0, .slice K1 ((x_.content).length) M1, .slice K2 ((x_.keyName.parts).length) M2, .int .i64 (x_.freshUntil), .int .i64 (x_.signature)], .int .i64 (now)] w emp (pB (a4w x_ now)) := by
 refine EN Tryz.func110 Z (aS3 N0 N1 N2) ?_
 refine R0 ?_
 exact R4 Z (by simp only [a4w, cT, cF])
theorem f120 (w : World) (n : Nat) (hn : n + 1 ≤ 9) (l : (List Key)) (pl cl) (N0 : RdSl (hp w) pl cl l) (n_ : Name) (K1 M1) (N1 : RdSl (hp w) K1 M1 n_.parts) (hokl : GoT.ok n l) (hokn_ : GoT.ok n n_) :
 Does Tryz.prog 120 #[.slice pl ((l).length) cl, .agg #[.slice K1 ((n_.parts).length) M1]] w emp (Post w emp (fun x : GoT.X ((List UInt8)) => (GoT.sh ((a1v l n_) : (List UInt8)) x).headD undef) (fun x => GoT.oa ((a1v l n_) : (List UInt8)) x) (GoT.ok (n + 1) ((a1v l n_) : (List UInt8)))) := by
 have hb := bS1 hn
 refine EN Tryz.func120 Z (aS2 N0 N1) ?_
 refine R0 ?_
 refine CV Z Z Z Z Z O Z (fun w γ => f67 w n τ1 l pl cl (γ.q 0 Z) n_ K1 M1 (γ.q 1 Z) hokl hokn_) ?_
 intro hq1
 refine R0 ?_
 refine WX.cases 10 Z ?_ ?_ <;> intro h1
 ·skip
  have h1d := B.et h1
  refine R0 ?_
  refine WX.bld ttOk Z Z Z Z Z Z Z ?_
  intro p1
  refine R0 ?_
  refine WX.free 2 (MF.ol [] ([] : List UInt8)) Z ?_
  refine WX.seal 11 2 3 Z Z Z Z Z ?_
  have hP1 : a1v l n_ = ([]) := by simp only [a1v, h1, cT, cF]
  refine R1 ?_
  intro w1 G bs hI hΓ
  rw [hP1]
  exact Post.of [4] (p1, 0) hI hΓ Z Z Z (okl_mk (Nat.zero_le _) (fun _ _ => trivial) : GoT.ok (n + 1) ([] : List UInt8))
 have h1d := B.ef h1
 refine R0 ?_
 refine WX.bld ttOk Z Z Z Z Z Z Z ?_
 intro p2
 refine R0 ?_
 refine WX.bld ttOk Z Z Z Z Z Z Z ?_
 intro p3
 refine WX.turn [] 5 Z (fun h hs => ol_one (α := Int) (a := (a0n l n_)) (x := ()) hs) (gs := [MF.ol [.int .i64 ((a0n l n_))] ([(a0n l n_)] : List Int)]) Z ?_
 refine WX.seal 14 5 6 Z Z Z Z Z ?_
 have r1 : (l).length ≤ bd n := (okl hokl).1
 have r2 : -9223372036854775808 ≤ (a0n l n_) ∧ (a0n l n_) ≤ 9223372036854775807 := hq1
 refine CV Z Z Z Z Z O Z (fun w γ => f112 w n τ1 ([(a0n l n_)]) p3 1 (γ.q 6 Z) (okl_mk τ3 (all_cons (α := Int) hq1 (fun a ha => by cases ha)) : GoT.ok n ([(a0n l n_)] : List Int))) ?_
 intro hq2
 refine WX.free 8 (MF.ol [] ([] : List UInt8)) Z ?_
 refine WX.seal 12 8 9 Z Z Z Z Z ?_
 refine CF 11 Z Z Z Z Z O Z (fun w γ => f135 w n τ1 ([]) p2 0 (γ.q 9 Z) (a30 ([(a0n l n_)])) (okl_mk (Nat.zero_le _) (fun _ _ => trivial) : GoT.ok n ([] : List UInt8)) hq2) ?_
 rintro ⟨p4, c1⟩ hq3
 have q1 := len_specAV ([]) (a30 ([(a0n l n_)]))
 refine R0 ?_
 have hP2 : a1v l n_ = (a11 ([]) (a30 ([(a0n l n_)]))) := by simp only [a1v, h1, cT, cF]
 refine R1 ?_
 intro w1 G bs hI hΓ
 rw [hP2]
 exact Post.of [12] (p4, c1) hI hΓ Z Z Z hq3
theorem f111 (w : World) (n : Nat) (hn : n + 1 ≤ 9) (l : (List Key)) (pl cl) (N0 : RdSl (hp w) pl cl l) (n_ : Name) (K1 M1) (N1 : RdSl (hp w) K1 M1 n_.parts) (hokl : GoT.ok n l) (hokn_ : GoT.ok n n_) :
 Does Tryz.prog 111 #[.slice pl ((l).length) cl, .agg #[.slice K1 ((n_.parts).length) M1]] w emp (Post w emp (fun x : GoT.X ((List UInt8)) => (GoT.sh ((a3g l n_) : (List UInt8)) x).headD undef) (fun x => GoT.oa ((a3g l n_) : (List UInt8)) x) (GoT.ok (n + 1) ((a3g l n_) : (List UInt8)))) := by
 have hb := bS1 hn
 refine EN Tryz.func111 Z (aS2 N0 N1) ?_
 refine R0 ?_
 refine CV Z Z Z Z Z O Z (fun w γ => f104 w n τ1 l pl cl (γ.q 0 Z) n_ K1 M1 (γ.q 1 Z) hokl hokn_) ?_
 intro hq1
 refine R0 ?_
 refine WX.cases 10 Z ?_ ?_ <;> intro h1
 ·skip
  have h1d := B.et h1
  refine R0 ?_
  refine WX.free 2 (MF.os none 0 ([] : List UInt8)) (owSl_nil _ _) ?_
  have hP1 : a3g l n_ = ([] : List UInt8) := by simp only [a3g, h1, cT, cF]
  refine R1 ?_
  intro w1 G bs hI hΓ
  rw [hP1]
  exact Post.of [2] (none, 0) hI hΓ Z Z Z (ok_nil (α := UInt8))
 have h1d := B.ef h1
 refine R0 ?_
 refine WX.bld ttOk Z Z Z Z Z Z Z ?_
 intro p1
 refine WX.turn [] 3 Z (fun h hs => ol_one (α := Int) (a := (a15 l n_)) (x := ()) hs) (gs := [MF.ol [.int .i64 ((a15 l n_))] ([(a15 l n_)] : List Int)]) Z ?_
 refine WX.seal 12 3 4 Z Z Z Z Z ?_
 have r1 : (l).length ≤ bd n := (okl hokl).1
 have r2 : -9223372036854775808 ≤ (a15 l n_) ∧ (a15 l n_) ≤ 9223372036854775807 := hq1
 refine CV Z Z Z Z Z O Z (fun w γ => f133 w n τ1 ([(a15 l n_)]) p1 1 (γ.q 4 Z) (okl_mk τ3 (all_cons (α := Int) hq1 (fun a ha => by cases ha)) : GoT.ok n ([(a15 l n_)] : List Int))) ?_
 intro hq2
 refine CF 6 Z Z Z Z Z O Z (fun w γ => f132 w n τ1 ([] : List UInt8) none 0 (rdSl_nil _ _ _) (a33 ([(a15 l n_)])) (ok_nil (α := UInt8)) hq2) ?_
 rintro ⟨p2, c1⟩ hq3
 have q1 := len_implAV ([] : List UInt8) (a33 ([(a15 l n_)]))
 refine R0 ?_
 have hP2 : a3g l n_ = (a10 ([] : List UInt8) (a33 ([(a15 l n_)]))) := by simp only [a3g, h1, cT, cF]
 refine R1 ?_
 intro w1 G bs hI hΓ
 rw [hP2]
 exact Post.of [7] (p2, c1) hI hΓ Z Z Z hq3
theorem f99 (w : World) (n : Nat) (hn : n + 7 ≤ 9) (t : TrustPolicy) (K0 M0) (N0 : RdSl (hp w) K0 M0 t.keys) (K1 M1) (N1 : RdSl (hp w) K1 M1 t.rules) (K2 M2) (N2 : RdSl (hp w) K2 M2 t.anchors) (K3 M3) (N3 : RdSl (hp w) K3 M3 t.certificates) (n_ : Name) (K4 M4) (N4 : RdSl (hp w) K4 M4 n_.parts) (now : Int) (hokt : GoT.ok n t) (hokn_ : GoT.ok n n_) (hoknow : GoT.ok n now) :
 Does Tryz.prog 99 #[.agg #[.slice K0 ((t.keys).length) M0, .slice K1 ((t.rules).length) M1, .slice K2 ((t.anchors).length) M2, .slice K3 ((t.certificates).length) M3], .agg #[.slice K4 ((n_.parts).length) M4], .int .i64 (now)] w emp (fun (rv : Value) (_ : World) => rv = .int .i64 ((a17 t n_ now)) ∧ GoT.ok n ((a17 t n_ now) : Int)) := by
 have hb := bS7 hn
 refine EN Tryz.func99 Z (aS5 N0 N1 N2 N3 N4) ?_
 refine R0 ?_
 refine CV Z Z Z Z Z O Z (fun w γ => f67 w n τ1 t.keys K0 M0 (γ.q 0 Z) n_ K4 M4 (γ.q 4 Z) ((ok_TrustPolicy hokt).1) hokn_) ?_
 intro hq1
 refine R0 ?_
 refine WX.cases 13 Z ?_ ?_ <;> intro h1
 ·skip
  have h1d := B.et h1
  refine R0 ?_
  have hP1 : a17 t n_ now = (-1) := by simp only [a17, h1, cT, cF]
  refine R1 ?_
  intro w1 G bs hI hΓ
  rw [hP1]
  exact ⟨Z, (i6 (-1))⟩
 have h1d := B.ef h1
 refine R0 ?_
 have r1 : (t.certificates).length ≤ bd n := (okl (ok_TrustPolicy hokt).2.2.2).1
 refine WX.loop (ι := Nat) ⟨fun i => (i ≤ (t.certificates).length) ∧ (a1c t n_ now t.certificates 0 = a1c t n_ now ((t.certificates).drop i) i), fun i => (t.certificates).length - i, fun i => [(7, .v (.int .i64 (((i : Nat) : Int)))), (4, .p 4 0), (3, .p 3 0), (2, .v (.int .i64 (now)))], fun i => [(4, ⟨26, [.slice K4 ((n_.parts).length) M4]⟩), (3, ⟨41, [.slice K0 ((t.keys).length) M0, .slice K1 ((t.rules).length) M1, .slice K2 ((t.anchors).length) M2, .slice K3 ((t.certificates).length) M3]⟩)], fun i => [], fun i => [(0, MF.rs .stb K0 M0 t.keys), (1, MF.rs .stb K1 M1 t.rules), (2, MF.rs .stb K2 M2 t.anchors), (3, MF.rs .stb K3 M3 t.certificates), (4, MF.rs .stb K4 M4 n_.parts)]⟩ 0 ⟨(Nat.zero_le _), Z⟩
  (.cons Z (.cons Z (.cons Z (.cons Z (.nil))))) (.cons Z (.cons Z (.nil))) .nil [0, 1, 2, 3, 4] Z ?_
 rintro i ⟨v1, v2⟩
 refine R0 ?_
 refine WX.cases 18 Z ?_ ?_ <;> intro h2
 ·skip
  have h2d := B.dt h2
  have e1i : i < (t.certificates).length := τ1
  obtain ⟨e1, e1h⟩ : ∃ e1, (t.certificates)[i]? = some e1 := ⟨_, List.getElem?_eq_getElem e1i⟩
  have ok1 : GoT.ok n e1 := (okl (ok_TrustPolicy hokt).2.2.2).2 _ (List.mem_of_getElem? e1h)
  refine R0 ?_
  refine WX.idx 3 i ttOk Z Z Z Z Z Z Z Z Z Z e1i ?_
  rintro ad1 rfl
  refine WX.ldE 3 5 e1 ttOk Z Z Z Z Z Z Z Z e1h O O ?_
  rintro ⟨⟨p1, c1⟩, ⟨p2, c2⟩, ⟨p3, c3⟩, ⟨⟩, ⟨⟩⟩
  refine R0 ?_
  refine WX.draw [] mixed ?_
  intro bs G0 hΓ0
  refine DX.takes (fuel := 21) ttOk [(0, true), (1, false), (2, false)] J Z ?_
  refine DXV 3 Z J Z Z Z Z Z Z O Z (fun w γ => f44 w n τ1 e1.name p1 c1 (γ.q 5 Z) n_ K4 M4 (γ.q 4 Z) ((ok_DataP ok1).1) hokn_) ?_
  intro hq2
  refine DX.takes (fuel := 19) ttOk [(4, true)] J Z ?_
  refine DX.cases 30 Z ?_ ?_ <;> intro h3
  ·skip
   refine DX.takes (fuel := 17) ttOk [(5, false), (6, true)] J Z ?_
   refine DXV 7 Z J Z Z Z Z Z Z O Z (fun w γ => f119 w n τ1 e1 p1 c1 (γ.q 5 Z) p2 c2 (γ.q 6 Z) p3 c3 (γ.q 7 Z) now ok1 hoknow) ?_
   intro hq3
   refine DX.takes (fuel := 14) ttOk [(8, true), (9, true)] J Z ?_
   refine DX.cases 35 Z ?_ ?_ <;> intro h4
   ·skip
    refine DX.takes (fuel := 11) ttOk [(10, true), (11, false), (12, false)] J Z ?_
    refine DXV 13 Z J Z Z Z Z Z Z O Z (fun w γ => f96 w n τ1 t.keys K0 M0 (γ.q 0 Z) e1 p1 c1 (γ.q 5 Z) p2 c2 (γ.q 6 Z) p3 c3 (γ.q 7 Z) ((ok_TrustPolicy hokt).1) ok1) ?_
    intro hq4
    refine DX.takes (fuel := 8) ttOk [(14, true), (15, true)] J Z ?_
    refine DX.cases 41 Z ?_ ?_ <;> intro h5
    ·skip
     refine DX.takes (fuel := 3) ttOk [(16, true), (17, false), (18, true), (19, false), (20, false)] J Z ?_
     refine DXF 21 8 Z J Z Z Z Z Z Z O Z (fun w γ => f120 w n τ1 t.keys K0 M0 (γ.q 0 Z) n_ K4 M4 (γ.q 4 Z) ((ok_TrustPolicy hokt).1) hokn_) ?_
     rintro ⟨p4, c4⟩ hq5
     refine DXV 22 Z J Z Z Z Z Z Z O Z (fun w γ => f84 w (n + 1) τ1 e1.content p2 c2 (γ.q 6 Z) (a1v t.keys n_) p4 c4 (γ.q 8 Z) (GoT.okm (α := List UInt8) τ1 (ok_DataP ok1).2.1) hq5) ?_
     intro hq6
     refine DX.takes (fuel := 0) ttOk [(23, true)] J Z ?_
     refine DX.tail2 [] Z Z J ?_
     refine R0 ?_
     refine WX.cases 49 Z ?_ ?_ <;> intro h6
     ·skip
      refine R0 ?_
      have hP2 : a1c t n_ now t.certificates 0 = (some ((i : Nat) : Int)) := by rw [v2, drop_get e1h]; simp only [a1c, h3, h4, h5, h6, cT, cF]
      have hP3 : a17 t n_ now = ((i : Nat) : Int) := by simp only [a17, h1, hP2, cT, cF]
      refine R1 ?_
      intro w1 G bs hI hΓ
      rw [hP3]
      exact ⟨Z, (i6 ((i : Nat) : Int))⟩
     refine R0 ?_
     refine WX.see Z Z Z (fun _ hΓ => looks_arith Z Z Z Z τ2) ?_
     refine R0 ?_
     exact WX.iter (i + 1) ⟨τ1, (by rw [v2, drop_get e1h]; simp only [a1c, h3, h4, h5, h6, cT, cF])⟩ τ4 (.cons Z (.cons Z (.cons Z (.cons Z (.nil))))) (.cons Z (.cons Z (.nil))) .nil [0, 1, 2, 3, 4] Z
    refine DX.takes (fuel := 0) ttOk [(16, true), (17, true), (18, true), (19, true), (20, true), (21, true), (22, true), (23, true)] J Z ?_
    refine DX.tail2 [] Z Z J ?_
    refine R0 ?_
    refine WX.see Z Z Z (fun _ hΓ => looks_arith Z Z Z Z τ2) ?_
    refine R0 ?_
    exact WX.iter (i + 1) ⟨τ1, (by rw [v2, drop_get e1h]; simp only [a1c, h3, h4, h5, cT, cF])⟩ τ4 (.cons Z (.cons Z (.cons Z (.cons Z (.nil))))) (.cons Z (.cons Z (.nil))) .nil [0, 1, 2, 3, 4] Z
   refine DX.takes (fuel := 0) ttOk [(10, true), (11, true), (12, true), (13, true), (14, true), (15, true), (16, true), (17, true), (18, true), (19, true), (20, true), (21, true), (22, true), (23, true)] J Z ?_
   refine DX.tail2 [] Z Z J ?_
   refine R0 ?_
   refine WX.see Z Z Z (fun _ hΓ => looks_arith Z Z Z Z τ2) ?_
   refine R0 ?_
   exact WX.iter (i + 1) ⟨τ1, (by rw [v2, drop_get e1h]; simp only [a1c, h3, h4, cT, cF])⟩ τ4 (.cons Z (.cons Z (.cons Z (.cons Z (.nil))))) (.cons Z (.cons Z (.nil))) .nil [0, 1, 2, 3, 4] Z
  refine DX.takes (fuel := 0) ttOk [(5, true), (6, true), (7, true), (8, true), (9, true), (10, true), (11, true), (12, true), (13, true), (14, true), (15, true), (16, true), (17, true), (18, true), (19, true), (20, true), (21, true), (22, true), (23, true)] J Z ?_
  refine DX.tail2 [] Z Z J ?_
  refine R0 ?_
  refine WX.see Z Z Z (fun _ hΓ => looks_arith Z Z Z Z τ2) ?_
  refine R0 ?_
  exact WX.iter (i + 1) ⟨τ1, (by rw [v2, drop_get e1h]; simp only [a1c, h3, cT, cF])⟩ τ4 (.cons Z (.cons Z (.cons Z (.cons Z (.nil))))) (.cons Z (.cons Z (.nil))) .nil [0, 1, 2, 3, 4] Z
 have h2d := B.df h2
 refine R0 ?_
 have hX1 : a1c t n_ now t.certificates 0 = none := by rw [v2, List.drop_eq_nil_of_le (show (t.certificates).length ≤ i by omega)]; simp only [a1c, cT, cF]
 have hP4 : a17 t n_ now = (-1) := by simp only [a17, h1, hX1, cT, cF]
 refine R1 ?_
 intro w1 G bs hI hΓ
 rw [hP4]
 exact ⟨Z, (i6 (-1))⟩
theorem f109 (w : World) (n : Nat) (hn : n + 6 ≤ 9) (x_ : DataP) (K0 M0) (N0 : RdSl (hp w) K0 M0 x_.name.parts) (K1 M1) (N1 : RdSl (hp w) K1 M1 x_.content) (K2 M2) (N2 : RdSl (hp w) K2 M2 x_.keyName.parts) (n_ : Name) (bn_ : Addr) (hn_ : RdSl (hp w) (some bn_) 1 [n_]) (now : Int) (bnow : Addr) (hnow : RdSl (hp w) (some bnow) 1 [now]) (t : TrustPolicy) (bt : Addr) (ht : RdSl (hp w) (some bt) 1 [t]) (hokx_ : GoT.ok n x_) (hokn_ : GoT.ok n n_) (hoknow : GoT.ok n now) (hokt : GoT.ok n t) :
 Does Tryz.prog 109 #[.agg #[.slice K0 ((x_.name.parts).length) M0, .slice K1 ((x_.content).length) M1, .slice K2 ((x_.keyName.parts).length) M2, .int .i64 (x_.freshUntil), .int .i64 (x_.signature)], .pointer (some bn_), .pointer (some bnow), .pointer (some bt)] w emp (pB (a39 n_ now t x_)) := by
 have hb := bS6 hn
 refine EN Tryz.func109 Z (aS6 N0 N1 N2 hn_ hnow ht) ?_
 have n_h : ([n_] : List Name)[0]? = some n_ := rfl
 refine WX.slot 1 (y := .e (some bn_) 0 1 0) Z (fun _ => cap_eq) ?_
 have nowh : ([now] : List Int)[0]? = some now := rfl
 refine WX.slot 2 (y := .e (some bnow) 0 1 0) Z (fun _ => cap_eq) ?_
 have th : ([t] : List TrustPolicy)[0]? = some t := rfl
 refine WX.slot 3 (y := .e (some bt) 0 4 0) Z (fun _ => cap_eq) ?_
 refine R0 ?_
 refine WX.draw [] mixed ?_
 intro bs G0 hΓ0
 refine DX.takes (fuel := 23) ttOk [(0, true), (1, false)] J Z ?_
 refine DX.ldE 2 3 6 n_ ttOk hΓ0 J Z Z Z Z Z Z Z Z n_h O O ?_
 rintro ⟨p1, c1⟩
 refine DXV 3 Z J Z Z Z Z Z Z O Z (fun w γ => f38 w n τ1 x_.name K0 M0 (γ.q 0 Z) n_ p1 c1 (γ.q 6 Z) ((ok_DataP hokx_).1) hokn_) ?_
 intro hq1
 refine DX.takes (fuel := 20) ttOk [(4, true)] J Z ?_
 refine DX.cases 10 Z ?_ ?_ <;> intro h1
 ·skip
  refine DX.takes (fuel := 19) ttOk [(5, false)] J Z ?_
  refine DX.ldE 6 4 7 now ttOk hΓ0 J Z Z Z Z Z Z Z Z nowh O O ?_
  rintro ⟨⟩
  refine DXV 7 Z J Z Z Z Z Z Z O Z (fun w γ => f110 w n τ1 x_ K0 M0 (γ.q 0 Z) K1 M1 (γ.q 1 Z) K2 M2 (γ.q 2 Z) now hokx_ hoknow) ?_
  intro hq2
  refine DX.takes (fuel := 15) ttOk [(8, true), (9, true)] J Z ?_
  refine DX.cases 15 Z ?_ ?_ <;> intro h2
  ·skip
   refine DX.takes (fuel := 14) ttOk [(10, true)] J Z ?_
   refine DX.ldE 11 5 7 t ttOk hΓ0 J Z Z Z Z Z Z Z Z th O O ?_
   rintro ⟨⟨p2, c2⟩, ⟨p3, c3⟩, ⟨p4, c4⟩, ⟨p5, c5⟩⟩
   refine DX.takes (fuel := 12) ttOk [(12, false)] J Z ?_
   refine DXV 13 Z J Z Z Z Z Z Z O Z (fun w γ => f85 w n τ1 t.keys p2 c2 (γ.q 7 Z) x_ K0 M0 (γ.q 0 Z) K1 M1 (γ.q 1 Z) K2 M2 (γ.q 2 Z) ((ok_TrustPolicy hokt).1) hokx_) ?_
   intro hq3
   refine DX.takes (fuel := 9) ttOk [(14, true), (15, true)] J Z ?_
   refine DX.cases 21 Z ?_ ?_ <;> intro h3
   ·skip
    refine DX.takes (fuel := 6) ttOk [(16, true), (17, false), (18, true)] J Z ?_
    refine DX.ldE 19 5 11 t ttOk hΓ0 J Z Z Z Z Z Z Z Z th O O ?_
    rintro ⟨⟨p6, c6⟩, ⟨p7, c7⟩, ⟨p8, c8⟩, ⟨p9, c9⟩⟩
    refine DX.ldE 20 3 15 n_ ttOk hΓ0 J Z Z Z Z Z Z Z Z n_h O O ?_
    rintro ⟨p10, c10⟩
    refine DXF 21 16 Z J Z Z Z Z Z Z O Z (fun w γ => f111 w n τ1 t.keys p6 c6 (γ.q 11 Z) n_ p10 c10 (γ.q 15 Z) ((ok_TrustPolicy hokt).1) hokn_) ?_
    rintro ⟨p11, c11⟩ hq4
    refine DXV 22 Z J Z Z Z Z Z Z O Z (fun w γ => f77 w (n + 1) τ1 x_.content K1 M1 (γ.q 1 Z) (a3g t.keys n_) p11 c11 (γ.q 16 Z) (GoT.okm (α := List UInt8) τ1 (ok_DataP hokx_).2.1) hq4) ?_
    intro hq5
    refine DX.takes (fuel := 0) ttOk [(23, true), (24, true)] J Z ?_
    refine DX.tail2 [] Z Z J ?_
    refine R0 ?_
    exact R4 Z (by simp only [a39, h1, h2, h3, cT, cF])
   refine DX.takes (fuel := 0) ttOk [(16, true), (17, true), (18, true), (19, true), (20, true), (21, true), (22, true), (23, true), (24, true)] J Z ?_
   refine DX.tail2 [] Z Z J ?_
   refine R0 ?_
   exact R4 Z (by simp only [a39, h1, h2, h3, cT, cF])
  refine DX.takes (fuel := 0) ttOk [(10, true), (11, true), (12, true), (13, true), (14, true), (15, true), (16, true), (17, true), (18, true), (19, true), (20, true), (21, true), (22, true), (23, true), (24, true)] J Z ?_
  refine DX.tail2 [] Z Z J ?_
  refine R0 ?_
  exact R4 Z (by simp only [a39, h1, h2, cT, cF])
 refine DX.takes (fuel := 0) ttOk [(5, true), (6, true), (7, true), (8, true), (9, true), (10, true), (11, true), (12, true), (13, true), (14, true), (15, true), (16, true), (17, true), (18, true), (19, true), (20, true), (21, true), (22, true), (23, true), (24, true)] J Z ?_
 refine DX.tail2 [] Z Z J ?_
 refine R0 ?_
 exact R4 Z (by simp only [a39, h1, cT, cF])
theorem f88 (w : World) (n : Nat) (hn : n + 6 ≤ 9) (t : TrustPolicy) (K0 M0) (N0 : RdSl (hp w) K0 M0 t.keys) (K1 M1) (N1 : RdSl (hp w) K1 M1 t.rules) (K2 M2) (N2 : RdSl (hp w) K2 M2 t.anchors) (K3 M3) (N3 : RdSl (hp w) K3 M3 t.certificates) (n_ : Name) (K4 M4) (N4 : RdSl (hp w) K4 M4 n_.parts) (now : Int) (hokt : GoT.ok n t) (hokn_ : GoT.ok n n_) (hoknow : GoT.ok n now) :
 Does Tryz.prog 88 #[.agg #[.slice K0 ((t.keys).length) M0, .slice K1 ((t.rules).length) M1, .slice K2 ((t.anchors).length) M2, .slice K3 ((t.certificates).length) M3], .agg #[.slice K4 ((n_.parts).length) M4], .int .i64 (now)] w emp (fun (rv : Value) (_ : World) => rv = .int .i64 ((a1g t n_ now)) ∧ GoT.ok n ((a1g t n_ now) : Int)) := by
 have hb := bS6 hn
 refine EN Tryz.func88 Z (aS5 N0 N1 N2 N3 N4) ?_
 refine R0 ?_
 refine CV Z Z Z Z Z O Z (fun w γ => f104 w n τ1 t.keys K0 M0 (γ.q 0 Z) n_ K4 M4 (γ.q 4 Z) ((ok_TrustPolicy hokt).1) hokn_) ?_
 intro hq1
 refine R0 ?_
 refine WX.cases 11 Z ?_ ?_ <;> intro h1
 ·skip
  have h1d := B.et h1
  refine R0 ?_
  have hP1 : a1g t n_ now = (-1) := by simp only [a1g, h1, cT, cF]
  refine R1 ?_
  intro w1 G bs hI hΓ
  rw [hP1]
  exact ⟨Z, (i6 (-1))⟩
 have h1d := B.ef h1
 refine R0 ?_
 refine WX.callV Z Z Z Z Z O Z (fun w G bs hI hΓ => f108 w n τ1 t.certificates K3 M3 (hΓ.get 3 Z) 109 [Value.pointer (some ⟨bs 4, 0, none⟩), Value.pointer (some ⟨bs 5, 0, none⟩), Value.pointer (some ⟨bs 3, 0, none⟩)] (fun e0_ => (a39 n_ now t e0_)) (fun w1_ hb_ e0_ x0_ hk0_ hx0_ => f109 w1_ n τ1 e0_ x0_.1.1 x0_.1.2 (hx0_ _ List.mem_cons_self) x0_.2.1.1 x0_.2.1.2 (hx0_ (MF.rs .der x0_.2.1.1 x0_.2.1.2 e0_.content) (by simp [GoT.fa])) x0_.2.2.1.1 x0_.2.2.1.2 (hx0_ (MF.rs .der x0_.2.2.1.1 x0_.2.2.1.2 e0_.keyName.parts) (by simp [GoT.fa])) n_ ⟨bs 4, 0, none⟩ ((rd_box (α := Name) (a := n_) (x := (K4, M4)) (hI.loc 4 _ Z).1 (All.cons (hΓ.get 4 Z : RdSl _ _ _ _) All.nil)).mono (kp_le hb_)) now ⟨bs 5, 0, none⟩ ((rd_box (α := Int) (a := now) (x := ()) (hI.loc 5 _ Z).1 All.nil).mono (kp_le hb_)) t ⟨bs 3, 0, none⟩ ((rd_box (α := TrustPolicy) (a := t) (x := ((K0, M0), (K1, M1), (K2, M2), (K3, M3))) (hI.loc 3 _ Z).1 (All.cons (hΓ.get 0 Z : RdSl _ _ _ _) (All.cons (hΓ.get 1 Z : RdSl _ _ _ _) (All.cons (hΓ.get 2 Z : RdSl _ _ _ _) (All.cons (hΓ.get 3 Z : RdSl _ _ _ _) All.nil))))).mono (kp_le hb_)) hk0_ hokn_ hoknow hokt) ((ok_TrustPolicy hokt).2.2.2)) ?_
 intro hq2
 have q1 := ltI_slices_IndexFunc_Data t.certificates (fun e0_ => (a39 n_ now t e0_))
 refine R0 ?_
 have hP2 : a1g t n_ now = (slices_IndexFunc_Data t.certificates (fun e0_ => (a39 n_ now t e0_))) := by simp only [a1g, h1, cT, cF]
 refine R1 ?_
 intro w1 G bs hI hΓ
 rw [hP2]
 exact ⟨Z, hq2⟩
theorem f76 (w : World) (n : Nat) (hn : n + 7 ≤ 9) (t : TrustPolicy) (K0 M0) (N0 : RdSl (hp w) K0 M0 t.keys) (K1 M1) (N1 : RdSl (hp w) K1 M1 t.rules) (K2 M2) (N2 : RdSl (hp w) K2 M2 t.anchors) (K3 M3) (N3 : RdSl (hp w) K3 M3 t.certificates) (x_ : DataP) (K4 M4) (N4 : RdSl (hp w) K4 M4 x_.name.parts) (K5 M5) (N5 : RdSl (hp w) K5 M5 x_.content) (K6 M6) (N6 : RdSl (hp w) K6 M6 x_.keyName.parts) (now : Int) (hokt : GoT.ok n t) (hokx_ : GoT.ok n x_) (hoknow : GoT.ok n now) :
 Does Tryz.prog 76 #[.agg #[.slice K0 ((t.keys).length) M0, .slice K1 ((t.rules).length) M1, .slice K2 ((t.anchors).length) M2, .slice K3 ((t.certificates).length) M3], .agg #[.slice K4 ((x_.name.parts).length) M4, .slice K5 ((x_.content).length) M5, .slice K6 ((x_.keyName.parts).length) M6, .int .i64 (x_.freshUntil), .int .i64 (x_.signature)], .int .i64 (now)] w emp (Post w emp (fun x : GoT.X ((List Name)) => .tuple #[(GoT.sh ((a1s t x_ now).1 : (List Name)) x).headD undef, .bool ((a1s t x_ now).2)]) (fun x => GoT.oa ((a1s t x_ now).1 : (List Name)) x) (GoT.ok n ((a1s t x_ now).1 : (List Name)))) := by
 have hb := bS7 hn
 refine EN Tryz.func76 Z (aC 0 N0 (aC 1 N1 (aC 2 N2 (aC 3 N3 (aC 4 N4 (aC 5 N5 (aC 6 N6 allS_nil))))))) ?_
 refine R0 ?_
 refine WX.bld ttOk Z Z Z Z Z Z Z ?_
 intro p1
 refine R0 ?_
 refine WX.free 7 (MF.ol [] ([] : List Name)) Z ?_
 refine WX.loop (ι := (Option Addr) × Nat × (List Value) × (List Name) × (Option Addr) × Nat × (List Str) × (Option Addr) × Nat × (List UInt8) × (Option Addr) × Nat × (List Str) × Int × Int) ⟨fun | (pout, cout, xsout, out, pxName, cxName, xName, pxContent, cxContent, xContent, pxKeyName, cxKeyName, xKeyName, xFreshUntil, xSignature) => (∀ z_ ∈ out, GoT.ok n z_) ∧ (xName.length ≤ bd n ∧ ∀ z_ ∈ xName, GoT.ok n z_) ∧ (xContent.length ≤ bd n ∧ ∀ z_ ∈ xContent, GoT.ok n z_) ∧ (xKeyName.length ≤ bd n ∧ ∀ z_ ∈ xKeyName, GoT.ok n z_) ∧ (-9223372036854775808 ≤ xFreshUntil ∧ xFreshUntil ≤ 9223372036854775807) ∧ (-9223372036854775808 ≤ xSignature ∧ xSignature ≤ 9223372036854775807) ∧ (out.length ≤ 4) ∧ (a1m t now ([] : List Name) (x_.name.parts : List Str) (x_.content : List UInt8) (x_.keyName.parts : List Str) x_.freshUntil x_.signature = a1m t now out xName xContent xKeyName xFreshUntil xSignature), fun | (pout, cout, xsout, out, pxName, cxName, xName, pxContent, cxContent, xContent, pxKeyName, cxKeyName, xKeyName, xFreshUntil, xSignature) => 4 - out.length, fun | (pout, cout, xsout, out, pxName, cxName, xName, pxContent, cxContent, xContent, pxKeyName, cxKeyName, xKeyName, xFreshUntil, xSignature) => [(8, .v (.slice pout ((out).length) cout)), (4, .p 4 0), (3, .p 3 0), (2, .v (.int .i64 (now)))], fun | (pout, cout, xsout, out, pxName, cxName, xName, pxContent, cxContent, xContent, pxKeyName, cxKeyName, xKeyName, xFreshUntil, xSignature) => [(4, ⟨28, [.slice pxName ((xName).length) cxName, .slice pxContent ((xContent).length) cxContent, .slice pxKeyName ((xKeyName).length) cxKeyName, .int .i64 (xFreshUntil), .int .i64 (xSignature)]⟩), (3, ⟨41, [.slice K0 ((t.keys).length) M0, .slice K1 ((t.rules).length) M1, .slice K2 ((t.anchors).length) M2, .slice K3 ((t.certificates).length) M3]⟩)], fun | (pout, cout, xsout, out, pxName, cxName, xName, pxContent, cxContent, xContent, pxKeyName, cxKeyName, xKeyName, xFreshUntil, xSignature) => [(11, ⟨1, pout, (out).length, cout, xsout⟩)], fun | (pout, cout, xsout, out, pxName, cxName, xName, pxContent, cxContent, xContent, pxKeyName, cxKeyName, xKeyName, xFreshUntil, xSignature) => [(0, MF.rs .stb K0 M0 t.keys), (1, MF.rs .stb K1 M1 t.rules), (2, MF.rs .stb K2 M2 t.anchors), (3, MF.rs .stb K3 M3 t.certificates), (4, MF.rs .stb pxName cxName xName), (5, MF.rs .stb pxContent cxContent xContent), (6, MF.rs .stb pxKeyName cxKeyName xKeyName), (7, MF.ol xsout (out : List Name))]⟩ (p1, 0, [], ([] : List Name), K4, M4, (x_.name.parts : List Str), K5, M5, (x_.content : List UInt8), K6, M6, (x_.keyName.parts : List Str), x_.freshUntil, x_.signature) ⟨(fun a ha => by cases ha), (ok_Name (ok_DataP hokx_).1), (ok_DataP hokx_).2.1, (ok_Name (ok_DataP hokx_).2.2.1), (ok_DataP hokx_).2.2.2.1, (ok_DataP hokx_).2.2.2.2, τ11, Z⟩
  (.cons Z (.cons Z (.cons Z (.cons Z (.nil))))) (.cons Z (.cons Z (.nil))) (.cons Z (.nil)) [0, 1, 2, 3, 4, 5, 6, 7] Z ?_
 rintro ⟨pout, cout, xsout, out, pxName, cxName, xName, pxContent, cxContent, xContent, pxKeyName, cxKeyName, xKeyName, xFreshUntil, xSignature⟩ ⟨v1, v2, v3, v4, v5, v6, v7, v8⟩
 have v2L := v2.1
 have v3L := v3.1
 have v4L := v4.1
 refine R0 ?_
 refine WX.cases 14 Z ?_ ?_ <;> intro h1
 ·skip
  have h1d := B.dt h1
  refine R0 ?_
  refine CV Z Z Z Z Z O Z (fun w γ => f96 w n τ1 t.keys K0 M0 (γ.q 0 Z) (DataP.mk (Name.mk xName) xContent (Name.mk xKeyName) xFreshUntil xSignature) pxName cxName (γ.q 4 Z) pxContent cxContent (γ.q 5 Z) pxKeyName cxKeyName (γ.q 6 Z) ((ok_TrustPolicy hokt).1) (And.intro (okl_of v2) (And.intro (okl_of v3) (And.intro (okl_of v4) (And.intro v5 v6))))) ?_
  intro hq1
  refine R0 ?_
  refine WX.cases 20 Z ?_ ?_ <;> intro h2
  ·skip
   have h2d := (B.nt h2)
   refine R0 ?_
   refine WX.bld ttOk Z Z Z Z Z Z Z ?_
   intro p2
   refine R0 ?_
   refine WX.free 8 (MF.ol [] ([] : List Name)) Z ?_
   refine WX.seal 30 8 9 Z Z Z Z Z ?_
   have hP1 : a1m t now ([] : List Name) (x_.name.parts : List Str) (x_.content : List UInt8) (x_.keyName.parts : List Str) x_.freshUntil x_.signature = (Ctl.ret (([]), false)) := by rw [v8]; rw [a1m]; simp only [h1, h1d, h2, cT, cF, ↓reduceIte, Bool.false_eq_true]
   have hP2 : a1s t x_ now = (([]), false) := by simp only [a1s, hP1, cT, cF]
   refine R1 ?_
   intro w1 G bs hI hΓ
   rw [hP2]
   exact Post.of [10] (p2, 0) hI hΓ Z Z Z (okl_mk (Nat.zero_le _) (fun a ha => by cases ha) : GoT.ok n ([] : List Name))
  have h2d := (B.nf h2)
  refine R0 ?_
  refine CV Z Z Z Z Z O Z (fun w γ => f97 w n τ1 t.rules K1 M1 (γ.q 1 Z) (Name.mk xName) pxName cxName (γ.q 4 Z) (Name.mk xKeyName) pxKeyName cxKeyName (γ.q 6 Z) ((ok_TrustPolicy hokt).2.1) (okl_of v2) (okl_of v4)) ?_
  intro hq2
  refine R0 ?_
  refine WX.cases 29 Z ?_ ?_ <;> intro h3
  ·skip
   have h3d := (B.nt h3)
   refine R0 ?_
   refine WX.bld ttOk Z Z Z Z Z Z Z ?_
   intro p3
   refine R0 ?_
   refine WX.free 11 (MF.ol [] ([] : List Name)) Z ?_
   refine WX.seal 30 11 12 Z Z Z Z Z ?_
   have hP3 : a1m t now ([] : List Name) (x_.name.parts : List Str) (x_.content : List UInt8) (x_.keyName.parts : List Str) x_.freshUntil x_.signature = (Ctl.ret (([]), false)) := by rw [v8]; rw [a1m]; simp only [h1, h1d, h2, h3, cT, cF, ↓reduceIte, Bool.false_eq_true]
   have hP4 : a1s t x_ now = (([]), false) := by simp only [a1s, hP3, cT, cF]
   refine R1 ?_
   intro w1 G bs hI hΓ
   rw [hP4]
   exact Post.of [13] (p3, 0) hI hΓ Z Z Z (okl_mk (Nat.zero_le _) (fun a ha => by cases ha) : GoT.ok n ([] : List Name))
  have h3d := (B.nf h3)
  refine R0 ?_
  refine CF 14 Z Z Z Z Z O Z (fun w γ => f33 w n τ1 (Name.mk xKeyName) pxKeyName cxKeyName (γ.q 6 Z) (okl_of v4)) ?_
  rintro ⟨p4, c1⟩ hq3
  refine R0 ?_
  refine WX.bld ttOk Z Z Z Z Z Z Z ?_
  intro p5
  refine WX.turn [15] 16 Z (fun h hs => ol_one (α := Name) (a := (a0f (Name.mk xKeyName))) (x := (p4, c1)) hs) (gs := [MF.ol [.slice p4 (((a0f (Name.mk xKeyName)).parts).length) c1] ([(a0f (Name.mk xKeyName))] : List Name)]) Z ?_
  refine WX.know (fun G hΓ => (hΓ.get 16 Z : OwL _ _ _).rd.one) ?_
  intro ho1
  refine WX.appR1 11 36 ((out ++ [(a0f (Name.mk xKeyName))]) : List Name).length ttOk Z Z Z Z Z Z Z Z Z Z Z Z Z ho1 τ11 τ3 τ3 (fun _ _ => Z) ?_
  intro p6 c2
  refine WX.turn [7, 16] 17 Z (fun h hs => ol_app hs) (gs := [MF.ol (xsout ++ [.slice p4 (((a0f (Name.mk xKeyName)).parts).length) c1]) ((out ++ [(a0f (Name.mk xKeyName))]) : List Name)]) Z ?_
  refine R0 ?_
  refine WX.der 18 (MF.rs .der p4 c1 ((a0f (Name.mk xKeyName)).parts)) Z (fun _ hΓ => der_last (a := (a0f (Name.mk xKeyName))) (b := (a0f (Name.mk xKeyName)).parts) (xs := xsout) (l := out) Z (fun x => ⟨x, Z, Z⟩) ((hΓ.get 17 Z : OwL _ ((xsout ++ [.slice p4 (((a0f (Name.mk xKeyName)).parts).length) c1])) ((out ++ [(a0f (Name.mk xKeyName))]) : List Name)).rd)) ?_
  refine CV Z Z Z Z Z O Z (fun w γ => f98 w n τ1 t K0 M0 (γ.q 0 Z) K1 M1 (γ.q 1 Z) K2 M2 (γ.q 2 Z) K3 M3 (γ.q 3 Z) (a0f (Name.mk xKeyName)) p4 c1 (γ.q 18 Z) hokt hq3) ?_
  intro hq4
  refine R0 ?_
  refine WX.cases 40 Z ?_ ?_ <;> intro h4
  ·skip
   refine R0 ?_
   refine WX.seal 11 17 19 Z Z Z Z Z ?_
   have hP5 : a1m t now ([] : List Name) (x_.name.parts : List Str) (x_.content : List UInt8) (x_.keyName.parts : List Str) x_.freshUntil x_.signature = (Ctl.ret (out ++ [(a0f (Name.mk xKeyName))], true)) := by rw [v8]; rw [a1m]; simp only [h1, h1d, h2, h3, h4, cT, cF, ↓reduceIte, Bool.false_eq_true]
   have hP6 : a1s t x_ now = (out ++ [(a0f (Name.mk xKeyName))], true) := by simp only [a1s, hP5, cT, cF]
   refine R1 ?_
   intro w1 G bs hI hΓ
   rw [hP6]
   exact Post.of [20] (p6, c2) hI hΓ Z Z Z (okl_mk τ3 (all_app v1 (all_cons (α := Name) hq3 (fun a ha => by cases ha))) : GoT.ok n ((out ++ [(a0f (Name.mk xKeyName))]) : List Name))
  refine R0 ?_
  refine CV Z Z Z Z Z O Z (fun w γ => f99 w n τ1 t K0 M0 (γ.q 0 Z) K1 M1 (γ.q 1 Z) K2 M2 (γ.q 2 Z) K3 M3 (γ.q 3 Z) (a0f (Name.mk xKeyName)) p4 c1 (γ.q 18 Z) now hokt hq3 hoknow) ?_
  intro hq5
  have q1 := fcS_lt t (a0f (Name.mk xKeyName)) now
  refine R0 ?_
  refine WX.cases 47 Z ?_ ?_ <;> intro h5
  ·skip
   have h5d := B.dt h5
   refine R0 ?_
   refine WX.bld ttOk Z Z Z Z Z Z Z ?_
   intro p7
   refine R0 ?_
   refine WX.free 21 (MF.ol [] ([] : List Name)) Z ?_
   refine WX.seal 48 21 22 Z Z Z Z Z ?_
   have hP7 : a1m t now ([] : List Name) (x_.name.parts : List Str) (x_.content : List UInt8) (x_.keyName.parts : List Str) x_.freshUntil x_.signature = (Ctl.ret (([]), false)) := by rw [v8]; rw [a1m]; simp only [h1, h1d, h2, h3, h4, h5, h5d, cT, cF, ↓reduceIte, Bool.false_eq_true]
   have hP8 : a1s t x_ now = (([]), false) := by simp only [a1s, hP7, cT, cF]
   refine R1 ?_
   intro w1 G bs hI hΓ
   rw [hP8]
   exact Post.of [23] (p7, 0) hI hΓ Z Z Z (okl_mk (Nat.zero_le _) (fun a ha => by cases ha) : GoT.ok n ([] : List Name))
  have h5d := B.df h5
  refine R0 ?_
  have r1 : -9223372036854775808 ≤ now ∧ now ≤ 9223372036854775807 := hoknow
  have r2 : -9223372036854775808 ≤ (a17 t (a0f (Name.mk xKeyName)) now) ∧ (a17 t (a0f (Name.mk xKeyName)) now) ≤ 9223372036854775807 := hq5
  refine WX.slot 51 (y := .v (.int .i64 ((((a17 t (a0f (Name.mk xKeyName)) now)).toNat : Nat) : Int))) Z (fun _ => congrArg (Value.int .i64) (show (a17 t (a0f (Name.mk xKeyName)) now) = ((((a17 t (a0f (Name.mk xKeyName)) now)).toNat : Nat) : Int) from by omega)) ?_
  have e1i : ((a17 t (a0f (Name.mk xKeyName)) now)).toNat < (t.certificates).length := τ6
  obtain ⟨e1, e1h⟩ : ∃ e1, (t.certificates)[((a17 t (a0f (Name.mk xKeyName)) now)).toNat]? = some e1 := ⟨_, List.getElem?_eq_getElem e1i⟩
  have ok1 : GoT.ok n e1 := (okl (ok_TrustPolicy hokt).2.2.2).2 _ (List.mem_of_getElem? e1h)
  refine WX.idx 3 (((a17 t (a0f (Name.mk xKeyName)) now)).toNat) ttOk Z Z Z Z Z Z Z Z Z Z e1i ?_
  rintro ad1 rfl
  refine WX.ldE 3 24 e1 ttOk Z Z Z Z Z Z Z Z e1h O O ?_
  rintro ⟨⟨p8, c3⟩, ⟨p9, c4⟩, ⟨p10, c5⟩, ⟨⟩, ⟨⟩⟩
  refine R0 ?_
  refine WX.stb 4 (MF.rs .stb p8 c3 e1.name.parts) Z 24 Z Z (fun _ h => h) ?_
  refine WX.stb 5 (MF.rs .stb p9 c4 e1.content) Z 25 Z Z (fun _ h => h) ?_
  refine WX.stb 6 (MF.rs .stb p10 c5 e1.keyName.parts) Z 26 Z Z (fun _ h => h) ?_
  refine WX.turn [17] 7 Z (fun _ h => h) Z ?_
  exact WX.iter (p6, c2, (xsout ++ [.slice p4 (((a0f (Name.mk xKeyName)).parts).length) c1]), ((out ++ [(a0f (Name.mk xKeyName))]) : List Name), p8, c3, e1.name.parts, p9, c4, e1.content, p10, c5, e1.keyName.parts, e1.freshUntil, e1.signature) ⟨(all_app v1 (all_cons (α := Name) hq3 (fun a ha => by cases ha))), (ok_Name (ok_DataP ok1).1), (ok_DataP ok1).2.1, (ok_Name (ok_DataP ok1).2.2.1), (ok_DataP ok1).2.2.2.1, (ok_DataP ok1).2.2.2.2, τ5, (by rw [v8]; rw [a1m]; simp only [h1, h1d, h2, h3, h4, h5, h5d, e1h, cT, cF, ↓reduceIte, Bool.false_eq_true])⟩ τ10 (.cons Z (.cons Z (.cons Z (.cons Z (.nil))))) (.cons Z (.cons Z (.nil))) (.cons Z (.nil)) [0, 1, 2, 3, 4, 5, 6, 7] Z
 have h1d := B.df h1
 refine R0 ?_
 have hX1 : a1m t now ([] : List Name) (x_.name.parts : List Str) (x_.content : List UInt8) (x_.keyName.parts : List Str) x_.freshUntil x_.signature = (Ctl.nxt (((out) : List Name), ((xName) : List Str), ((xContent) : List UInt8), ((xKeyName) : List Str), xFreshUntil, xSignature)) := by rw [v8]; rw [a1m]; simp only [h1, h1d, cT, cF, ↓reduceIte, Bool.false_eq_true]
 refine WX.bld ttOk Z Z Z Z Z Z Z ?_
 intro p11
 refine R0 ?_
 refine WX.free 27 (MF.ol [] ([] : List Name)) Z ?_
 refine WX.seal 54 27 28 Z Z Z Z Z ?_
 have hP9 : a1s t x_ now = (([]), false) := by simp only [a1s, hX1, cT, cF]
 refine R1 ?_
 intro w1 G bs hI hΓ
 rw [hP9]
 exact Post.of [29] (p11, 0) hI hΓ Z Z Z (okl_mk (Nat.zero_le _) (fun a ha => by cases ha) : GoT.ok n ([] : List Name))
theorem f59 (w : World) (n : Nat) (hn : n + 6 ≤ 9) (t : TrustPolicy) (K0 M0) (N0 : RdSl (hp w) K0 M0 t.keys) (K1 M1) (N1 : RdSl (hp w) K1 M1 t.rules) (K2 M2) (N2 : RdSl (hp w) K2 M2 t.anchors) (K3 M3) (N3 : RdSl (hp w) K3 M3 t.certificates) (x_ : DataP) (K4 M4) (N4 : RdSl (hp w) K4 M4 x_.name.parts) (K5 M5) (N5 : RdSl (hp w) K5 M5 x_.content) (K6 M6) (N6 : RdSl (hp w) K6 M6 x_.keyName.parts) (now : Int) (hokt : GoT.ok n t) (hokx_ : GoT.ok n x_) (hoknow : GoT.ok n now) :
 Does Tryz.prog 59 #[.agg #[.slice K0 ((t.keys).length) M0, .slice K1 ((t.rules).length) M1, .slice K2 ((t.anchors).length) M2, .slice K3 ((t.certificates).length) M3], .agg #[.slice K4 ((x_.name.parts).length) M4, .slice K5 ((x_.content).length) M5, .slice K6 ((x_.keyName.parts).length) M6, .int .i64 (x_.freshUntil), .int .i64 (x_.signature)], .int .i64 (now)] w emp (Post w emp (fun x : GoT.X ((List Name)) => .tuple #[(GoT.sh ((a1w t x_ now).1 : (List Name)) x).headD undef, .bool ((a1w t x_ now).2)]) (fun x => GoT.oa ((a1w t x_ now).1 : (List Name)) x) (GoT.ok n ((a1w t x_ now).1 : (List Name)))) := by
 have hb := bS6 hn
 refine EN Tryz.func59 Z (aC 0 N0 (aC 1 N1 (aC 2 N2 (aC 3 N3 (aC 4 N4 (aC 5 N5 (aC 6 N6 allS_nil))))))) ?_
 refine R0 ?_
 refine WX.bld ttOk Z Z Z Z Z Z Z ?_
 intro p1
 refine R0 ?_
 refine WX.free 7 (MF.ol [] ([] : List Name)) Z ?_
 refine WX.loop (ι := (Option Addr) × Nat × (List Value) × (List Name) × (Option Addr) × Nat × (List Str) × (Option Addr) × Nat × (List UInt8) × (Option Addr) × Nat × (List Str) × Int × Int) ⟨fun | (pchain, cchain, xschain, chain, pxName, cxName, xName, pxContent, cxContent, xContent, pxKeyName, cxKeyName, xKeyName, xFreshUntil, xSignature) => (∀ z_ ∈ chain, GoT.ok n z_) ∧ (xName.length ≤ bd n ∧ ∀ z_ ∈ xName, GoT.ok n z_) ∧ (xContent.length ≤ bd n ∧ ∀ z_ ∈ xContent, GoT.ok n z_) ∧ (xKeyName.length ≤ bd n ∧ ∀ z_ ∈ xKeyName, GoT.ok n z_) ∧ (-9223372036854775808 ≤ xFreshUntil ∧ xFreshUntil ≤ 9223372036854775807) ∧ (-9223372036854775808 ≤ xSignature ∧ xSignature ≤ 9223372036854775807) ∧ (chain.length ≤ 4) ∧ (a1n t now ([] : List Name) (x_.name.parts : List Str) (x_.content : List UInt8) (x_.keyName.parts : List Str) x_.freshUntil x_.signature = a1n t now chain xName xContent xKeyName xFreshUntil xSignature), fun | (pchain, cchain, xschain, chain, pxName, cxName, xName, pxContent, cxContent, xContent, pxKeyName, cxKeyName, xKeyName, xFreshUntil, xSignature) => 4 - chain.length, fun | (pchain, cchain, xschain, chain, pxName, cxName, xName, pxContent, cxContent, xContent, pxKeyName, cxKeyName, xKeyName, xFreshUntil, xSignature) => [(8, .v (.slice pchain ((chain).length) cchain)), (4, .p 4 0), (3, .p 3 0), (2, .v (.int .i64 (now)))], fun | (pchain, cchain, xschain, chain, pxName, cxName, xName, pxContent, cxContent, xContent, pxKeyName, cxKeyName, xKeyName, xFreshUntil, xSignature) => [(4, ⟨28, [.slice pxName ((xName).length) cxName, .slice pxContent ((xContent).length) cxContent, .slice pxKeyName ((xKeyName).length) cxKeyName, .int .i64 (xFreshUntil), .int .i64 (xSignature)]⟩), (3, ⟨41, [.slice K0 ((t.keys).length) M0, .slice K1 ((t.rules).length) M1, .slice K2 ((t.anchors).length) M2, .slice K3 ((t.certificates).length) M3]⟩)], fun | (pchain, cchain, xschain, chain, pxName, cxName, xName, pxContent, cxContent, xContent, pxKeyName, cxKeyName, xKeyName, xFreshUntil, xSignature) => [(10, ⟨1, pchain, (chain).length, cchain, xschain⟩)], fun | (pchain, cchain, xschain, chain, pxName, cxName, xName, pxContent, cxContent, xContent, pxKeyName, cxKeyName, xKeyName, xFreshUntil, xSignature) => [(0, MF.rs .stb K0 M0 t.keys), (1, MF.rs .stb K1 M1 t.rules), (2, MF.rs .stb K2 M2 t.anchors), (3, MF.rs .stb K3 M3 t.certificates), (4, MF.rs .stb pxName cxName xName), (5, MF.rs .stb pxContent cxContent xContent), (6, MF.rs .stb pxKeyName cxKeyName xKeyName), (7, MF.ol xschain (chain : List Name))]⟩ (p1, 0, [], ([] : List Name), K4, M4, (x_.name.parts : List Str), K5, M5, (x_.content : List UInt8), K6, M6, (x_.keyName.parts : List Str), x_.freshUntil, x_.signature) ⟨(fun a ha => by cases ha), (ok_Name (ok_DataP hokx_).1), (ok_DataP hokx_).2.1, (ok_Name (ok_DataP hokx_).2.2.1), (ok_DataP hokx_).2.2.2.1, (ok_DataP hokx_).2.2.2.2, τ11, Z⟩
  (.cons Z (.cons Z (.cons Z (.cons Z (.nil))))) (.cons Z (.cons Z (.nil))) (.cons Z (.nil)) [0, 1, 2, 3, 4, 5, 6, 7] Z ?_
 rintro ⟨pchain, cchain, xschain, chain, pxName, cxName, xName, pxContent, cxContent, xContent, pxKeyName, cxKeyName, xKeyName, xFreshUntil, xSignature⟩ ⟨v1, v2, v3, v4, v5, v6, v7, v8⟩
 have v2L := v2.1
 have v3L := v3.1
 have v4L := v4.1
 refine R0 ?_
 refine CV Z Z Z Z Z O Z (fun w γ => f85 w n τ1 t.keys K0 M0 (γ.q 0 Z) (DataP.mk (Name.mk xName) xContent (Name.mk xKeyName) xFreshUntil xSignature) pxName cxName (γ.q 4 Z) pxContent cxContent (γ.q 5 Z) pxKeyName cxKeyName (γ.q 6 Z) ((ok_TrustPolicy hokt).1) (And.intro (okl_of v2) (And.intro (okl_of v3) (And.intro (okl_of v4) (And.intro v5 v6))))) ?_
 intro hq1
 refine R0 ?_
 refine WX.cases 16 Z ?_ ?_ <;> intro h1
 ·skip
  have h1d := (B.nt h1)
  refine R0 ?_
  refine WX.free 8 (MF.os none 0 ([] : List Name)) (owSl_nil _ _) ?_
  have hP1 : a1n t now ([] : List Name) (x_.name.parts : List Str) (x_.content : List UInt8) (x_.keyName.parts : List Str) x_.freshUntil x_.signature = (Ctl.ret (([] : List Name), false)) := by rw [v8]; rw [a1n]; simp only [(show chain.length ≤ 4 by omega), h1, cT, cF, ↓reduceIte, Bool.false_eq_true]
  have hP2 : a1w t x_ now = (([] : List Name), false) := by simp only [a1w, hP1, cT, cF]
  refine R1 ?_
  intro w1 G bs hI hΓ
  rw [hP2]
  exact Post.of [8] (none, 0) hI hΓ Z Z Z (ok_nil (α := Name))
 have h1d := (B.nf h1)
 refine R0 ?_
 refine CV Z Z Z Z Z O Z (fun w γ => f86 w n τ1 t.rules K1 M1 (γ.q 1 Z) (Name.mk xName) pxName cxName (γ.q 4 Z) (Name.mk xKeyName) pxKeyName cxKeyName (γ.q 6 Z) ((ok_TrustPolicy hokt).2.1) (okl_of v2) (okl_of v4)) ?_
 intro hq2
 refine R0 ?_
 refine WX.cases 26 Z ?_ ?_ <;> intro h2
 ·skip
  have h2d := (B.nt h2)
  refine R0 ?_
  refine WX.free 9 (MF.os none 0 ([] : List Name)) (owSl_nil _ _) ?_
  have hP3 : a1n t now ([] : List Name) (x_.name.parts : List Str) (x_.content : List UInt8) (x_.keyName.parts : List Str) x_.freshUntil x_.signature = (Ctl.ret (([] : List Name), false)) := by rw [v8]; rw [a1n]; simp only [(show chain.length ≤ 4 by omega), h1, h2, cT, cF, ↓reduceIte, Bool.false_eq_true]
  have hP4 : a1w t x_ now = (([] : List Name), false) := by simp only [a1w, hP3, cT, cF]
  refine R1 ?_
  intro w1 G bs hI hΓ
  rw [hP4]
  exact Post.of [9] (none, 0) hI hΓ Z Z Z (ok_nil (α := Name))
 have h2d := (B.nf h2)
 refine R0 ?_
 refine WX.cases 30 Z ?_ ?_ <;> intro h3
 ·skip
  have h3d := B.et h3
  refine R0 ?_
  refine WX.free 10 (MF.os none 0 ([] : List Name)) (owSl_nil _ _) ?_
  have hP5 : a1n t now ([] : List Name) (x_.name.parts : List Str) (x_.content : List UInt8) (x_.keyName.parts : List Str) x_.freshUntil x_.signature = (Ctl.ret (([] : List Name), false)) := by rw [v8]; rw [a1n]; simp only [(show chain.length ≤ 4 by omega), h1, h2, h3, cT, cF, ↓reduceIte, Bool.false_eq_true]
  have hP6 : a1w t x_ now = (([] : List Name), false) := by simp only [a1w, hP5, cT, cF]
  refine R1 ?_
  intro w1 G bs hI hΓ
  rw [hP6]
  exact Post.of [10] (none, 0) hI hΓ Z Z Z (ok_nil (α := Name))
 have h3d := B.ef h3
 refine R0 ?_
 refine CF 11 Z Z Z Z Z O Z (fun w γ => f31 w n τ1 (Name.mk xKeyName) pxKeyName cxKeyName (γ.q 6 Z) (okl_of v4)) ?_
 rintro ⟨p2, c1⟩ hq3
 refine WX.bld ttOk Z Z Z Z Z Z Z ?_
 intro p3
 refine WX.turn [12] 13 Z (fun h hs => ol_one (α := Name) (a := (a0s (Name.mk xKeyName))) (x := (p2, c1)) hs) (gs := [MF.ol [.slice p2 (((a0s (Name.mk xKeyName)).parts).length) c1] ([(a0s (Name.mk xKeyName))] : List Name)]) Z ?_
 refine WX.know (fun G hΓ => (hΓ.get 13 Z : OwL _ _ _).rd.one) ?_
 intro ho1
 refine WX.appR1 10 35 ((chain ++ [(a0s (Name.mk xKeyName))]) : List Name).length ttOk Z Z Z Z Z Z Z Z Z Z Z Z Z ho1 τ11 τ3 τ3 (fun _ _ => Z) ?_
 intro p4 c2
 refine WX.turn [7, 13] 14 Z (fun h hs => ol_app hs) (gs := [MF.ol (xschain ++ [.slice p2 (((a0s (Name.mk xKeyName)).parts).length) c1]) ((chain ++ [(a0s (Name.mk xKeyName))]) : List Name)]) Z ?_
 refine R0 ?_
 refine CV Z Z Z Z Z O Z (fun w γ => f87 w n τ1 t K0 M0 (γ.q 0 Z) K1 M1 (γ.q 1 Z) K2 M2 (γ.q 2 Z) K3 M3 (γ.q 3 Z) (Name.mk xKeyName) pxKeyName cxKeyName (γ.q 6 Z) hokt (okl_of v4)) ?_
 intro hq4
 refine R0 ?_
 refine WX.cases 40 Z ?_ ?_ <;> intro h4
 ·skip
  refine R0 ?_
  refine WX.seal 10 14 15 Z Z Z Z Z ?_
  have hP7 : a1n t now ([] : List Name) (x_.name.parts : List Str) (x_.content : List UInt8) (x_.keyName.parts : List Str) x_.freshUntil x_.signature = (Ctl.ret (chain ++ [(a0s (Name.mk xKeyName))], true)) := by rw [v8]; rw [a1n]; simp only [(show chain.length ≤ 4 by omega), h1, h2, h3, h4, cT, cF, ↓reduceIte, Bool.false_eq_true]
  have hP8 : a1w t x_ now = (chain ++ [(a0s (Name.mk xKeyName))], true) := by simp only [a1w, hP7, cT, cF]
  refine R1 ?_
  intro w1 G bs hI hΓ
  rw [hP8]
  exact Post.of [16] (p4, c2) hI hΓ Z Z Z (okl_mk τ3 (all_app v1 (all_cons (α := Name) hq3 (fun a ha => by cases ha))) : GoT.ok n ((chain ++ [(a0s (Name.mk xKeyName))]) : List Name))
 refine R0 ?_
 refine CV Z Z Z Z Z O Z (fun w γ => f88 w n τ1 t K0 M0 (γ.q 0 Z) K1 M1 (γ.q 1 Z) K2 M2 (γ.q 2 Z) K3 M3 (γ.q 3 Z) (Name.mk xKeyName) pxKeyName cxKeyName (γ.q 6 Z) now hokt (okl_of v4) hoknow) ?_
 intro hq5
 have q1 := fcI_lt t (Name.mk xKeyName) now
 refine R0 ?_
 refine WX.cases 48 Z ?_ ?_ <;> intro h5
 ·skip
  have h5d := B.dt h5
  refine R0 ?_
  refine WX.free 17 (MF.os none 0 ([] : List Name)) (owSl_nil _ _) ?_
  have hP9 : a1n t now ([] : List Name) (x_.name.parts : List Str) (x_.content : List UInt8) (x_.keyName.parts : List Str) x_.freshUntil x_.signature = (Ctl.ret (([] : List Name), false)) := by rw [v8]; rw [a1n]; simp only [(show chain.length ≤ 4 by omega), h1, h2, h3, h4, h5, h5d, cT, cF, ↓reduceIte, Bool.false_eq_true]
  have hP10 : a1w t x_ now = (([] : List Name), false) := by simp only [a1w, hP9, cT, cF]
  refine R1 ?_
  intro w1 G bs hI hΓ
  rw [hP10]
  exact Post.of [17] (none, 0) hI hΓ Z Z Z (ok_nil (α := Name))
 have h5d := B.df h5
 refine R0 ?_
 have r1 : -9223372036854775808 ≤ now ∧ now ≤ 9223372036854775807 := hoknow
 have r2 : -9223372036854775808 ≤ (a1g t (Name.mk xKeyName) now) ∧ (a1g t (Name.mk xKeyName) now) ≤ 9223372036854775807 := hq5
 refine WX.slot 51 (y := .v (.int .i64 ((((a1g t (Name.mk xKeyName) now)).toNat : Nat) : Int))) Z (fun _ => congrArg (Value.int .i64) (show (a1g t (Name.mk xKeyName) now) = ((((a1g t (Name.mk xKeyName) now)).toNat : Nat) : Int) from by omega)) ?_
 have e1i : ((a1g t (Name.mk xKeyName) now)).toNat < (t.certificates).length := τ6
 obtain ⟨e1, e1h⟩ : ∃ e1, (t.certificates)[((a1g t (Name.mk xKeyName) now)).toNat]? = some e1 := ⟨_, List.getElem?_eq_getElem e1i⟩
 have ok1 : GoT.ok n e1 := (okl (ok_TrustPolicy hokt).2.2.2).2 _ (List.mem_of_getElem? e1h)
 refine WX.idx 3 (((a1g t (Name.mk xKeyName) now)).toNat) ttOk Z Z Z Z Z Z Z Z Z Z e1i ?_
 rintro ad1 rfl
 refine WX.ldE 3 18 e1 ttOk Z Z Z Z Z Z Z Z e1h O O ?_
 rintro ⟨⟨p5, c3⟩, ⟨p6, c4⟩, ⟨p7, c5⟩, ⟨⟩, ⟨⟩⟩
 refine R0 ?_
 refine WX.stb 4 (MF.rs .stb p5 c3 e1.name.parts) Z 18 Z Z (fun _ h => h) ?_
 refine WX.stb 5 (MF.rs .stb p6 c4 e1.content) Z 19 Z Z (fun _ h => h) ?_
 refine WX.stb 6 (MF.rs .stb p7 c5 e1.keyName.parts) Z 20 Z Z (fun _ h => h) ?_
 refine WX.turn [14] 7 Z (fun _ h => h) Z ?_
 exact WX.iter (p4, c2, (xschain ++ [.slice p2 (((a0s (Name.mk xKeyName)).parts).length) c1]), ((chain ++ [(a0s (Name.mk xKeyName))]) : List Name), p5, c3, e1.name.parts, p6, c4, e1.content, p7, c5, e1.keyName.parts, e1.freshUntil, e1.signature) ⟨(all_app v1 (all_cons (α := Name) hq3 (fun a ha => by cases ha))), (ok_Name (ok_DataP ok1).1), (ok_DataP ok1).2.1, (ok_Name (ok_DataP ok1).2.2.1), (ok_DataP ok1).2.2.2.1, (ok_DataP ok1).2.2.2.2, τ5, (by rw [v8]; rw [a1n]; simp only [(show chain.length ≤ 4 by omega), h1, h2, h3, h4, h5, h5d, e1h, cT, cF, ↓reduceIte, Bool.false_eq_true])⟩ τ10 (.cons Z (.cons Z (.cons Z (.cons Z (.nil))))) (.cons Z (.cons Z (.nil))) (.cons Z (.nil)) [0, 1, 2, 3, 4, 5, 6, 7] Z
theorem f45 (w : World) (n : Nat) (hn : n + 7 ≤ 9) (t : TrustPolicy) (K0 M0) (N0 : RdSl (hp w) K0 M0 t.keys) (K1 M1) (N1 : RdSl (hp w) K1 M1 t.rules) (K2 M2) (N2 : RdSl (hp w) K2 M2 t.anchors) (K3 M3) (N3 : RdSl (hp w) K3 M3 t.certificates) (x_ : DataP) (K4 M4) (N4 : RdSl (hp w) K4 M4 x_.name.parts) (K5 M5) (N5 : RdSl (hp w) K5 M5 x_.content) (K6 M6) (N6 : RdSl (hp w) K6 M6 x_.keyName.parts) (now : Int) (hokt : GoT.ok n t) (hokx_ : GoT.ok n x_) (hoknow : GoT.ok n now) :
 Does Tryz.prog 45 #[.agg #[.slice K0 ((t.keys).length) M0, .slice K1 ((t.rules).length) M1, .slice K2 ((t.anchors).length) M2, .slice K3 ((t.certificates).length) M3], .agg #[.slice K4 ((x_.name.parts).length) M4, .slice K5 ((x_.content).length) M5, .slice K6 ((x_.keyName.parts).length) M6, .int .i64 (x_.freshUntil), .int .i64 (x_.signature)], .int .i64 (now)] w emp (pB (a4l t x_ now)) := by
 have hb := bS7 hn
 refine EN Tryz.func45 Z (aC 0 N0 (aC 1 N1 (aC 2 N2 (aC 3 N3 (aC 4 N4 (aC 5 N5 (aC 6 N6 allS_nil))))))) ?_
 refine R0 ?_
 refine CF 7 Z Z Z Z Z O Z (fun w γ => f76 w n τ1 t K0 M0 (γ.q 0 Z) K1 M1 (γ.q 1 Z) K2 M2 (γ.q 2 Z) K3 M3 (γ.q 3 Z) x_ K4 M4 (γ.q 4 Z) K5 M5 (γ.q 5 Z) K6 M6 (γ.q 6 Z) now hokt hokx_ hoknow) ?_
 rintro ⟨p1, c1⟩ hq1
 refine R0 ?_
 refine CV Z Z Z Z Z O Z (fun w γ => f57 w n τ1 x_ K4 M4 (γ.q 4 Z) K5 M5 (γ.q 5 Z) K6 M6 (γ.q 6 Z) hokx_) ?_
 intro hq2
 refine R0 ?_
 refine WX.cases 18 Z ?_ ?_ <;> intro h1
 ·skip
  refine R0 ?_
  exact R4 Z (by simp only [a4l, h1, cT, cF])
 refine R0 ?_
 exact R4 Z (by simp only [a4l, h1, cT, cF])
theorem f25 (w : World) (n : Nat) (hn : n + 6 ≤ 9) (t : TrustPolicy) (K0 M0) (N0 : RdSl (hp w) K0 M0 t.keys) (K1 M1) (N1 : RdSl (hp w) K1 M1 t.rules) (K2 M2) (N2 : RdSl (hp w) K2 M2 t.anchors) (K3 M3) (N3 : RdSl (hp w) K3 M3 t.certificates) (x_ : DataP) (K4 M4) (N4 : RdSl (hp w) K4 M4 x_.name.parts) (K5 M5) (N5 : RdSl (hp w) K5 M5 x_.content) (K6 M6) (N6 : RdSl (hp w) K6 M6 x_.keyName.parts) (now : Int) (hokt : GoT.ok n t) (hokx_ : GoT.ok n x_) (hoknow : GoT.ok n now) :
 Does Tryz.prog 25 #[.agg #[.slice K0 ((t.keys).length) M0, .slice K1 ((t.rules).length) M1, .slice K2 ((t.anchors).length) M2, .slice K3 ((t.certificates).length) M3], .agg #[.slice K4 ((x_.name.parts).length) M4, .slice K5 ((x_.content).length) M5, .slice K6 ((x_.keyName.parts).length) M6, .int .i64 (x_.freshUntil), .int .i64 (x_.signature)], .int .i64 (now)] w emp (pB (a3q t x_ now)) := by
 have hb := bS6 hn
 refine EN Tryz.func25 Z (aC 0 N0 (aC 1 N1 (aC 2 N2 (aC 3 N3 (aC 4 N4 (aC 5 N5 (aC 6 N6 allS_nil))))))) ?_
 refine R0 ?_
 refine CF 7 Z Z Z Z Z O Z (fun w γ => f59 w n τ1 t K0 M0 (γ.q 0 Z) K1 M1 (γ.q 1 Z) K2 M2 (γ.q 2 Z) K3 M3 (γ.q 3 Z) x_ K4 M4 (γ.q 4 Z) K5 M5 (γ.q 5 Z) K6 M6 (γ.q 6 Z) now hokt hokx_ hoknow) ?_
 rintro ⟨p1, c1⟩ hq1
 refine R0 ?_
 refine WX.cases 17 Z ?_ ?_ <;> intro h1
 ·skip
  refine R0 ?_
  refine CV Z Z Z Z Z O Z (fun w γ => f54 w n τ1 x_ K4 M4 (γ.q 4 Z) K5 M5 (γ.q 5 Z) K6 M6 (γ.q 6 Z) hokx_) ?_
  intro hq2
  refine R0 ?_
  exact R4 Z (by simp only [a3q, h1, cT, cF])
 refine R0 ?_
 exact R4 Z (by simp only [a3q, h1, cT, cF])
theorem f15 (w : World) (n : Nat) (hn : n + 7 ≤ 9) (a : Consumer) (K0 M0) (N0 : RdSl (hp w) K0 M0 a.name.parts) (K1 M1) (N1 : RdSl (hp w) K1 M1 a.data.name.parts) (K2 M2) (N2 : RdSl (hp w) K2 M2 a.data.content) (K3 M3) (N3 : RdSl (hp w) K3 M3 a.data.keyName.parts) (t : TrustPolicy) (K4 M4) (N4 : RdSl (hp w) K4 M4 t.keys) (K5 M5) (N5 : RdSl (hp w) K5 M5 t.rules) (K6 M6) (N6 : RdSl (hp w) K6 M6 t.anchors) (K7 M7) (N7 : RdSl (hp w) K7 M7 t.certificates) (x_ : DataP) (K8 M8) (N8 : RdSl (hp w) K8 M8 x_.name.parts) (K9 M9) (N9 : RdSl (hp w) K9 M9 x_.content) (K10 M10) (N10 : RdSl (hp w) K10 M10 x_.keyName.parts) (now : Int) (hoka : GoT.ok n a) (hokt : GoT.ok n t) (hokx_ : GoT.ok n x_) (hoknow : GoT.ok n now) :
 Does Tryz.prog 15 #[.agg #[.int .i64 (a.node), .int .i64 (a.index), .slice K0 ((a.name.parts).length) M0, .int .i64 (a.attempts), .int .i64 (a.wait), .bool a.satisfied, .slice K1 ((a.data.name.parts).length) M1, .slice K2 ((a.data.content).length) M2, .slice K3 ((a.data.keyName.parts).length) M3, .int .i64 (a.data.freshUntil), .int .i64 (a.data.signature)], .agg #[.slice K4 ((t.keys).length) M4, .slice K5 ((t.rules).length) M5, .slice K6 ((t.anchors).length) M6, .slice K7 ((t.certificates).length) M7], .agg #[.slice K8 ((x_.name.parts).length) M8, .slice K9 ((x_.content).length) M9, .slice K10 ((x_.keyName.parts).length) M10, .int .i64 (x_.freshUntil), .int .i64 (x_.signature)], .int .i64 (now)] w emp (Post w emp (fun x : GoT.X (Consumer) => .agg ⟨GoT.sh ((a0j a t x_ now) : Consumer) x⟩) (fun x => GoT.oa ((a0j a t x_ now) : Consumer) x) (GoT.ok n ((a0j a t x_ now) : Consumer))) := by
 have hb := bS7 hn
 refine EN Tryz.func15 Z (aC 0 N0 (aC 1 N1 (aC 2 N2 (aC 3 N3 (aC 4 N4 (aC 5 N5 (aC 6 N6 (aC 7 N7 (aC 8 N8 (aC 9 N9 (aC 10 N10 allS_nil))))))))))) ?_
 refine R0 ?_
 refine CF 11 Z Z Z Z Z O Z (fun w γ => f32 w n τ1 a K0 M0 (γ.q 0 Z) K1 M1 (γ.q 1 Z) K2 M2 (γ.q 2 Z) K3 M3 (γ.q 3 Z) hoka) ?_
 rintro ⟨⟨⟩, ⟨⟩, ⟨p1, c1⟩, ⟨⟩, ⟨⟩, ⟨⟩, ⟨⟨p2, c2⟩, ⟨p3, c3⟩, ⟨p4, c4⟩, ⟨⟩, ⟨⟩⟩⟩ hq1
 refine R0 ?_
 refine WX.cases 15 Z ?_ ?_ <;> intro h1
 ·skip
  have h1d := (B.nt h1)
  refine R0 ?_
  refine CV Z Z Z Z Z O Z (fun w γ => f44 w n τ1 x_.name K8 M8 (γ.q 8 Z) a.name K0 M0 (γ.q 0 Z) ((ok_DataP hokx_).1) ((ok_Consumer hoka).2.2.1)) ?_
  intro hq2
  refine R0 ?_
  refine WX.cases 22 Z ?_ ?_ <;> intro h2
  ·skip
   refine R0 ?_
   refine CV Z Z Z Z Z O Z (fun w γ => f45 w n τ1 t K4 M4 (γ.q 4 Z) K5 M5 (γ.q 5 Z) K6 M6 (γ.q 6 Z) K7 M7 (γ.q 7 Z) x_ K8 M8 (γ.q 8 Z) K9 M9 (γ.q 9 Z) K10 M10 (γ.q 10 Z) now hokt hokx_ hoknow) ?_
   intro hq3
   refine R0 ?_
   refine WX.cases 27 Z ?_ ?_ <;> intro h3
   ·skip
    refine R0 ?_
    refine CF 19 Z Z Z Z Z O Z (fun w γ => f46 w n τ1 x_ K8 M8 (γ.q 8 Z) K9 M9 (γ.q 9 Z) K10 M10 (γ.q 10 Z) hokx_) ?_
    rintro ⟨⟨p5, c5⟩, ⟨p6, c6⟩, ⟨p7, c7⟩, ⟨⟩, ⟨⟩⟩ hq4
    refine R0 ?_
    have hP1 : a0j a t x_ now = (Consumer.mk ((a0g a).node) ((a0g a).index) ((a0g a).name) ((a0g a).attempts) ((a0g a).wait) true (a1t x_)) := by simp only [a0j, h1, h2, h3, cT, cF]
    refine R1 ?_
    intro w1 G bs hI hΓ
    rw [hP1]
    exact Post.of [15, 22, 23, 24] ((), (), (p1, c1), (), (), (), ((p5, c5), (p6, c6), (p7, c7), (), ())) hI hΓ Z Z Z (And.intro (ok_Consumer hq1).1 (And.intro (ok_Consumer hq1).2.1 (And.intro (ok_Consumer hq1).2.2.1 (And.intro (ok_Consumer hq1).2.2.2.1 (And.intro (ok_Consumer hq1).2.2.2.2.1 (And.intro trivial hq4))))))
   refine R0 ?_
   have hP2 : a0j a t x_ now = (a0g a) := by simp only [a0j, h1, h2, h3, cT, cF]
   refine R1 ?_
   intro w1 G bs hI hΓ
   rw [hP2]
   exact Post.of [15, 16, 17, 18] ((), (), (p1, c1), (), (), (), ((p2, c2), (p3, c3), (p4, c4), (), ())) hI hΓ Z Z Z hq1
  refine R0 ?_
  have hP3 : a0j a t x_ now = (a0g a) := by simp only [a0j, h1, h2, cT, cF]
  refine R1 ?_
  intro w1 G bs hI hΓ
  rw [hP3]
  exact Post.of [15, 16, 17, 18] ((), (), (p1, c1), (), (), (), ((p2, c2), (p3, c3), (p4, c4), (), ())) hI hΓ Z Z Z hq1
 have h1d := (B.nf h1)
 refine R0 ?_
 have hP4 : a0j a t x_ now = (a0g a) := by simp only [a0j, h1, cT, cF]
 refine R1 ?_
 intro w1 G bs hI hΓ
 rw [hP4]
 exact Post.of [15, 16, 17, 18] ((), (), (p1, c1), (), (), (), ((p2, c2), (p3, c3), (p4, c4), (), ())) hI hΓ Z Z Z hq1
theorem f9 (w : World) (n : Nat) (hn : n + 6 ≤ 9) (a : Consumer) (K0 M0) (N0 : RdSl (hp w) K0 M0 a.name.parts) (K1 M1) (N1 : RdSl (hp w) K1 M1 a.data.name.parts) (K2 M2) (N2 : RdSl (hp w) K2 M2 a.data.content) (K3 M3) (N3 : RdSl (hp w) K3 M3 a.data.keyName.parts) (t : TrustPolicy) (K4 M4) (N4 : RdSl (hp w) K4 M4 t.keys) (K5 M5) (N5 : RdSl (hp w) K5 M5 t.rules) (K6 M6) (N6 : RdSl (hp w) K6 M6 t.anchors) (K7 M7) (N7 : RdSl (hp w) K7 M7 t.certificates) (x_ : DataP) (K8 M8) (N8 : RdSl (hp w) K8 M8 x_.name.parts) (K9 M9) (N9 : RdSl (hp w) K9 M9 x_.content) (K10 M10) (N10 : RdSl (hp w) K10 M10 x_.keyName.parts) (now : Int) (hoka : GoT.ok n a) (hokt : GoT.ok n t) (hokx_ : GoT.ok n x_) (hoknow : GoT.ok n now) :
 Does Tryz.prog 9 #[.agg #[.int .i64 (a.node), .int .i64 (a.index), .slice K0 ((a.name.parts).length) M0, .int .i64 (a.attempts), .int .i64 (a.wait), .bool a.satisfied, .slice K1 ((a.data.name.parts).length) M1, .slice K2 ((a.data.content).length) M2, .slice K3 ((a.data.keyName.parts).length) M3, .int .i64 (a.data.freshUntil), .int .i64 (a.data.signature)], .agg #[.slice K4 ((t.keys).length) M4, .slice K5 ((t.rules).length) M5, .slice K6 ((t.anchors).length) M6, .slice K7 ((t.certificates).length) M7], .agg #[.slice K8 ((x_.name.parts).length) M8, .slice K9 ((x_.content).length) M9, .slice K10 ((x_.keyName.parts).length) M10, .int .i64 (x_.freshUntil), .int .i64 (x_.signature)], .int .i64 (now)] w emp (Post w emp (fun x : GoT.X (Consumer) => .agg ⟨GoT.sh ((a0q a t x_ now) : Consumer) x⟩) (fun x => GoT.oa ((a0q a t x_ now) : Consumer) x) (GoT.ok n ((a0q a t x_ now) : Consumer))) := by
 have hb := bS6 hn
 refine EN Tryz.func9 Z (aC 0 N0 (aC 1 N1 (aC 2 N2 (aC 3 N3 (aC 4 N4 (aC 5 N5 (aC 6 N6 (aC 7 N7 (aC 8 N8 (aC 9 N9 (aC 10 N10 allS_nil))))))))))) ?_
 refine R0 ?_
 refine CF 11 Z Z Z Z Z O Z (fun w γ => f30 w n τ1 a K0 M0 (γ.q 0 Z) K1 M1 (γ.q 1 Z) K2 M2 (γ.q 2 Z) K3 M3 (γ.q 3 Z) hoka) ?_
 rintro ⟨⟨⟩, ⟨⟩, ⟨p1, c1⟩, ⟨⟩, ⟨⟩, ⟨⟩, ⟨⟨p2, c2⟩, ⟨p3, c3⟩, ⟨p4, c4⟩, ⟨⟩, ⟨⟩⟩⟩ hq1
 refine R0 ?_
 refine WX.cases 15 Z ?_ ?_ <;> intro h1
 ·skip
  have h1d := (B.nt h1)
  refine R0 ?_
  refine CV Z Z Z Z Z O Z (fun w γ => f38 w n τ1 x_.name K8 M8 (γ.q 8 Z) a.name K0 M0 (γ.q 0 Z) ((ok_DataP hokx_).1) ((ok_Consumer hoka).2.2.1)) ?_
  intro hq2
  refine R0 ?_
  refine WX.cases 22 Z ?_ ?_ <;> intro h2
  ·skip
   refine R0 ?_
   refine CV Z Z Z Z Z O Z (fun w γ => f25 w n τ1 t K4 M4 (γ.q 4 Z) K5 M5 (γ.q 5 Z) K6 M6 (γ.q 6 Z) K7 M7 (γ.q 7 Z) x_ K8 M8 (γ.q 8 Z) K9 M9 (γ.q 9 Z) K10 M10 (γ.q 10 Z) now hokt hokx_ hoknow) ?_
   intro hq3
   refine R0 ?_
   refine WX.cases 27 Z ?_ ?_ <;> intro h3
   ·skip
    refine R0 ?_
    refine CF 19 Z Z Z Z Z O Z (fun w γ => f39 w n τ1 x_ K8 M8 (γ.q 8 Z) K9 M9 (γ.q 9 Z) K10 M10 (γ.q 10 Z) hokx_) ?_
    rintro ⟨⟨p5, c5⟩, ⟨p6, c6⟩, ⟨p7, c7⟩, ⟨⟩, ⟨⟩⟩ hq4
    refine R0 ?_
    have hP1 : a0q a t x_ now = (Consumer.mk ((a0d a).node) ((a0d a).index) ((a0d a).name) ((a0d a).attempts) ((a0d a).wait) true (a3l x_)) := by simp only [a0q, h1, h2, h3, cT, cF]
    refine R1 ?_
    intro w1 G bs hI hΓ
    rw [hP1]
    exact Post.of [15, 22, 23, 24] ((), (), (p1, c1), (), (), (), ((p5, c5), (p6, c6), (p7, c7), (), ())) hI hΓ Z Z Z (And.intro (ok_Consumer hq1).1 (And.intro (ok_Consumer hq1).2.1 (And.intro (ok_Consumer hq1).2.2.1 (And.intro (ok_Consumer hq1).2.2.2.1 (And.intro (ok_Consumer hq1).2.2.2.2.1 (And.intro trivial hq4))))))
   refine R0 ?_
   have hP2 : a0q a t x_ now = (a0d a) := by simp only [a0q, h1, h2, h3, cT, cF]
   refine R1 ?_
   intro w1 G bs hI hΓ
   rw [hP2]
   exact Post.of [15, 16, 17, 18] ((), (), (p1, c1), (), (), (), ((p2, c2), (p3, c3), (p4, c4), (), ())) hI hΓ Z Z Z hq1
  refine R0 ?_
  have hP3 : a0q a t x_ now = (a0d a) := by simp only [a0q, h1, h2, cT, cF]
  refine R1 ?_
  intro w1 G bs hI hΓ
  rw [hP3]
  exact Post.of [15, 16, 17, 18] ((), (), (p1, c1), (), (), (), ((p2, c2), (p3, c3), (p4, c4), (), ())) hI hΓ Z Z Z hq1
 have h1d := (B.nf h1)
 refine R0 ?_
 have hP4 : a0q a t x_ now = (a0d a) := by simp only [a0q, h1, cT, cF]
 refine R1 ?_
 intro w1 G bs hI hΓ
 rw [hP4]
 exact Post.of [15, 16, 17, 18] ((), (), (p1, c1), (), (), (), ((p2, c2), (p3, c3), (p4, c4), (), ())) hI hΓ Z Z Z hq1
end Go.Proofs.YthdgpfbldbabmaaGreatDoor

namespace Go.Stp
set_option linter.unusedVariables false
set_option linter.unusedSimpArgs false
def a2j (w_ : Interest) : Bool :=
 bif (a23 w_.name) then
  bif decide ((((w_.name.parts).length : Nat) : Int) > 0) then
   bif (a0r w_.nonce 0 1000000) then
    bif (a0r w_.hopLimit 0 16) then
     (a0r w_.lifetime 1 20)
    else
     false
   else
    false
  else
   false
 else
  false
def a0u (s : Str) : Pattern × Bool :=
 bif ((s).toList == ((⟨#[47]⟩ : Str)).toList) then
  ((Pattern.mk ([])), true)
 else
  bif decide (((((a0b s (47 : UInt8))).length : Nat) : Int) < 2) then
   ((Pattern.mk ([])), false)
  else
   match ((a0b s (47 : UInt8)))[0]? with
    | none => default
    | some e1 =>
     bif (!((e1).toList == ((⟨#[]⟩ : Str)).toList)) then
      ((Pattern.mk ([])), false)
     else
      bif (!(a2b (Pattern.mk (List.drop 1 (a0b s (47 : UInt8)))))) then
       ((Pattern.mk ([])), false)
      else
       ((Pattern.mk (List.drop 1 (a0b s (47 : UInt8)))), true)
theorem toL_size {s t : Str} (h : (s.toList == t.toList) = true) : s.size = t.size := by
 have h := congrArg List.length (eq_of_beq h)
 rw [ByteArray.toList_eq, ByteArray.toList_eq] at h
 exact h
theorem let_ok {s : Str} (h : a2a s = true) : s.size = 2 := by
 unfold a2a at h
 cases h1 : ((((s).size : Nat) : Int) == 2)
 ·rw [h1] at h; cases h
 ·have := eq_of_beq h1; omega
theorem vptL_ok (p : Pattern) : ∀ (l : List Str) (i : Nat), a12 p l i = none → ∀ a ∈ l, a.size ≤ 8
 | [], _, _, a, ha => by cases ha
 | x :: l, i, h, a, ha => by
  simp only [a12] at h
  have key : x.size ≤ 8 ∧ a12 p l (i + 1) = none := by
   cases hv : a1f x
   ·rw [hv] at h
    cases h1 : (x.toList == ((⟨#[42]⟩ : Str)).toList)
    ·rw [h1] at h
     cases h2 : a2a x
     ·rw [h2] at h
      cases h3 : (x.toList == ((⟨#[42, 42]⟩ : Str)).toList)
      ·rw [h3] at h; cases h
      ·rw [h3] at h
       have hs := toL_size h3
       refine ⟨by rw [hs]; decide, ?_⟩
       cases h4 : decide (((i : Nat) : Int) < IntKind.i64.wrap ((((p.parts).length : Nat) : Int) - 1))
       ·rw [h4] at h; exact h
       ·rw [h4] at h; cases h
     ·rw [h2] at h; exact ⟨by rw [let_ok h2]; decide, h⟩
    ·rw [h1] at h
     exact ⟨by rw [toL_size h1]; decide, h⟩
   ·rw [hv] at h; exact ⟨vp_ok hv, h⟩
  rcases List.mem_cons.1 ha with rfl | ha
  ·exact key.1
  ·exact vptL_ok p l (i + 1) key.2 a ha
theorem vptL_some (p : Pattern) : ∀ (l : List Str) (i : Nat) (r : Bool), a12 p l i = some r → r = false
 | [], _, _, h => by cases h
 | x :: l, i, r, h => by
  simp only [a12] at h
  have ih := vptL_some p l (i + 1) r
  revert h
  cases a1f x <;> cases (x.toList == ((⟨#[42]⟩ : Str)).toList) <;> cases a2a x <;> cases (x.toList == ((⟨#[42, 42]⟩ : Str)).toList) <;> cases decide (((i : Nat) : Int) < IntKind.i64.wrap ((((p.parts).length : Nat) : Int) - 1)) <;> intro h <;> first | exact ih h | exact (Option.some.inj h).symm
theorem vpt_ok {p : Pattern} (h : a2b p = true) : GoT.ok 0 p := by
 unfold a2b at h
 cases h1 : a12 p p.parts 0 with
 | some r => rw [h1] at h; have := vptL_some _ _ _ _ h1; subst this; cases h
 | none =>
  rw [h1] at h
  have h2 := of_decide_eq_true h
  exact (okl_mk (by rw [bd_0]; omega) (fun a ha => Nat.le_trans (vptL_ok _ _ _ h1 a ha) (by decide)) : GoT.ok 0 p.parts)
theorem r0_ok : GoT.ok 0 (Rule.mk (Pattern.mk []) (Pattern.mk [])) := ⟨(ok_nil : GoT.ok 0 ([] : List Str)), (ok_nil : GoT.ok 0 ([] : List Str))⟩
theorem vr_ok {r : Rule} (h : a35 r = true) : GoT.ok 0 r := by
 unfold a35 at h
 cases h1 : a2b r.dataPattern
 ·rw [h1] at h; cases h
 ·rw [h1] at h
  cases h2 : a2b r.keyPattern
  ·rw [h2] at h; cases h
  ·exact ⟨vpt_ok h1, vpt_ok h2⟩
def a0o (s : Str) : Rule × Bool :=
 bif (((((a0b s (32 : UInt8))).length : Nat) : Int) != 3) then
  ((Rule.mk (Pattern.mk ([])) (Pattern.mk ([]))), false)
 else
  match ((a0b s (32 : UInt8)))[1]? with
   | none => default
   | some e1 =>
    bif (!((e1).toList == ((⟨#[60]⟩ : Str)).toList)) then
     ((Rule.mk (Pattern.mk ([])) (Pattern.mk ([]))), false)
    else
     match ((a0b s (32 : UInt8)))[0]? with
      | none => default
      | some e2 =>
       match ((a0b s (32 : UInt8)))[2]? with
        | none => default
        | some e3 =>
         bif (!((a0u e2).2)) then
          ((Rule.mk (Pattern.mk ([])) (Pattern.mk ([]))), false)
         else
          bif (!((a0u e3).2)) then
           ((Rule.mk (Pattern.mk ([])) (Pattern.mk ([]))), false)
          else
           bif (!(a35 (Rule.mk (Pattern.mk ((a0u e2).1.parts)) (Pattern.mk ((a0u e3).1.parts))))) then
            ((Rule.mk (Pattern.mk ([])) (Pattern.mk ([]))), false)
           else
            ((Rule.mk (Pattern.mk ((a0u e2).1.parts)) (Pattern.mk ((a0u e3).1.parts))), true)
theorem pr_ok (s : Str) : GoT.ok 0 (a0o s).1 := by
 unfold a0o
 cases (((((a0b s (32 : UInt8))).length : Nat) : Int) != 3)
 ·simp only [cond_false]
  cases ((a0b s (32 : UInt8)))[1]? with
  | none => exact r0_ok
  | some e1 =>
   dsimp only
   cases (!((e1).toList == ((⟨#[60]⟩ : Str)).toList))
   ·simp only [cond_false]
    cases ((a0b s (32 : UInt8)))[0]? with
    | none => exact r0_ok
    | some e2 =>
     cases ((a0b s (32 : UInt8)))[2]? with
     | none => exact r0_ok
     | some e3 =>
      dsimp only
      cases (a0u e2).2
      ·exact r0_ok
      ·cases (a0u e3).2
       ·exact r0_ok
       ·cases hv : a35 (Rule.mk (Pattern.mk ((a0u e2).1.parts)) (Pattern.mk ((a0u e3).1.parts)))
        ·exact r0_ok
        ·exact vr_ok hv
   ·exact r0_ok
 ·exact r0_ok
def a08 (l : (List Key)) (by_ : Name) (n_ : Name) (b : (List UInt8)) (till : Int) : DataP × Bool :=
 bif ((a0n l by_) == 0) then
  ((DataP.mk (Name.mk ([])) ([]) (Name.mk ([])) 0 0), false)
 else
  bif (!(a24 (a3n (a0n l by_) (DataP.mk n_ b by_ till 0)))) then
   ((DataP.mk (Name.mk ([])) ([]) (Name.mk ([])) 0 0), false)
  else
   ((a3n (a0n l by_) (DataP.mk n_ b by_ till 0)), true)
theorem in39 {x a b : Int} (h : a0m x a b = true) : a ≤ x ∧ x ≤ b := by
 unfold a0m at h
 cases h1 : decide (x ≥ a) <;> simp only [h1, cond_true, cond_false] at h
 ·cases h
 ·exact ⟨of_decide_eq_true h1, of_decide_eq_true h⟩
theorem vd_ok {x : DataP} (h : a24 x = true) : GoT.ok 0 x ∧ x.content.length ≤ 60 := by
 unfold a24 at h
 cases h1 : a13 x.name <;> simp only [h1, cond_true, cond_false] at h
 ·cases h
 cases h2 : decide ((((x.name.parts).length : Nat) : Int) > 0) <;> simp only [h2, cond_true, cond_false] at h
 ·cases h
 cases h3 : decide ((((x.content).length : Nat) : Int) ≤ 60) <;> simp only [h3, cond_true, cond_false] at h
 ·cases h
 cases h4 : a13 x.keyName <;> simp only [h4, cond_true, cond_false] at h
 ·cases h
 cases h5 : a0m x.freshUntil 0 100000 <;> simp only [h5, cond_true, cond_false] at h
 ·cases h
 have h3' := of_decide_eq_true h3
 have h5' := in39 h5
 have h' := in39 h
 exact ⟨⟨vn_ok h1, (okl_mk (by rw [bd_0]; omega) (fun _ _ => trivial) : GoT.ok 0 x.content), vn_ok h4, (show I64 x.freshUntil by unfold I64; omega), (show I64 x.signature by unfold I64; omega)⟩, by omega⟩
theorem nm0_ok : GoT.ok 0 (Name.mk []) := (ok_nil : GoT.ok 0 ([] : List Str))
theorem d0_ok : GoT.ok 0 (DataP.mk (Name.mk []) [] (Name.mk []) 0 0) := ⟨nm0_ok, (ok_nil : GoT.ok 0 ([] : List UInt8)), nm0_ok, (show I64 0 by unfold I64; omega), (show I64 0 by unfold I64; omega)⟩
theorem sk_ok (l : List Key) (by_ n_ : Name) (b : List UInt8) (till : Int) : GoT.ok 0 (a08 l by_ n_ b till).1 ∧ (a08 l by_ n_ b till).1.content.length ≤ 60 := by
 unfold a08
 cases (a0n l by_ == 0)
 ·simp only [cond_false]
  cases hv : a24 (a3n (a0n l by_) (DataP.mk n_ b by_ till 0))
  ·exact ⟨d0_ok, Nat.zero_le _⟩
  ·exact vd_ok hv
 ·exact ⟨d0_ok, Nat.zero_le _⟩
theorem sk1_ok (l : List Key) (by_ n_ : Name) (b : List UInt8) (till : Int) : GoT.ok 0 (DataP.mk (a08 l by_ n_ b till).1.name ((a08 l by_ n_ b till).1.content ++ [(1 : UInt8)]) (a08 l by_ n_ b till).1.keyName (a08 l by_ n_ b till).1.freshUntil (a08 l by_ n_ b till).1.signature) := by
 obtain ⟨h, hl⟩ := sk_ok l by_ n_ b till
 obtain ⟨h1, h2, h3, h4, h5⟩ := ok_DataP h
 exact ⟨h1, (okl_mk (by rw [bd_0, List.length_append, List.length_singleton]; omega) (fun _ _ => trivial) : GoT.ok 0 ((a08 l by_ n_ b till).1.content ++ [(1 : UInt8)])), h3, h4, h5⟩
def a1h (l : (List Key)) (n_ : Name) (by_ : Name) (till : Int) : DataP × Bool :=
 (((a08 l by_ n_ (a1v l n_) till).1), ((a08 l by_ n_ (a1v l n_) till).2))
def a3h (c_b : (List UInt8)) : Nat → Nat → (List DataP) → Int → Int → (List DataP) × Int × Int
 | 0, i, t2, u999_i, u999_h => (((t2) : List DataP), u999_i, u999_h)
 | m_ + 1, i, t2, u999_i, u999_h =>
  match ([(⟨#[47, 97, 47, 107, 101, 121]⟩ : Str), (⟨#[47, 98, 47, 107, 101, 121]⟩ : Str)])[i]? with
   | none => default
   | some e2 =>
    bif (a1h ([(Key.mk (a02 (⟨#[47, 107, 101, 121, 47, 97]⟩ : Str)) 100), (Key.mk (a02 (⟨#[47, 97, 47, 107, 101, 121]⟩ : Str)) 101), (Key.mk (a02 (⟨#[47, 98, 47, 107, 101, 121]⟩ : Str)) 102), (Key.mk (a02 (⟨#[47, 98, 97, 100, 47, 107, 101, 121]⟩ : Str)) 103)]) (a02 e2) (a02 (⟨#[47, 107, 101, 121, 47, 97]⟩ : Str)) 5000).2 then
     match a1b c_b u999_i u999_h 8 with
      | (u1, u2, u3) =>
       bif (!u1) then
        a3h c_b m_ (i + 1) (((t2 ++ [((a1h ([(Key.mk (a02 (⟨#[47, 107, 101, 121, 47, 97]⟩ : Str)) 100), (Key.mk (a02 (⟨#[47, 97, 47, 107, 101, 121]⟩ : Str)) 101), (Key.mk (a02 (⟨#[47, 98, 47, 107, 101, 121]⟩ : Str)) 102), (Key.mk (a02 (⟨#[47, 98, 97, 100, 47, 107, 101, 121]⟩ : Str)) 103)]) (a02 e2) (a02 (⟨#[47, 107, 101, 121, 47, 97]⟩ : Str)) 5000).1)])) : List DataP) u2 u3
       else
        a3h c_b m_ (i + 1) ((t2) : List DataP) u2 u3
    else
     a3h c_b m_ (i + 1) ((t2) : List DataP) u999_i u999_h
def a4g : Nat → Nat → (List Rule) → (List Rule)
 | 0, i, t => ((t) : List Rule)
 | m_ + 1, i, t =>
  match ([(⟨#[47, 63, 120, 47, 107, 101, 121, 32, 60, 32, 47, 107, 101, 121, 47, 97]⟩ : Str), (⟨#[47, 63, 120, 47, 42, 42, 32, 60, 32, 47, 63, 120, 47, 107, 101, 121]⟩ : Str)])[i]? with
   | none => default
   | some e1 =>
    a4g m_ (i + 1) (((t ++ [((a0o e1).1)])) : List Rule)
def a4s (c_b : (List UInt8)) (c_i : Int) (c_h : Int) : TrustPolicy × Int × Int :=
 match a4g 2 0 ([] : List Rule) with
  | t =>
   match a3h c_b 2 0 (([] : List DataP) : List DataP) c_i c_h with
    | (t2, u999_i, u999_h) =>
     ((TrustPolicy.mk ([(Key.mk (a02 (⟨#[47, 107, 101, 121, 47, 97]⟩ : Str)) 100), (Key.mk (a02 (⟨#[47, 97, 47, 107, 101, 121]⟩ : Str)) 101), (Key.mk (a02 (⟨#[47, 98, 47, 107, 101, 121]⟩ : Str)) 102), (Key.mk (a02 (⟨#[47, 98, 97, 100, 47, 107, 101, 121]⟩ : Str)) 103)]) t ([(a02 (⟨#[47, 107, 101, 121, 47, 97]⟩ : Str))]) t2), u999_i, u999_h)
def a4t (c_b : (List UInt8)) (c_i : Int) (c_h : Int) : Interest × Int × Int :=
 match a0z c_b c_i c_h ([(⟨#[47, 97]⟩ : Str), (⟨#[47, 98]⟩ : Str)]) with
  | (u1, u2, u3) =>
   match a0z c_b u2 u3 ([(⟨#[49]⟩ : Str), (⟨#[50]⟩ : Str), (⟨#[120, 45, 49]⟩ : Str)]) with
    | (u4, u5, u6) =>
     match a0a c_b u5 u6 12 with
      | (u7, u8, u9) =>
       match a0a c_b u8 u9 5 with
        | (u10, u11, u12) =>
         match a0a c_b u11 u12 8 with
          | (u13, u14, u15) =>
           ((Interest.mk ((a0c (a02 u1) u4).1) u7 u10 (1 + u13)), u14, u15)
def a1i (c_b : (List UInt8)) (c_i : Int) (c_h : Int) (t : TrustPolicy) : DataP × Int × Int :=
 match a0z c_b c_i c_h ([(⟨#[97]⟩ : Str), (⟨#[98]⟩ : Str)]) with
  | (u1, u2, u3) =>
   match a0z c_b u2 u3 ([(⟨#[49]⟩ : Str), (⟨#[50]⟩ : Str), (⟨#[120, 45, 49]⟩ : Str)]) with
    | (u4, u5, u6) =>
     match a1b c_b u5 u6 6 with
      | (u7, u8, u9) =>
       bif u7 then
        match a0z c_b u8 u9 ([(⟨#[47, 98, 97, 100, 47, 107, 101, 121]⟩ : Str), (⟨#[47, 107, 101, 121, 47, 97]⟩ : Str), (⟨#[47, 97, 47, 107, 101, 121]⟩ : Str)]) with
         | (u10, u11, u12) =>
          match a0a c_b u11 u12 4 with
           | (u13, u14, u15) =>
            match a3d c_b u14 u15 u13 with
             | (u16, u17, u18) =>
              match a1b c_b u17 u18 8 with
               | (u19, u20, u21) =>
                bif u19 then
                 ((DataP.mk ((a08 t.keys (a02 u10) ((a0c (a02 ((⟨#[47]⟩ : Str) ++ u1)) u4).1) u16 4000).1.name) ((a08 t.keys (a02 u10) ((a0c (a02 ((⟨#[47]⟩ : Str) ++ u1)) u4).1) u16 4000).1.content ++ [(1 : UInt8)]) ((a08 t.keys (a02 u10) ((a0c (a02 ((⟨#[47]⟩ : Str) ++ u1)) u4).1) u16 4000).1.keyName) ((a08 t.keys (a02 u10) ((a0c (a02 ((⟨#[47]⟩ : Str) ++ u1)) u4).1) u16 4000).1.freshUntil) ((a08 t.keys (a02 u10) ((a0c (a02 ((⟨#[47]⟩ : Str) ++ u1)) u4).1) u16 4000).1.signature)), u20, u21)
                else
                 (((a08 t.keys (a02 u10) ((a0c (a02 ((⟨#[47]⟩ : Str) ++ u1)) u4).1) u16 4000).1), u20, u21)
       else
        match a0a c_b u8 u9 4 with
         | (u22, u23, u24) =>
          match a3d c_b u23 u24 u22 with
           | (u25, u26, u27) =>
            match a1b c_b u26 u27 8 with
             | (u28, u29, u30) =>
              bif u28 then
               ((DataP.mk ((a08 t.keys (a02 (((⟨#[47]⟩ : Str) ++ u1) ++ (⟨#[47, 107, 101, 121]⟩ : Str))) ((a0c (a02 ((⟨#[47]⟩ : Str) ++ u1)) u4).1) u25 4000).1.name) ((a08 t.keys (a02 (((⟨#[47]⟩ : Str) ++ u1) ++ (⟨#[47, 107, 101, 121]⟩ : Str))) ((a0c (a02 ((⟨#[47]⟩ : Str) ++ u1)) u4).1) u25 4000).1.content ++ [(1 : UInt8)]) ((a08 t.keys (a02 (((⟨#[47]⟩ : Str) ++ u1) ++ (⟨#[47, 107, 101, 121]⟩ : Str))) ((a0c (a02 ((⟨#[47]⟩ : Str) ++ u1)) u4).1) u25 4000).1.keyName) ((a08 t.keys (a02 (((⟨#[47]⟩ : Str) ++ u1) ++ (⟨#[47, 107, 101, 121]⟩ : Str))) ((a0c (a02 ((⟨#[47]⟩ : Str) ++ u1)) u4).1) u25 4000).1.freshUntil) ((a08 t.keys (a02 (((⟨#[47]⟩ : Str) ++ u1) ++ (⟨#[47, 107, 101, 121]⟩ : Str))) ((a0c (a02 ((⟨#[47]⟩ : Str) ++ u1)) u4).1) u25 4000).1.signature)), u29, u30)
              else
               (((a08 t.keys (a02 (((⟨#[47]⟩ : Str) ++ u1) ++ (⟨#[47, 107, 101, 121]⟩ : Str))) ((a0c (a02 ((⟨#[47]⟩ : Str) ++ u1)) u4).1) u25 4000).1), u29, u30)
theorem l11Made_ok (c_b : List UInt8) (c_i c_h : Int) (t : TrustPolicy) : GoT.ok 0 (a1i c_b c_i c_h t).1 := by
 unfold a1i
 rcases a0z c_b c_i c_h ([(⟨#[97]⟩ : Str), (⟨#[98]⟩ : Str)]) with ⟨u1, u2, u3⟩
 dsimp only
 rcases a0z c_b u2 u3 ([(⟨#[49]⟩ : Str), (⟨#[50]⟩ : Str), (⟨#[120, 45, 49]⟩ : Str)]) with ⟨u4, u5, u6⟩
 dsimp only
 rcases a1b c_b u5 u6 6 with ⟨u7, u8, u9⟩
 dsimp only
 cases u7
 ·simp only [cond_false]
  rcases a0a c_b u8 u9 4 with ⟨u22, u23, u24⟩
  dsimp only
  rcases a3d c_b u23 u24 u22 with ⟨u25, u26, u27⟩
  dsimp only
  rcases a1b c_b u26 u27 8 with ⟨u28, u29, u30⟩
  cases u28
  ·exact (sk_ok _ _ _ _ _).1
  ·exact sk1_ok _ _ _ _ _
 ·simp only [cond_true]
  rcases a0z c_b u8 u9 ([(⟨#[47, 98, 97, 100, 47, 107, 101, 121]⟩ : Str), (⟨#[47, 107, 101, 121, 47, 97]⟩ : Str), (⟨#[47, 97, 47, 107, 101, 121]⟩ : Str)]) with ⟨u22, u23, u24⟩
  dsimp only
  rcases a0a c_b u23 u24 4 with ⟨v22, v23, v24⟩
  dsimp only
  rcases a3d c_b v23 v24 v22 with ⟨u25, u26, u27⟩
  dsimp only
  rcases a1b c_b u26 u27 8 with ⟨u28, u29, u30⟩
  cases u28
  ·exact (sk_ok _ _ _ _ _).1
  ·exact sk1_ok _ _ _ _ _
def a42 (c_b : (List UInt8)) (u1 : TrustPolicy) (i : Int) (aNode : Int) (aIndex : Int) (aName : List Str) (aAttempts : Int) (aWait : Int) (aSatisfied : Bool) (aData : List Str) (a : List UInt8) (a2 : List Str) (a3 : Int) (a4 : Int) (u999_i : Int) (u999_h : Int) : Int × Int × Int × (List Str) × Int × Int × Bool × (List Str) × (List UInt8) × (List Str) × Int × Int × Int × Int :=
 if i > 0 then
  match a1b c_b u999_i u999_h 8 with
   | (u16, u17, u18) =>
    if u16 = true then
     match a1i c_b u17 u18 u1 with
      | (u19, u20, u21) =>
       a42 c_b u1 (i - 1) ((a0j ((a09 (Consumer.mk aNode aIndex (Name.mk aName) aAttempts aWait aSatisfied (DataP.mk (Name.mk aData) a (Name.mk a2) a3 a4))).1) u1 u19 50).node) ((a0j ((a09 (Consumer.mk aNode aIndex (Name.mk aName) aAttempts aWait aSatisfied (DataP.mk (Name.mk aData) a (Name.mk a2) a3 a4))).1) u1 u19 50).index) (((a0j ((a09 (Consumer.mk aNode aIndex (Name.mk aName) aAttempts aWait aSatisfied (DataP.mk (Name.mk aData) a (Name.mk a2) a3 a4))).1) u1 u19 50).name.parts) : List Str) ((a0j ((a09 (Consumer.mk aNode aIndex (Name.mk aName) aAttempts aWait aSatisfied (DataP.mk (Name.mk aData) a (Name.mk a2) a3 a4))).1) u1 u19 50).attempts) ((a0j ((a09 (Consumer.mk aNode aIndex (Name.mk aName) aAttempts aWait aSatisfied (DataP.mk (Name.mk aData) a (Name.mk a2) a3 a4))).1) u1 u19 50).wait) ((a0j ((a09 (Consumer.mk aNode aIndex (Name.mk aName) aAttempts aWait aSatisfied (DataP.mk (Name.mk aData) a (Name.mk a2) a3 a4))).1) u1 u19 50).satisfied) (((a0j ((a09 (Consumer.mk aNode aIndex (Name.mk aName) aAttempts aWait aSatisfied (DataP.mk (Name.mk aData) a (Name.mk a2) a3 a4))).1) u1 u19 50).data.name.parts) : List Str) (((a0j ((a09 (Consumer.mk aNode aIndex (Name.mk aName) aAttempts aWait aSatisfied (DataP.mk (Name.mk aData) a (Name.mk a2) a3 a4))).1) u1 u19 50).data.content) : List UInt8) (((a0j ((a09 (Consumer.mk aNode aIndex (Name.mk aName) aAttempts aWait aSatisfied (DataP.mk (Name.mk aData) a (Name.mk a2) a3 a4))).1) u1 u19 50).data.keyName.parts) : List Str) ((a0j ((a09 (Consumer.mk aNode aIndex (Name.mk aName) aAttempts aWait aSatisfied (DataP.mk (Name.mk aData) a (Name.mk a2) a3 a4))).1) u1 u19 50).data.freshUntil) ((a0j ((a09 (Consumer.mk aNode aIndex (Name.mk aName) aAttempts aWait aSatisfied (DataP.mk (Name.mk aData) a (Name.mk a2) a3 a4))).1) u1 u19 50).data.signature) u20 u21
    else
     a42 c_b u1 (i - 1) ((a09 (Consumer.mk aNode aIndex (Name.mk aName) aAttempts aWait aSatisfied (DataP.mk (Name.mk aData) a (Name.mk a2) a3 a4))).1.node) ((a09 (Consumer.mk aNode aIndex (Name.mk aName) aAttempts aWait aSatisfied (DataP.mk (Name.mk aData) a (Name.mk a2) a3 a4))).1.index) (((a09 (Consumer.mk aNode aIndex (Name.mk aName) aAttempts aWait aSatisfied (DataP.mk (Name.mk aData) a (Name.mk a2) a3 a4))).1.name.parts) : List Str) ((a09 (Consumer.mk aNode aIndex (Name.mk aName) aAttempts aWait aSatisfied (DataP.mk (Name.mk aData) a (Name.mk a2) a3 a4))).1.attempts) ((a09 (Consumer.mk aNode aIndex (Name.mk aName) aAttempts aWait aSatisfied (DataP.mk (Name.mk aData) a (Name.mk a2) a3 a4))).1.wait) ((a09 (Consumer.mk aNode aIndex (Name.mk aName) aAttempts aWait aSatisfied (DataP.mk (Name.mk aData) a (Name.mk a2) a3 a4))).1.satisfied) (((a09 (Consumer.mk aNode aIndex (Name.mk aName) aAttempts aWait aSatisfied (DataP.mk (Name.mk aData) a (Name.mk a2) a3 a4))).1.data.name.parts) : List Str) (((a09 (Consumer.mk aNode aIndex (Name.mk aName) aAttempts aWait aSatisfied (DataP.mk (Name.mk aData) a (Name.mk a2) a3 a4))).1.data.content) : List UInt8) (((a09 (Consumer.mk aNode aIndex (Name.mk aName) aAttempts aWait aSatisfied (DataP.mk (Name.mk aData) a (Name.mk a2) a3 a4))).1.data.keyName.parts) : List Str) ((a09 (Consumer.mk aNode aIndex (Name.mk aName) aAttempts aWait aSatisfied (DataP.mk (Name.mk aData) a (Name.mk a2) a3 a4))).1.data.freshUntil) ((a09 (Consumer.mk aNode aIndex (Name.mk aName) aAttempts aWait aSatisfied (DataP.mk (Name.mk aData) a (Name.mk a2) a3 a4))).1.data.signature) u17 u18
 else
  (i, aNode, aIndex, ((aName) : List Str), aAttempts, aWait, aSatisfied, ((aData) : List Str), ((a) : List UInt8), ((a2) : List Str), a3, a4, u999_i, u999_h)
termination_by i.toNat
decreasing_by all_goals (simp_wf; omega)
def a43 (c_b : (List UInt8)) (c_i : Int) (c_h : Int) : Consumer × TrustPolicy × Int × Int :=
 match a4s c_b c_i c_h with
  | (u1, u2, u3) =>
   match a0a c_b u2 u3 6 with
    | (u4, u5, u6) =>
     match a0a c_b u5 u6 4 with
      | (u7, u8, u9) =>
       match a4t c_b u8 u9 with
        | (u10, u11, u12) =>
         match a0a c_b u11 u12 9 with
          | (u13, u14, u15) =>
           match a42 c_b u1 u13 ((a0e u4 u7 u10.name).node) ((a0e u4 u7 u10.name).index) ((a0e u4 u7 u10.name).name.parts : List Str) ((a0e u4 u7 u10.name).attempts) ((a0e u4 u7 u10.name).wait) ((a0e u4 u7 u10.name).satisfied) ((a0e u4 u7 u10.name).data.name.parts : List Str) ((a0e u4 u7 u10.name).data.content : List UInt8) ((a0e u4 u7 u10.name).data.keyName.parts : List Str) ((a0e u4 u7 u10.name).data.freshUntil) ((a0e u4 u7 u10.name).data.signature) u14 u15 with
            | (i, aNode, aIndex, aName, aAttempts, aWait, aSatisfied, aData, a, a2, a3, a4, u999_i, u999_h) =>
             ((Consumer.mk aNode aIndex (Name.mk aName) aAttempts aWait aSatisfied (DataP.mk (Name.mk aData) a (Name.mk a2) a3 a4)), u1, u999_i, u999_h)
def a0i (c_b : (List UInt8)) (c_i : Int) (c_h : Int) : Consumer × TrustPolicy × Int × Int :=
 match a43 c_b c_i c_h with
  | (u1, u2, u3, u4) =>
   match a0a c_b u3 u4 12 with
    | (u5, u6, u7) =>
     bif (u5 == 0) then
      match a3v c_b u6 u7 ([(-1), 6]) with
       | (u8, u9, u10) =>
        ((Consumer.mk u8 u1.index u1.name u1.attempts u1.wait u1.satisfied u1.data), u2, u9, u10)
     else
      bif (u5 == 1) then
       match a3v c_b u6 u7 ([(-1), 899, 900, 901]) with
        | (u11, u12, u13) =>
         ((Consumer.mk u1.node u1.index u1.name u11 u1.wait u1.satisfied u1.data), u2, u12, u13)
      else
       bif (u5 == 2) then
        match a3v c_b u6 u7 ([(-1), 5, 6]) with
         | (u14, u15, u16) =>
          ((Consumer.mk u1.node u1.index u1.name u1.attempts u14 u1.satisfied u1.data), u2, u15, u16)
       else
        bif (u5 == 3) then
         ((Consumer.mk u1.node u1.index u1.name u1.attempts u1.wait (!u1.satisfied) u1.data), u2, u6, u7)
        else
         bif (u5 == 4) then
          match a0t c_b u6 u7 with
           | (u17, u18, u19) =>
            ((Consumer.mk u1.node u1.index u17 u1.attempts u1.wait u1.satisfied u1.data), u2, u18, u19)
         else
          (u1, u2, u6, u7)
def a2k (code : (List UInt8)) : Consumer × TrustPolicy × Int × Int :=
 match a3b code with
  | (u1, u2) =>
   match a0i code u1 u2 with
    | (u3, u4, u5, u6) =>
     (u3, u4, u5, u6)
def a04 (code : (List UInt8)) : Consumer :=
 match a2k code with
  | (u1, u2, u3, u4) =>
   u1
def a03 (code : (List UInt8)) : Consumer × TrustPolicy × DataP × Int :=
 match a2k code with
  | (u1, u2, u3, u4) =>
   match a1i code u3 u4 u2 with
    | (u5, u6, u7) =>
     match a1b code u6 u7 2 with
      | (u8, u9, u10) =>
       bif u8 then
        bif ((((u1.name.parts).length : Nat) : Int) == 2) then
         match (u1.name.parts)[0]? with
          | none => default
          | some e1 =>
           (u1, u2, ((a08 u2.keys (a02 (((⟨#[47]⟩ : Str) ++ e1) ++ (⟨#[47, 107, 101, 121]⟩ : Str))) u1.name ([(1 : UInt8)] : List UInt8) 4000).1), 50)
        else
         (u1, u2, u5, 50)
       else
        (u1, u2, u5, 50)
def a0l (code : (List UInt8)) : Int × Int × Name :=
 match a3b code with
  | (u1, u2) =>
   match a0a code u1 u2 9 with
    | (u3, u4, u5) =>
     match a0a code u4 u5 7 with
      | (u6, u7, u8) =>
       match a0t code u7 u8 with
        | (u9, u10, u11) =>
         (u6, u3, u9)
def a0y (code : (List UInt8)) : Consumer × Consumer :=
 match a2k code with
  | (u1, u2, u3, u4) =>
   match a1b code u3 u4 2 with
    | (u5, u6, u7) =>
     bif u5 then
      (u1, (a0g u1))
     else
      match a0i code u6 u7 with
       | (u8, u9, u10, u11) =>
        (u1, u8)
theorem dad_ok (code : List UInt8) : GoT.ok 0 (a03 code).2.2.1 := by
 unfold a03
 rcases a2k code with ⟨u1, u2, u3, u4⟩
 dsimp only
 have hm := l11Made_ok code u3 u4 u2
 rcases he : a1i code u3 u4 u2 with ⟨u5, u6, u7⟩
 rw [he] at hm
 dsimp only at hm ⊢
 rcases a1b code u6 u7 2 with ⟨u8, u9, u10⟩
 cases u8
 ·exact hm
 ·simp only [cond_true]
  cases ((((u1.name.parts).length : Nat) : Int) == 2)
  ·exact hm
  ·simp only [cond_true]
   cases (u1.name.parts)[0]? with
   | none => exact d0_ok
   | some e1 => exact (sk_ok _ _ _ _ _).1
def a0k (a : Consumer) (b : Consumer) : Bool :=
 bif (a.node == b.node) then
  bif (a.index == b.index) then
   bif (a3e a.name b.name) then
    bif (a.attempts == b.attempts) then
     bif (a.wait == b.wait) then
      bif (a.satisfied == b.satisfied) then
       (a2h a.data b.data)
      else
       false
     else
      false
    else
     false
   else
    false
  else
   false
 else
  false
def a3r (a : Interest) (b : Interest) : Bool :=
 bif (a3e a.name b.name) then
  bif (a.nonce == b.nonce) then
   bif (a.hopLimit == b.hopLimit) then
    (a.lifetime == b.lifetime)
   else
    false
  else
   false
 else
  false
end Go.Stp

