/-
  What the proof of one law needs: rules of the program logic, functions as Lean functions, contracts. No condition but what each says. Written by a program (pack.py) out of my own texts.
-/
import Derived.Test.YthdfhghdipdknaaGreatKXm6
open Go.IntKind (i64)
set_option linter.unusedVariables false
set_option linter.unusedSimpArgs false
namespace Go.Stp
structure Kep (w w':aD):Prop where
 top:w'.aG=w.aG
 tru:w'.aF=w.aF
 pro:w'.aM=w.aM
 len:w'.aI.length=w.aI.length
 nod:ae3 w.aI->ae3 w'.aI
 con:w'.aE.length=w.aE.length
 fly:w'.aL.length<=max w.aL.length 200
theorem Kep.refl (w:aD):Kep w w:=⟨rfl,rfl,rfl,rfl,id,rfl,by omega⟩
theorem Kep.trans {a b c:aD}(h:Kep a b)(k:Kep b c):Kep a c:=
 ⟨k.top.trans h.top,k.tru.trans h.tru,k.pro.trans h.pro,k.len.trans h.len,λx=>k.nod (h.nod x),k.con.trans h.con,by have:=h.fly;have:=k.fly;omega⟩
theorem Kep.net {w w':aD}(h:Kep w w')(k:NetC w):NetC w':=⟨h.nod k.1,by have:=h.fly;have:=k.2.1;omega,by rw [h.con];exact k.2.2⟩
theorem aw5 (w:aD)(k:Int)(x:aJ):∀(m i:Nat) (l:List aX),w.aE.length-i=m->i<=w.aE.length->l.length=w.aE.length->(a5x w k x i l).2.length=w.aE.length
 |m,i,l,hm,hi,hl=>by
  rw [a5x,if_pos hi]
  split
  ·rename_i h
   have h':i<l.length:=by omega
   rw [List.getElem?_eq_getElem h'];dsimp only
   split
   ·exact aw5 w k x (m-1) (i+1) _ (by omega) (by omega) (by grind)
   ·exact aw5 w k x (m-1) (i+1) _ (by omega) (by omega) hl
  ·exact hl
 termination_by m=>m
 decreasing_by all_goals omega
theorem aup (w:aD)(k:Int)(x:aJ):Kep w (a5y w k x):=by unfold a5y;have h:=aw5 w k x _ 0 w.aE rfl (by omega) rfl;generalize a5x w k x 0 w.aE=r at h;obtain ⟨i,c⟩:=r;exact ⟨rfl,rfl,rfl,rfl,id,h,Nat.le_max_left _ _⟩
theorem ath (w:aD)(k:Int)(x:aJ):(a5y w k x).aI=w.aI:=by
 unfold a5y
 grind
theorem Kep.drop (w:aD)(d:Int):Kep w (aD.mk w.aG w.aF w.aM w.aI w.aY w.aU w.aL w.aE w.now d):=⟨rfl,rfl,rfl,rfl,id,rfl,Nat.le_max_left _ _⟩
def Kn (w w':aD):Prop:=Kep w w'/\w'.aI=w.aI
theorem Kn.trans {a b c:aD}(h:Kn a b)(k:Kn b c):Kn a c:=⟨h.1.trans k.1,k.2.trans h.2⟩
theorem akx (k:Int):∀(l:List bD) (w:aD),Kn w (a2b k l w)
 |[],w=>⟨Kep.refl w,rfl⟩
 |e::l,w=>by
  have hd:∀d,Kn w (a2b k l (aD.mk w.aG w.aF w.aM w.aI w.aY w.aU w.aL w.aE w.now d)):=λd=>Kn.trans ⟨Kep.drop w d,rfl⟩ (akx k l _);rw [a2b];refine cnd (P:=Kn w) _ _ _ (cnd (P:=Kn w) _ _ _ (Kn.trans ⟨aup w k e.data,ath w k e.data⟩ (akx k l _)) (akx k l w)) (cnd (P:=Kn w) _ _ _ (hd _) (cnd (P:=Kn w) _ _ _ (hd _) (cnd (P:=Kn w) _ _ _ (hd _) ?_)));cases h:decide ((w.aL.length:Int)>=200)
  ·have h':=of_decide_eq_false h
   rw [cond_false];refine Kn.trans (b:=aD.mk w.aG w.aF w.aM w.aI w.aY w.aU (w.aL++[_]) w.aE w.now w.aP) ⟨⟨rfl,rfl,rfl,rfl,id,rfl,?_⟩,rfl⟩ (akx k l _)
   grind
  ·grind
theorem ak9 (w:aD)(k:Int)(l:List bD):Kn w (a8z w k l):=akx k l w
theorem ajn {w:aD}{k:Int}{a:Action}(hk:0<=k/\k<(w.aI.length:Int))(ha:af5 a.node):Kep w (a34 w k a):=by
 unfold a34;have h:k.toNat<w.aI.length:=by omega
 rw [List.getElem?_eq_getElem h];exact Kep.trans (b:=aD.mk w.aG w.aF w.aM (w.aI.set k.toNat a.node) w.aY w.aU w.aL w.aE w.now w.aP) ⟨rfl,rfl,rfl,List.length_set,λhn=>hn.set ha,rfl,Nat.le_max_left _ _⟩ (ak9 _ _ _).1
theorem arr {w:aD}{k:Int}{a:Action}(hk:0<=k/\k<(w.aI.length:Int)):(a34 w k a).aE.length=w.aE.length/\(a34 w k a).aI=w.aI.set k.toNat a.node:=by
 unfold a34;have h:k.toNat<w.aI.length:=by omega
 rw [List.getElem?_eq_getElem h];exact ⟨(ak9 _ _ _).1.con,(ak9 _ _ _).2⟩
theorem aro (c:aX):(a0n c).1.node=c.node:=by
 unfold a0n a0p
 grind
theorem avo (w:aD):∀(m i:Nat) (l:List aH),w.aI.length-i=m->i<=w.aI.length->l.length=w.aI.length->ae3 l->(a5e w i l).2.length=w.aI.length/\ae3 (a5e w i l).2
 |m,i,l,hm,hi,hl,hn=>by
  rw [a5e,if_pos hi]
  split
  ·rename_i h
   have h':i<l.length:=by omega
   split
   ·rw [List.getElem?_eq_getElem h']
    dsimp only;exact avo w (m-1) (i+1) _ (by omega) (by omega) (by grind) (hn.tick (List.getElem?_eq_getElem h'))
   ·exact avo w (m-1) (i+1) _ (by omega) (by omega) hl hn
  ·grind
 termination_by m=>m
 decreasing_by all_goals omega
theorem Kep.ask {w:aD}{c:List aX}(h:c.length=w.aE.length):Kep w (aD.mk w.aG w.aF w.aM w.aI w.aY w.aU w.aL c w.now w.aP):=⟨rfl,rfl,rfl,rfl,id,h,Nat.le_max_left _ _⟩
theorem ato (w0:aD):∀(m i:Nat) (w:aD),w0.aE.length-i=m->i<=w0.aE.length->w.aE.length=w0.aE.length->ae3 w.aI->Kep w (a4v w0 i w).2
 |m,i,w,hm,hi,hl,hn=>by
  rw [a4v,if_pos hi]
  split
  ·rename_i h
   have h':i<w.aE.length:=by omega
   rw [List.getElem?_eq_getElem h'];dsimp only
   split
   ·exact ato w0 (m-1) (i+1) _ (by omega) (by omega) hl hn
   ·rename_i hu
    have hu':=akr hn (by simpa using hu);have ha:Kep w (aD.mk w.aG w.aF w.aM w.aI w.aY w.aU w.aL (w.aE.set i (a0n (w.aE[i]'h')).1) w.now w.aP):=Kep.ask List.length_set
    split
    ·rw [aro]
     have hk:(w.aE[i]'h').node.toNat<w.aI.length:=by omega
     rw [List.getElem?_eq_getElem hk];dsimp only;have hd:Kep w _:=ha.trans (ajn (k:=(w.aE[i]'h').node) (a:=a10 (w.aI[(w.aE[i]'h').node.toNat]'hk) 0 (a0n (w.aE[i]'h')).2.1 w.now) hu' (akp (hn.2 _ (List.getElem_mem hk))));exact hd.trans (ato w0 (m-1) (i+1) _ (by omega) (by omega) (hd.con.trans hl) (hd.nod hn))
    ·exact ha.trans (ato w0 (m-1) (i+1) _ (by omega) (by omega) (ha.con.trans hl) hn)
  ·exact Kep.refl w
 termination_by m=>m
 decreasing_by all_goals omega
theorem amu {w:aD}(hn:ae3 w.aI):Kep w (a4d w).2:=by unfold a4d;refine cnd (P:=λa:Bool×aD=>Kep w a.2) _ _ _ (Kep.refl w) ?_;have h:=avo w _ 0 w.aI rfl (by omega) rfl hn;generalize a5e w 0 w.aI=r at h;obtain ⟨i,l⟩:=r;dsimp only at h ⊢;have h1:Kep w (aD.mk w.aG w.aF w.aM l w.aY w.aU w.aL w.aE (i64.wrap (w.now+1)) w.aP):=⟨rfl,rfl,rfl,h.1,λ_=>h.2,rfl,Nat.le_max_left _ _⟩;have h2:=ato w _ 0 _ rfl (by omega) (h1.con) h.2;generalize a4v w 0 _=r at h2;obtain ⟨j,w2⟩:=r;exact h1.trans h2
theorem akh {w:aD}{i:Int}(hi:0<=i/\i<(w.aL.length:Int)):Kn w (a04 w i).2:=by
 unfold a04;have h:i.toNat<w.aL.length:=by omega
 rw [List.getElem?_eq_getElem h];refine ⟨⟨rfl,rfl,rfl,rfl,id,rfl,?_⟩,rfl⟩
 grind
theorem ala {w:aD}{i:Int}(hi:0<=i/\i<(w.aL.length:Int))(hn:ae3 w.aI):ae3 (a04 w i).2.aI:=(akh hi).1.nod hn
theorem arp {w:aD}{i:Int}(hi:0<=i/\i<(w.aL.length:Int))(hn:ae3 w.aI):Kep w (a4w w i):=by
 have hg:=akh hi;have hn':=hg.1.nod hn;unfold a4w;generalize a04 w i=g at hg hn';obtain ⟨f,g⟩:=g;dsimp only at hg hn' ⊢;refine hg.1.trans ?_;cases hu:a3u g f.to
 ·exact Kep.drop g _
 ·have h:=akr hn' hu
  have h':f.to.toNat<g.aI.length:=by omega
  simp only [Bool.not_true,cond_false];rw [List.getElem?_eq_getElem h'];refine cnd (P:=λa:aD=>Kep g a) _ _ _ (ajn h (akp ?_)) (ajn h (aw6 ?_))<;>exact hn'.2 _ (List.getElem_mem h')
theorem anl (w:aD)(i:Int)(d:Bool):Kep w (a2c w i d).2:=by unfold a2c;exact cnd (P:=λa:Bool×aD=>Kep w a.2) _ _ _ (Kep.refl w) (cnd (P:=λa:Bool×aD=>Kep w a.2) _ _ _ (Kep.refl w) ⟨rfl,rfl,rfl,rfl,id,rfl,Nat.le_max_left _ _⟩)
theorem apu {w:aD}(k:Int)(up:Bool)(hn:w.aI.length<=6):Kep w (a1p w k up).2:=by
 unfold a1p;cases h1:(!(a07 k 0 (((w.aI).length:Int)-1)))
 ·have h2:=aff.1 (show a07 k 0 (((w.aI).length:Int)-1)=true by simpa using h1)
  have h3:k.toNat<w.aI.length:=by omega
  rw [cond_false,List.getElem?_eq_getElem h3];exact cnd (P:=λa:Bool×aD=>Kep w a.2) _ _ _ (Kep.refl w) (cnd (P:=λa:Bool×aD=>Kep w a.2) _ _ _ ⟨rfl,rfl,rfl,rfl,id,rfl,Nat.le_max_left _ _⟩ ⟨rfl,rfl,rfl,List.length_set,λhn=>hn.set aq7,rfl,Nat.le_max_left _ _⟩)
 ·grind [Kep.refl]
structure Evk (w w':aD):Prop where
 top:w'.aG=w.aG
 tru:w'.aF=w.aF
 pro:w'.aM=w.aM
 len:w'.aI.length=w.aI.length
 net:NetC w->NetC w'
theorem Kep.ev {w w':aD}(h:Kep w w'):Evk w w':=⟨h.top,h.tru,h.pro,h.len,h.net⟩
theorem ap6 {w:aD}{e:bP}(h:(a1l w e).1=true):Evk w (a1l w e).2:=by
 revert h
 unfold a1l;cases e.kind==9
 ·rw [cond_false]
  cases h1:decide (((((w.aE++[(a09 e.n ((w.aE).length:Int) e.name)])).length:Nat):Int)<=8)
  ·grind
  ·have h1':=of_decide_eq_true h1
   rw [cond_true];exact cnd (P:=λa:Bool×aD=>a.1=true->Evk w a.2) _ _ _ (λ_=>⟨rfl,rfl,rfl,rfl,λk=>⟨k.1,k.2.1,by grind⟩⟩) (λh=>by cases h)
 ·rw [cond_true]
  cases h1:decide ((((w.aL++[(a13 e.bC)])).length:Int)<=200)
  ·grind
  ·have h1':=of_decide_eq_true h1
   rw [cond_true];exact cnd (P:=λa:Bool×aD=>a.1=true->Evk w a.2) _ _ _ (λ_=>⟨rfl,rfl,rfl,rfl,λk=>⟨k.1,by show (w.aL++[_]).length<=200;omega,k.2.2⟩⟩) (λh=>by cases h)
theorem aqw (w:aD):∀(m i:Nat) (l:List aH),w.aI.length-i=m->i<=w.aI.length->l.length=w.aI.length->(a4b w i l).2.length=w.aI.length/\((∀x∈l,af5 x)->∀x∈(a4b w i l).2,af5 x)
 |m,i,l,hm,hi,hl=>by
  rw [a4b,if_pos hi]
  split
  ·rename_i h
   have h':i<l.length:=by omega
   split
   ·rw [List.getElem?_eq_getElem h']
    dsimp only;refine ⟨(aqw w (m-1) (i+1) _ (by omega) (by omega) (by grind)).1,λhn=>(aqw w (m-1) (i+1) _ (by omega) (by omega) (by rw [List.length_set];exact hl)).2 (λz hz=>?_)⟩;rcases List.mem_or_eq_of_mem_set hz with h1|h1
    ·exact hn z h1
    ·rw [h1];exact hn (l[i]'h') (List.getElem_mem h')
   ·exact aqw w (m-1) (i+1) _ (by omega) (by omega) hl
  ·grind
 termination_by m=>m
 decreasing_by all_goals omega
theorem ajg (w:aD):Kep w (a2a w):=by unfold a2a;have h:=aqw w _ 0 w.aI rfl (by omega) rfl;generalize a4b w 0 w.aI=r at h;obtain ⟨i,l⟩:=r;exact ⟨rfl,rfl,rfl,h.1,λhn=>⟨by show l.length<=6;have:=h.1;have:=hn.1;dsimp only at*;omega,h.2 hn.2⟩,rfl,Nat.le_max_left _ _⟩
theorem awx {w:aD}{k:Int}(hl:w.aL.length<=200)(h:a07 k 0 ((w.aL.length:Int)-1)=true):0<=k/\k<(w.aL.length:Int):=by have:=aff.1 h;omega
theorem apx {w:aD}{e:bP}(hw:NetC w)(h:(a0u w e).1=true):Evk w (a0u w e).2:=by
 have E0:Evk w w:=(Kep.refl w).ev;have hp:∀(k:Int) (u:Bool),Evk w (a1p w k u).2:=λk u=>(apu k u hw.1.1).ev
 revert h
 unfold a0u;cases hf:a07 e.n 0 ((w.aL.length:Int)-1)<;>simp only [Bool.not_true,Bool.not_false,cond_true,cond_false]
 ·repeat' (first|exact λh=>absurd h Bool.false_ne_true|exact λ_=>(amu hw.1).ev|exact λ_=>(anl w _ _).ev|exact λ_=>hp _ _|exact λh=>ap6 h|exact λ_=>(ajg w).ev|exact λ_=>E0|refine cnd (P:=λa:Bool×aD=>a.1=true->Evk w a.2) _ _ _ ?_ ?_)
 ·have hi:=awx hw.2.1 hf
  have hi':e.n.toNat<w.aL.length:=by omega
  rw [List.getElem?_eq_getElem hi']
  have h4:(bif decide (((w.aL).length:Int)>=200)then (false,w)else (true,(aD.mk w.aG w.aF w.aM w.aI w.aY w.aU (w.aL++[(a13 (w.aL[e.n.toNat]'hi'))]) w.aE w.now w.aP)):Bool×aD).1=true->Evk w (bif decide (((w.aL).length:Int)>=200)then (false,w)else (true,(aD.mk w.aG w.aF w.aM w.aI w.aY w.aU (w.aL++[(a13 (w.aL[e.n.toNat]'hi'))]) w.aE w.now w.aP)):Bool×aD).2:=by
   cases h1:decide (((w.aL).length:Int)>=200)
   ·have h1':=of_decide_eq_false h1
    intro _;refine ⟨rfl,rfl,rfl,rfl,λk=>⟨k.1,?_,k.2.2⟩⟩;show (w.aL++[_]).length<=200;simp only [List.length_append,List.length_cons,List.length_nil];omega
   ·intro h;cases h
  repeat' (first|exact h4|exact λh=>absurd h Bool.false_ne_true|exact λ_=>(amu hw.1).ev|exact λ_=>(arp hi hw.1).ev|exact λ_=>((akh hi).1.trans (Kep.drop _ _)).ev|exact λ_=>(anl w _ _).ev|exact λ_=>hp _ _|exact λh=>ap6 h|exact λ_=>(ajg w).ev|exact λ_=>E0|refine cnd (P:=λa:Bool×aD=>a.1=true->Evk w a.2) _ _ _ ?_ ?_)
end Go.Stp
namespace Go.Stp
section
variable {α : Type} [GoT α]
theorem aq5 {h:GH}{A B C:List Value}{l:List α}{i m:Nat}(hA:A.length=i*GoT.k α)(hm:m=i)(hs:Sep h [MF.ol A (l.take i)]):Sep h [MF.ol ((A++C++B).take (m*GoT.k α)) (l.take m)]:=by grind
theorem apw {h:GH}{A B C:List Value}{l:List α}{i m:Nat}(hA:A.length=i*GoT.k α)(hC:C.length=GoT.k α)(hm:m=i+1)(hs:Sep h [MF.ol B (l.drop (i+1))]):Sep h [MF.ol ((A++C++B).drop (m*GoT.k α)) (l.drop m)]:=by
 subst hm;have e:(A++C).length=(i+1)*GoT.k α:=by grind
 grind
end
theorem att {A B C:List Value}(hA:∀u∈A,u.oneCell'=true)(hC:C.all Value.oneCell'=true)(hB:∀u∈B,u.oneCell'=true):∀u∈A++C++B,u.oneCell'=true:=λu hu=>
 (List.mem_append.1 hu).elim (λhu=>(List.mem_append.1 hu).elim (hA u) (λhu=>List.all_eq_true.1 hC u hu)) (hB u)
theorem afq {α:Type}[GoT α]{G:GH}{xs:List Value}{l:List α}{a:α}{x:GoT.X α}(hinj:∀x y:GoT.X α,GoT.sh a x=GoT.sh a y->x=y)
  (h:RdL G (xs++GoT.sh a x) (l++[a])):All G (GoT.fa .der a x):=by
 have hl:=h.len;rw [List.length_append,List.length_append,GoT.len]at hl;simp only [List.length_cons,List.length_nil,Nat.add_mul]at hl;obtain ⟨y,h1,h2⟩:=h.get (i:=l.length) (a:=a) (by simp)
 have e:GoT.sh a y=GoT.sh a x:=by
  refine List.ext_getElem? λj=>?_
  by_cases hj:j<GoT.k α
  ·obtain ⟨u,hu⟩:∃u,(GoT.sh a y)[j]? =some u:=⟨_,List.getElem?_eq_getElem (by rw [GoT.len];exact hj)⟩
   grind
  ·rw [List.getElem?_eq_none (by rw [GoT.len];omega),List.getElem?_eq_none (by rw [GoT.len];omega)]
 grind
theorem an0 {C:Cx}{o:Oper}{env:Env}{L:Locs}{R:Rows}{Γ:Facts}{x y:Operand}{T kk by_:Nat}{z:Value}{row src:Row}(ρ σ m n':Nat)(ht:ad6 C.P C.tt)
  (ho:o.op= .call {callee:= .builtin .append,args:= #[x,y],argTypes:= #[T,T]})
  (hx:ev env x=some (.v (.slice row.p row.n row.c))) (hy:ev env y=some (.v (.slice src.p m src.c))) (hap:appO C.tt T=some (kk,by_,z)) (hz:z.cells.size=kk) (hρ:look R ρ=some row) (hσ:look R σ=some src) (hkk:row.k=kk) (hks:src.k=kk)
  (hone:∀u∈src.xs,u.oneCell'=true) (hm:m<=src.n) (hn:row.n+m=n') (hroom:n'*by_<=140737488355328) (hmax:n'<=9223372036854775807) (h0:row.c=0):∀a w,Sat C env L R Γ a w->ai7 C o a w:=by
 subst hn;refine alx (ι:=Unit) ρ m (λ_=>src.xs.take (m*kk)) ht ho hx hy hap hz hρ hkk (λw G bs hI hΓ=>⟨(),?_⟩) hroom (by simp only [maxLen];omega) h0;obtain ⟨ti,e,te,hT,hde,hE,h1,_⟩:=afh hap;obtain ⟨hu,_⟩:=ht.get hT;rw [hde]at hu;subst hks;exact asr hu (hI.row σ src hσ) hone hm
end Go.Stp
namespace Go.Proofs.YthdfhghdipdknaaGreat
open Go.Stp
open Go.Stp.GoT (ok)
variable {w : World} (n : Nat) {K0 K1 K2 K3 K4 K5 K6 K7 K8 K9 K10 K11 K12 K13 K14 K15 K16 : Option Addr} {M0 M1 M2 M3 M4 M5 M6 M7 M8 M9 M10 M11 M12 M13 M14 M15 M16 : Nat}
theorem f266 (hn:n+7<=9){H:GH}(hH:Le H (hp w))(bw_:Nat)(w_:aD)(K0:OA)(M0:Nat)(K1:OA)(M1:Nat)(K2:OA)(M2:Nat)(K3:OA)(M3:Nat)(K4:OA)(M4:Nat)(K5:OA)(M5:Nat)(K6:OA)(M6:Nat)(K7:OA)(M7:Nat)(K8:OA)(M8:Nat)(K9:OA)(M9:Nat){k:Int}(x_:aJ)(N10:RdSl (cut (hp w) H) K10 M10 x_.name.parts)(N11:RdSl (cut (hp w) H) K11 M11 x_.content)(N12:RdSl (cut (hp w) H) K12 M12 x_.aR.parts)(hown:Sep H (bN bw_ w_ (nT K0 M0 K1 M1 K2 M2 K3 M3 K4 M4 K5 M5 K6 M6 K7 M7 K8 M8 K9 M9)))(a3:ok n w_)(ae:ok n k)(a5:ok n x_):
 Does Tryz.prog 266 #[.pointer (some ⟨bw_,0,none⟩),vI k,afd x_ K10 M10 K11 M11 K12 M12] w H (Post w H (λx:GoT.X (aD)=> .tuple #[]) (bN bw_ (a5y w_ k x_)) (ok n ((a5y w_ k x_):aD))):=by
 have hb:=bS7 hn;refine EP (Γ:=[(10,MF.rs .stb K10 M10 x_.name.parts),(11,MF.rs .stb K11 M11 x_.content),(12,MF.rs .stb K12 M12 x_.aR.parts)]) 13 Tryz.func266 Z J Z (ac6 Z N10 (ac6 Z N11 (ac6 Z N12 ac8))) hH hown ?_
 refine LM Z (0,K9,M9,w_.aE) (λ|(i,a2,a1,a0)=>(JL n a0/\(a0.length=w_.aE.length)/\(i<=w_.aE.length)/\(a5x w_ k x_ 0 w_.aE=a5x w_ k x_ i a0),w_.aE.length+1-i,[(6,.v (vI i))],[(999,⟨39,[.int .i64 (w_.aG.size),.slice K0 _ M0,.slice K1 (w_.aF.keys.length) M1,.slice K2 (w_.aF.bR.length) M2,.slice K3 (w_.aF.bV.length) M3,.slice K4 (w_.aF.bW.length) M4,.slice K5 (w_.aM.length) M5,.slice K6 (w_.aI.length) M6,.int .i64 (w_.aY),.slice K7 (w_.aU.length) M7,.slice K8 (w_.aL.length) M8,.slice a2 (a0.length) a1,.int .i64 (w_.now),.int .i64 (w_.aP)]⟩)],[],[(22,MF.os a2 a1 a0)])) ⟨a3.2.2.2.2.2.2.2.1,Z,zl,Z⟩ [5,0,1] [5] [10,11,12,13,14,15,16,17,18,19,20,21] [10,11,12,13,14,15,16,17,18,19,20,21,22] ?_
 rintro ⟨i,a2,a1,a0⟩ ⟨v1,v2,v3,v4⟩;have b0:=v1.1;refine yKD 14 ?_ ?_<;>intro h1 a8;refine zW 23 22 ?_;have a6:i<a0.length:=Q4;obtain ⟨e1,a4⟩:=gE a6;have ad:ok n e1:=v1.2 _ (List.mem_of_getElem? a4);refine yI 23 i a6 ?_;rintro ab rfl;refine yL 23 24 e1 a4 ?_;rintro ⟨_,_,⟨p1,c1⟩,_,_,_,⟨⟨p2,c2⟩,⟨p3,c3⟩,⟨p4,c4⟩,_⟩⟩;refine yKE 26 ?_ ?_<;>intro h2 an;refine zW 28 13 ?_;refine zW 29 14 ?_;refine zW 30 15 ?_;refine zW 31 16 ?_;refine zW 32 17 ?_;refine zW 33 18 ?_;refine zW 34 19 ?_;refine zW 35 20 ?_;refine zW 36 21 ?_
 refine yD [18] λbs G0 a7=>?_;refine dT 14 [1,3,5,6,9] ?_;refine zDI 5 23 i a7 Z a6 ?_;rintro ap ⟨⟩;refine zDL 6 23 37 e1 a7 a4 ?_;rintro ⟨_,_,⟨p5,c5⟩,_,_,_,⟨⟨p6,c6⟩,⟨p7,c7⟩,⟨p8,c8⟩,_⟩⟩;refine dT 3 [15,17,19,20,22,25,27,29,30] ?_;refine DX.pend 17 7 ⟨85,[.int .i64 (0),.int .i64 (0),.slice none (0) 0,.int .i64 (0),.int .i64 (0),.bool false,.slice none (0) 0,.slice none (0) 0,.slice none (0) 0,.int .i64 (0),.int .i64 (0)]⟩ ?_
 refine DXA.callF 16 41 (λ_ _ h=>GoT.ow_rd h) (λ_ f hf=>GoT.fak f hf) ttOk Z Z Z Z Z Z Z J J J Z Z Z Z Z Z Z Z Z Z O Z Z (λw G bs hI hΓ=>f278 n Q0 e1 (hΓ.get 37 Z) (hΓ.get 38 Z) (hΓ.get 39 Z) (hΓ.get 40 Z) w_.aF (hΓ.get 29 Z) (hΓ.get 30 Z) (hΓ.get 31 Z) (hΓ.get 32 Z) x_ (hΓ.get 10 Z) (hΓ.get 11 Z) (hΓ.get 12 Z) ad ((abt a3).2.1) a5 ((abt a3).2.2.2.2.2.2.2.2.1)) O O ?_;rintro ⟨_,_,⟨p9,c9⟩,_,_,_,⟨⟨ag,ak⟩,⟨ai,al⟩,⟨af,ah⟩,_⟩⟩ am;refine DXA.tail [18] ttOk Z Z Z Z Z Z J Z Z J ?_;refine yD [6,7] λbs G0 a7=>?_
 refine dT 2 [1,3,5,6,9,10] ?_;refine DX.tail2 [6,7] Z Z J ?_;refine zN (kk:=11) 501 22 49 λar b3=>?_;have ac:i<a0.length:=Q4;refine zR 501 i ac ?_;rintro az ⟨⟩;refine zO 501 49 50 i a4 ?_;rintro A1 B1 ⟨_,_,⟨b2,ay⟩,_,_,_,⟨⟨aw,ax⟩,⟨au,ao⟩,⟨b1,aq⟩,_⟩⟩ aj av;refine zS 501 aj ac ?_;refine SA ?_;refine R0 ?_
 refine WX.turn [45,46,47,48,58,59] 60 Z (λh hs=>ae8 (α:=aX) (x:=((),(),(p9,c9),(),(),(),((ag,ak),(ai,al),(af,ah),(),()))) a6 hs) Z ?_;refine zE 501 60 61 (hn:=(by first|(simp;done)|(simp;omega))) ?_;refine WX.lsl 999 11 (a0.set i (a2m e1 w_.aF x_ w_.now)).length Z Q14 ?_;refine SL 47 (a0.set i (a2m e1 w_.aF x_ w_.now)).length ?_
 refine SL 30 (a0.set i (a2m e1 w_.aF x_ w_.now)).length ?_;refine SL 20 (a0.set i (a2m e1 w_.aF x_ w_.now)).length ?_;refine SL 12 (a0.set i (a2m e1 w_.aF x_ w_.now)).length ?_;refine zU [62] 22 ?_
 exact IT (i+1,(some ab),a1,(a0.set i (a2m e1 w_.aF x_ w_.now))) ⟨(aby Q5 (adz v1.2 (show ok n ((a2m e1 w_.aF x_ w_.now):aX)from am))),Q5,Q0,(by rw [v4];rw [a5x];simp only [(show i<=w_.aE.length by omega),a8,a4,h2,↓reduceIte])⟩ Q1 [10,11,12,13,14,15,16,17,18,19,20,21,22];refine SA ?_
 exact ITr Z (i+1,(some ab),a1,a0) ⟨(acp v1),Q5,Q0,(by rw [v4];rw [a5x];simp only [(show i<=w_.aE.length by omega),a8,a4,h2,↓reduceIte,Bool.false_eq_true])⟩ Q1 [10,11,12,13,14,15,16,17,18,19,20,21,22];have a9:=v4.trans (show _=(i,(a0:List aX)) by rw [a5x];simp only [(show i<=w_.aE.length by omega),a8,↓reduceIte])
 have aa:a5y w_ k x_=(aD.mk w_.aG w_.aF w_.aM w_.aI w_.aY w_.aU w_.aL a0 w_.now w_.aP):=by simp only [a5y,a9]
 refine R0 ?_;refine WX.fin ttOk Z λw1 G bs hI hΓ=>?_;rw [aa];exact Post.ofL 999 [13,14,15,16,17,18,19,20,21,22] (nT K0 M0 K1 M1 K2 M2 K3 M3 K4 M4 K5 M5 K6 M6 K7 M7 K8 M8 a2 a1) hI hΓ Z Z Z (by rw [hI.pin _ rfl];first|done|rfl) (An a3.1 (An a3.2.1 (An a3.2.2.1 (An a3.2.2.2.1 (An a3.2.2.2.2.1 (An a3.2.2.2.2.2.1 (An a3.2.2.2.2.2.2.1 (An (acp v1) (An a3.2.2.2.2.2.2.2.2.1 a3.2.2.2.2.2.2.2.2.2)))))))))
theorem f232 (hn:n+7<=9){H:GH}(hH:Le H (hp w))(bw_:Nat)(w_:aD)(K0:OA)(M0:Nat)(K1:OA)(M1:Nat)(K2:OA)(M2:Nat)(K3:OA)(M3:Nat)(K4:OA)(M4:Nat)(K5:OA)(M5:Nat)(K6:OA)(M6:Nat)(K7:OA)(M7:Nat)(K8:OA)(M8:Nat)(K9:OA)(M9:Nat){k:Int}{l:List bD}(N10:RdSl (cut (hp w) H) K10 M10 l)(hown:Sep H (bN bw_ w_ (nT K0 M0 K1 M1 K2 M2 K3 M3 K4 M4 K5 M5 K6 M6 K7 M7 K8 M8 K9 M9)))(au:ok n w_)(an:ok n k)(ar:ok n l):
 Does Tryz.prog 232 #[.pointer (some ⟨bw_,0,none⟩),vI k,vS K10 l M10] w H (Post w H (λx:GoT.X (aD)=> .tuple #[]) (bN bw_ (a8z w_ k l)) (ok n ((a8z w_ k l):aD))):=by
 have hb:=bS7 hn;refine EP (Γ:=[(10,MF.rs .stb K10 M10 l)]) 11 Tryz.func232 Z J Z (ac6 Z N10 ac8) hH hown ?_;have r1:=(okl ar).1
 refine LM Z (0,K0,M0,K1,M1,K2,M2,K3,M3,K4,M4,K5,M5,K6,M6,K7,M7,K8,M8,K9,M9,w_) (λ|(i,a2,a3,ae,af,a9,a8,a5,a4,a1,a0,ab,ad,aj,ak,a7,a6,ag,ah,ac,aa,ai)=>((i<=l.length)/\(ok n ai)/\(a2b k l w_=a2b k (l.drop i) ai),l.length-i,[(6,.v (vI i))],[(999,⟨39,[.int .i64 (ai.aG.size),.slice a2 (ai.aG.links.length) a3,.slice ae (ai.aF.keys.length) af,.slice a9 (ai.aF.bR.length) a8,.slice a5 (ai.aF.bV.length) a4,.slice a1 (ai.aF.bW.length) a0,.slice ab (ai.aM.length) ad,.slice aj (ai.aI.length) ak,.int .i64 (ai.aY),.slice a7 (ai.aU.length) a6,.slice ag (ai.aL.length) ah,.slice ac (ai.aE.length) aa,.int .i64 (ai.now),.int .i64 (ai.aP)]⟩)],[],[(11,MF.os a2 a3 ai.aG.links),(12,MF.os ae af ai.aF.keys),(13,MF.os a9 a8 ai.aF.bR),(14,MF.os a5 a4 ai.aF.bV),(15,MF.os a1 a0 ai.aF.bW),(16,MF.os ab ad ai.aM),(17,MF.os aj ak ai.aI),(18,MF.os a7 a6 ai.aU),(19,MF.os ag ah ai.aL),(20,MF.os ac aa ai.aE)])) ⟨zl,au,Z⟩ [0,1,2] [] [10] [10,11,12,13,14,15,16,17,18,19,20] ?_
 rintro ⟨i,a2,a3,ae,af,a9,a8,a5,a4,a1,a0,ab,ad,aj,ak,a7,a6,ag,ah,ac,aa,ai⟩ ⟨v1,v2,v3⟩;refine yKD 13 ?_ ?_<;>intro h1 cf;obtain ⟨e1,al,aq,ap⟩:=gO ar i;refine yI 10 i ap ?_;rintro ce rfl;refine yL 10 21 e1 al ?_;rintro ⟨_,_,⟨⟨p1,c1⟩,_⟩,⟨⟨p2,c2⟩,⟨p3,c3⟩,⟨p4,c4⟩,_⟩⟩;refine yKE 21 ?_ ?_<;>intro h2 cd;refine yI 10 i ap ?_;rintro bl ⟨⟩;refine yL 10 25 e1 al ?_;rintro ⟨_,_,⟨⟨p5,c5⟩,_⟩,⟨⟨p6,c6⟩,⟨p7,c7⟩,⟨p8,c8⟩,_⟩⟩;refine yKA 27 ?_ ?_<;>intro h3;refine yI 10 i ap ?_;rintro c0 ⟨⟩
 refine yL 10 29 e1 al ?_;rintro ⟨_,_,⟨⟨p9,c9⟩,_⟩,⟨⟨bn,bx⟩,⟨br,ca⟩,⟨bm,bp⟩,_⟩⟩;refine CU _ 999 [11,12,13,14,15,16,17,18,19,20] 33 Z Z Z Z Z Z Z O Z (λw β H η σ Y=>f266 n Q0 η (β 999) ai a2 a3 ae af a9 a8 a5 a4 a1 a0 ab ad aj ak a7 a6 ag ah ac aa e1.data (Y.q 30 Z) (Y.q 31 Z) (Y.q 32 Z) σ v2 an (aq.2.2.2)) O ?_;rintro ⟨⟨_,bi,bb⟩,⟨⟨b7,b9⟩,⟨b6,b4⟩,⟨bh,b5⟩,bc,b2⟩,⟨be,ba⟩,⟨bg,b8⟩,_,⟨b3,bf⟩,⟨az,av⟩,⟨ay,b0⟩,_⟩ ao;refine SA ?_;refine zU [43] 11 ?_;refine zU [44] 12 ?_
 refine zU [45] 13 ?_;refine zU [46] 14 ?_;refine zU [47] 15 ?_;refine zU [48] 16 ?_;refine zU [49] 17 ?_;refine zU [50] 18 ?_;refine zU [51] 19 ?_;refine zU [52] 20 ?_;exact ITr Z (i+1,bi,bb,b7,b9,b6,b4,bh,b5,bc,b2,be,ba,bg,b8,b3,bf,az,av,ay,b0,(a5y ai k e1.data)) ⟨Q0,ao,(by rw [v3,abu al];simp only [a2b,h2,h3,cC])⟩ Q1 [10,11,12,13,14,15,16,17,18,19,20];refine SA ?_
 exact ITr Z (i+1,a2,a3,ae,af,a9,a8,a5,a4,a1,a0,ab,ad,aj,ak,a7,a6,ag,ah,ac,aa,ai) ⟨Q0,v2,(by rw [v3,abu al];simp only [a2b,h2,h3,cC])⟩ Q1 [10,11,12,13,14,15,16,17,18,19,20];refine zW 25 11 ?_;refine zW 26 12 ?_;refine zW 27 13 ?_;refine zW 28 14 ?_;refine zW 29 15 ?_;refine zW 30 16 ?_;refine zW 31 17 ?_;refine zW 32 18 ?_;refine zW 33 19 ?_;refine zW 34 20 ?_;refine yD [] λbs G0 am=>?_;refine dT 9 [1,3,5,6,9,11,13] ?_;refine zDI 7 10 i am Z ap ?_;rintro bl ⟨⟩;refine dT 7 [17] ?_
 refine zDL 9 10 35 e1 am al ?_;rintro ⟨_,_,⟨⟨p5,c5⟩,_⟩,⟨⟨p6,c6⟩,⟨p7,c7⟩,⟨p8,c8⟩,_⟩⟩;refine DXV 10 Z J Z O (λw Y=>f267 n Q0 ai.aG (Y.q 25 Z) ((abt v2).1) an ((aga aq).1)) λao=>?_;refine dT 0 [23,25,27,29,31] ?_;refine DX.tail2 [] Z Z J ?_;refine yD [] λbs G0 am=>?_;refine dT 29 [1,3,5] ?_;refine zDC 52 ?_ ?_<;>intro h3;refine dT 0 [7,9,11,13,15,17,19,21,23,25,27,29,31,33,35,37,39,41,43,45,47,49,51,53,55,57,59,61,63] ?_;refine DX.tail2 [] Z Z J ?_;refine SW ?_
 refine SA ?_
 exact ITr Z (i+1,a2,a3,ae,af,a9,a8,a5,a4,a1,a0,ab,ad,aj,ak,a7,a6,ag,ah,ac,aa,(aD.mk ai.aG ai.aF ai.aM ai.aI ai.aY ai.aU ai.aL ai.aE ai.now (i64.wrap (ai.aP+1)))) ⟨Q0,(An v2.1 (An v2.2.1 (An v2.2.2.1 (An v2.2.2.2.1 (An v2.2.2.2.2.1 (An v2.2.2.2.2.2.1 (An v2.2.2.2.2.2.2.1 (An v2.2.2.2.2.2.2.2.1 (An v2.2.2.2.2.2.2.2.2.1 (ad0 _)))))))))),(by rw [v3,abu al];simp only [a2b,h2,h3,cC])⟩ Q1 [10,11,12,13,14,15,16,17,18,19,20]
 refine dT 19 [7,9,11,12,15,17,19,20,23,25] ?_;refine DXV 13 Z J Z O (λw Y=>f169 n Q0 ai.aG (Y.q 25 Z) ((abt v2).1) an ao.1) λbj=>?_;refine DXV 14 Z J Z O (λw Y=>f170 n Q0 (Y.q 32 Z) ((abt v2).2.2.2.2.2.1) bj) λcj=>?_;refine dT 15 [31,33] ?_;refine zDC 66 ?_ ?_<;>intro h4;refine dT 0 [35,37,39,41,43,45,47,49,51,53,55,57,59,61,63] ?_;refine DX.tail2 [] Z Z J ?_;refine SW ?_;refine SA ?_
 exact ITr Z (i+1,a2,a3,ae,af,a9,a8,a5,a4,a1,a0,ab,ad,aj,ak,a7,a6,ag,ah,ac,aa,(aD.mk ai.aG ai.aF ai.aM ai.aI ai.aY ai.aU ai.aL ai.aE ai.now (i64.wrap (ai.aP+1)))) ⟨Q0,(An v2.1 (An v2.2.1 (An v2.2.2.1 (An v2.2.2.2.1 (An v2.2.2.2.2.1 (An v2.2.2.2.2.2.1 (An v2.2.2.2.2.2.2.1 (An v2.2.2.2.2.2.2.2.1 (An v2.2.2.2.2.2.2.2.2.1 (ad0 _)))))))))),(by rw [v3,abu al];simp only [a2b,h2,h3,h4,cC])⟩ Q1 [10,11,12,13,14,15,16,17,18,19,20]
 refine dT 11 [35,37,38,41] ?_;refine DXV 21 Z J Z O (λw Y=>f71 n Q0 ai (Y.q 25 Z) (Y.q 26 Z) (Y.q 27 Z) (Y.q 28 Z) (Y.q 29 Z) (Y.q 30 Z) (Y.q 31 Z) (Y.q 32 Z) (Y.q 33 Z) (Y.q 34 Z) v2 ao.1) λcc=>?_;refine dT 7 [45,47,49] ?_;refine zDC 74 ?_ ?_<;>intro h5;refine dT 0 [51,53,55,57,59,61,63] ?_;refine DX.tail2 [] Z Z J ?_;refine SW ?_;refine SA ?_
 exact ITr Z (i+1,a2,a3,ae,af,a9,a8,a5,a4,a1,a0,ab,ad,aj,ak,a7,a6,ag,ah,ac,aa,(aD.mk ai.aG ai.aF ai.aM ai.aI ai.aY ai.aU ai.aL ai.aE ai.now (i64.wrap (ai.aP+1)))) ⟨Q0,(An v2.1 (An v2.2.1 (An v2.2.2.1 (An v2.2.2.2.1 (An v2.2.2.2.2.1 (An v2.2.2.2.2.2.1 (An v2.2.2.2.2.2.2.1 (An v2.2.2.2.2.2.2.2.1 (An v2.2.2.2.2.2.2.2.2.1 (ad0 _)))))))))),(by rw [v3,abu al];simp only [a2b,h2,h3,h4,h5,cC])⟩ Q1 [10,11,12,13,14,15,16,17,18,19,20]
 refine dT 0 [51,53,55,56,59,61,63] ?_;refine DX.tail2 [] Z Z J ?_;refine yKD 81 ?_ ?_<;>intro h6 cl;refine SW ?_;refine SA ?_
 exact ITr Z (i+1,a2,a3,ae,af,a9,a8,a5,a4,a1,a0,ab,ad,aj,ak,a7,a6,ag,ah,ac,aa,(aD.mk ai.aG ai.aF ai.aM ai.aI ai.aY ai.aU ai.aL ai.aE ai.now (i64.wrap (ai.aP+1)))) ⟨Q0,(An v2.1 (An v2.2.1 (An v2.2.2.1 (An v2.2.2.2.1 (An v2.2.2.2.2.1 (An v2.2.2.2.2.2.1 (An v2.2.2.2.2.2.2.1 (An v2.2.2.2.2.2.2.2.1 (An v2.2.2.2.2.2.2.2.2.1 (ad0 _)))))))))),(by rw [v3,abu al];simp only [a2b,h2,h3,h4,h5,h6,cC])⟩ Q1 [10,11,12,13,14,15,16,17,18,19,20]
 refine yD [20] λbs G0 am=>?_;refine dT 17 [1,3,5,7] ?_;refine zDI 4 10 i am Z ap ?_;rintro c0 ⟨⟩;refine dT 15 [11] ?_;refine zDL 6 10 39 e1 am al ?_;rintro ⟨_,_,⟨⟨p9,c9⟩,_⟩,⟨⟨bn,bx⟩,⟨br,ca⟩,⟨bm,bp⟩,_⟩⟩;refine dT 12 [15,17] ?_;refine zDI 9 10 i am Z ap ?_;rintro ck ⟨⟩;refine dT 10 [21] ?_;refine zDL 11 10 43 e1 am al ?_;rintro ⟨_,_,⟨⟨bi,bb⟩,_⟩,⟨⟨b7,b9⟩,⟨b6,b4⟩,⟨bh,b5⟩,_⟩⟩;refine dT 7 [25,27] ?_;refine zDI 14 10 i am Z ap ?_;rintro ci ⟨⟩;refine dT 5 [31] ?_;refine zDL 16 10 47 e1 am al ?_
 rintro ⟨_,_,⟨⟨bc,b2⟩,_⟩,⟨⟨be,ba⟩,⟨bg,b8⟩,⟨b3,bf⟩,_⟩⟩;refine dT 3 [35] ?_;refine DX.pend 19 9 ⟨80,[.int .i64 (0),.int .i64 (0),.bool false,.slice none (0) 0,.int .i64 (0),.int .i64 (0),.int .i64 (0),.slice none (0) 0,.slice none (0) 0,.slice none (0) 0,.int .i64 (0),.int .i64 (0)]⟩ ?_
 refine DXA.callF 18 51 (λ_ _ h=>GoT.ow_rd h) (λ_ f hf=>GoT.fak f hf) ttOk Z Z Z Z Z Z Z J J J Z Z Z Z Z Z Z Z Z Z O Z Z (λw G bs hI hΓ=>f67 n Q0 (aZ.mk ((a1z ai.aG k e1.face).1) ((a1z ai.aG k e1.face).2) e1.cI e1.bT e1.data) (hΓ.get 43 Z) (hΓ.get 48 Z) (hΓ.get 49 Z) (hΓ.get 50 Z) (An ao.1 (An ao.2 (An trivial (An aq.2.2.1 aq.2.2.2))))) O O ?_;rintro ⟨_,_,_,⟨⟨az,av⟩,_⟩,⟨⟨ay,b0⟩,⟨bo,bt⟩,⟨cb,bk⟩,_⟩⟩ bz;refine DXA.tail [20] ttOk Z Z Z Z Z Z J Z Z J ?_
 refine yD [7,8,9,10] λbs G0 am=>?_;refine dT 5 [1,3,5,7,8,10] ?_;refine DX.tail2 [6,7,8,9,10] Z Z J ?_;refine zB λch=>?_;refine zN (kk:=12) 501 19 59 λcg cm=>?_;refine zT (α:=aZ) [55,56,57,58] 60 (a13 (aZ.mk ((a1z ai.aG k e1.face).1) ((a1z ai.aG k e1.face).2) e1.cI e1.bT e1.data)) ((),(),(),((az,av),(),(),()),((ay,b0),(bo,bt),(cb,bk),(),())) λ_=>?_;have r3:=(okl (abt v2).2.2.2.2.2.2.1).1
 refine WX.know (λG hΓ=>(hΓ.get 60 Z:OwL _ _ _).rd.one) λbv=>?_;refine zP 501 115 ((ai.aL++[(a13 (aZ.mk ((a1z ai.aG k e1.face).1) ((a1z ai.aG k e1.face).2) e1.cI e1.bT e1.data))]):List aZ).length bv λbu bw=>?_;refine zV [59,60] 61 ?_;refine SA ?_;refine yE 501 61 62 ?_;refine zU [63] 19 ?_
 exact IT (i+1,a2,a3,ae,af,a9,a8,a5,a4,a1,a0,ab,ad,aj,ak,a7,a6,bu,bw,ac,aa,(aD.mk ai.aG ai.aF ai.aM ai.aI ai.aY ai.aU (ai.aL++[(a13 (aZ.mk ((a1z ai.aG k e1.face).1) ((a1z ai.aG k e1.face).2) e1.cI e1.bT e1.data))]) ai.aE ai.now ai.aP)) ⟨Q0,(An v2.1 (An v2.2.1 (An v2.2.2.1 (An v2.2.2.2.1 (An v2.2.2.2.2.1 (An v2.2.2.2.2.2.1 (An (aby Q5 (ac2 (okl (abt v2).2.2.2.2.2.2.1).2 (all_cons (α:=aZ) bz nA))) (An v2.2.2.2.2.2.2.2.1 (An v2.2.2.2.2.2.2.2.2.1 v2.2.2.2.2.2.2.2.2.2))))))))),(by rw [v3,abu al];simp only [a2b,h2,h3,h4,h5,h6,cC])⟩ Q1 [10,11,12,13,14,15,16,17,18,19,20]
 have ax:=v3.trans (show _=ai by rw [dn];simp only [a2b];omega);have b1:a8z w_ k l=ai:=by simp only [a8z,ax]
 refine R0 ?_;refine WX.fin ttOk Z λw1 G bs hI hΓ=>?_;rw [b1];exact Post.ofL 999 [11,12,13,14,15,16,17,18,19,20] (nT a2 a3 ae af a9 a8 a5 a4 a1 a0 ab ad aj ak a7 a6 ag ah ac aa) hI hΓ Z Z Z (by rw [hI.pin _ rfl];first|done|rfl) v2
theorem f198 (hn:n+7<=9){H:GH}(hH:Le H (hp w))(bw_:Nat)(w_:aD)(K0:OA)(M0:Nat)(K1:OA)(M1:Nat)(K2:OA)(M2:Nat)(K3:OA)(M3:Nat)(K4:OA)(M4:Nat)(K5:OA)(M5:Nat)(K6:OA)(M6:Nat)(K7:OA)(M7:Nat)(K8:OA)(M8:Nat)(K9:OA)(M9:Nat){k:Int}(a:Action)(K10:OA)(M10:Nat)(K11:OA)(M11:Nat)(K12:OA)(M12:Nat)(K13:OA)(M13:Nat)(K14:OA)(M14:Nat)(K15:OA)(M15:Nat)(K16:OA)(M16:Nat)(hown:Sep H (MF.bx bw_ 39 (GoT.sh w_ (nT K0 M0 K1 M1 K2 M2 K3 M3 K4 M4 K5 M5 K6 M6 K7 M7 K8 M8 K9 M9))::(GoT.oa w_ (nT K0 M0 K1 M1 K2 M2 K3 M3 K4 M4 K5 M5 K6 M6 K7 M7 K8 M8 K9 M9)++GoT.oa a (((K10,M10),((),(K11,M11)),(K12,M12),(K13,M13),(K14,M14),(K15,M15),()),(K16,M16)))))(hq0:0<=k/\k<w_.aI.length)(a0:ok n w_)(a2:ok n k)(a1:ok n a):
 Does Tryz.prog 198 #[.pointer (some ⟨bw_,0,none⟩),vI k,.agg #[vS K10 a.node.bF M10,vI a.node.bG.cA,vS K11 a.node.bG.bB M11,vS K12 a.node.bH M12,vS K13 a.node.bS M13,vS K14 a.node.bM M14,vS K15 a.node.bQ M15,vI a.node.aP,vS K16 a.cQ M16]] w H (Post w H (λx:GoT.X (aD)=> .tuple #[]) (bN bw_ (a34 w_ k a)) (ok n ((a34 w_ k a):aD))):=by
 refine WX.enterP (tt:=tt) (Γ:=[]) (cs:=[.int .i64 (w_.aG.size),.slice K0 (w_.aG.links.length) M0,.slice K1 (w_.aF.keys.length) M1,.slice K2 (w_.aF.bR.length) M2,.slice K3 (w_.aF.bV.length) M3,.slice K4 (w_.aF.bW.length) M4,.slice K5 (w_.aM.length) M5,.slice K6 (w_.aI.length) M6,.int .i64 (w_.aY),.slice K7 (w_.aU.length) M7,.slice K8 (w_.aL.length) M8,.slice K9 (w_.aE.length) M9,.int .i64 (w_.now),.int .i64 (w_.aP)]) (fs:=[MF.os K0 M0 w_.aG.links,MF.os K1 M1 w_.aF.keys,MF.os K2 M2 w_.aF.bR,MF.os K3 M3 w_.aF.bV,MF.os K4 M4 w_.aF.bW,MF.os K5 M5 w_.aM,MF.os K6 M6 w_.aI,MF.os K7 M7 w_.aU,MF.os K8 M8 w_.aL,MF.os K9 M9 w_.aE,MF.os K10 M10 a.node.bF,MF.os K11 M11 a.node.bG.bB,MF.os K12 M12 a.node.bH,MF.os K13 M13 a.node.bS,MF.os K14 M14 a.node.bM,MF.os K15 M15 a.node.bQ,MF.os K16 M16 a.cQ]) 17 Tryz.func198 Z J Z ac8 hH hown (λf hf=>(List.mem_append.1 (show f∈GoT.oa w_ (nT K0 M0 K1 M1 K2 M2 K3 M3 K4 M4 K5 M5 K6 M6 K7 M7 K8 M8 K9 M9)++GoT.oa a (((K10,M10),((),(K11,M11)),(K12,M12),(K13,M13),(K14,M14),(K15,M15),()),(K16,M16))from hf)).elim (GoT.oak f) (GoT.oak f)) Z ?_
 refine zW 34 27 ?_;refine zW 35 28 ?_;refine zW 36 29 ?_;refine zW 37 30 ?_;refine zW 38 31 ?_;refine zW 39 32 ?_;refine zW 40 33 ?_;refine zW 41 17 ?_;refine zW 42 18 ?_;refine zW 43 19 ?_;refine zW 44 20 ?_;refine zW 45 21 ?_;refine zW 46 22 ?_;refine zW 47 23 ?_;refine zW 48 24 ?_;refine zW 49 25 ?_;refine zW 50 26 ?_;refine yD [7,8] λbs G0 aq=>?_;refine dT 2 [1,3,5,6,9,11,12] ?_;refine DX.tail2 [7,8] Z Z J ?_;have r1:=i8 a2;refine SI 10 ?_;refine zN (kk:=8) 501 23 51 λao au=>?_;have a3:k.toNat<w_.aI.length:=Q4
 refine zR 501 (k.toNat) a3 ?_;rintro ai rfl;obtain ⟨e1,a4,ap,ad⟩:=gO (abt a0).2.2.2.1 k.toNat;refine zO (α:=aH) (e:=e1) 501 51 52 (k.toNat) a4 ?_;rintro A1 B1 ⟨⟨p1,c1⟩,⟨_,p2,c2⟩,⟨p3,c3⟩,⟨p4,c4⟩,⟨p5,c5⟩,⟨p6,c6⟩,_⟩ aa ar;refine zS 501 aa a3 ?_;refine R0 ?_;refine WX.turn [27,28,29,30,31,32,64,65] 66 Z (λh hs=>ae8 (α:=aH) (e:=a.node) (x:=((K10,M10),((),(K11,M11)),(K12,M12),(K13,M13),(K14,M14),(K15,M15),())) ad hs) Z ?_
 refine zE 501 66 67 (hn:=(show w_.aI.length=((w_.aI.set (k.toNat) a.node)).length from by first|(simp;done)|(simp;omega))) ?_;refine WX.lsl 999 7 ((w_.aI.set (k.toNat) a.node)).length Z Q14 ?_;refine SL 9 ((w_.aI.set (k.toNat) a.node)).length ?_;have r2:=(okl (abt a0).2.2.2.1).1
 refine CU (a8z (aD.mk w_.aG w_.aF w_.aM (w_.aI.set (k.toNat) a.node) w_.aY w_.aU w_.aL w_.aE w_.now w_.aP) k a.cQ) 999 [17,18,19,20,21,22,68,24,25,26] 69 Z Z Z Z Z Z Z O Z (λw β H η σ Y=>f232 n Q0 η (β 999) (aD.mk w_.aG w_.aF w_.aM (w_.aI.set (k.toNat) a.node) w_.aY w_.aU w_.aL w_.aE w_.now w_.aP) K0 M0 K1 M1 K2 M2 K3 M3 K4 M4 K5 M5 (some ai) M6 K7 M7 K8 M8 K9 M9 ((Y.q 33 Z:OwSl _ _ _ _).rd) σ (An (abt a0).1 (An (abt a0).2.1 (An (abt a0).2.2.1 (An (aby Q5 (adz (okl (abt a0).2.2.2.1).2 (show ok n (a.node:aH)from (an5 a1).1)):ok n ((w_.aI.set (k.toNat) a.node):List aH)) (An (abt a0).2.2.2.2.1 (An (abt a0).2.2.2.2.2.1 (An (abt a0).2.2.2.2.2.2.1 (An (abt a0).2.2.2.2.2.2.2.1 (An (abt a0).2.2.2.2.2.2.2.2.1 (abt a0).2.2.2.2.2.2.2.2.2))))))))) a2 ((an5 a1).2)) O ?_
 rintro ⟨⟨_,p7,c7⟩,⟨⟨p8,c8⟩,⟨p9,c9⟩,⟨a7,ae⟩,ah,a6⟩,⟨a5,a8⟩,⟨al,ak⟩,_,⟨an,af⟩,⟨ab,a9⟩,⟨ag,am⟩,_⟩ aj;dsimp only
 have ac:a34 w_ k a=(a8z (aD.mk w_.aG w_.aF w_.aM (w_.aI.set (k.toNat) a.node) w_.aY w_.aU w_.aL w_.aE w_.now w_.aP) k a.cQ):=by simp only [a34,a4]
 refine R0 ?_;refine WX.fin ttOk Z λw1 G bs hI hΓ=>?_;rw [ac];exact Post.ofL 999 [79,80,81,82,83,84,85,86,87,88] (nT p7 c7 p8 c8 p9 c9 a7 ae ah a6 a5 a8 al ak an af ab a9 ag am) hI hΓ Z Z Z (by rw [hI.pin _ rfl];first|done|rfl) aj
theorem f162 (hn:n+7<=9){H:GH}(hH:Le H (hp w))(bw_:Nat)(w_:aD)(K0:OA)(M0:Nat)(K1:OA)(M1:Nat)(K2:OA)(M2:Nat)(K3:OA)(M3:Nat)(K4:OA)(M4:Nat)(K5:OA)(M5:Nat)(K6:OA)(M6:Nat)(K7:OA)(M7:Nat)(K8:OA)(M8:Nat)(K9:OA)(M9:Nat)(hown:Sep H (bN bw_ w_ (nT K0 M0 K1 M1 K2 M2 K3 M3 K4 M4 K5 M5 K6 M6 K7 M7 K8 M8 K9 M9)))(hq0:ae3 w_.aI)(aj:ok n w_):
 Does Tryz.prog 162 #[.pointer (some ⟨bw_,0,none⟩)] w H (Post w H (λx:GoT.X (aD)=> .bool ((a4d w_).1)) (bN bw_ (a4d w_).2) (ok n ((a4d w_).2:aD))):=by
 have hb:=bS7 hn;refine EP 10 Tryz.func162 Z J Z ac8 hH hown ?_;refine yKD 13 ?_ ?_<;>(intro h1 dt;try dsimp only at dt);rw [show a4d w_=(false,w_) by simp only [a4d,h1,cC]];exact yY [10,11,12,13,14,15,16,17,18,19] _ aj;refine SW ?_
 refine LM Z (0,K6,M6,w_.aI) (λ|(i,ao,an,ab)=>(JL n ab/\(ab.length=w_.aI.length)/\(i<=w_.aI.length)/\(ae3 ab)/\(a5e w_ 0 w_.aI=a5e w_ i ab),w_.aI.length+1-i,[(3,.v (vI i))],[(999,⟨39,[.int .i64 (w_.aG.size),.slice K0 (w_.aG.links.length) M0,.slice K1 (w_.aF.keys.length) M1,.slice K2 (w_.aF.bR.length) M2,.slice K3 (w_.aF.bV.length) M3,.slice K4 (w_.aF.bW.length) M4,.slice K5 (w_.aM.length) M5,.slice ao (ab.length) an,.int .i64 (w_.aY),.slice K7 (w_.aU.length) M7,.slice K8 (w_.aL.length) M8,.slice K9 (w_.aE.length) M9,.int .i64 (i64.wrap (w_.now+1)),.int .i64 (w_.aP)]⟩)],[],[(16,MF.os ao an ab),_,(18,MF.os K8 M8 w_.aL),(19,MF.os K9 M9 w_.aE)])) ⟨aj.2.2.2.1,Z,zl,Q12,Z⟩ [0] [] [10,11,12,13,14,15] [10,11,12,13,14,15,16,17,18,19] ?_
 rintro ⟨i,ao,an,ab⟩ ⟨v1,v2,v3,v4,v5⟩;have ew:=v1.1;refine yKD 28 ?_ ?_<;>(intro h2 b6;try dsimp only at b6);refine zW 20 10 ?_;refine zW 21 11 ?_;refine zW 22 12 ?_;refine zW 23 13 ?_;refine zW 24 14 ?_;refine zW 25 15 ?_;refine zW 26 16 ?_;refine zW 27 17 ?_;refine zW 28 18 ?_;refine zW 29 19 ?_
 refine KV Z Z O (λw Y=>f71 n Q0 (aD.mk w_.aG w_.aF w_.aM ab w_.aY w_.aU w_.aL w_.aE (i64.wrap (w_.now+1)) w_.aP) (Y.q 20 Z) (Y.q 21 Z) (Y.q 22 Z) (Y.q 23 Z) (Y.q 24 Z) (Y.q 25 Z) (Y.q 26 Z) (Y.q 27 Z) (Y.q 28 Z) (Y.q 29 Z) (An (abt aj).1 (An (abt aj).2.1 (An (abt aj).2.2.1 (An (acp v1) (An (abt aj).2.2.2.2.1 (An (abt aj).2.2.2.2.2.1 (An (abt aj).2.2.2.2.2.2.1 (An (abt aj).2.2.2.2.2.2.2.1 (An (ad0 _) (abt aj).2.2.2.2.2.2.2.2.2))))))))) (i6 ((i:Nat):Int))) λf4=>?_
 refine yKA 35 ?_ ?_<;>intro h3;refine yD [13] λbs G0 ar=>?_;refine dT 9 [1,3,5,6,9] ?_;have b9:i<ab.length:=Q4;obtain ⟨e1,b1⟩:=gE b9;have bw:ok n e1:=v1.2 _ (List.mem_of_getElem? b1);refine zDI 5 26 i ar Z b9 ?_;rintro c0 rfl;refine zDL 6 26 30 e1 ar b1 ?_;rintro ⟨⟨p1,c1⟩,⟨_,p2,c2⟩,⟨p3,c3⟩,⟨p4,c4⟩,⟨p5,c5⟩,⟨p6,c6⟩,_⟩;refine dT 3 [15,17,19,20] ?_
 refine DX.pend 12 4 ⟨74,[.slice none (0) 0,.int .i64 (0),.slice none (0) 0,.slice none (0) 0,.slice none (0) 0,.slice none (0) 0,.slice none (0) 0,.int .i64 (0)]⟩ ?_;refine DXA.callF 11 36 (λ_ _ h=>GoT.ow_rd h) (λ_ f hf=>GoT.fak f hf) ttOk Z Z Z Z Z Z Z J J J Z Z Z Z Z Z Z Z Z Z O Z Z (λw G bs hI hΓ=>f196 n Q0 e1 (hΓ.get 30 Z) (hΓ.get 31 Z) (hΓ.get 32 Z) (hΓ.get 33 Z) (hΓ.get 34 Z) (hΓ.get 35 Z) bw (ad0 _)) O O ?_;rintro ⟨⟨p7,c7⟩,⟨_,p8,c8⟩,⟨p9,c9⟩,⟨cj,d1⟩,⟨cm,da⟩,⟨cf,cl⟩,_⟩ bt;refine DXA.tail [13] ttOk Z Z Z Z Z Z J Z Z J ?_
 refine yD [6,7] λbs G0 ar=>?_;refine dT 2 [1,3,5,6,9,10] ?_;refine DX.tail2 [6,7] Z Z J ?_;refine zN (kk:=8) 501 16 48 λdy f8=>?_;have bj:i<ab.length:=Q4;refine zR 501 i bj ?_;rintro dr ⟨⟩;refine zO 501 48 49 i b1 ?_;rintro A1 B1 ⟨⟨f6,eo⟩,⟨_,ec,ek⟩,⟨e0,dp⟩,⟨ez,dv⟩,⟨eq,dl⟩,⟨er,en⟩,_⟩ cx e9;refine zS 501 cx bj ?_;refine SA ?_;refine R0 ?_
 refine WX.turn [42,43,44,45,46,47,61,62] 63 Z (λh hs=>ae8 (α:=aH) (x:=((p7,c7),((),(p8,c8)),(p9,c9),(cj,d1),(cm,da),(cf,cl),())) b9 hs) Z ?_;refine zE 501 63 64 (hn:=(by first|(simp;done)|(simp;omega))) ?_;refine WX.lsl 999 7 (ab.set i (a3n e1 (i64.wrap (w_.now+1)))).length Z Q14 ?_
 refine SL 51 (ab.set i (a3n e1 (i64.wrap (w_.now+1)))).length ?_;refine SL 39 (ab.set i (a3n e1 (i64.wrap (w_.now+1)))).length ?_;refine SL 26 (ab.set i (a3n e1 (i64.wrap (w_.now+1)))).length ?_;refine zU [65] 16 ?_
 exact IT (i+1,(some c0),an,(ab.set i (a3n e1 (i64.wrap (w_.now+1))))) ⟨(aby Q5 (adz v1.2 (show ok n ((a3n e1 (i64.wrap (w_.now+1))):aH)from bt))),Q5,Q0,(by first|assumption|exact ae3.tick Q12 Q12),(by rw [v5];rw [a5e];simp only [(show i<=w_.aI.length by omega),b6,h3,b1,↓reduceIte])⟩ Q1 [10,11,12,13,14,15,16,17,18,19]
 refine SA ?_;exact ITr Z (i+1,ao,an,ab) ⟨(acp v1),Q5,Q0,(by first|assumption|exact ae3.tick Q12 Q12),(by rw [v5];rw [a5e];simp only [(show i<=w_.aI.length by omega),b6,h3,↓reduceIte,Bool.false_eq_true])⟩ Q1 [10,11,12,13,14,15,16,17,18,19];have b7:=v5.trans (show _=(i,(ab:List aH)) by rw [a5e];simp only [(show i<=w_.aI.length by omega),b6,↓reduceIte])
 refine LM Z (0,K0,M0,K1,M1,K2,M2,K3,M3,K4,M4,K5,M5,ao,an,K7,M7,K8,M8,K9,M9,(aD.mk w_.aG w_.aF w_.aM ab w_.aY w_.aU w_.aL w_.aE (i64.wrap (w_.now+1)) w_.aP)) (λ|(i2,a2,a3,af,ag,aa,a9,a5,a4,a1,a0,ad,ae,am,ak,a8,a7,ah,ai,al,ac,a6)=>((ok n a6)/\(a6.aE.length=w_.aE.length)/\(i2<=w_.aE.length)/\(ae3 a6.aI)/\(a4v w_ 0 _=a4v w_ i2 a6),w_.aE.length+1-i2,[(5,.v (vI i2))],[(999,⟨39,[.int .i64 (a6.aG.size),.slice a2 (a6.aG.links.length) a3,.slice af (a6.aF.keys.length) ag,.slice aa (a6.aF.bR.length) a9,.slice a5 (a6.aF.bV.length) a4,.slice a1 (a6.aF.bW.length) a0,.slice ad (a6.aM.length) ae,.slice am (a6.aI.length) ak,.int .i64 (a6.aY),.slice a8 (a6.aU.length) a7,.slice ah (a6.aL.length) ai,.slice al (a6.aE.length) ac,.int .i64 (a6.now),.int .i64 (a6.aP)]⟩)],[],[(10,MF.os a2 a3 a6.aG.links),(11,MF.os af ag a6.aF.keys),(12,MF.os aa a9 a6.aF.bR),(13,MF.os a5 a4 a6.aF.bV),(14,MF.os a1 a0 a6.aF.bW),(15,MF.os ad ae a6.aM),(16,MF.os am ak a6.aI),(17,MF.os a8 a7 a6.aU),(18,MF.os ah ai a6.aL),(19,MF.os al ac a6.aE)])) ⟨(An aj.1 (An aj.2.1 (An aj.2.2.1 (An (acp v1) (An aj.2.2.2.2.1 (An aj.2.2.2.2.2.1 (An aj.2.2.2.2.2.2.1 (An aj.2.2.2.2.2.2.2.1 (An (ad0 _) aj.2.2.2.2.2.2.2.2.2))))))))),Z,zl,Q12,Z⟩ [0] [] [] [10,11,12,13,14,15,16,17,18,19] ?_
 rintro ⟨i2,a2,a3,af,ag,aa,a9,a5,a4,a1,a0,ad,ae,am,ak,a8,a7,ah,ai,al,ac,a6⟩ ⟨ap,ds,f0,eh,b3⟩;have dx:w_.aE.length<=bd n:=(okl (abt aj).2.2.2.2.2.2.2.1).1;refine yKD 61 ?_ ?_<;>(intro b4 au;try dsimp only at au);refine zW 32 10 ?_;refine zW 33 11 ?_;refine zW 34 12 ?_;refine zW 35 13 ?_;refine zW 36 14 ?_;refine zW 37 15 ?_;refine zW 38 16 ?_;refine zW 39 17 ?_;refine zW 40 18 ?_;refine zW 41 19 ?_;refine yD [] λbs G0 ar=>?_;refine dT 5 [1,3,4,7,9,11,12,15] ?_;obtain ⟨e2,ay,az,be⟩:=gO (abt ap).2.2.2.2.2.2.2.1 i2;refine zDI 8 41 i2 ar Z be ?_
 rintro av rfl;refine dT 3 [19] ?_;refine zDL 10 41 42 e2 ar ay ?_;rintro ⟨_,_,⟨fa,e8⟩,_,_,_,⟨⟨ei,eb⟩,⟨ep,dq⟩,⟨eu,f7⟩,_⟩⟩;refine DXV 11 Z J Z O (λw Y=>f71 n Q0 a6 (Y.q 32 Z) (Y.q 33 Z) (Y.q 34 Z) (Y.q 35 Z) (Y.q 36 Z) (Y.q 37 Z) (Y.q 38 Z) (Y.q 39 Z) (Y.q 40 Z) (Y.q 41 Z) ap ((ace az).1)) λcz=>?_;refine dT 0 [25] ?_;refine DX.tail2 [] Z Z J ?_;refine yKN 76 ?_ ?_<;>(intro b2 ci;try dsimp only at ci);refine SA ?_
 exact ITr Z (i2+1,a2,a3,af,ag,aa,a9,a5,a4,a1,a0,ad,ae,am,ak,a8,a7,ah,ai,(some av),ac,a6) ⟨ap,Q5,Q0,(by first|assumption|(dsimp only;assumption)|exact (ajn (by first|omega|(dsimp only at*;omega)) (akp (ae3.get Q12 Q12))).nod Q12),(by rw [b3];rw [a4v];simp only [(show i2<=w_.aE.length by omega),au,ay,b2,↓reduceIte])⟩ Q1 [10,11,12,13,14,15,16,17,18,19]
 have dg:=akr (by first|assumption|exact hNC.1|(dsimp only;assumption)) (B.nf b2);refine R0 ?_;refine zN (kk:=11) 513 19 46 λdf ck=>?_;have ax:i2<a6.aE.length:=Q4;refine zR 513 i2 ax ?_;rintro di ⟨⟩;refine zO 513 46 47 i2 ay ?_;rintro dz dw ⟨_,_,⟨ee,ef⟩,_,_,_,⟨⟨f9,el⟩,⟨e4,es⟩,⟨du,ex⟩,_⟩⟩ b0 cb;refine zA 513 b0 ax ?_;refine CF 57 Z O (λw Y=>f197 n Q0 e2 (Y.q 47 Z) (Y.q 48 Z) (Y.q 49 Z) (Y.q 50 Z) az) ?_
 rintro ⟨⟨_,_,⟨bg,bm⟩,_,_,_,⟨⟨bh,bi⟩,⟨bf,bo⟩,⟨bp,bn⟩,_⟩⟩,⟨⟨f5,ej⟩,_⟩⟩ aq;have e6:=aro e2;refine zW 67 10 ?_;refine zW 68 11 ?_;refine zW 69 12 ?_;refine zW 70 13 ?_;refine zW 71 14 ?_;refine zW 72 15 ?_;refine zW 73 16 ?_;refine zW 74 17 ?_;refine zW 75 18 ?_;refine yD [6,7] λbs G0 ar=>?_;refine dT 2 [1,3,5,6,9,10] ?_;refine DX.tail2 [6,7] Z Z J ?_;have aw:i2<a6.aE.length:=Q4;refine zR 513 i2 aw ?_;rintro co ⟨⟩;refine zS 513 b0 aw ?_;refine yKA 96 ?_ ?_<;>intro bk;refine yD [17] λbs G0 ar=>?_
 refine dT 9 [1,3,4,7,9,11,12,15,16] ?_;have dd:=i8 ((ace aq.1).1);refine DI 105 ?_;obtain ⟨e3,bl,bb,d4⟩:=gO (abt ap).2.2.2.1 (((a0n e2).1.node).toNat);refine zDI 9 73 _ ar Z d4 ?_;rintro b8 rfl;refine zDL 10 73 76 e3 ar bl ?_;rintro ⟨⟨em,ey⟩,⟨_,dm,eg⟩,⟨ed,ev⟩,⟨e5,e7⟩,⟨dn,f3⟩,⟨f2,ea⟩,_⟩;refine dT 2 [22,25,27,29,30] ?_
 refine DXF 16 82 Z J Z O (λw Y=>f199 n Q0 e3 (Y.q 76 Z) (Y.q 77 Z) (Y.q 78 Z) (Y.q 79 Z) (Y.q 80 Z) (Y.q 81 Z) _ (Y.q 61 Z) (by exact ae3.get Q12 Q12) bb (i6 0) aq.2 (ap.2.2.2.2.2.2.2.2.1)) ?_;rintro ⟨⟨⟨db,bu⟩,⟨_,d9,bx⟩,⟨de,cp⟩,⟨bz,ct⟩,⟨d5,cw⟩,⟨dh,cc⟩,_⟩,cd,bq⟩ bc;refine DX.tail2 [17] Z Z J ?_
 refine WX.turn [62,63,64,65,55,56] 96 Z (λh hs=>ae8 (α:=aX) (x:=((),(),(bg,bm),(),(),(),((bh,bi),(bf,bo),(bp,bn),(),()))) be hs) Z ?_;refine zE 513 96 97 (hn:=(by first|(simp;done)|(simp;omega))) ?_;refine WX.lsl 999 11 (a6.aE.set i2 ((a0n e2).1)).length Z Q14 ?_;refine SL 92 (a6.aE.set i2 ((a0n e2).1)).length ?_
 refine SL 81 (a6.aE.set i2 ((a0n e2).1)).length ?_;refine SL 70 (a6.aE.set i2 ((a0n e2).1)).length ?_;refine SL 59 (a6.aE.set i2 ((a0n e2).1)).length ?_;have et:=(okl (abt ap).2.2.2.2.2.2.2.1).1
 refine CU _ 999 [10,11,12,13,14,15,16,17,18,98,89,90,91,92,93,94,95] 99 Z Z Z Z Z Z Z O Z (λw β H η σ Y=>f198 n Q0 η (β 999) (aD.mk a6.aG a6.aF a6.aM a6.aI a6.aY a6.aU a6.aL (a6.aE.set i2 ((a0n e2).1)) a6.now a6.aP) a2 a3 af ag aa a9 a5 a4 a1 a0 ad ae (some b8) ak a8 a7 ah ai (some av) ac (a10 e3 0 ((a0n e2).2.1) a6.now) db bu d9 bx de cp bz ct d5 cw dh cc cd bq σ Q15 (An (abt ap).1 (An (abt ap).2.1 (An (abt ap).2.2.1 (An (abt ap).2.2.2.1 (An (abt ap).2.2.2.2.1 (An (abt ap).2.2.2.2.2.1 (An (abt ap).2.2.2.2.2.2.1 (An (aby Q5 (adz (okl (abt ap).2.2.2.2.2.2.2.1).2 (show ok n (((a0n e2).1):aX)from aq.1)):ok n ((a6.aE.set i2 ((a0n e2).1)):List aX)) (An (abt ap).2.2.2.2.2.2.2.2.1 (abt ap).2.2.2.2.2.2.2.2.2))))))))) ((ace aq.1).1) bc) O ?_
 rintro ⟨⟨_,cn,cq⟩,⟨⟨d7,cv⟩,⟨cs,dk⟩,⟨dj,cr⟩,cg,bv⟩,⟨ch,br⟩,⟨d0,d6⟩,_,⟨d3,ca⟩,⟨d8,cy⟩,⟨d2,dc⟩,_⟩ b5;have ce:=arr (w:=(aD.mk a6.aG a6.aF a6.aM a6.aI a6.aY a6.aU a6.aL (a6.aE.set i2 ((a0n e2).1)) a6.now a6.aP)) (k:=((a0n e2).1.node)) (a:=(a10 e3 0 ((a0n e2).2.1) a6.now)) Q15;try simp only [List.length_set]at ce
 refine SA ?_;refine zU [109] 10 ?_;refine zU [110] 11 ?_;refine zU [111] 12 ?_;refine zU [112] 13 ?_;refine zU [113] 14 ?_;refine zU [114] 15 ?_;refine zU [115] 16 ?_;refine zU [116] 17 ?_;refine zU [117] 18 ?_;refine zU [118] 19 ?_
 exact ITr Z (i2+1,cn,cq,d7,cv,cs,dk,dj,cr,cg,bv,ch,br,d0,d6,d3,ca,d8,cy,d2,dc,(a34 (aD.mk a6.aG a6.aF a6.aM a6.aI a6.aY a6.aU a6.aL (a6.aE.set i2 ((a0n e2).1)) a6.now a6.aP) ((a0n e2).1.node) (a10 e3 0 ((a0n e2).2.1) a6.now))) ⟨b5,Q5,Q0,(by first|assumption|(dsimp only;assumption)|exact (ajn (by first|omega|(dsimp only at*;omega)) (akp (ae3.get Q12 Q12))).nod Q12),(by rw [b3];rw [a4v];simp only [(show i2<=w_.aE.length by omega),au,ay,b2,bk,bl,↓reduceIte,Bool.false_eq_true])⟩ Q1 [10,11,12,13,14,15,16,17,18,19]
 refine SA ?_;refine R0 ?_;refine WX.turn [62,63,64,65,55,56] 76 Z (λh hs=>ae8 (α:=aX) (x:=((),(),(bg,bm),(),(),(),((bh,bi),(bf,bo),(bp,bn),(),()))) be hs) Z ?_;refine zE 513 76 77 (hn:=(by first|(simp;done)|(simp;omega))) ?_;refine WX.lsl 999 11 (a6.aE.set i2 ((a0n e2).1)).length Z Q14 ?_;refine SL 92 (a6.aE.set i2 ((a0n e2).1)).length ?_
 refine SL 81 (a6.aE.set i2 ((a0n e2).1)).length ?_;refine SL 70 (a6.aE.set i2 ((a0n e2).1)).length ?_;refine SL 59 (a6.aE.set i2 ((a0n e2).1)).length ?_;refine zU [78] 19 ?_;have dd:=(okl (abt ap).2.2.2.2.2.2.2.1).1
 exact IT (i2+1,a2,a3,af,ag,aa,a9,a5,a4,a1,a0,ad,ae,am,ak,a8,a7,ah,ai,(some av),ac,(aD.mk a6.aG a6.aF a6.aM a6.aI a6.aY a6.aU a6.aL (a6.aE.set i2 ((a0n e2).1)) a6.now a6.aP)) ⟨(An (abt ap).1 (An (abt ap).2.1 (An (abt ap).2.2.1 (An (abt ap).2.2.2.1 (An (abt ap).2.2.2.2.1 (An (abt ap).2.2.2.2.2.1 (An (abt ap).2.2.2.2.2.2.1 (An (aby Q5 (adz (okl (abt ap).2.2.2.2.2.2.2.1).2 (show ok n (((a0n e2).1):aX)from aq.1))) (An (abt ap).2.2.2.2.2.2.2.2.1 (abt ap).2.2.2.2.2.2.2.2.2))))))))),Q5,Q0,(by first|assumption|(dsimp only;assumption)|exact (ajn (by first|omega|(dsimp only at*;omega)) (akp (ae3.get Q12 Q12))).nod Q12),(by rw [b3];rw [a4v];simp only [(show i2<=w_.aE.length by omega),au,ay,b2,bk,↓reduceIte,Bool.false_eq_true])⟩ Q1 [10,11,12,13,14,15,16,17,18,19]
 have ba:=b3.trans (show _=(i2,a6) by rw [a4v];simp only [(show i2<=w_.aE.length by omega),au,↓reduceIte]);rw [show a4d w_=(true,a6) by simp only [a4d,h1,b7,ba,cC]];exact yY [10,11,12,13,14,15,16,17,18,19] (nT a2 a3 af ag aa a9 a5 a4 a1 a0 ad ae am ak a8 a7 ah ai al ac) ap
theorem f164 (hn:n+0<=9){H:GH}(hH:Le H (hp w))(bw_:Nat)(w_:aD)(K0:OA)(M0:Nat)(K1:OA)(M1:Nat)(K2:OA)(M2:Nat)(K3:OA)(M3:Nat)(K4:OA)(M4:Nat)(K5:OA)(M5:Nat)(K6:OA)(M6:Nat)(K7:OA)(M7:Nat)(K8:OA)(M8:Nat)(K9:OA)(M9:Nat){i:Int}(hown:Sep H (bN bw_ w_ (nT K0 M0 K1 M1 K2 M2 K3 M3 K4 M4 K5 M5 K6 M6 K7 M7 K8 M8 K9 M9)))(hq0:0<=i/\i<w_.aL.length)(a0:ok n w_)(a5:ok n i):
 Does Tryz.prog 164 #[.pointer (some ⟨bw_,0,none⟩),vI i] w H (Post w H (λx:GoT.X (aZ×aD)=> .agg ⟨GoT.sh ((a04 w_ i).1:aZ) x.1⟩) (λx=>MF.bx bw_ 39 (GoT.sh ((a04 w_ i).2:aD) (x.2))::GoT.oa (((a04 w_ i).1,(a04 w_ i).2):aZ×aD) x) (ok n ((a04 w_ i).1:aZ)/\ok n ((a04 w_ i).2:aD))):=by
 have hb:=bS0 hn;refine EP 10 Tryz.func164 Z J Z ac8 hH hown ?_;have r1:=i8 a5;refine R0 ?_;refine SI 10 ?_;refine zN (kk:=12) 501 18 20 λaa af=>?_;have a7:i.toNat<w_.aL.length:=Q4;refine zR 501 _ a7 ?_;rintro ad rfl;obtain ⟨e1,a8,a9,ab⟩:=gO (abt a0).2.2.2.2.2.2.1 i.toNat;refine zO 501 20 21 _ a8 ?_;rintro A1 B1 ⟨_,_,_,⟨⟨p1,c1⟩,_⟩,⟨⟨p2,c2⟩,⟨p3,c3⟩,⟨p4,c4⟩,_⟩⟩ a4 ae;refine zA 501 a4 a7 ?_;refine R0 ?_;refine WX.cap 501 Z λa2=>?_
 refine WX.know (λG hΓ=>(hΓ.get 29 Z:OwL _ _ _).rd.one) λa3=>?_;refine WX.know (λG hΓ=>(hΓ.get 30 Z:OwL _ _ _).rd.one) λa6=>?_;have a1:=att (C:=[.int .i64 (e1.to),.int .i64 (e1.face),.bool e1.cI,.slice p1 (e1.bT.name.parts.length) c1,.int .i64 (e1.bT.bI),.int .i64 (e1.bT.cM),.int .i64 (e1.bT.cD),.slice p2 (e1.data.name.parts.length) c2,.slice p3 (e1.data.content.length) c3,.slice p4 (e1.data.aR.parts.length) c4,.int .i64 (e1.data.bL),.int .i64 (e1.data.cF)]) a3 rfl a6
 refine zW 31 10 ?_;refine zW 32 11 ?_;refine zW 33 12 ?_;refine zW 34 13 ?_;refine zW 35 14 ?_;refine zW 36 15 ?_;refine zW 37 16 ?_;refine zW 38 17 ?_;refine zW 39 19 ?_;refine WX.draw [16,19] mixed λbs G0 ac=>?_;refine dT 14 [1,5,7,9,10,13] ?_;have r2:=(okl (abt a0).2.2.2.2.2.2.1).1;refine DX.seeP 7 J Z Z Z Z (adg (Int.toNat i) ttOk Z Z Z Z (show i=(((Int.toNat i):Nat):Int)from Q0) (Nat.le_trans Q0 a2)) ?_;refine dT 8 [19,21,23,24,27] ?_
 refine DX.seeP 14 J Z Z Z Z (ad7 Z Z Z Z Q6) ?_;refine DX.seeP 15 J Z Z Z Z (aea (Int.toNat (i+1)) ttOk Z Z Z Z Q0 (show (Int.toNat (i+1))<=w_.aL.length from Q0)) ?_;refine DX.toTX λS_=>?_;refine TX.all1 1 J ?_;refine TS.op 1 Z J ?_;refine zB λp5=>?_;refine R0 ?_;refine WX.back0 ?_;refine TX.all1 8 J ?_
 refine TS.opK 8 Z (an0 14 501 (Int.toNat i) ((List.take (Int.toNat i) w_.aL):List aZ).length ttOk Z Z Z Z Z Z Z Z Z a1 Q0 (by have z_:=(show (Int.toNat i)<=w_.aL.length from Q0);first|(simp;done)|(simp;omega)) Q3 Q3 Z) ?_;refine F0 40 aZ ?_
 refine WX.appPre 14 501 (Int.toNat i) ((List.take (Int.toNat i) w_.aL):List aZ).length ttOk Z Z Z Z Z Z Z Z Z Z Z Z Z a1 (show (Int.toNat i)<=w_.aL.length from Q0) (by have z_:=(show (Int.toNat i)<=w_.aL.length from Q0);first|(simp;done)|(simp only [List.length_take];omega)|(simp;omega)) Q3 Q3 (λ_ _=>Z) λp6 c5=>?_
 refine WX.turn [29] 41 Z (λh hs=>aq5 (α:=aZ) a4 (by first|rfl|omega) hs) (gs:=[MF.ol (List.take ((Int.toNat i)*12) (A1++[.int .i64 (e1.to),.int .i64 (e1.face),.bool e1.cI,.slice p1 (e1.bT.name.parts.length) c1,.int .i64 (e1.bT.bI),.int .i64 (e1.bT.cM),.int .i64 (e1.bT.cD),.slice p2 (e1.data.name.parts.length) c2,.slice p3 (e1.data.content.length) c3,.slice p4 (e1.data.aR.parts.length) c4,.int .i64 (e1.data.bL),.int .i64 (e1.data.cF)]++B1)) (List.take (Int.toNat i) w_.aL)]) Z ?_
 refine zV [40,41] 42 ?_;refine R0 ?_;refine WX.back0 ?_;refine TX.all1 16 J ?_;refine TS.op 16 Z J ?_
 refine WX.appSuf 14 501 (Int.toNat (i+1)) (((List.take (Int.toNat i) w_.aL)++(List.drop (Int.toNat (i+1)) w_.aL)):List aZ).length ttOk Z Z Z Z Z Z Z Z Z Z Z Z Z a1 (show (Int.toNat (i+1))<=w_.aL.length from Q0) (by have z_:=(show (Int.toNat (i+1))<=w_.aL.length from Q0);first|(simp;done)|(simp only [List.length_append,List.length_cons,List.length_nil,List.length_take,List.length_drop,List.length_set];omega)|(simp;omega)) Q3 Q3 (λ_ _=>Z) λp7 c6=>?_
 refine WX.turn [30] 43 Z (λh hs=>apw (α:=aZ) a4 Z (by first|rfl|omega) hs) (gs:=[MF.ol (List.drop ((Int.toNat (i+1))*12) (A1++[.int .i64 (e1.to),.int .i64 (e1.face),.bool e1.cI,.slice p1 (e1.bT.name.parts.length) c1,.int .i64 (e1.bT.bI),.int .i64 (e1.bT.cM),.int .i64 (e1.bT.cD),.slice p2 (e1.data.name.parts.length) c2,.slice p3 (e1.data.content.length) c3,.slice p4 (e1.data.aR.parts.length) c4,.int .i64 (e1.data.bL),.int .i64 (e1.data.cF)]++B1)) (List.drop (Int.toNat (i+1)) w_.aL)]) Z ?_
 refine zV [42,43] 44 ?_;refine R0 ?_;refine WX.back0 ?_;refine TX.all1 17 J ?_;refine TS.opK 17 Z (adp ttOk Z) ?_;refine R0 ?_;refine WX.back0 ?_;refine TX.all1 18 J ?_;refine TS.opK 18 Z (adp ttOk Z) ?_;refine R0 ?_;refine WX.back0 ?_;refine TX.tail [19] Z Z J ?_;refine yE 14 44 45 ?_;rw [show a04 w_ i=(e1,aD.mk w_.aG w_.aF w_.aM w_.aI w_.aY w_.aU ((List.take (Int.toNat i) w_.aL)++(List.drop (Int.toNat (i+1)) w_.aL)) w_.aE w_.now w_.aP) by simp only [a04,a8]]
 exact zY [25,26,27,28,10,11,12,13,14,15,16,17,46,19] (((),(),(),((p1,c1),(),(),()),((p2,c2),(p3,c3),(p4,c4),(),())),(nT K0 M0 K1 M1 K2 M2 K3 M3 K4 M4 K5 M5 K6 M6 K7 M7 p7 c6 K9 M9)) (⟨a9,(An a0.1 (An a0.2.1 (An a0.2.2.1 (An a0.2.2.2.1 (An a0.2.2.2.2.1 (An a0.2.2.2.2.2.1 (An (aby Q3 (ac2 (λa ha=>(okl (abt a0).2.2.2.2.2.2.1).2 a (List.mem_of_mem_take ha)) (λa ha=>(okl (abt a0).2.2.2.2.2.2.1).2 a (List.mem_of_mem_drop ha)))) (An a0.2.2.2.2.2.2.2.1 (An a0.2.2.2.2.2.2.2.2.1 a0.2.2.2.2.2.2.2.2.2)))))))))⟩)
theorem f163 (hn:n+7<=9){H:GH}(hH:Le H (hp w))(bw_:Nat)(w_:aD)(K0:OA)(M0:Nat)(K1:OA)(M1:Nat)(K2:OA)(M2:Nat)(K3:OA)(M3:Nat)(K4:OA)(M4:Nat)(K5:OA)(M5:Nat)(K6:OA)(M6:Nat)(K7:OA)(M7:Nat)(K8:OA)(M8:Nat)(K9:OA)(M9:Nat){i:Int}(hown:Sep H (bN bw_ w_ (nT K0 M0 K1 M1 K2 M2 K3 M3 K4 M4 K5 M5 K6 M6 K7 M7 K8 M8 K9 M9)))(hq0:0<=i/\i<w_.aL.length)(a0:ae3 w_.aI)(a3:ok n w_)(a1:ok n i):
 Does Tryz.prog 163 #[.pointer (some ⟨bw_,0,none⟩),vI i] w H (Post w H (λx:GoT.X (aD)=> .tuple #[]) (bN bw_ (a4w w_ i)) (ok n ((a4w w_ i):aD))):=by
 refine EP (Γ:=[]) 10 Tryz.func163 Z J Z ac8 hH hown ?_;refine R0 ?_
 refine WX.callPM (cs':=λx_:GoT.X (aZ×aD)=>[.int .i64 ((a04 w_ i).2.aG.size),.slice x_.2.1.2.1 ((a04 w_ i).2.aG.links).length x_.2.1.2.2,.slice x_.2.2.1.1.1 ((a04 w_ i).2.aF.keys).length x_.2.2.1.1.2,.slice x_.2.2.1.2.1.1 ((a04 w_ i).2.aF.bR).length x_.2.2.1.2.1.2,.slice x_.2.2.1.2.2.1.1 ((a04 w_ i).2.aF.bV).length x_.2.2.1.2.2.1.2,.slice x_.2.2.1.2.2.2.1 ((a04 w_ i).2.aF.bW).length x_.2.2.1.2.2.2.2,.slice x_.2.2.2.1.1 ((a04 w_ i).2.aM).length x_.2.2.2.1.2,.slice x_.2.2.2.2.1.1 ((a04 w_ i).2.aI).length x_.2.2.2.2.1.2,.int .i64 ((a04 w_ i).2.aY),.slice x_.2.2.2.2.2.2.1.1 ((a04 w_ i).2.aU).length x_.2.2.2.2.2.2.1.2,.slice x_.2.2.2.2.2.2.2.1.1 ((a04 w_ i).2.aL).length x_.2.2.2.2.2.2.2.1.2,.slice x_.2.2.2.2.2.2.2.2.1.1 ((a04 w_ i).2.aE).length x_.2.2.2.2.2.2.2.2.1.2,.int .i64 ((a04 w_ i).2.now),.int .i64 ((a04 w_ i).2.aP)]) (ds:=λx_=>GoT.fa .der (((a04 w_ i).1,(a04 w_ i).2):aZ×aD) x_) 999 [10,11,12,13,14,15,16,17,18,19] 20 Z Z (λ_ _ h=>GoT.ow_rd h) (λ_ f hf=>GoT.fak f hf) Z Z Z Z Z O Z (λw G bs H hI hH hs hΓ=>f164 n Q0 hH (bs 999) w_ K0 M0 K1 M1 K2 M2 K3 M3 K4 M4 K5 M5 K6 M6 K7 M7 K8 M8 K9 M9 hs Q4 a3 a1) O O ?_
 rintro ⟨⟨_,_,_,⟨⟨p1,c1⟩,_⟩,⟨⟨p2,c2⟩,⟨p3,c3⟩,⟨p4,c4⟩,_⟩⟩,⟨⟨_,p5,c5⟩,⟨⟨p6,c6⟩,⟨p7,c7⟩,⟨p8,c8⟩,p9,c9⟩,⟨aa,ao⟩,⟨br,aq⟩,_,⟨a9,ac⟩,⟨aw,ap⟩,⟨ai,an⟩,_⟩⟩ a0;dsimp only
 have q1:=ala (w:=w_) (i:=i) Q4 (by first|assumption|exact (by assumption:NetC w_).1);refine yD [] λbs G0 a2=>?_;refine dT 3 [1,3,4,7,8] ?_;refine DXV 5 Z J Z O (λw Y=>f71 n Q0 ((a04 w_ i).2) (Y.q 24 Z) (Y.q 25 Z) (Y.q 26 Z) (Y.q 27 Z) (Y.q 28 Z) (Y.q 29 Z) (Y.q 30 Z) (Y.q 31 Z) (Y.q 32 Z) (Y.q 33 Z) a0.2 ((acf a0.1).1)) λcb=>?_;refine dT 0 [13,15] ?_;refine DX.tail2 [] Z Z J ?_;refine yKN 33 ?_ ?_<;>intro h1 cc;refine SW ?_
 have a4:a4w w_ i=(aD.mk ((a04 w_ i).2.aG) ((a04 w_ i).2.aF) ((a04 w_ i).2.aM) ((a04 w_ i).2.aI) ((a04 w_ i).2.aY) ((a04 w_ i).2.aU) ((a04 w_ i).2.aL) ((a04 w_ i).2.aE) ((a04 w_ i).2.now) (i64.wrap (((a04 w_ i).2.aP)+1))):=by simp only [a4w,h1,cC]
 refine R0 ?_;refine WX.fin ttOk Z λw1 G bs hI hΓ=>?_;rw [a4];exact Post.ofL 999 [38,39,40,41,42,43,44,45,46,47] (nT p5 c5 p6 c6 p7 c7 p8 c8 p9 c9 aa ao br aq a9 ac aw ap ai an) hI hΓ Z Z Z (by rw [hI.pin _ rfl];first|done|rfl) (An (abt a0.2).1 (An (abt a0.2).2.1 (An (abt a0.2).2.2.1 (An (abt a0.2).2.2.2.1 (An (abt a0.2).2.2.2.2.1 (An (abt a0.2).2.2.2.2.2.1 (An (abt a0.2).2.2.2.2.2.2.1 (An (abt a0.2).2.2.2.2.2.2.2.1 (An (abt a0.2).2.2.2.2.2.2.2.2.1 (ad0 _))))))))))
 have cd:=akr (by first|assumption|exact hNC.1|(dsimp only;assumption)) (B.nf h1);refine yKA 49 ?_ ?_<;>intro h2;refine yD [20] λbs G0 a2=>?_;refine dT 12 [1,3,4,7,9,11,12,15,16] ?_;have r2:=i8 ((acf a0.1).1);refine DI 60 ?_;obtain ⟨e1,az,a7,bq⟩:=gO (abt a0.2).2.2.2.1 (((a04 w_ i).1.to).toNat);refine zDI 9 30 (((a04 w_ i).1.to).toNat) a2 Z bq ?_;rintro a8 rfl;refine zDL 10 30 48 e1 a2 az ?_;rintro ⟨⟨bp,bn⟩,⟨_,ca,bo⟩,⟨bv,bl⟩,⟨bw,bu⟩,⟨c0,bt⟩,⟨bm,bx⟩,_⟩
 refine dT 2 [23,24,27,28,31,33,35,36] ?_;refine DXF 19 54 Z J Z O (λw Y=>f199 n Q0 e1 (Y.q 48 Z) (Y.q 49 Z) (Y.q 50 Z) (Y.q 51 Z) (Y.q 52 Z) (Y.q 53 Z) ((a04 w_ i).1.bT) (Y.q 20 Z) (by exact ae3.get Q12 Q12) a7 ((acf a0.1).2.1) ((acf a0.1).2.2.2.1) ((abt a0.2).2.2.2.2.2.2.2.2.1)) ?_;rintro ⟨⟨⟨ah,a5⟩,⟨_,ae,aj⟩,⟨ab,ak⟩,⟨ar,a6⟩,⟨ad,am⟩,⟨al,au⟩,_⟩,ag,av⟩ af;dsimp only
 refine DX.tail2 [20] Z Z J ?_
 refine CU (a34 ((a04 w_ i).2) ((a04 w_ i).1.to) (a10 e1 ((a04 w_ i).1.face) ((a04 w_ i).1.bT) ((a04 w_ i).2.now))) 999 [38,39,40,41,42,43,44,45,46,47,61,62,63,64,65,66,67] 68 Z Z Z Z Z Z Z O Z (λw β H η σ Y=>f198 n Q0 η (β 999) ((a04 w_ i).2) p5 c5 p6 c6 p7 c7 p8 c8 p9 c9 aa ao (some a8) aq a9 ac aw ap ai an (a10 e1 ((a04 w_ i).1.face) ((a04 w_ i).1.bT) ((a04 w_ i).2.now)) ah a5 ae aj ab ak ar a6 ad am al au ag av σ Q15 a0.2 ((acf a0.1).1) af) O ?_
 rintro ⟨⟨_,b8,bg⟩,⟨⟨b3,b5⟩,⟨bb,bh⟩,⟨bk,b2⟩,b9,b4⟩,⟨bc,ay⟩,⟨bf,bi⟩,_,⟨b6,b7⟩,⟨bj,ba⟩,⟨b0,be⟩,_⟩ ax;dsimp only
 have q2:=arr (w:=((a04 w_ i).2)) (k:=((a04 w_ i).1.to)) (a:=(a10 e1 ((a04 w_ i).1.face) ((a04 w_ i).1.bT) ((a04 w_ i).2.now))) Q15;try simp only [List.length_set]at q2
 have a4:a4w w_ i=(a34 ((a04 w_ i).2) ((a04 w_ i).1.to) (a10 e1 ((a04 w_ i).1.face) ((a04 w_ i).1.bT) ((a04 w_ i).2.now))):=by simp only [a4w,h1,h2,az,cC]
 rotate_left;refine yD [24] λbs G0 a2=>?_;refine dT 16 [1,3,4,7,9,11,12,15,16] ?_;have r2:=i8 ((acf a0.1).1);refine DI 16 ?_;obtain ⟨e2,b1,a7,bz⟩:=gO (abt a0.2).2.2.2.1 (((a04 w_ i).1.to).toNat);refine zDI 9 30 (((a04 w_ i).1.to).toNat) a2 Z bz ?_;rintro a8 rfl;refine zDL 10 30 48 e2 a2 b1 ?_;rintro ⟨⟨bp,bn⟩,⟨_,ca,bo⟩,⟨bv,bl⟩,⟨bw,bu⟩,⟨c0,bt⟩,⟨bm,bx⟩,_⟩;refine dT 2 [23,25,27,28,31,32,35,36,39,41,43,44] ?_
 refine DXF 23 54 Z J Z O (λw Y=>f200 n Q0 e2 (Y.q 48 Z) (Y.q 49 Z) (Y.q 50 Z) (Y.q 51 Z) (Y.q 52 Z) (Y.q 53 Z) ((a04 w_ i).2.aF) (Y.q 25 Z) (Y.q 26 Z) (Y.q 27 Z) (Y.q 28 Z) ((a04 w_ i).1.data) (Y.q 21 Z) (Y.q 22 Z) (Y.q 23 Z) (by exact ae3.get Q12 Q12) a7 ((abt a0.2).2.1) ((acf a0.1).2.1) ((acf a0.1).2.2.2.2) ((abt a0.2).2.2.2.2.2.2.2.2.1)) ?_;rintro ⟨⟨⟨ah,a5⟩,⟨_,ae,aj⟩,⟨ab,ak⟩,⟨ar,a6⟩,⟨ad,am⟩,⟨al,au⟩,_⟩,ag,av⟩ af;dsimp only
 refine DX.tail2 [24] Z Z J ?_
 refine CU (a34 ((a04 w_ i).2) ((a04 w_ i).1.to) (a33 e2 ((a04 w_ i).2.aF) ((a04 w_ i).1.face) ((a04 w_ i).1.data) ((a04 w_ i).2.now))) 999 [38,39,40,41,42,43,44,45,46,47,61,62,63,64,65,66,67] 68 Z Z Z Z Z Z Z O Z (λw β H η σ Y=>f198 n Q0 η (β 999) ((a04 w_ i).2) p5 c5 p6 c6 p7 c7 p8 c8 p9 c9 aa ao (some a8) aq a9 ac aw ap ai an (a33 e2 ((a04 w_ i).2.aF) ((a04 w_ i).1.face) ((a04 w_ i).1.data) ((a04 w_ i).2.now)) ah a5 ae aj ab ak ar a6 ad am al au ag av σ Q15 a0.2 ((acf a0.1).1) af) O ?_
 rintro ⟨⟨_,b8,bg⟩,⟨⟨b3,b5⟩,⟨bb,bh⟩,⟨bk,b2⟩,b9,b4⟩,⟨bc,ay⟩,⟨bf,bi⟩,_,⟨b6,b7⟩,⟨bj,ba⟩,⟨b0,be⟩,_⟩ ax;dsimp only
 have q2:=arr (w:=((a04 w_ i).2)) (k:=((a04 w_ i).1.to)) (a:=(a33 e2 ((a04 w_ i).2.aF) ((a04 w_ i).1.face) ((a04 w_ i).1.data) ((a04 w_ i).2.now))) Q15;try simp only [List.length_set]at q2
 have a4:a4w w_ i=(a34 ((a04 w_ i).2) ((a04 w_ i).1.to) (a33 e2 ((a04 w_ i).2.aF) ((a04 w_ i).1.face) ((a04 w_ i).1.data) ((a04 w_ i).2.now))):=by simp only [a4w,h1,h2,b1,cC]
 rotate_left
 all_goals
  refine R0 ?_;refine WX.fin ttOk Z λw1 G bs hI hΓ=>?_;rw [a4];exact Post.ofL 999 [78,79,80,81,82,83,84,85,86,87] (nT b8 bg b3 b5 bb bh bk b2 b9 b4 bc ay bf bi b6 b7 bj ba b0 be) hI hΓ Z Z Z (by rw [hI.pin _ rfl];first|done|rfl) ax
theorem f165 (hn:n+0<=9){H:GH}(hH:Le H (hp w))(bw_:Nat)(w_:aD)(K0:OA)(M0:Nat)(K1:OA)(M1:Nat)(K2:OA)(M2:Nat)(K3:OA)(M3:Nat)(K4:OA)(M4:Nat)(K5:OA)(M5:Nat)(K6:OA)(M6:Nat)(K7:OA)(M7:Nat)(K8:OA)(M8:Nat)(K9:OA)(M9:Nat){i:Int}{dead:Bool}(hown:Sep H (bN bw_ w_ (nT K0 M0 K1 M1 K2 M2 K3 M3 K4 M4 K5 M5 K6 M6 K7 M7 K8 M8 K9 M9)))(a0:ok n w_)(a7:ok n i):
 Does Tryz.prog 165 #[.pointer (some ⟨bw_,0,none⟩),vI i,.bool dead] w H (Post w H (λx:GoT.X (aD)=> .bool ((a2c w_ i dead).1)) (bN bw_ (a2c w_ i dead).2) (ok n ((a2c w_ i dead).2:aD))):=by
 have hb:=bS0 hn;refine EP 10 Tryz.func165 Z J Z ac8 hH hown ?_;refine zW 20 17 ?_;refine KV Z Z O (λw Y=>f170 n Q0 (Y.q 20 Z) ((abt a0).2.2.2.2.2.1) a7) λaj=>?_;refine KS Z Z Z Z (λ_ hΓ=>ahd ttOk Z Z Z Z Z Z) ?_;refine yKA 17 ?_ ?_<;>intro h1;rw [show a2c w_ i dead=(false,w_) by simp only [a2c,h1,cC]];exact yY [10,11,12,13,14,15,16,17,18,19] _ a0;have r1:=(okl (acm (abt a0).1).2).1;refine SA ?_
 refine CV Z O (λw Y=>f120 n Q0 a7 (i6 0) (i6 ((w_.aG.links.length:Int)-1))) λab=>?_;refine yKN 28 ?_ ?_<;>(intro h2 ad;try dsimp only at ad);rw [show a2c w_ i dead=(false,w_) by simp only [a2c,h1,h2,cC]];exact yY [10,11,12,13,14,15,16,17,18,19] _ a0;have ai:=ad8 (B.nf h2);refine yB λp1=>?_;refine F0 21 Int ?_
 refine LM Z (p1,0,[],[],0) (λ|(a3,a4,a1,a2,i2)=>((i2<=w_.aG.links.length)/\JE n a2/\(a2.length<=i2)/\(a39 w_ i dead w_.aG.links 0 []=a39 w_ i dead (w_.aG.links.drop i2) i2 a2),w_.aG.links.length-i2,[(7,.v (vS a3 a2 a4)),(8,.v (vI i2))],[],[(29,⟨1,a3,a2.length,a4,a1⟩)],[(21,MF.ol a1 a2)])) ⟨zl,nA,Q10,Z⟩ [0,1,2] [999] [10,11,12,13,14,15,16,17,18,19] [10,11,12,13,14,15,16,17,18,19,21] ?_;rintro ⟨a3,a4,a1,a2,i2⟩ ⟨v1,v2,v3,v4⟩
 refine yKD 37 ?_ ?_<;>(intro h3 ac;try dsimp only at ac);obtain ⟨e1,a5,ae,af⟩:=gO (acm (abt a0).1).2 i2;refine zW 22 17 ?_;refine KV Z Z O (λw Y=>f170 n Q0 (Y.q 22 Z) ((abt a0).2.2.2.2.2.1) (i6 ((i2:Nat):Int))) λah=>?_
 ·skip
  refine yKA 46 ?_ ?_<;>intro h4;refine yKA 51 ?_ ?_<;>intro h5;have aa:=B.nt' h5;refine yB λp2=>?_;refine zT (α:=Int) [] 23 ((i2:Nat):Int) () λa6=>?_;refine zP 29 61 ((a2++[((i2:Nat):Int)]):List Int).length a6 λp3 c1=>?_;refine zV [21,23] 24 ?_;refine SA ?_;refine zU [24] 21 ?_
  exact ITr Z (p3,c1,_,(a2++[((i2:Nat):Int)]),i2+1) ⟨Q0,(ac2 v2 (all_cons (i6 (i2:Nat)) nA)),Q3,(by rw [v4,abu a5];simp only [a39,h4,h5,cC])⟩ Q1 [10,11,12,13,14,15,16,17,18,19,21];have aa:=B.nf' h5;refine yKA 53 ?_ ?_<;>intro h6;refine yKE 58 ?_ ?_<;>(intro h7 ag;try dsimp only at ag);refine yB λp2=>?_;refine zT (α:=Int) [] 23 ((i2:Nat):Int) () λa6=>?_
  refine zP 29 61 ((a2++[((i2:Nat):Int)]):List Int).length a6 λp3 c1=>?_;refine zV [21,23] 24 ?_;refine SA ?_;refine zU [24] 21 ?_;exact ITr Z (p3,c1,_,(a2++[((i2:Nat):Int)]),i2+1) ⟨Q0,(ac2 v2 (all_cons (i6 (i2:Nat)) nA)),Q3,(by rw [v4,abu a5];simp only [a39,h4,h5,h6,h7,cC])⟩ Q1 [10,11,12,13,14,15,16,17,18,19,21];refine SA ?_
  exact ITr Z (a3,a4,a1,a2,i2+1) ⟨Q0,v2,Q3,(by rw [v4,abu a5];simp only [a39,h4,h5,h6,h7,cC])⟩ Q1 [10,11,12,13,14,15,16,17,18,19,21];rotate_left;refine yKA 53 ?_ ?_<;>intro h5;refine yKA 58 ?_ ?_<;>intro h6;have a9:=B.et h6;refine yB λp2=>?_;refine zT (α:=Int) [] 23 ((i2:Nat):Int) () λa6=>?_;refine zP 29 61 ((a2++[((i2:Nat):Int)]):List Int).length a6 λp3 c1=>?_;refine zV [21,23] 24 ?_;refine SA ?_
  refine zU [24] 21 ?_;exact ITr Z (p3,c1,_,(a2++[((i2:Nat):Int)]),i2+1) ⟨Q0,(ac2 v2 (all_cons (i6 (i2:Nat)) nA)),Q3,(by rw [v4,abu a5];simp only [a39,h4,h5,h6,cC])⟩ Q1 [10,11,12,13,14,15,16,17,18,19,21];have a9:=B.ef h6;rotate_left;refine SA ?_
  exact ITr Z (a3,a4,a1,a2,i2+1) ⟨Q0,v2,Q3,(by rw [v4,abu a5];simp only [a39,h4,h5,cC])⟩ Q1 [10,11,12,13,14,15,16,17,18,19,21]
  all_goals
   refine SA ?_;exact ITr Z (a3,a4,a1,a2,i2+1) ⟨Q0,v2,Q3,(by rw [v4,abu a5];simp only [a39,h4,h5,h6,cC])⟩ Q1 [10,11,12,13,14,15,16,17,18,19,21]
 have a8:=v4.trans (show _=(a2:List Int) by rw [dn];simp only [a39];omega);refine yE 29 21 34 ?_;rw [show a2c w_ i dead=(true,aD.mk w_.aG w_.aF w_.aM w_.aI w_.aY a2 w_.aL w_.aE w_.now w_.aP) by simp only [a2c,h1,h2,a8,cC]]
 exact zY [10,11,12,13,14,15,16,35,18,19] (nT K0 M0 K1 M1 K2 M2 K3 M3 K4 M4 K5 M5 K6 M6 a3 a4 K8 M8 K9 M9) (An a0.1 (An a0.2.1 (An a0.2.2.1 (An a0.2.2.2.1 (An a0.2.2.2.2.1 (An (aby Q0 v2) (An a0.2.2.2.2.2.2.1 (An a0.2.2.2.2.2.2.2.1 (An a0.2.2.2.2.2.2.2.2.1 a0.2.2.2.2.2.2.2.2.2)))))))))
theorem f166 (hn:n+0<=9){H:GH}(hH:Le H (hp w))(bw_:Nat)(w_:aD)(K0:OA)(M0:Nat)(K1:OA)(M1:Nat)(K2:OA)(M2:Nat)(K3:OA)(M3:Nat)(K4:OA)(M4:Nat)(K5:OA)(M5:Nat)(K6:OA)(M6:Nat)(K7:OA)(M7:Nat)(K8:OA)(M8:Nat)(K9:OA)(M9:Nat){k:Int}{up:Bool}(hown:Sep H (bN bw_ w_ (nT K0 M0 K1 M1 K2 M2 K3 M3 K4 M4 K5 M5 K6 M6 K7 M7 K8 M8 K9 M9)))(a0:ok n w_)(a1:ok n k):
 Does Tryz.prog 166 #[.pointer (some ⟨bw_,0,none⟩),vI k,.bool up] w H (Post w H (λx:GoT.X (aD)=> .bool ((a1p w_ k up).1)) (bN bw_ (a1p w_ k up).2) (ok n ((a1p w_ k up).2:aD))):=by
 have hb:=bS0 hn;refine EP 10 Tryz.func166 Z J Z ac8 hH hown ?_;have r1:=(okl (abt a0).2.2.2.1).1;refine SA ?_;refine CV Z O (λw Y=>f120 n Q0 a1 (i6 0) (i6 ((w_.aI.length:Int)-1))) λal=>?_;refine yKN 17 ?_ ?_<;>intro h1 am;rw [show a1p w_ k up=(false,w_) by simp only [a1p,h1,cC]];exact yY [10,11,12,13,14,15,16,17,18,19] _ a0;have aj:=ad8 (B.nf h1);refine zW 20 10 ?_;refine zW 21 11 ?_;refine zW 22 12 ?_;refine zW 23 13 ?_
 refine zW 24 14 ?_;refine zW 25 15 ?_;refine zW 26 16 ?_;refine zW 27 17 ?_;refine zW 28 18 ?_;refine zW 29 19 ?_;refine KV Z Z O (λw Y=>f71 n Q0 w_ (Y.q 20 Z) (Y.q 21 Z) (Y.q 22 Z) (Y.q 23 Z) (Y.q 24 Z) (Y.q 25 Z) (Y.q 26 Z) (Y.q 27 Z) (Y.q 28 Z) (Y.q 29 Z) a0 a1) λah=>?_;refine KS Z Z Z Z (λ_ hΓ=>ahd ttOk Z Z Z Z Z Z) ?_;refine yKA 25 ?_ ?_<;>intro h2;rw [show a1p w_ k up=(false,w_) by simp only [a1p,h1,h2,cC]];exact yY [10,11,12,13,14,15,16,17,18,19] _ a0
 refine yKA 26 ?_ ?_<;>intro h3;refine yD [10] λbs G0 a6=>?_;refine dT 5 [1,3,5,7,8,11] ?_;have r2:=i8 a1;refine DX.see 6 J Z Z Z Z (ams Z Z Z Q0) ?_;refine DX.see 7 J Z Z Z Z (aei Z Z Z Z) ?_;refine dT 1 [17,19] ?_;refine DX.tail2 [10] Z Z J ?_
 rw [show a1p w_ k up=(true,aD.mk w_.aG w_.aF w_.aM w_.aI (bitO .andNot w_.aY (i64.wrap (1*2^ (min (Int.toNat k) 64)))) w_.aU w_.aL w_.aE w_.now w_.aP) by first|(simp only [a1p,h1,h3,cC];done)|(unfold a1p;rw [h1,h2,h3];simp only [cC])]
 exact yY [10,11,12,13,14,15,16,17,18,19] _ (An a0.1 (An a0.2.1 (An a0.2.2.1 (An a0.2.2.2.1 (An (show I64 (bitO .andNot w_.aY (i64.wrap (1*2^ (min (Int.toNat k) 64))))from aiy _ _ _) (An a0.2.2.2.2.2.1 (An a0.2.2.2.2.2.2.1 (An a0.2.2.2.2.2.2.2.1 (An a0.2.2.2.2.2.2.2.2.1 a0.2.2.2.2.2.2.2.2.2)))))))));have r2:=i8 a1;refine R0 ?_;refine SI 41 ?_
 refine zN (kk:=8) 501 16 30 λai ao=>?_;have a4:k.toNat<w_.aI.length:=Q4;refine zR 501 _ a4 ?_;rintro af rfl;obtain ⟨e1,a2,ab,ac⟩:=gO (abt a0).2.2.2.1 k.toNat;refine zO 501 30 31 _ a2 ?_;rintro A1 B1 ⟨⟨p1,c1⟩,⟨_,p2,c2⟩,⟨p3,c3⟩,⟨p4,c4⟩,⟨p5,c5⟩,⟨p6,c6⟩,_⟩ a3 an;refine zA 501 a3 a4 ?_;refine CF 45 Z O (λw Y=>f201 n Q0 e1 (Y.q 31 Z) (Y.q 32 Z) (Y.q 33 Z) (Y.q 34 Z) (Y.q 35 Z) (Y.q 36 Z) ab) ?_;rintro ⟨⟨p7,c7⟩,⟨_,p8,c8⟩,⟨p9,c9⟩,⟨a9,ad⟩,⟨ae,a8⟩,⟨a7,aa⟩,_⟩ ag
 dsimp only
 refine zW 57 10 ?_;refine zW 58 11 ?_;refine zW 59 12 ?_;refine zW 60 13 ?_;refine zW 61 14 ?_;refine zW 62 15 ?_;refine zW 63 17 ?_;refine zW 64 18 ?_;refine zW 65 19 ?_;refine yD [6,7] λbs G0 a6=>?_;refine dT 2 [1,3,5,6,9,10] ?_;refine DX.tail2 [6,7] Z Z J ?_;refine SI 49 ?_;have a5:k.toNat<w_.aI.length:=Q4;refine zR 501 _ a5 ?_;rintro ak ⟨⟩;refine zS 501 a3 a5 ?_;refine yD [10] λbs G0 a6=>?_;refine dT 5 [1,3,5,7,8,11] ?_;refine DX.see 6 J Z Z Z Z (ams Z Z Z Q0) ?_
 refine DX.see 7 J Z Z Z Z (aei Z Z Z Z) ?_;refine dT 1 [17,19] ?_;refine DX.tail2 [10] Z Z J ?_;refine R0 ?_;refine WX.turn [51,52,53,54,55,56,43,44] 66 Z (λh hs=>ae8 (e:=(a4c e1)) (x:=((p7,c7),((),(p8,c8)),(p9,c9),(a9,ad),(ae,a8),(a7,aa),())) ac hs) Z ?_;refine zE 501 66 67 (hn:=(by first|(simp;done)|(simp;omega))) ?_;refine WX.lsl 999 7 (w_.aI.set (k.toNat) (a4c e1)).length Z Q14 ?_
 refine SL 48 (w_.aI.set (k.toNat) (a4c e1)).length ?_;refine SL 40 (w_.aI.set (k.toNat) (a4c e1)).length ?_;refine SL 12 (w_.aI.set (k.toNat) (a4c e1)).length ?_
 rw [show a1p w_ k up=(true,aD.mk w_.aG w_.aF w_.aM (w_.aI.set (k.toNat) (a4c e1)) (bitO .or w_.aY (i64.wrap (1*2^ (min (Int.toNat k) 64)))) w_.aU w_.aL w_.aE w_.now w_.aP) by first|(simp only [a1p,h1,h3,a2,cC];done)|(unfold a1p;rw [h1,h2,h3];simp only [a2,cC])]
 exact zY [10,11,12,13,14,15,68,17,18,19] (nT K0 M0 K1 M1 K2 M2 K3 M3 K4 M4 K5 M5 (some af) M6 K7 M7 K8 M8 K9 M9) (An a0.1 (An a0.2.1 (An a0.2.2.1 (An (aby Q5 (adz (okl (abt a0).2.2.2.1).2 (show ok n ((a4c e1):aH)from ag))) (An (show I64 (bitO .or w_.aY (i64.wrap (1*2^ (min (Int.toNat k) 64))))from aiy _ _ _) (An a0.2.2.2.2.2.1 (An a0.2.2.2.2.2.2.1 (An a0.2.2.2.2.2.2.2.1 (An a0.2.2.2.2.2.2.2.2.1 a0.2.2.2.2.2.2.2.2.2)))))))))
theorem f167 (hn:n+0<=9){H:GH}(hH:Le H (hp w))(bw_:Nat)(w_:aD)(K0:OA)(M0:Nat)(K1:OA)(M1:Nat)(K2:OA)(M2:Nat)(K3:OA)(M3:Nat)(K4:OA)(M4:Nat)(K5:OA)(M5:Nat)(K6:OA)(M6:Nat)(K7:OA)(M7:Nat)(K8:OA)(M8:Nat)(K9:OA)(M9:Nat)(e_:bP)(N10:RdSl (cut (hp w) H) K10 M10 e_.name.parts)(N11:RdSl (cut (hp w) H) K11 M11 e_.bC.bT.name.parts)(N12:RdSl (cut (hp w) H) K12 M12 e_.bC.data.name.parts)(N13:RdSl (cut (hp w) H) K13 M13 e_.bC.data.content)(N14:RdSl (cut (hp w) H) K14 M14 e_.bC.data.aR.parts)(hown:Sep H (bN bw_ w_ (nT K0 M0 K1 M1 K2 M2 K3 M3 K4 M4 K5 M5 K6 M6 K7 M7 K8 M8 K9 M9)))(hq0:w_.aL.length<=200/\w_.aE.length<=8)(a0:ok n w_)(a1:ok n e_):
 Does Tryz.prog 167 #[.pointer (some ⟨bw_,0,none⟩),aqm e_ K10 M10 K11 M11 K12 M12 K13 M13 K14 M14] w H (Post w H (λx:GoT.X (aD)=> .bool ((a1l w_ e_).1)) (bN bw_ (a1l w_ e_).2) (ok n ((a1l w_ e_).2:aD))):=by
 have hb:=bS0 hn;refine EP (Γ:=[(10,MF.rs .stb K10 M10 e_.name.parts),(11,MF.rs .stb K11 M11 e_.bC.bT.name.parts),(12,MF.rs .stb K12 M12 e_.bC.data.name.parts),(13,MF.rs .stb K13 M13 e_.bC.data.content),(14,MF.rs .stb K14 M14 e_.bC.data.aR.parts)]) 15 Tryz.func167 Z J Z (ac6 Z N10 (ac6 Z N11 (ac6 Z N12 (ac6 Z N13 (ac6 Z N14 ac8))))) hH hown ?_;refine yKE 9 ?_ ?_<;>intro h1 ab;refine KF Z 25 Z O (λw Y=>f67 n Q0 e_.bC (Y.q 11 Z) (Y.q 12 Z) (Y.q 13 Z) (Y.q 14 Z) (a1.2.2.2)) ?_
 rintro ⟨_,_,_,⟨⟨p1,c1⟩,_⟩,⟨⟨p2,c2⟩,⟨p3,c3⟩,⟨p4,c4⟩,_⟩⟩ a2;dsimp only
 refine zW 33 15 ?_;refine zW 34 16 ?_;refine zW 35 17 ?_;refine zW 36 18 ?_;refine zW 37 19 ?_;refine zW 38 20 ?_;refine zW 39 21 ?_;refine zW 40 22 ?_;refine zW 41 23 ?_;refine zW 42 24 ?_;refine yD [7,8,9,10] λbs G0 a4=>?_;refine dT 5 [1,3,5,7,8,10] ?_;refine DX.tail2 [6,7,8,9,10] Z Z J ?_;refine zB λp5=>?_;refine zN (kk:=12) 501 23 43 λa3 a9=>?_;refine zT (α:=aZ) [29,30,31,32] 44 (a13 e_.bC) ((),(),(),((p1,c1),(),(),()),((p2,c2),(p3,c3),(p4,c4),(),())) λ_=>?_;have r1:=(okl (abt a0).2.2.2.2.2.2.1).1
 refine WX.know (λG hΓ=>(hΓ.get 44 Z:OwL _ _ _).rd.one) λa5=>?_;refine zP 501 19 ((w_.aL++[(a13 e_.bC)]):List aZ).length a5 λp6 c5=>?_;refine zV [43,44] 45 ?_;refine zW 46 15 ?_;refine zW 47 16 ?_;refine zW 48 17 ?_;refine zW 49 18 ?_;refine zW 50 19 ?_;refine zW 51 20 ?_;refine zW 52 21 ?_;refine zW 53 22 ?_;refine zW 54 24 ?_;refine yD [] λbs G0 a4=>?_;refine dT 24 [1,3,5,6,9,11,13] ?_
 ·skip
  refine zDC 29 ?_ ?_<;>intro h2;have a6:=B.dt h2;refine dT 17 [15,16,19,21,23,25,26] ?_;refine DX.seeP 14 J Z Z Z Z (aes Z Z Z Z) ?_;refine DXV 15 Z J Z O (λw Y=>f120 n Q0 ((acf a2).1) (i6 0) (ad0 _)) λa7=>?_;refine dT 13 [33,35] ?_;refine zDC 40 ?_ ?_<;>intro h3;refine dT 5 [37,38,41,43,45,46,49,50] ?_;refine DXF 26 55 Z J Z O (λw Y=>f121 n Q0 w_.aG (Y.q 46 Z) (a0.1) (a2.1)) ?_;rintro ⟨p7,c6⟩ a8;dsimp only
  refine dT 3 [55] ?_;have r3:=(okl a8).1;refine DXV 28 Z J Z O (λw Y=>f120 n Q0 ((acf a2).2.1) (i6 1) (i6 (((a1f w_.aG ((a13 e_.bC).to))).length:Int))) λaa=>?_;refine dT 0 [59,61] ?_;refine DX.tail2 [] Z Z J ?_;refine yE 501 45 57 ?_
  rw [show a1l w_ e_=(a07 ((a13 e_.bC).face) 1 (((a1f w_.aG ((a13 e_.bC).to))).length:Int),aD.mk w_.aG w_.aF w_.aM w_.aI w_.aY w_.aU (w_.aL++[(a13 e_.bC)]) w_.aE w_.now w_.aP) by simp only [a1l,h1,h2,h3,cC]]
  exact zY [15,16,17,18,19,20,21,22,58,24] (nT K0 M0 K1 M1 K2 M2 K3 M3 K4 M4 K5 M5 K6 M6 K7 M7 p6 c5 K9 M9) (An a0.1 (An a0.2.1 (An a0.2.2.1 (An a0.2.2.2.1 (An a0.2.2.2.2.1 (An a0.2.2.2.2.2.1 (An (aby Q5 (ac2 (okl (abt a0).2.2.2.2.2.2.1).2 (all_cons (α:=aZ) a2 nA))) (An a0.2.2.2.2.2.2.2.1 (An a0.2.2.2.2.2.2.2.2.1 a0.2.2.2.2.2.2.2.2.2)))))))))
  refine dT 0 [37,39,41,43,45,47,49,51,53,55,57,59,61] ?_;refine DX.tail2 [] Z Z J ?_;refine yE 501 45 55 ?_;rw [show a1l w_ e_=(false,aD.mk w_.aG w_.aF w_.aM w_.aI w_.aY w_.aU (w_.aL++[(a13 e_.bC)]) w_.aE w_.now w_.aP) by simp only [a1l,h1,h2,h3,cC]];rotate_left;have a6:=B.df h2;refine dT 0 [15,17,19,21,23,25,27,29,31,33,35,37,39,41,43,45,47,49,51,53,55,57,59,61] ?_;refine DX.tail2 [] Z Z J ?_;refine yE 501 45 55 ?_
  rw [show a1l w_ e_=(false,aD.mk w_.aG w_.aF w_.aM w_.aI w_.aY w_.aU (w_.aL++[(a13 e_.bC)]) w_.aE w_.now w_.aP) by simp only [a1l,h1,h2,cC]];rotate_left
  all_goals
   exact zY [15,16,17,18,19,20,21,22,56,24] (nT K0 M0 K1 M1 K2 M2 K3 M3 K4 M4 K5 M5 K6 M6 K7 M7 p6 c5 K9 M9) (An a0.1 (An a0.2.1 (An a0.2.2.1 (An a0.2.2.2.1 (An a0.2.2.2.2.1 (An a0.2.2.2.2.2.1 (An (aby Q5 (ac2 (okl (abt a0).2.2.2.2.2.2.1).2 (all_cons (α:=aZ) a2 nA))) (An a0.2.2.2.2.2.2.2.1 (An a0.2.2.2.2.2.2.2.2.1 a0.2.2.2.2.2.2.2.2.2)))))))))
 refine zW 25 15 ?_;refine zW 26 16 ?_;refine zW 27 17 ?_;refine zW 28 18 ?_;refine zW 29 19 ?_;refine zW 30 20 ?_;refine zW 31 21 ?_;refine zW 32 22 ?_;refine zW 33 23 ?_;refine zW 34 24 ?_;refine yD [11] λbs G0 a4=>?_;refine dT 3 [1,2,5,7,9,10,13,15,16] ?_;refine DX.pend 10 6 ⟨85,[.int .i64 (0),.int .i64 (0),.slice none (0) 0,.int .i64 (0),.int .i64 (0),.bool false,.slice none (0) 0,.slice none (0) 0,.slice none (0) 0,.int .i64 (0),.int .i64 (0)]⟩ ?_;have r1:=(okl (abt a0).2.2.2.2.2.2.2.1).1
 refine DXA.callF 9 35 (λ_ _ h=>GoT.ow_rd h) (λ_ f hf=>GoT.fak f hf) ttOk Z Z Z Z Z Z Z J J J Z Z Z Z Z Z Z Z Z Z O Z Z (λw G bs hI hΓ=>f157 n Q0 e_.name (hΓ.get 10 Z) (a1.2.1) (i6 w_.aE.length) (a1.2.2.1)) O O ?_;rintro ⟨_,_,⟨p1,c1⟩,_,_,_,⟨⟨p2,c2⟩,⟨p3,c3⟩,⟨p4,c4⟩,_⟩⟩ a2;dsimp only
 refine DXA.tail [11] ttOk Z Z Z Z Z Z J Z Z J ?_;refine yD [7,8,9,10] λbs G0 a4=>?_;refine dT 5 [1,3,5,7,8,10] ?_;refine DX.tail2 [6,7,8,9,10] Z Z J ?_;refine zB λp5=>?_;refine zN (kk:=11) 501 24 43 λa3 a9=>?_;refine zT (α:=aX) [39,40,41,42] 44 (a09 e_.n (w_.aE.length:Int) e_.name) ((),(),(p1,c1),(),(),(),((p2,c2),(p3,c3),(p4,c4),(),())) λ_=>?_;refine WX.know (λG hΓ=>(hΓ.get 44 Z:OwL _ _ _).rd.one) λa5=>?_
 refine zP 501 69 ((w_.aE++[(a09 e_.n (w_.aE.length:Int) e_.name)]):List aX).length a5 λp6 c5=>?_;refine zV [43,44] 45 ?_;refine zW 46 15 ?_;refine zW 47 16 ?_;refine zW 48 17 ?_;refine zW 49 18 ?_;refine zW 50 19 ?_;refine zW 51 20 ?_;refine zW 52 21 ?_;refine zW 53 22 ?_;refine zW 54 23 ?_;refine yD [] λbs G0 a4=>?_;refine dT 14 [1,3,5,6,9,11,13] ?_;refine zDC 79 ?_ ?_<;>intro h2;have a6:=B.dt h2;refine dT 13 [14] ?_
 refine DX.der 55 (MF.rs .der p1 c1 ((a09 e_.n w_.aE.length e_.name).name.parts)) Z (λ_ hΓ=>afq (a:=(a09 e_.n (w_.aE.length:Int) e_.name)) (x:=((),(),(p1,c1),(),(),(),((p2,c2),(p3,c3),(p4,c4),(),()))) (by rintro ⟨⟨⟩,⟨⟩,⟨pa1_,ca1_⟩,⟨⟩,⟨⟩,⟨⟩,⟨⟨pa2_,ca2_⟩,⟨pa3_,ca3_⟩,⟨pa4_,ca4_⟩,⟨⟩,⟨⟩⟩⟩ ⟨⟨⟩,⟨⟩,⟨pb5_,cb5_⟩,⟨⟩,⟨⟩,⟨⟩,⟨⟨pb6_,cb6_⟩,⟨pb7_,cb7_⟩,⟨pb8_,cb8_⟩,⟨⟩,⟨⟩⟩⟩ h_;cases h_;rfl) ((hΓ.get 45 Z).rd) _ (List.mem_of_getElem? (i:=0) Z)) ?_
 refine DX.der 56 (MF.rs .der p2 c2 ((a09 e_.n w_.aE.length e_.name).data.name.parts)) Z (λ_ hΓ=>afq (a:=(a09 e_.n (w_.aE.length:Int) e_.name)) (x:=((),(),(p1,c1),(),(),(),((p2,c2),(p3,c3),(p4,c4),(),()))) (by rintro ⟨⟨⟩,⟨⟩,⟨pa9_,ca9_⟩,⟨⟩,⟨⟩,⟨⟩,⟨⟨pa10_,ca10_⟩,⟨pa11_,ca11_⟩,⟨pa12_,ca12_⟩,⟨⟩,⟨⟩⟩⟩ ⟨⟨⟩,⟨⟩,⟨pb13_,cb13_⟩,⟨⟩,⟨⟩,⟨⟩,⟨⟨pb14_,cb14_⟩,⟨pb15_,cb15_⟩,⟨pb16_,cb16_⟩,⟨⟩,⟨⟩⟩⟩ h_;cases h_;rfl) ((hΓ.get 45 Z).rd) _ (List.mem_of_getElem? (i:=1) Z)) ?_
 refine DX.der 57 (MF.rs .der p3 c3 ((a09 e_.n w_.aE.length e_.name).data.content)) Z (λ_ hΓ=>afq (a:=(a09 e_.n (w_.aE.length:Int) e_.name)) (x:=((),(),(p1,c1),(),(),(),((p2,c2),(p3,c3),(p4,c4),(),()))) (by rintro ⟨⟨⟩,⟨⟩,⟨pa17_,ca17_⟩,⟨⟩,⟨⟩,⟨⟩,⟨⟨pa18_,ca18_⟩,⟨pa19_,ca19_⟩,⟨pa20_,ca20_⟩,⟨⟩,⟨⟩⟩⟩ ⟨⟨⟩,⟨⟩,⟨pb21_,cb21_⟩,⟨⟩,⟨⟩,⟨⟩,⟨⟨pb22_,cb22_⟩,⟨pb23_,cb23_⟩,⟨pb24_,cb24_⟩,⟨⟩,⟨⟩⟩⟩ h_;cases h_;rfl) ((hΓ.get 45 Z).rd) _ (List.mem_of_getElem? (i:=2) Z)) ?_
 refine DX.der 58 (MF.rs .der p4 c4 ((a09 e_.n w_.aE.length e_.name).data.aR.parts)) Z (λ_ hΓ=>afq (a:=(a09 e_.n (w_.aE.length:Int) e_.name)) (x:=((),(),(p1,c1),(),(),(),((p2,c2),(p3,c3),(p4,c4),(),()))) (by rintro ⟨⟨⟩,⟨⟩,⟨pa25_,ca25_⟩,⟨⟩,⟨⟩,⟨⟩,⟨⟨pa26_,ca26_⟩,⟨pa27_,ca27_⟩,⟨pa28_,ca28_⟩,⟨⟩,⟨⟩⟩⟩ ⟨⟨⟩,⟨⟩,⟨pb29_,cb29_⟩,⟨⟩,⟨⟩,⟨⟩,⟨⟨pb30_,cb30_⟩,⟨pb31_,cb31_⟩,⟨pb32_,cb32_⟩,⟨⟩,⟨⟩⟩⟩ h_;cases h_;rfl) ((hΓ.get 45 Z).rd) _ (List.mem_of_getElem? (i:=3) Z)) ?_
 refine DXV 8 Z J Z O (λw Y=>f202 n Q0 (a09 e_.n (w_.aE.length:Int) e_.name) (Y.q 55 Z) (Y.q 56 Z) (Y.q 57 Z) (Y.q 58 Z) a2) λa7=>?_;refine dT 10 [19,21] ?_
 ·skip
  refine zDC 83 ?_ ?_<;>intro h3;refine dT 0 [23,24,27,29,31,33,34,37,39,41] ?_;refine DX.tail2 [] Z Z J ?_;refine yE 501 45 59 ?_;rw [show a1l w_ e_=(decide ((a09 e_.n (w_.aE.length:Int) e_.name).node<w_.aG.size),aD.mk w_.aG w_.aF w_.aM w_.aI w_.aY w_.aU w_.aL (w_.aE++[(a09 e_.n (w_.aE.length:Int) e_.name)]) w_.now w_.aP) by simp only [a1l,h1,h2,h3,cC]];rotate_left;refine dT 0 [23,25,27,29,31,33,35,37,39,41] ?_
  refine DX.tail2 [] Z Z J ?_;refine yE 501 45 59 ?_;rw [show a1l w_ e_=(false,aD.mk w_.aG w_.aF w_.aM w_.aI w_.aY w_.aU w_.aL (w_.aE++[(a09 e_.n (w_.aE.length:Int) e_.name)]) w_.now w_.aP) by simp only [a1l,h1,h2,h3,cC]];rotate_left
  all_goals
   exact zY [15,16,17,18,19,20,21,22,23,60] (nT K0 M0 K1 M1 K2 M2 K3 M3 K4 M4 K5 M5 K6 M6 K7 M7 K8 M8 p6 c5) (An a0.1 (An a0.2.1 (An a0.2.2.1 (An a0.2.2.2.1 (An a0.2.2.2.2.1 (An a0.2.2.2.2.2.1 (An a0.2.2.2.2.2.2.1 (An (aby Q5 (ac2 (okl (abt a0).2.2.2.2.2.2.2.1).2 (all_cons (α:=aX) a2 nA))) (An a0.2.2.2.2.2.2.2.2.1 a0.2.2.2.2.2.2.2.2.2)))))))))
 have a6:=B.df h2;refine dT 0 [15,17,19,21,23,25,27,29,31,33,35,37,39,41] ?_;refine DX.tail2 [] Z Z J ?_;refine yE 501 45 55 ?_;rw [show a1l w_ e_=(false,aD.mk w_.aG w_.aF w_.aM w_.aI w_.aY w_.aU w_.aL (w_.aE++[(a09 e_.n (w_.aE.length:Int) e_.name)]) w_.now w_.aP) by simp only [a1l,h1,h2,cC]]
 exact zY [15,16,17,18,19,20,21,22,23,56] (nT K0 M0 K1 M1 K2 M2 K3 M3 K4 M4 K5 M5 K6 M6 K7 M7 K8 M8 p6 c5) (An a0.1 (An a0.2.1 (An a0.2.2.1 (An a0.2.2.2.1 (An a0.2.2.2.2.1 (An a0.2.2.2.2.2.1 (An a0.2.2.2.2.2.2.1 (An (aby Q5 (ac2 (okl (abt a0).2.2.2.2.2.2.2.1).2 (all_cons (α:=aX) a2 nA))) (An a0.2.2.2.2.2.2.2.2.1 a0.2.2.2.2.2.2.2.2.2)))))))))
theorem f107 (hn:n+7<=9){H:GH}(hH:Le H (hp w))(bw_:Nat)(w_:aD)(K0:OA)(M0:Nat)(K1:OA)(M1:Nat)(K2:OA)(M2:Nat)(K3:OA)(M3:Nat)(K4:OA)(M4:Nat)(K5:OA)(M5:Nat)(K6:OA)(M6:Nat)(K7:OA)(M7:Nat)(K8:OA)(M8:Nat)(K9:OA)(M9:Nat)(e_:bP)(N10:RdSl (cut (hp w) H) K10 M10 e_.name.parts)(N11:RdSl (cut (hp w) H) K11 M11 e_.bC.bT.name.parts)(N12:RdSl (cut (hp w) H) K12 M12 e_.bC.data.name.parts)(N13:RdSl (cut (hp w) H) K13 M13 e_.bC.data.content)(N14:RdSl (cut (hp w) H) K14 M14 e_.bC.data.aR.parts)(hown:Sep H (bN bw_ w_ (nT K0 M0 K1 M1 K2 M2 K3 M3 K4 M4 K5 M5 K6 M6 K7 M7 K8 M8 K9 M9)))(hq0:NetC w_)(a0:ok n w_)(a1:ok n e_):
 Does Tryz.prog 107 #[.pointer (some ⟨bw_,0,none⟩),aqm e_ K10 M10 K11 M11 K12 M12 K13 M13 K14 M14] w H (Post w H (λx:GoT.X (aD)=> .bool ((a0u w_ e_).1)) (bN bw_ (a0u w_ e_).2) (ok n ((a0u w_ e_).2:aD))):=by
 have hb:=bS7 hn;refine EP (Γ:=[(10,MF.rs .stb K10 M10 e_.name.parts),(11,MF.rs .stb K11 M11 e_.bC.bT.name.parts),(12,MF.rs .stb K12 M12 e_.bC.data.name.parts),(13,MF.rs .stb K13 M13 e_.bC.data.content),(14,MF.rs .stb K14 M14 e_.bC.data.aR.parts)]) 15 Tryz.func107 Z J Z (ac6 Z N10 (ac6 Z N11 (ac6 Z N12 (ac6 Z N13 (ac6 Z N14 ac8))))) hH hown ?_;refine zW 25 15 ?_;refine zW 26 16 ?_;refine zW 27 17 ?_;refine zW 28 18 ?_;refine zW 29 19 ?_;refine zW 30 20 ?_;refine zW 31 21 ?_;refine zW 32 22 ?_;refine zW 33 23 ?_
 refine zW 34 24 ?_;refine yD [] λbs G0 a6=>?_;refine dT 3 [1,2,5,7,9,10,13] ?_;have r1:=(okl (abt a0).2.2.2.2.2.2.1).1;refine DX.seeP 7 J Z Z Z Z (ad7 Z Z Z Z Q6) ?_;refine DXV 8 Z J Z O (λw Y=>f120 n Q0 ((aeg a1).2.1) (i6 0) (i6 ((w_.aL.length:Int)-1))) λb2=>?_;refine dT 0 [19] ?_;refine DX.tail2 [] Z Z J ?_;refine yKE 18 ?_ ?_<;>intro h1 av;refine R0 ?_
 refine CU ((a4d w_).2) 999 [15,16,17,18,19,20,21,22,23,24] 35 Z Z Z Z Z Z Z O Z (λw β H η σ Y=>f162 n Q0 η (β 999) w_ K0 M0 K1 M1 K2 M2 K3 M3 K4 M4 K5 M5 K6 M6 K7 M7 K8 M8 K9 M9 σ (by first|assumption|(dsimp only;assumption)|exact (by assumption:NetC w_).1) a0) O ?_;rintro ⟨⟨_,p1,c1⟩,⟨⟨p2,c2⟩,⟨p3,c3⟩,⟨p4,c4⟩,p5,c5⟩,⟨p6,c6⟩,⟨p7,c7⟩,_,⟨p8,c8⟩,⟨p9,c9⟩,⟨a3,a4⟩,_⟩ a2;dsimp only
 rw [show a0u w_ e_=((a4d w_).1,(a4d w_).2) by simp only [a0u,h1,cC]];rotate_left;refine yKE 22 ?_ ?_<;>intro h2 aq;refine yKA 24 ?_ ?_<;>intro h3;have au:=ad8 h3;refine R0 ?_;refine CU (a4w w_ e_.n) 999 [15,16,17,18,19,20,21,22,23,24] 35 Z Z Z Z Z Z Z O Z (λw β H η σ Y=>f163 n Q0 η (β 999) w_ K0 M0 K1 M1 K2 M2 K3 M3 K4 M4 K5 M5 K6 M6 K7 M7 K8 M8 K9 M9 σ Q4 (by first|assumption|(dsimp only;assumption)|exact (by assumption:NetC w_).1) a0 ((aeg a1).2.1)) O ?_
 rintro ⟨⟨_,p1,c1⟩,⟨⟨p2,c2⟩,⟨p3,c3⟩,⟨p4,c4⟩,p5,c5⟩,⟨p6,c6⟩,⟨p7,c7⟩,_,⟨p8,c8⟩,⟨p9,c9⟩,⟨a3,a4⟩,_⟩ a2;dsimp only
 rw [show a0u w_ e_=(a07 e_.n 0 ((w_.aL.length:Int)-1),a4w w_ e_.n) by simp only [a0u,h1,h2,h3,cC]];rotate_left;rw [show a0u w_ e_=(a07 e_.n 0 ((w_.aL.length:Int)-1),w_) by simp only [a0u,h1,h2,h3,cC]];exact yY [15,16,17,18,19,20,21,22,23,24] (nT K0 M0 K1 M1 K2 M2 K3 M3 K4 M4 K5 M5 K6 M6 K7 M7 K8 M8 K9 M9) a0;refine yKA 30 ?_ ?_<;>intro h3;refine yKA 32 ?_ ?_<;>intro h4;have b1:=ad8 h4;refine R0 ?_
 refine WX.callPM (cs':=λx_:GoT.X (aZ×aD)=>[.int .i64 ((a04 w_ e_.n).2.aG.size),.slice x_.2.1.2.1 ((a04 w_ e_.n).2.aG.links).length x_.2.1.2.2,.slice x_.2.2.1.1.1 ((a04 w_ e_.n).2.aF.keys).length x_.2.2.1.1.2,.slice x_.2.2.1.2.1.1 ((a04 w_ e_.n).2.aF.bR).length x_.2.2.1.2.1.2,.slice x_.2.2.1.2.2.1.1 ((a04 w_ e_.n).2.aF.bV).length x_.2.2.1.2.2.1.2,.slice x_.2.2.1.2.2.2.1 ((a04 w_ e_.n).2.aF.bW).length x_.2.2.1.2.2.2.2,.slice x_.2.2.2.1.1 ((a04 w_ e_.n).2.aM).length x_.2.2.2.1.2,.slice x_.2.2.2.2.1.1 ((a04 w_ e_.n).2.aI).length x_.2.2.2.2.1.2,.int .i64 ((a04 w_ e_.n).2.aY),.slice x_.2.2.2.2.2.2.1.1 ((a04 w_ e_.n).2.aU).length x_.2.2.2.2.2.2.1.2,.slice x_.2.2.2.2.2.2.2.1.1 ((a04 w_ e_.n).2.aL).length x_.2.2.2.2.2.2.2.1.2,.slice x_.2.2.2.2.2.2.2.2.1.1 ((a04 w_ e_.n).2.aE).length x_.2.2.2.2.2.2.2.2.1.2,.int .i64 ((a04 w_ e_.n).2.now),.int .i64 ((a04 w_ e_.n).2.aP)]) (ds:=λx_=>GoT.fa .der (((a04 w_ e_.n).1,(a04 w_ e_.n).2):aZ×aD) x_) 999 [15,16,17,18,19,20,21,22,23,24] 35 Z Z (λ_ _ h=>GoT.ow_rd h) (λ_ f hf=>GoT.fak f hf) Z Z Z Z Z O Z (λw G bs H hI hH hs hΓ=>f164 n Q0 hH (bs 999) w_ K0 M0 K1 M1 K2 M2 K3 M3 K4 M4 K5 M5 K6 M6 K7 M7 K8 M8 K9 M9 hs Q4 a0 ((aeg a1).2.1)) O O ?_
 rintro ⟨⟨_,_,_,⟨⟨p1,c1⟩,_⟩,⟨⟨p2,c2⟩,⟨p3,c3⟩,⟨p4,c4⟩,_⟩⟩,⟨⟨_,p5,c5⟩,⟨⟨p6,c6⟩,⟨p7,c7⟩,⟨p8,c8⟩,p9,c9⟩,⟨a3,a4⟩,⟨ah,am⟩,_,⟨ae,af⟩,⟨ap,al⟩,⟨ai,ak⟩,_⟩⟩ a2;dsimp only
 refine SW ?_
 rw [show a0u w_ e_=(a07 e_.n 0 ((w_.aL.length:Int)-1),aD.mk ((a04 w_ e_.n).2.aG) ((a04 w_ e_.n).2.aF) ((a04 w_ e_.n).2.aM) ((a04 w_ e_.n).2.aI) ((a04 w_ e_.n).2.aY) ((a04 w_ e_.n).2.aU) ((a04 w_ e_.n).2.aL) ((a04 w_ e_.n).2.aE) ((a04 w_ e_.n).2.now) (i64.wrap (((a04 w_ e_.n).2.aP)+1))) by simp only [a0u,h1,h2,h3,h4,cC]]
 exact yY [53,54,55,56,57,58,59,60,61,62] (nT p5 c5 p6 c6 p7 c7 p8 c8 p9 c9 a3 a4 ah am ae af ap al ai ak) (An (abt a2.2).1 (An (abt a2.2).2.1 (An (abt a2.2).2.2.1 (An (abt a2.2).2.2.2.1 (An (abt a2.2).2.2.2.2.1 (An (abt a2.2).2.2.2.2.2.1 (An (abt a2.2).2.2.2.2.2.2.1 (An (abt a2.2).2.2.2.2.2.2.2.1 (An (abt a2.2).2.2.2.2.2.2.2.2.1 (ad0 _))))))))));rw [show a0u w_ e_=(a07 e_.n 0 ((w_.aL.length:Int)-1),w_) by simp only [a0u,h1,h2,h3,h4,cC]]
 exact yY [15,16,17,18,19,20,21,22,23,24] (nT K0 M0 K1 M1 K2 M2 K3 M3 K4 M4 K5 M5 K6 M6 K7 M7 K8 M8 K9 M9) a0;refine yKA 46 ?_ ?_<;>intro h4
 ·skip
  refine yKA 50 ?_ ?_<;>intro h5;rw [show a0u w_ e_=(false,w_) by simp only [a0u,h1,h2,h3,h4,h5,cC]];rotate_left;have az:=ad8 (B.nf h5);refine yKA 57 ?_ ?_<;>intro h6;have a9:=B.dt h6;rw [show a0u w_ e_=(false,w_) by simp only [a0u,h1,h2,h3,h4,h5,h6,cC]];rotate_left;have a9:=B.df h6;refine yD [10] λbs G0 a6=>?_;refine dT 5 [1,3,5,6,9,10] ?_;have r2:=i8 ((aeg a1).2.1);refine DI 63 ?_;obtain ⟨e1,aa,ac,ag⟩:=gO (abt a0).2.2.2.2.2.2.1 e_.n.toNat
  refine zDI 6 33 (e_.n.toNat) a6 Z ag ?_;rintro ar rfl;refine zDL 7 33 35 e1 a6 aa ?_;rintro ⟨_,_,_,⟨⟨p1,c1⟩,_⟩,⟨⟨p2,c2⟩,⟨p3,c3⟩,⟨p4,c4⟩,_⟩⟩;refine DX.pend 9 6 ⟨80,[.int .i64 (0),.int .i64 (0),.bool false,.slice none (0) 0,.int .i64 (0),.int .i64 (0),.int .i64 (0),.slice none (0) 0,.slice none (0) 0,.slice none (0) 0,.int .i64 (0),.int .i64 (0)]⟩ ?_
  refine DXA.callF 8 39 (λ_ _ h=>GoT.ow_rd h) (λ_ f hf=>GoT.fak f hf) ttOk Z Z Z Z Z Z Z J J J Z Z Z Z Z Z Z Z Z Z O Z Z (λw G bs hI hΓ=>f67 n Q0 e1 (hΓ.get 35 Z) (hΓ.get 36 Z) (hΓ.get 37 Z) (hΓ.get 38 Z) ac) O O ?_;rintro ⟨_,_,_,⟨⟨p5,c5⟩,_⟩,⟨⟨p6,c6⟩,⟨p7,c7⟩,⟨p8,c8⟩,_⟩⟩ a2;dsimp only
  refine DXA.tail [10] ttOk Z Z Z Z Z Z J Z Z J ?_;refine yD [7,8,9,10] λbs G0 a6=>?_;refine dT 5 [1,3,5,7,8,10] ?_;refine DX.tail2 [6,7,8,9,10] Z Z J ?_;refine zB λp9=>?_;refine zN (kk:=12) 501 23 47 λaw b3=>?_;refine zT (α:=aZ) [43,44,45,46] 48 (a13 e1) ((),(),(),((p5,c5),(),(),()),((p6,c6),(p7,c7),(p8,c8),(),())) λaj=>?_;refine zP 501 73 ((w_.aL++[(a13 e1)]):List aZ).length aj λa3 c9=>?_;refine zV [47,48] 49 ?_;refine yE 501 49 50 ?_
  rw [show a0u w_ e_=(true,aD.mk w_.aG w_.aF w_.aM w_.aI w_.aY w_.aU (w_.aL++[(a13 e1)]) w_.aE w_.now w_.aP) by simp only [a0u,h1,h2,h3,h4,h5,h6,aa,cC]]
  exact zY [15,16,17,18,19,20,21,22,51,24] (nT K0 M0 K1 M1 K2 M2 K3 M3 K4 M4 K5 M5 K6 M6 K7 M7 a3 c9 K9 M9) (An (abt a0).1 (An (abt a0).2.1 (An (abt a0).2.2.1 (An (abt a0).2.2.2.1 (An (abt a0).2.2.2.2.1 (An (abt a0).2.2.2.2.2.1 (An (aby (by dsimp only at*;simp;omega) (ac2 (okl (abt a0).2.2.2.2.2.2.1).2 (all_cons (α:=aZ) a2 nA)):ok n ((w_.aL++[(a13 e1)]):List aZ)) (An (abt a0).2.2.2.2.2.2.2.1 (An (abt a0).2.2.2.2.2.2.2.2.1 (abt a0).2.2.2.2.2.2.2.2.2)))))))))
  all_goals
   exact yY [15,16,17,18,19,20,21,22,23,24] (nT K0 M0 K1 M1 K2 M2 K3 M3 K4 M4 K5 M5 K6 M6 K7 M7 K8 M8 K9 M9) a0
 refine yKA 77 ?_ ?_<;>intro h5;refine R0 ?_;refine CU ((a2c w_ e_.n (e_.kind==5)).2) 999 [15,16,17,18,19,20,21,22,23,24] 35 Z Z Z Z Z Z Z O Z (λw β H η σ Y=>f165 n Q0 η (β 999) w_ K0 M0 K1 M1 K2 M2 K3 M3 K4 M4 K5 M5 K6 M6 K7 M7 K8 M8 K9 M9 σ a0 ((aeg a1).2.1)) O ?_;rintro ⟨⟨_,p1,c1⟩,⟨⟨p2,c2⟩,⟨p3,c3⟩,⟨p4,c4⟩,p5,c5⟩,⟨p6,c6⟩,⟨p7,c7⟩,_,⟨p8,c8⟩,⟨p9,c9⟩,⟨a3,a4⟩,_⟩ a2;dsimp only
 rw [show a0u w_ e_=((a2c w_ e_.n (e_.kind==5)).1,(a2c w_ e_.n (e_.kind==5)).2) by simp only [a0u,h1,h2,h3,h4,h5,cC]];rotate_left;refine yKA 77 ?_ ?_<;>intro h6;have a9:=B.et h6;refine R0 ?_;refine CU ((a2c w_ e_.n (e_.kind==5)).2) 999 [15,16,17,18,19,20,21,22,23,24] 35 Z Z Z Z Z Z Z O Z (λw β H η σ Y=>f165 n Q0 η (β 999) w_ K0 M0 K1 M1 K2 M2 K3 M3 K4 M4 K5 M5 K6 M6 K7 M7 K8 M8 K9 M9 σ a0 ((aeg a1).2.1)) O ?_
 rintro ⟨⟨_,p1,c1⟩,⟨⟨p2,c2⟩,⟨p3,c3⟩,⟨p4,c4⟩,p5,c5⟩,⟨p6,c6⟩,⟨p7,c7⟩,_,⟨p8,c8⟩,⟨p9,c9⟩,⟨a3,a4⟩,_⟩ a2;dsimp only
 rw [show a0u w_ e_=((a2c w_ e_.n (e_.kind==5)).1,(a2c w_ e_.n (e_.kind==5)).2) by simp only [a0u,h1,h2,h3,h4,h5,h6,cC]];rotate_left;have a9:=B.ef h6;refine yKE 87 ?_ ?_<;>intro h7 ay;refine R0 ?_;refine CU ((a1p w_ e_.n (e_.kind==8)).2) 999 [15,16,17,18,19,20,21,22,23,24] 35 Z Z Z Z Z Z Z O Z (λw β H η σ Y=>f166 n Q0 η (β 999) w_ K0 M0 K1 M1 K2 M2 K3 M3 K4 M4 K5 M5 K6 M6 K7 M7 K8 M8 K9 M9 σ a0 ((aeg a1).2.1)) O ?_
 rintro ⟨⟨_,p1,c1⟩,⟨⟨p2,c2⟩,⟨p3,c3⟩,⟨p4,c4⟩,p5,c5⟩,⟨p6,c6⟩,⟨p7,c7⟩,_,⟨p8,c8⟩,⟨p9,c9⟩,⟨a3,a4⟩,_⟩ a2;dsimp only
 rw [show a0u w_ e_=((a1p w_ e_.n (e_.kind==8)).1,(a1p w_ e_.n (e_.kind==8)).2) by simp only [a0u,h1,h2,h3,h4,h5,h6,h7,cC]];rotate_left;refine yKE 87 ?_ ?_<;>intro h8 b0;refine R0 ?_;refine CU ((a1p w_ e_.n (e_.kind==8)).2) 999 [15,16,17,18,19,20,21,22,23,24] 35 Z Z Z Z Z Z Z O Z (λw β H η σ Y=>f166 n Q0 η (β 999) w_ K0 M0 K1 M1 K2 M2 K3 M3 K4 M4 K5 M5 K6 M6 K7 M7 K8 M8 K9 M9 σ a0 ((aeg a1).2.1)) O ?_
 rintro ⟨⟨_,p1,c1⟩,⟨⟨p2,c2⟩,⟨p3,c3⟩,⟨p4,c4⟩,p5,c5⟩,⟨p6,c6⟩,⟨p7,c7⟩,_,⟨p8,c8⟩,⟨p9,c9⟩,⟨a3,a4⟩,_⟩ a2;dsimp only
 rw [show a0u w_ e_=((a1p w_ e_.n (e_.kind==8)).1,(a1p w_ e_.n (e_.kind==8)).2) by simp only [a0u,h1,h2,h3,h4,h5,h6,h7,h8,cC]];rotate_left;refine yKE 97 ?_ ?_<;>intro h9 ax;refine R0 ?_;refine CU ((a1l w_ e_).2) 999 [15,16,17,18,19,20,21,22,23,24] 35 Z Z Z Z Z Z Z O Z (λw β H η σ Y=>f167 n Q0 η (β 999) w_ K0 M0 K1 M1 K2 M2 K3 M3 K4 M4 K5 M5 K6 M6 K7 M7 K8 M8 K9 M9 e_ (Y.q 10 Z) (Y.q 11 Z) (Y.q 12 Z) (Y.q 13 Z) (Y.q 14 Z) σ (by exact (by assumption:NetC w_).2) a0 a1) O ?_
 rintro ⟨⟨_,p1,c1⟩,⟨⟨p2,c2⟩,⟨p3,c3⟩,⟨p4,c4⟩,p5,c5⟩,⟨p6,c6⟩,⟨p7,c7⟩,_,⟨p8,c8⟩,⟨p9,c9⟩,⟨a3,a4⟩,_⟩ a2;dsimp only
 rw [show a0u w_ e_=((a1l w_ e_).1,(a1l w_ e_).2) by simp only [a0u,h1,h2,h3,h4,h5,h6,h7,h8,h9,cC]];rotate_left;refine yKE 97 ?_ ?_<;>intro a5 an;refine R0 ?_;refine CU ((a1l w_ e_).2) 999 [15,16,17,18,19,20,21,22,23,24] 35 Z Z Z Z Z Z Z O Z (λw β H η σ Y=>f167 n Q0 η (β 999) w_ K0 M0 K1 M1 K2 M2 K3 M3 K4 M4 K5 M5 K6 M6 K7 M7 K8 M8 K9 M9 e_ (Y.q 10 Z) (Y.q 11 Z) (Y.q 12 Z) (Y.q 13 Z) (Y.q 14 Z) σ (by exact (by assumption:NetC w_).2) a0 a1) O ?_
 rintro ⟨⟨_,p1,c1⟩,⟨⟨p2,c2⟩,⟨p3,c3⟩,⟨p4,c4⟩,p5,c5⟩,⟨p6,c6⟩,⟨p7,c7⟩,_,⟨p8,c8⟩,⟨p9,c9⟩,⟨a3,a4⟩,_⟩ a2;dsimp only
 rw [show a0u w_ e_=((a1l w_ e_).1,(a1l w_ e_).2) by first|(simp only [a0u,h1,h2,h3,h4,h5,h6,h7,h8,h9,a5,cC];done)|(unfold a0u;rw [a5,h9,h8,h7,h6,h5,h4,h3,h2,h1];simp only [cC])];rotate_left;refine yKE 103 ?_ ?_<;>intro a7 ao;refine R0 ?_;refine CU (a2a w_) 999 [15,16,17,18,19,20,21,22,23,24] 35 Z Z Z Z Z Z Z O Z (λw β H η σ Y=>f31 n Q0 η (β 999) w_ K0 M0 K1 M1 K2 M2 K3 M3 K4 M4 K5 M5 K6 M6 K7 M7 K8 M8 K9 M9 σ a0) O ?_
 rintro ⟨⟨_,p1,c1⟩,⟨⟨p2,c2⟩,⟨p3,c3⟩,⟨p4,c4⟩,p5,c5⟩,⟨p6,c6⟩,⟨p7,c7⟩,_,⟨p8,c8⟩,⟨p9,c9⟩,⟨a3,a4⟩,_⟩ a2;dsimp only
 rw [show a0u w_ e_=(true,a2a w_) by first|(simp only [a0u,h1,h2,h3,h4,h5,h6,h7,h8,h9,a5,a7,cC];done)|(unfold a0u;rw [a7,a5,h9,h8,h7,h6,h5,h4,h3,h2,h1];simp only [cC])];rotate_left;rw [show a0u w_ e_=(false,w_) by first|(simp only [a0u,h1,h2,h3,h4,h5,h6,h7,h8,h9,a5,a7,cC];done)|(unfold a0u;rw [a7,a5,h9,h8,h7,h6,h5,h4,h3,h2,h1];simp only [cC])];exact yY [15,16,17,18,19,20,21,22,23,24] (nT K0 M0 K1 M1 K2 M2 K3 M3 K4 M4 K5 M5 K6 M6 K7 M7 K8 M8 K9 M9) a0
 all_goals
  exact yY [45,46,47,48,49,50,51,52,53,54] (nT p1 c1 p2 c2 p3 c3 p4 c4 p5 c5 p6 c6 p7 c7 p8 c8 p9 c9 a3 a4) a2
end Go.Proofs.YthdfhghdipdknaaGreat
namespace Go.Stp
def abp (code:(List UInt8)):Bool:=(decide (((code).length:Int)>1048576))
theorem amv (x:Int):0<=bitO .and x 255/\bitO .and x 255<=255:=by grind [Nat.and_le_right,bitO,afg,I64]
theorem alm {x n:Int}(h:0<=x)(hn:0<n):0<=Int.tmod x n/\(Int.tmod x n<n\/(Int.tmod x n=0/\n<=0)):=
 ⟨Int.tmod_nonneg n h,.inl (Int.tmod_lt_of_pos x hn)⟩
set_option maxRecDepth 100000 in
def a7x:List UInt8->Nat->Int->Int|[],i,h_=>h_|e1::rest_,i,h_=>bif decide (((i:Nat):Int)<4000)then a7x rest_ (i+1) (bitO .and (i64.wrap ((i64.wrap ((i64.wrap (h_*137))+((e1).toNat:Int)))+11)) 1073741823)else h_
set_option maxRecDepth 100000 in
def aa8 (code:(List UInt8)):Int×Int:=match a7x code 0 (i64.wrap (192917+((code).length:Int)))with|h_=>(0,h_)
set_option maxRecDepth 100000 in
theorem abr:True:=by have h1:= @a7x.eq_1;have h2:= @a7x.eq_2;trivial
def a25 (c_b:(List UInt8))(c_i:Int)(c_h:Int):Int×Int×Int:=bif decide (c_i<((c_b).length:Int))then match (c_b)[(c_i).toNat]? with|none=>default|some e1=>((bitO .and (i64.wrap ((bitO .and (bitO .xor (Int.fdiv (i64.wrap ((i64.wrap (c_h*6364136223846793005))+1442695040888963407)) (2^ (min (Int.toNat (33:Int)) 64))) (Int.fdiv (i64.wrap ((i64.wrap (c_h*6364136223846793005))+1442695040888963407)) (2^ (min (Int.toNat (47:Int)) 64)))) 255)+((e1).toNat:Int))) 255),c_i+1,i64.wrap ((i64.wrap (c_h*6364136223846793005))+1442695040888963407))else ((bitO .and (bitO .xor (Int.fdiv (i64.wrap ((i64.wrap (c_h*6364136223846793005))+1442695040888963407)) (2^ (min (Int.toNat (33:Int)) 64))) (Int.fdiv (i64.wrap ((i64.wrap (c_h*6364136223846793005))+1442695040888963407)) (2^ (min (Int.toNat (47:Int)) 64)))) 255),c_i,i64.wrap ((i64.wrap (c_h*6364136223846793005))+1442695040888963407))
theorem aez (b:List UInt8)(i h:Int):0<=(a25 b i h).1/\(a25 b i h).1<=255:=by
 unfold a25;cases decide (i<(b.length:Int))
 ·exact amv _
 ·simp only [cond_true]
  cases b[i.toNat]? with
  |none=>exact ⟨Int.le_refl (0:Int),(by decide:(0:Int)<=255)⟩
  |some e=>exact amv _
def a0e (c_b:(List UInt8))(c_i:Int)(c_h:Int)(n_:Int):Int×Int×Int:=bif decide (n_<=0)then (0,c_i,c_h)else bif decide (n_<=256)then match a25 c_b c_i c_h with|(u1,u2,u3)=>((Int.tmod u1 n_),u2,u3)else match a25 c_b c_i c_h with|(u4,u5,u6)=>match a25 c_b u5 u6 with|(u7,u8,u9)=>match a25 c_b u8 u9 with|(u10,u11,u12)=>((Int.tmod (((u4*65536)+(u7*256))+u10) n_),u11,u12)
theorem acu (b:List UInt8)(i h n:Int):0<=(a0e b i h n).1/\((a0e b i h n).1<n\/((a0e b i h n).1=0/\n<=0)):=by
 unfold a0e;cases hn:decide (n<=0)
 ·have h0:=of_decide_eq_false hn
  simp only [cond_false];cases decide (n<=256)
  ·simp only [cond_false]
   have q1:=aez b i h;rcases e1:a25 b i h with ⟨x1,i1,h1⟩;have q2:=aez b i1 h1;rcases e2:a25 b i1 h1 with ⟨x2,i2,h2⟩;have q3:=aez b i2 h2;rcases e3:a25 b i2 h2 with ⟨x3,i3,h3⟩;rw [e1]at q1;rw [e2]at q2;rw [e3]at q3;dsimp only at q1 q2 q3 ⊢;exact alm (by omega) (by omega)
  ·exact alm (aez _ _ _).1 (by omega)
 ·grind
end Go.Stp
namespace Go.Proofs.YthdfhghdipdknaaGreat
open Go.Stp
open Go.Stp.GoT (ok)
variable {w : World} (n : Nat) {K0 : Option Addr} {M0 : Nat}
theorem f4 {code:List UInt8}(N0:Rd w K0 M0 code)(a0:ok n code):
 DP 4 #[vS K0 code M0] w (pB (abp code)):=by
 refine EN Tryz.func4 Z (aS1 N0) ?_;exact R4r Z Z (by simp only [abp])
theorem f19 (hn:n+0<=9){code:List UInt8}(N0:Rd w K0 M0 code)(a0:ok n code){o0_:Int}{o1_:Int}(hres:aa8 code=(o0_,o1_)):
 DP 19 #[vS K0 code M0] w (Post w emp (λb_:Nat=> .pointer (some ⟨b_,0,none⟩)) (λb_=>[cu b_ K0 code M0 o0_ o1_]) (NN (o0_)/\I64 (o1_))):=by
 refine EN Tryz.func19 Z (aS1 N0) ?_;refine SW ?_;refine LM Z (i64.wrap (192917+code.length),0) (λ|(h_,i)=>((i<=code.length)/\J6 h_/\(a7x code 0 _=a7x (code.drop i) i h_),code.length-i,[(3,.v (vI h_)),(4,.v (vI i))],[],[],[])) ⟨zl,(ad0 _),Z⟩ [0] [] [0] [0] ?_;rintro ⟨h_,i⟩ ⟨v1,v2,v3⟩;refine yKD 12 ?_ ?_<;>intro h1 a9;have a5:i<code.length:=Q0;obtain ⟨e1,a3⟩:=gE a5;refine yKD 15 ?_ ?_<;>intro h2 a7
 refine SW ?_;refine yI 0 i a5 ?_;rintro a8 rfl;refine zL 0 1 e1 a3 ?_;rintro ⟨⟩;refine WX.see Z Z Z (λ_ hΓ=>ags ttOk Z Z Z Z Z Z) ?_;refine SW0 ?_;refine SW0 ?_;refine WX.see Z Z Z (λ_ hΓ=>aei Z Z Z Z) ?_;refine SA ?_
 exact ITr Z (bitO .and (i64.wrap ((i64.wrap ((i64.wrap (h_*137))+e1.toNat))+11)) 1073741823,i+1) ⟨Q0,(aiy .and (i64.wrap ((i64.wrap ((i64.wrap (h_*137))+e1.toNat))+11)) 1073741823),(by rw [v3,abu a3];simp only [a7x,h2,cC])⟩ Q1 [0];have a1:=v3.trans (show _=h_ by rw [abu a3];simp only [a7x,h2,cC]);rotate_left;have a1:=v3.trans (show _=h_ by rw [dn];simp only [a7x];omega);rotate_left
 all_goals
  have a2:aa8 code=(0,h_):=by simp only [aa8,a1]
  have a4:=a2.symm.trans hres;obtain ⟨a4,a6⟩:=Prod.mk.inj a4;subst a4;subst a6;refine R0 ?_;refine WX.retQ Z λw1 G bs hI hΓ=>?_;exact Post.ofL 31 [] (bs 31) hI hΓ Z Z Z Z (⟨(by unfold NN;omega),v2⟩)
theorem f158 (hn:n+0<=9){H:GH}(hH:Le H (hp w)){bc_:Nat}{c_b:List UInt8}(N0:RdSl (cut (hp w) H) K0 M0 c_b){c_i:Int}{c_h:Int}(hown:Sep H [cu bc_ K0 c_b M0 c_i c_h])(a2:ok n c_b)(a0:NN c_i)(a5:ok n c_h){o0_:Int}{o1_:Int}{o2_:Int}(hres:a25 c_b c_i c_h=(o0_,o1_,o2_)):
 Does Tryz.prog 158 #[.pointer (some ⟨bc_,0,none⟩)] w H (Post w H (λ_:Unit=> .int .i64 (o0_)) (λ_=>[cu bc_ K0 c_b M0 o1_ o2_]) (ok n (o0_:Int)/\NN (o1_)/\I64 (o2_))):=by
 have hb:=bS0 hn;have aa:c_b.length<=bd n:=(okl a2).1;refine WX.enterP (tt:=tt) (Γ:=[(0,MF.rs .stb K0 M0 c_b)]) 1 Tryz.func158 Z J Z (ac6 Z N0 ac8) hH hown (λf hf=>by cases hf) Z ?_;refine SW ?_;refine SW0 ?_;refine yD [] λbs G0 a4=>?_;refine dT 9 [1,3,5,6] ?_;refine DX.see 4 J Z Z Z Z (ahi Z Z Z Q9) ?_;refine dT 4 [11,13,15,16] ?_;refine DX.see 9 J Z Z Z Z (ahi Z Z Z Q9) ?_;refine DX.see 10 J Z Z Z Z (aei Z Z Z Z) ?_;refine DX.see 11 J Z Z Z Z (aei Z Z Z Z) ?_;refine dT 0 [25] ?_;refine DX.tail2 [] Z Z J ?_
 refine yD [] λbs G0 a4=>?_;refine dT 0 [1,3,5,6,9,11,13,14,17,19] ?_;refine DX.tail2 [] Z Z J ?_;refine yKD 34 ?_ ?_<;>intro h1 ac;refine yD [] λbs G0 a4=>?_;refine dT 6 [1,3,5,7,8,11,13,15,16] ?_;have r1:0<=c_i/\c_i<=9223372036854775807:=a0;refine DI 43 ?_;have a8:c_i.toNat<c_b.length:=Q4;obtain ⟨e1,a9⟩:=gE a8;refine zDI 9 0 _ a4 Z a8 ?_;rintro ab rfl;refine zDL 10 0 2 e1 a4 a9 ?_;rintro ⟨⟩;refine DX.see 11 J Z Z Z Z (ags ttOk Z Z Z Z Z Z) ?_;refine DX.seeP 12 J Z Z Z Z (aes Z Z Z Z) ?_
 refine DX.see 13 J Z Z Z Z (aei Z Z Z Z) ?_;refine dT 0 [29] ?_;refine DX.tail2 [] Z Z J ?_;refine SA ?_
 have a6:a25 c_b c_i c_h=(bitO .and (i64.wrap ((bitO .and (bitO .xor (Int.fdiv (i64.wrap ((i64.wrap (c_h*6364136223846793005))+1442695040888963407)) (2^ (min (Int.toNat (33:Int)) 64))) (Int.fdiv (i64.wrap ((i64.wrap (c_h*6364136223846793005))+1442695040888963407)) (2^ (min (Int.toNat (47:Int)) 64)))) 255)+(e1.toNat:Int))) 255,c_i+1,i64.wrap ((i64.wrap (c_h*6364136223846793005))+1442695040888963407)):=by simp only [a25,h1,a9,cC]
 have a3:=a6.symm.trans hres;obtain ⟨a3,a1⟩:=Prod.mk.inj a3;obtain ⟨a1,a7⟩:=Prod.mk.inj a1;subst a3;subst a1;subst a7;exact yY [] () (⟨(aiy _ _ _),⟨(show NN (c_i+1)from by unfold NN;omega),(ad0 _)⟩⟩)
 have a6:a25 c_b c_i c_h=(bitO .and (bitO .xor (Int.fdiv (i64.wrap ((i64.wrap (c_h*6364136223846793005))+1442695040888963407)) (2^ (min (Int.toNat (33:Int)) 64))) (Int.fdiv (i64.wrap ((i64.wrap (c_h*6364136223846793005))+1442695040888963407)) (2^ (min (Int.toNat (47:Int)) 64)))) 255,c_i,i64.wrap ((i64.wrap (c_h*6364136223846793005))+1442695040888963407)):=by simp only [a25,h1,cC]
 have a3:=a6.symm.trans hres;obtain ⟨a3,a1⟩:=Prod.mk.inj a3;obtain ⟨a1,a7⟩:=Prod.mk.inj a1;subst a3;subst a1;subst a7;exact yY [] () (⟨(aiy _ _ _),⟨a0,(ad0 _)⟩⟩)
theorem f105 (hn:n+0<=9){H:GH}(hH:Le H (hp w)){bc_:Nat}{c_b:List UInt8}(N0:RdSl (cut (hp w) H) K0 M0 c_b){c_i:Int}{c_h:Int}{n_:Int}(hown:Sep H [cu bc_ K0 c_b M0 c_i c_h])(a0:ok n c_b)(a2:NN c_i)(a1:ok n c_h)(a5:ok n n_){o0_:Int}{o1_:Int}{o2_:Int}(hres:a0e c_b c_i c_h n_=(o0_,o1_,o2_)):
 Does Tryz.prog 105 #[.pointer (some ⟨bc_,0,none⟩),vI n_] w H (Post w H (λ_:Unit=> .int .i64 (o0_)) (λ_=>[cu bc_ K0 c_b M0 o1_ o2_]) (ok n (o0_:Int)/\NN (o1_)/\I64 (o2_))):=by
 refine WX.enterP (tt:=tt) (Γ:=[(0,MF.rs .stb K0 M0 c_b)]) 1 Tryz.func105 Z J Z (ac6 Z N0 ac8) hH hown (λf hf=>by cases hf) Z ?_;refine yKD 9 ?_ ?_<;>intro h1 aj;have a8:a0e c_b c_i c_h n_=(0,c_i,c_h):=by simp only [a0e,h1,cC]
 have a4:=a8.symm.trans hres;obtain ⟨a4,a3⟩:=Prod.mk.inj a4;obtain ⟨a3,a9⟩:=Prod.mk.inj a3;subst a4;subst a3;subst a9;exact yY [] () ⟨(i6 0),⟨a2,a1⟩⟩;refine yKD 11 ?_ ?_<;>intro h2 ai;obtain ⟨⟨u1,u2,u3⟩,a6⟩:=xE (a25 c_b c_i c_h);refine KP Z 999 2 Z Z O (λw β H η σ Y=>f158 n Q0 η (Y.q 0 Z) σ a0 a2 a1 a6) ?_;rintro ⟨⟩ a7;have q1:=aez c_b c_i c_h;rw [a6]at q1
 try dsimp only at q1
 have r1:=ahr u1 (show (0:Int)<n_ by omega);refine KS Z Z Z Z (λ_ hΓ=>agt Z Z Z Q0) ?_;have a8:a0e c_b c_i c_h n_=(Int.tmod u1 n_,u2,u3):=by simp only [a0e,h1,h2,a6,cC]
 have a4:=a8.symm.trans hres;obtain ⟨a4,a3⟩:=Prod.mk.inj a4;obtain ⟨a3,a9⟩:=Prod.mk.inj a3;subst a4;subst a3;subst a9;exact yY [] () ⟨(i6 (Int.tmod u1 n_)),⟨a7.2.1,a7.2.2⟩⟩;obtain ⟨⟨u4,u5,u6⟩,a6⟩:=xE (a25 c_b c_i c_h);refine KP Z 999 2 Z Z O (λw β H η σ Y=>f158 n Q0 η (Y.q 0 Z) σ a0 a2 a1 a6) ?_;rintro ⟨⟩ a7;have q1:=aez c_b c_i c_h;rw [a6]at q1
 try dsimp only at q1
 obtain ⟨⟨u7,u8,u9⟩,ad⟩:=xE (a25 c_b u5 u6);refine KP Z 999 3 Z Z O (λw β H η σ Y=>f158 n Q0 η (Y.q 0 Z) σ a0 a7.2.1 a7.2.2 ad) ?_;rintro ⟨⟩ aa;have q2:=aez c_b u5 u6;rw [ad]at q2
 try dsimp only at q2
 obtain ⟨⟨ab,ah,ag⟩,ac⟩:=xE (a25 c_b u8 u9);refine KP Z 999 4 Z Z O (λw β H η σ Y=>f158 n Q0 η (Y.q 0 Z) σ a0 aa.2.1 aa.2.2 ac) ?_;rintro ⟨⟩ ae;have q3:=aez c_b u8 u9;rw [ac]at q3
 try dsimp only at q3
 have r1:=i8 a7.1;refine SA ?_;refine SA ?_;refine SA0 ?_;refine SA ?_;have r4:=ahr (((u4*65536)+(u7*256))+ab) (show (0:Int)<n_ by omega);refine KS Z Z Z Z (λ_ hΓ=>agt Z Z Z Q0) ?_;have a8:a0e c_b c_i c_h n_=(Int.tmod (((u4*65536)+(u7*256))+ab) n_,ah,ag):=by simp only [a0e,h1,h2,a6,ad,ac,cC]
 have r5:=i8 a5;have a4:=a8.symm.trans hres;obtain ⟨a4,a3⟩:=Prod.mk.inj a4;obtain ⟨a3,a9⟩:=Prod.mk.inj a3;subst a4;subst a3;subst a9;exact yY [] () ⟨(i6 (Int.tmod (((u4*65536)+(u7*256))+ab) n_)),⟨ae.2.1,ae.2.2⟩⟩
end Go.Proofs.YthdfhghdipdknaaGreat
namespace Go.Stp
def a1m (c_b:(List UInt8))(c_i:Int)(c_h:Int)(n_:Int):Bool×Int×Int:=match a0e c_b c_i c_h n_ with|(u1,u2,u3)=>((u1==0),u2,u3)
def a2x (c_b:(List UInt8))(c_i:Int)(c_h:Int)(list:(List Str)):Str×Int×Int:=match a0e c_b c_i c_h ((list).length:Int)with|(u1,u2,u3)=>match (list)[(u1).toNat]? with|none=>default|some e1=>(e1,u2,u3)
def a7y (c_b:(List UInt8)):Nat->(List UInt8)->Int->Int->(List UInt8)×Int×Int|0,out,u999_i,u999_h=>(((out):List UInt8),u999_i,u999_h)|m_+1,out,u999_i,u999_h=>match a25 c_b u999_i u999_h with|(u1,u2,u3)=>a7y c_b m_ (((out++[(toU8 u1)])):List UInt8) u2 u3
def a4e (c_b:(List UInt8))(c_i:Int)(c_h:Int)(n_:Int):(List UInt8)×Int×Int:=match a7y c_b ((n_).toNat) ([]:List UInt8) c_i c_h with|(out,u999_i,u999_h)=>(out,u999_i,u999_h)
theorem ajr (b:List UInt8):∀(m:Nat) (out:List UInt8) (i h:Int),(a7y b m out i h).1.length=out.length+m
 |0,out,i,h=>rfl
 |m+1,out,i,h=>by
  simp only [a7y];rcases a25 b i h with ⟨x,j,k⟩;dsimp only;rw [ajr b m]
  grind
theorem ai9 (b:List UInt8)(i h n:Int):(a4e b i h n).1.length=n.toNat:=by grind [a4e,ajr,a7y]
def a3z (s:Str)(by_:UInt8)(i:Nat)(out:List Str)(from_:Int):Nat×(List Str)×Int:=if ((i:Nat):Int)<=(((s).size:Nat):Int)then if (((i:Nat):Int)==(((s).size:Nat):Int))=true then a3z s by_ (i+1) (((out++[((s).extract (Int.toNat from_) i)])):List Str) (((i:Nat):Int)+1)else match ((s).data.toList)[i]? with|none=>default|some e1=>if (((e1).toNat:Int)==((by_).toNat:Int))=true then a3z s by_ (i+1) (((out++[((s).extract (Int.toNat from_) i)])):List Str) (((i:Nat):Int)+1)else a3z s by_ (i+1) ((out):List Str) from_ else (i,((out):List Str),from_)
termination_by (s).size + 1 - i
decreasing_by all_goals (simp_wf; omega)
def a0w (s:Str)(by_:UInt8):(List Str):=match a3z s by_ 0 ([]:List Str) 0 with|(i,out,from_)=>out
theorem au4 {s:Str}{i:Nat}(h:i<s.size):∃e,(s.data.toList)[i]? =some e:=⟨_,List.getElem?_eq_getElem (show i<s.data.toList.length from by rw [Array.length_toList];exact h)⟩
theorem apc (s:Str)(b:UInt8):∀(m i:Nat) (out:List Str) (f:Int),s.size+1-i=m->out.length<=(a3z s b i out f).2.1.length
 |0,i,out,f,h=>by rw [a3z,if_neg (by omega)];grind
 |m+1,i,out,f,h=>by
  rw [a3z,if_pos (by omega)]
  by_cases h2:i=s.size
  ·rw [if_pos (by simp [h2])]
   have:=apc s b m (i+1) (out++[s.extract (Int.toNat f) i]) (((i:Nat):Int)+1) (by omega)
   grind
  ·obtain ⟨e,he⟩:=au4 (s:=s) (i:=i) (by omega)
   rw [if_neg (by simp;omega),he];dsimp only;have h3:=apc s b m (i+1) (out++[s.extract (Int.toNat f) i]) (((i:Nat):Int)+1) (by omega);have h4:=apc s b m (i+1) out f (by omega)
   grind
theorem awp (s:Str)(b:UInt8):∀(m i:Nat) (out:List Str) (f:Int),s.size-i=m->i<=s.size->1<=(a3z s b i out f).2.1.length
 |m,i,out,f,h,hi=>by
  rw [a3z,if_pos (by omega)];have h3:=apc s b _ (i+1) (out++[s.extract (Int.toNat f) i]) (((i:Nat):Int)+1) rfl;rw [List.length_append,List.length_cons]at h3
  by_cases h2:i=s.size
  ·grind
  ·obtain ⟨e,he⟩:=au4 (s:=s) (i:=i) (by omega)
   rw [if_neg (by simp;omega),he];dsimp only
   split
   ·omega
   ·exact awp s b (m-1) (i+1) out f (by omega) (by omega)
termination_by m => m
decreasing_by omega
theorem aic (s:Str)(b:UInt8):1<=(a0w s b).length:=awp s b _ 0 [] 0 rfl (Nat.zero_le _)
def a40 (s:Str):aA×Bool:=bif ((s).toList==((⟨#[47]⟩:Str)).toList)then ((aA.mk ([])),true)else bif decide ((((a0w s (47:UInt8))).length:Int)<2)then ((aA.mk ([])),false)else match ((a0w s (47:UInt8)))[0]? with|none=>default|some e1=>bif (!((e1).toList==((⟨#[]⟩:Str)).toList))then ((aA.mk ([])),false)else bif (!(a1e (aA.mk (List.drop 1 (a0w s (47:UInt8))))))then ((aA.mk ([])),false)else ((aA.mk (List.drop 1 (a0w s (47:UInt8)))),true)
theorem awe {s:Str}(h:a2z s=true):s.size<=8:=by
 unfold a2z at h;cases h1:a07 (((s).size:Nat):Int) 1 8
 ·grind
 ·unfold a07 at h1
  grind
theorem auj:∀(l:List Str),a3d l=none->∀a∈l,a.size<=8
 |[],_,a,ha=>by cases ha
 |x::l,h,a,ha=>by
  simp only [a3d]at h;cases hv:a2z x
  ·grind
  ·rw [hv]at h
   rcases List.mem_cons.1 ha with rfl|ha
   ·exact awe hv
   ·exact auj l h a ha
theorem aov:∀(l:List Str) (r:Bool),a3d l=some r->r=false
 |[],_,h=>by cases h
 |x::l,r,h=>by
  simp only [a3d]at h;cases hv:a2z x
  ·grind
  ·rw [hv]at h;exact aov l r h
theorem asx {m:aA}(h:a1e m=true):GoT.ok 0 m:=by
 unfold a1e at h;cases h1:a3d m.parts with
 |some r=>rw [h1]at h;have:=aov _ _ h1;subst this;cases h
 |none=>
  rw [h1]at h;have h2:=of_decide_eq_true h;exact (aby (by rw [bd_0];omega) (λa ha=>Nat.le_trans (auj _ h1 a ha) (by decide)):GoT.ok 0 m.parts)
theorem avp (s:Str):GoT.ok 0 (a40 s).1:=by
 have h0:GoT.ok 0 (aA.mk []):=(aby (Nat.zero_le _) (λa ha=>by cases ha):GoT.ok 0 ([]:List Str));unfold a40;cases ((s).toList==((⟨#[47]⟩:Str)).toList)
 ·simp only [cond_false]
  cases decide ((((a0w s (47:UInt8))).length:Int)<2)
  ·simp only [cond_false]
   cases ((a0w s (47:UInt8)))[0]? with
   |none=>exact h0
   |some e1=>
    dsimp only;cases (!((e1).toList==((⟨#[]⟩:Str)).toList))
    ·grind [List.drop,a0w,asx]
    ·exact h0
  ·exact h0
 ·exact h0
def a02 (s:Str):aA:=((a40 s).1)
theorem aud {k:Nat}{n_:aA}{s:Str}(h:GoT.ok k n_):GoT.ok k (bif (!(a1e (aA.mk (n_.parts++[s]))))then (n_,false)else ((aA.mk (n_.parts++[s])),true)).1:=by
 cases hv:a1e (aA.mk (n_.parts++[s]))
 ·exact h
 ·exact GoT.okm (Nat.zero_le _) (asx hv)
def a0i (n_:aA)(s:Str):aA×Bool:=bif (!(a1e (aA.mk (n_.parts++[s]))))then ((a05 n_),false)else ((aA.mk (n_.parts++[s])),true)
theorem apa (n_:aA)(s:Str):(a0i n_ s).1.parts.length<=n_.parts.length+1:=by unfold a0i;cases (!(a1e (aA.mk (n_.parts++[s]))))<;>simp [a05]
end Go.Stp
namespace Go.Proofs.YthdfhghdipdknaaGreat
open Go.Stp
open Go.Stp.GoT (ok)
variable {w : World} (n : Nat) {K0 K1 : Option Addr} {M0 M1 : Nat}
theorem f154 (hn:n+0<=9){H:GH}(hH:Le H (hp w)){bc_:Nat}{c_b:List UInt8}(N0:RdSl (cut (hp w) H) K0 M0 c_b){c_i:Int}{c_h:Int}{n_:Int}(hown:Sep H [cu bc_ K0 c_b M0 c_i c_h])(a0:ok n c_b)(a1:NN c_i)(a2:ok n c_h)(a3:ok n n_){o0_:Bool}{o1_:Int}{o2_:Int}(hres:a1m c_b c_i c_h n_=(o0_,o1_,o2_)):
 Does Tryz.prog 154 #[.pointer (some ⟨bc_,0,none⟩),vI n_] w H (Post w H (λ_:Unit=> .bool o0_) (λ_=>[cu bc_ K0 c_b M0 o1_ o2_]) (NN (o1_)/\I64 (o2_))):=by
 refine WX.enterP (tt:=tt) (Γ:=[(0,MF.rs .stb K0 M0 c_b)]) 1 Tryz.func154 Z J Z (ac6 Z N0 ac8) hH hown (λf hf=>by cases hf) Z ?_;obtain ⟨⟨u1,u2,u3⟩,a6⟩:=xE (a0e c_b c_i c_h n_);refine KP Z 999 2 Z Z O (λw β H η σ Y=>f105 n Q0 η (Y.q 0 Z) σ a0 a1 a2 a3 a6) ?_;rintro ⟨⟩ a8;have q1:=acu c_b c_i c_h n_;rw [a6]at q1
 try dsimp only at q1
 have aa:a1m c_b c_i c_h n_=(u1==0,u2,u3):=by simp only [a1m,a6]
 have a5:=aa.symm.trans hres;obtain ⟨a5,a4⟩:=Prod.mk.inj a5;obtain ⟨a4,a9⟩:=Prod.mk.inj a4;subst a5;subst a4;subst a9;exact yY [] () ⟨a8.2.1,a8.2.2⟩
theorem f156 (hn:n+0<=9){H:GH}(hH:Le H (hp w)){bc_:Nat}{c_b:List UInt8}(N0:RdSl (cut (hp w) H) K0 M0 c_b){c_i:Int}{c_h:Int}{list:List Str}(N1:RdSl (cut (hp w) H) K1 M1 list)(hown:Sep H [cu bc_ K0 c_b M0 c_i c_h])(a1:ok n c_b)(a3:NN c_i)(a2:ok n c_h)(hq0:0<list.length)(a0:ok n list){o0_:Str}{o1_:Int}{o2_:Int}(hres:a2x c_b c_i c_h list=(o0_,o1_,o2_)):
 Does Tryz.prog 156 #[.pointer (some ⟨bc_,0,none⟩),vS K1 list M1] w H (Post w H (λ_:Unit=> .string o0_) (λ_=>[cu bc_ K0 c_b M0 o1_ o2_]) (ok n (o0_:Str)/\NN (o1_)/\I64 (o2_))):=by
 have hb:=bS0 hn;refine WX.enterP (tt:=tt) (Γ:=[(0,MF.rs .stb K0 M0 c_b),(1,MF.rs .stb K1 M1 list)]) 2 Tryz.func156 Z J Z (ac6 Z N0 (ac6 Z N1 ac8)) hH hown (λf hf=>by cases hf) Z ?_;have r1:=(okl a0).1;obtain ⟨⟨u1,u2,u3⟩,a5⟩:=xE (a0e c_b c_i c_h (list.length:Int));refine KP Z 999 3 Z Z O (λw β H η σ Y=>f105 n Q0 η (Y.q 0 Z) σ a1 a3 a2 (i6 list.length) a5) ?_;rintro ⟨⟩ a6;have q1:=acu c_b c_i c_h (list.length:Int);rw [a5]at q1
 try dsimp only at q1
 have r2:=i8 a6.1;refine SI 9 ?_;obtain ⟨e1,a8,aa,ac⟩:=gO a0 u1.toNat;refine zI 1 _ ac ?_;rintro ae rfl;refine zL 1 4 e1 a8 ?_;rintro ⟨⟩;have ab:a2x c_b c_i c_h list=(e1,u2,u3):=by simp only [a2x,a5,a8]
 have a7:=ab.symm.trans hres;obtain ⟨a7,a4⟩:=Prod.mk.inj a7;obtain ⟨a4,ad⟩:=Prod.mk.inj a4;subst a7;subst a4;subst ad;exact yY [] () ⟨aa,⟨a6.2.1,a6.2.2⟩⟩
theorem f153 (hn:n+0<=9){H:GH}(hH:Le H (hp w)){bc_:Nat}{c_b:List UInt8}(N0:RdSl (cut (hp w) H) K0 M0 c_b){c_i:Int}{c_h:Int}{n_:Int}(hown:Sep H [cu bc_ K0 c_b M0 c_i c_h])(a4:ok n c_b)(a8:NN c_i)(a7:ok n c_h)(hq0:n_<=1048576)(a9:ok n n_){o0_:List UInt8}{o1_:Int}{o2_:Int}(hres:a4e c_b c_i c_h n_=(o0_,o1_,o2_)):
 Does Tryz.prog 153 #[.pointer (some ⟨bc_,0,none⟩),vI n_] w H (Post w H (λx:GoT.X ((List UInt8))=>(GoT.sh (o0_:(List UInt8)) x).headD undef) (λx=>cu bc_ K0 c_b M0 o1_ o2_::GoT.oa (o0_:(List UInt8)) x) (ok n (o0_:(List UInt8))/\NN (o1_)/\I64 (o2_))):=by
 have hb:=bS0 hn;have ag:c_b.length<=bd n:=(okl a4).1;refine WX.enterP (tt:=tt) (Γ:=[(0,MF.rs .stb K0 M0 c_b)]) 1 Tryz.func153 Z J Z (ac6 Z N0 ac8) hH hown (λf hf=>by cases hf) Z ?_;refine yB λp1=>?_;refine F0 2 UInt8 ?_;have r1:=i8 a9
 refine LM Z (p1,0,[],[],0,c_i,c_h) (λ|(a5,a6,a3,a2,i,a0,a1)=>((i<=n_.toNat)/\JE n a2/\(NN a0)/\J6 a1/\(a2.length<=i)/\(a7y c_b (n_.toNat) [] c_i c_h=a7y c_b (n_.toNat-i) a2 a0 a1),n_.toNat-i,[(5,.v (vS a5 a2 a6)),(6,.v (vI i))],[(999,⟨112,[.slice K0 (c_b.length) M0,.int .i64 a0,.int .i64 a1]⟩)],[(7,⟨1,a5,a2.length,a6,a3⟩)],[(2,MF.ol a3 a2)])) ⟨zl,nA,a8,a7,Q10,Z⟩ [0,1] [] [0] [0,2] ?_;rintro ⟨a5,a6,a3,a2,i,a0,a1⟩ ⟨v1,v2,v3,v4,v5,v6⟩
 refine yKD 10 ?_ ?_<;>intro h1 aj;obtain ⟨⟨u1,u2,u3⟩,ac⟩:=xE (a25 c_b a0 a1);refine KP Z 999 3 Z Z O (λw β H η σ Y=>f158 n Q0 η (Y.q 0 Z) σ a4 v3 v4 ac) ?_;rintro ⟨⟩ ad;have q1:=aez c_b a0 a1;rw [ac]at q1
 try dsimp only at q1
 refine WX.see Z Z Z (λ_ hΓ=>agv ttOk Z Z Z Z Z Z) ?_;refine zB λp2=>?_;refine zT (α:=UInt8) [] 4 (toU8 u1) () λ_=>?_;refine WX.know (λG hΓ=>(hΓ.get 4 Z:OwL _ _ _).rd.one) λah=>?_;refine zP 7 17 ((a2++[(toU8 u1)]):List UInt8).length ah λp3 c1=>?_;refine zV [2,4] 5 ?_;refine SA ?_;refine zU [5] 2 ?_
 exact ITr Z (p3,c1,_,(a2++[(toU8 u1)]),i+1,u2,u3) ⟨Q0,(λ_ _=>trivial),ad.2.1,ad.2.2,Q3,(by rw [v6,show n_.toNat-i=(n_.toNat- (i+1))+1 by omega];simp only [a7y,ac])⟩ Q1 [0,2];have af:=v6.trans (show _=((a2:List UInt8),a0,a1) by rw [show n_.toNat-i=0 by omega];simp only [a7y]);refine yE 7 2 15 ?_;have aa:a4e c_b c_i c_h n_=(a2,a0,a1):=by simp only [a4e,af]
 have ae:=aa.symm.trans hres;obtain ⟨ae,ab⟩:=Prod.mk.inj ae;obtain ⟨ab,ai⟩:=Prod.mk.inj ab;subst ae;subst ab;subst ai;exact zY [16] (a5,a6) (⟨(aby Q0 (λ_ _=>trivial)),⟨v3,v4⟩⟩)
theorem f208 (hn:n+1<=9){s:Str}(by_:UInt8)(a5:ok n s):
 DP 208 #[.string s,.int .u8 ((by_).toNat:Nat)] w (pS w (n+1) (a0w s by_)):=by
 have hb:=bS1 hn;refine EN Tryz.func208 Z ac8 ?_;refine yB λp1=>?_;refine F0 0 Str ?_;have ab:s.size<=bd n:=a5
 refine LM Z (p1,0,[],([]:List Str),0,0) (λ|(a3,a4,a2,a1,a0,i)=>(JE n a1/\J6 a0/\(0<=a0/\a0<=((i:Nat):Int))/\(i<=s.size+1)/\(a1.length<=i)/\(a3z s by_ 0 ([]:List Str) 0=a3z s by_ i a1 a0),s.size+1-i,[(5,.v (vS a3 a1 a4)),(6,.v (vI a0)),(7,.v (vI i))],[],[(8,⟨1,a3,a1.length,a4,a2⟩)],[(0,MF.ol a2 (a1:List Str))])) ⟨nA,Q4,Q0,Q0,Q10,Z⟩ [0,1] [] [] [0] ?_;rintro ⟨a3,a4,a2,a1,a0,i⟩ ⟨v1,v2,v3,v4,v5,v6⟩;refine yKD 12 ?_ ?_<;>intro h1 a6
 refine yKE 19 ?_ ?_<;>intro h2 ad;refine KS Z Z Z Z (λ_ hΓ=>alb (Int.toNat a0) i ttOk Z Z Z Z Z Z Q0 (show ((i:Nat):Int)=((i:Nat):Int)from Z) (show (Int.toNat a0)<=i from Q0) (show i<=s.size from Q0)) ?_;have r2:((s.extract (Int.toNat a0) i)).size=i- (Int.toNat a0):=by rw [ByteArray.size_extract];have z_:=(show i<=s.size from Q0);omega
 refine zB λp2=>?_;refine zT (α:=Str) [] 1 (s.extract (Int.toNat a0) i) () λa7=>?_;refine zP 8 31 ((a1++[(s.extract (Int.toNat a0) i)]):List Str).length a7 λp3 c1=>?_;refine zV [0,1] 2 ?_;refine SA ?_;refine SA ?_;refine zU [2] 0 ?_
 exact ITr Z (p3,c1,_,(a1++[(s.extract (Int.toNat a0) i)]),(i:Nat)+1,i+1) ⟨(ac2 v1 (all_cons (show (s.extract (Int.toNat a0) i).size<=bd n from Q5) nA)),Q4,Q0,Q0,Q3,(by rw [v6];rw [a3z];simp only [a6,h2,↓reduceIte])⟩ Q1 [0];have aa:i<s.data.toList.length:=(by rw [show s.data.toList.length=s.size from by simp];omega)
 obtain ⟨e1,a8⟩:=gE aa;refine KS Z Z Z Z (λ_ hΓ=>ag0 ttOk Z Z Z Z Z a8) ?_;refine yKE 25 ?_ ?_<;>intro h3 ac;refine KS Z Z Z Z (λ_ hΓ=>alb (Int.toNat a0) i ttOk Z Z Z Z Z Z Q0 (show ((i:Nat):Int)=((i:Nat):Int)from Z) (show (Int.toNat a0)<=i from Q0) (show i<=s.size from Q0)) ?_;have r2:((s.extract (Int.toNat a0) i)).size=i- (Int.toNat a0):=by rw [ByteArray.size_extract];have z_:=(show i<=s.size from Q0);omega
 refine zB λp2=>?_;refine zT (α:=Str) [] 1 (s.extract (Int.toNat a0) i) () λa7=>?_;refine zP 8 31 ((a1++[(s.extract (Int.toNat a0) i)]):List Str).length a7 λp3 c1=>?_;refine zV [0,1] 2 ?_;refine SA ?_;refine SA ?_;refine zU [2] 0 ?_
 exact ITr Z (p3,c1,_,(a1++[(s.extract (Int.toNat a0) i)]),(i:Nat)+1,i+1) ⟨(ac2 v1 (all_cons (show (s.extract (Int.toNat a0) i).size<=bd n from Q5) nA)),Q4,Q0,Q0,Q3,(by rw [v6];rw [a3z];simp only [a6,h2,a8,h3,↓reduceIte,Bool.false_eq_true])⟩ Q1 [0];refine SA ?_
 exact ITr Z (a3,a4,a2,a1,a0,i+1) ⟨v1,v2,Q0,Q0,Q3,(by rw [v6];rw [a3z];simp only [a6,h2,a8,h3,↓reduceIte,Bool.false_eq_true])⟩ Q1 [0];have a9:=v6.trans (show _=(i,(a1:List Str),a0) by rw [a3z];simp only [a6,↓reduceIte]);refine yE 8 0 13 ?_;rw [show a0w s by_=a1 by simp only [a0w,a9]]
 exact zX [14] (a3,a4) (aby Q0 (λa ha=>GoT.okm Q0 (v1 a ha)))
theorem f185 (hn:n+1<=9){s:Str}(a0:ok n s):
 DP 185 #[.string s] w (pAB w (n+1) (a40 s)):=by
 have hb:=bS1 hn;refine EN Tryz.func185 Z ac8 ?_;refine yKE 7 ?_ ?_<;>intro h1 aa;refine F1 0 Str ?_;rw [show a40 s=(aA.mk ([]),true) by simp only [a40,h1,cC]];exact yX [0] (none,0) (acd);refine KF Z 0 Z O (λw Y=>f208 n Q0 47 a0) ?_;rintro ⟨p1,c1⟩ a2;have q1:=aic s (47:UInt8);have r2:=(okl a2).1;refine KS Z Z Z Z (λ_ hΓ=>aim 1 ttOk Z Z Z Z Q10 Q0) ?_
 refine WX.slot 12 (y:= .v (.slice (offP p1 c1 1 1) (((List.drop 1 (a0w s 47))).length) (c1-1))) Z (λ_=>by rw [show ((List.drop 1 (a0w s 47))).length=(((a0w s 47)).length)-1 from (by simp only [List.length_drop])]) ?_;refine WX.der 2 (MF.rs .der (offP p1 c1 1 1) (c1-1) (List.drop 1 (a0w s 47))) Z (λ_ hΓ=>RdSl.suf (hΓ.get 0 Z) 1) ?_;refine yKD 17 ?_ ?_<;>intro h2 a7;refine F1 3 Str ?_;rw [show a40 s=(aA.mk ([]),false) by simp only [a40,h1,h2,cC]]
 exact yX [3] (none,0) (acd);obtain ⟨e1,a1,a8,a3⟩:=gO a2 0;refine yI 0 0 a3 ?_;rintro a4 rfl;refine zL 0 3 e1 a1 ?_;rintro ⟨⟩;refine yKX 23 ?_ ?_<;>intro h3 a6;refine F1 3 Str ?_;rw [show a40 s=(aA.mk ([]),false) by simp only [a40,h1,h2,a1,h3,cC]];exact yX [3] (none,0) (acd)
 refine KV Z Z O (λw Y=>f189 (n+1) Q0 (aA.mk (List.drop 1 (a0w s (47:UInt8)))) (Y.q 2 Z) (aby Q3 (λa ha=>(okl a2).2 a (List.mem_of_mem_drop ha)):ok (n+1) ((List.drop 1 (a0w s (47:UInt8))):List Str))) λa5=>?_;refine yKN 27 ?_ ?_<;>intro h4 a9;refine F1 3 Str ?_;rw [show a40 s=(aA.mk ([]),false) by simp only [a40,h1,h2,a1,h3,h4,cC]];exact yX [3] (none,0) (acd);refine R0 ?_
 refine WX.turn [1] 3 Z (λh hs=>ara 1 Q0 hs) Z ?_;rw [show a40 s=(aA.mk (List.drop 1 (a0w s (47:UInt8))),true) by simp only [a40,h1,h2,a1,h3,h4,cC]];exact zX [3] ((offP (some a4) c1 1 1),(c1-1)) (aby Q3 (λa ha=>(okl a2).2 a (List.mem_of_mem_drop ha)))
theorem f148 (hn:n+1<=9){s:Str}(a0:ok n s):
 DP 148 #[.string s] w (pA w n (a02 s)):=by
 refine EN Tryz.func148 Z ac8 ?_;refine KF Z 0 Z O (λw Y=>f185 n Q0 a0) ?_;rintro ⟨p1,c1⟩ a2;have a1:a02 s=((a40 s).1):=by simp only [a02]
 refine R0 ?_;rw [a1];exact zX [1] (p1,c1) (by have z_:=(show ok 0 (a02 s)from avp s);rw [a1]at z_;exact GoT.okm Q0 z_)
theorem f150 (hn:n+1<=9)(n_:aA)(N0:Rd w K0 M0 n_.parts){s:Str}(a0:ok n n_)(a2:ok n s):
 DP 150 #[adu n_ K0 M0,.string s] w (pAB w n (a0i n_ s)):=by
 have hb:=bS1 hn;refine EN Tryz.func150 Z (aS1 N0) ?_;refine yB λp1=>?_;refine F0 1 Str ?_;have r1:=(okl (adf a0)).1;refine R0 ?_;refine zG 7 0 2 (n_.parts:List Str).length Z λa8 p2 c1=>?_;refine WX.know (λG hΓ=>(hΓ.get 2 Z:RdL _ _ _).flat) λa4=>?_;refine WX.turn [1] 3 Z (λh hs=>acx hs a4) Z ?_;refine yB λp3=>?_;refine zT (α:=Str) [] 4 s () λ_=>?_;refine WX.know (λG hΓ=>(hΓ.get 4 Z:OwL _ _ _).rd.one) λa3=>?_;refine zP 7 12 ((n_.parts++[s]):List Str).length a3 λp4 c2=>?_
 refine zV [3,4] 5 ?_;refine yE 7 5 6 ?_;refine CV Z O (λw Y=>f189 (n+1) Q0 (aA.mk (n_.parts++[s])) (Y.q 6 Z) (aby Q5 (λa ha=>GoT.okm (show n<=(n+1) by omega) ((ac2 (okl (adf a0)).2 (all_cons (α:=Str) a2 nA)) a ha)):ok (n+1) ((n_.parts++[s]):List Str))) λa6=>?_;refine yKN 17 ?_ ?_<;>intro h1 a7;refine KF Z 8 Z O (λw Y=>f110 n Q0 n_ (Y.q 0 Z) a0) ?_;rintro ⟨p5,c3⟩ a5;have a1:a0i n_ s=(a05 n_,false):=by simp only [a0i,h1,cC]
 refine R0 ?_;rw [a1];exact zX [9] _ (by have z_:=(show ok n (a0i n_ s).1 from aud a0);rw [a1]at z_;exact GoT.okm Q0 z_);have a1:a0i n_ s=(aA.mk (n_.parts++[s]),true):=by simp only [a0i,h1,cC]
 refine R0 ?_;rw [a1];exact zX [7] (p4,c2) (by have z_:=(show ok n (a0i n_ s).1 from aud a0);rw [a1]at z_;exact GoT.okm Q0 z_)
end Go.Proofs.YthdfhghdipdknaaGreat
namespace Go.Stp
def a90 (bZ:Int)(x_:aJ):aJ:=(aJ.mk ((a0m x_).name) ((a0m x_).content) ((a0m x_).aR) ((a0m x_).bL) (aat bZ (aar x_)))
end Go.Stp
namespace Go.Proofs.YthdfhghdipdknaaGreat
open Go.Stp
open Go.Stp.GoT (ok)
variable {w : World} (n : Nat) {K0 K1 K2 : Option Addr} {M0 M1 M2 : Nat}
theorem f190 (hn:n+7<=9){bZ:Int}(x_:aJ)(N0:Rd w K0 M0 x_.name.parts)(N1:Rd w K1 M1 x_.content)(N2:Rd w K2 M2 x_.aR.parts)(a0:ok n bZ)(a1:ok n x_):
 DP 190 #[vI bZ,afd x_ K0 M0 K1 M1 K2 M2] w (pA w n (a90 bZ x_)):=by
 refine EN Tryz.func190 Z (aS3 N0 N1 N2) ?_;refine KF Z 3 Z O (λw Y=>f118 n Q0 x_ (Y.q 0 Z) (Y.q 1 Z) (Y.q 2 Z) a1) ?_;rintro ⟨⟨p1,c1⟩,⟨p2,c2⟩,⟨p3,c3⟩,_⟩ a2;refine KF Z 9 Z O (λw Y=>f219 n Q0 x_ (Y.q 0 Z) (Y.q 1 Z) (Y.q 2 Z) a1) ?_;rintro ⟨p4,c4⟩ a3;refine CV Z O (λw Y=>f218 (n+5) Q0 (Y.q 9 Z) a0 a3) λa4=>?_
 rw [show a90 bZ x_=(aJ.mk ((a0m x_).name) ((a0m x_).content) ((a0m x_).aR) ((a0m x_).bL) (aat bZ (aar x_))) by simp only [a90]];exact yX [6,7,8] _ (An a2.1 (An a2.2.1 (An a2.2.2.1 (An a2.2.2.2.1 a4))))
end Go.Proofs.YthdfhghdipdknaaGreat
namespace Go.Stp
def a91 (b:(List Str)):List Str->Nat->Option (Bool)|[],i=>none|e1::rest_,i=>match (b)[i]? with|none=>default|some e2=>bif (!((e1).toList==(e2).toList))then (some false)else a91 b rest_ (i+1)
def a7z (a:(List Str))(b:(List Str)):Bool:=bif (((a).length:Int) !=((b).length:Int))then false else match a91 b a 0 with|some r_=>r_|none=>true
def a4f (a:aA)(b:aA):Bool:=(a7z a.parts b.parts)
def a80 (b:(List aK)):List aK->Nat->Option (Bool)|[],i=>none|e1::rest_,i=>match (b)[i]? with|none=>default|some e2=>bif (e1.value !=e2.value)then (some false)else bif (!(a4f e1.name e2.name))then (some false)else a80 b rest_ (i+1)
def a92 (a:(List aK))(b:(List aK)):Bool:=bif (((a).length:Int) !=((b).length:Int))then false else match a80 b a 0 with|some r_=>r_|none=>true
def a93 (b:(List UInt8)):List UInt8->Nat->Option (Bool)|[],i=>none|e1::rest_,i=>match (b)[i]? with|none=>default|some e2=>bif (((e1).toNat:Int) !=((e2).toNat:Int))then (some false)else a93 b rest_ (i+1)
def aa9 (a:(List UInt8))(b:(List UInt8)):Bool:=bif (((a).length:Int) !=((b).length:Int))then false else match a93 b a 0 with|some r_=>r_|none=>true
end Go.Stp
namespace Go.Proofs.YthdfhghdipdknaaGreat
open Go.Stp
open Go.Stp.GoT (ok)
variable {w : World} (n : Nat) {K0 K1 : Option Addr} {M0 M1 : Nat}
theorem f56 (hn:n+0<=9){a:List Str}(N0:Rd w K0 M0 a){b:List Str}(N1:Rd w K1 M1 b)(a0:ok n a)(a2:ok n b):
 DP 56 #[vS K0 a M0,vS K1 b M1] w (pB (a7z a b)):=by
 have hb:=bS0 hn;refine EN Tryz.func56 Z (aS2 N0 N1) ?_;refine yKM 10 ?_ ?_<;>intro h1 af;exact R4r Z Z (by simp only [a7z,h1,cC]);have r1:=(okl a0).1;refine LS 5 a (a91 b) [0,1] [] [0,1] ?_;rintro i ⟨v1,v2⟩;refine yKD 14 ?_ ?_<;>intro h2 ab;obtain ⟨e1,a4,ac,a8⟩:=gO a0 i;refine yD [] λbs G0 a1=>?_;refine dT 7 [1,3] ?_;refine zDI 2 0 i a1 Z a8 ?_;rintro ae rfl;refine zDL 3 0 2 e1 a1 a4 ?_;rintro ⟨⟩;refine dT 3 [9,11] ?_;obtain ⟨e2,a3,aa,a6⟩:=gO a2 i;refine zDI 6 1 i a1 Z a6 ?_;rintro ad rfl;refine zDL 7 1 2 e2 a1 a3 ?_;rintro ⟨⟩
 refine dT 0 [17] ?_;refine DX.tail2 [] Z Z J ?_;refine yKX 25 ?_ ?_<;>intro h3 a9;have a7:=v2.trans (show _=(some false) by rw [abu a4];simp only [a91,a3,h3,cC]);exact R4r Z Z (by simp only [a7z,h1,a7,cC]);refine SA ?_;exact ITr Z (i+1) ⟨Q0,(by rw [v2,abu a4];simp only [a91,a3,h3,cC])⟩ Q1 [0,1];have a5:=v2.trans (show _=none by rw [dn];simp only [a91];omega);exact R4r Z Z (by simp only [a7z,h1,a5,cC])
theorem f57 (hn:n+0<=9)(a:aA)(N0:Rd w K0 M0 a.parts)(b:aA)(N1:Rd w K1 M1 b.parts)(a0:ok n a)(a1:ok n b):
 DP 57 #[adu a K0 M0,adu b K1 M1] w (pB (a4f a b)):=by
 refine EN Tryz.func57 Z (aS2 N0 N1) ?_;refine KV Z Z O (λw Y=>f56 n Q0 (Y.q 0 Z) (Y.q 1 Z) (adf a0) (adf a1)) λa2=>?_;exact R4r Z Z (by simp only [a4f])
theorem f24 (hn:n+0<=9){a:List aK}(N0:Rd w K0 M0 a){b:List aK}(N1:Rd w K1 M1 b)(a2:ok n a)(a4:ok n b):
 DP 24 #[vS K0 a M0,vS K1 b M1] w (pB (a92 a b)):=by
 have hb:=bS0 hn;refine EN Tryz.func24 Z (aS2 N0 N1) ?_;refine yKM 10 ?_ ?_<;>intro h1 ai;exact R4r Z Z (by simp only [a92,h1,cC]);have r1:=(okl a2).1;refine LS 5 a (a80 b) [0,1] [] [0,1] ?_;rintro i ⟨v1,v2⟩;refine yKD 14 ?_ ?_<;>intro h2 ad;obtain ⟨e1,a3,ab,a8⟩:=gO a2 i;refine yD [] λbs G0 a0=>?_;refine dT 23 [1,3] ?_;refine zDI 2 0 i a0 Z a8 ?_;rintro ag rfl;refine dT 21 [7] ?_;refine zDL 4 0 2 e1 a0 a3 ?_;rintro ⟨⟨p1,c1⟩,_⟩;refine dT 18 [11,13] ?_;obtain ⟨e2,a1,aa,a7⟩:=gO a4 i;refine zDI 7 1 i a0 Z a7 ?_;rintro af rfl
 refine dT 16 [17] ?_;refine zDL 9 1 3 e2 a0 a1 ?_;rintro ⟨⟨p2,c2⟩,_⟩;refine dT 13 [21,23] ?_;refine zDC 28 ?_ ?_<;>intro h3;refine dT 0 [25,27,29,31,33,35,37,39,41,43,45,47,49] ?_;refine DX.tail2 [] Z Z J ?_;have a5:=v2.trans (show _=(some false) by rw [abu a3];simp only [a80,a1,h3,cC]);exact R4r Z Z (by simp only [a92,h1,a5,cC]);refine dT 11 [25,27] ?_;refine zDI 14 0 i a0 Z a8 ?_;rintro ac ⟨⟩;refine dT 9 [31] ?_;refine zDL 16 0 4 e1 a0 a3 ?_;rintro ⟨⟨p3,c3⟩,_⟩;refine dT 6 [35,37] ?_
 refine zDI 19 1 i a0 Z a7 ?_;rintro aj ⟨⟩;refine dT 4 [41] ?_;refine zDL 21 1 5 e2 a0 a1 ?_;rintro ⟨⟨p4,c4⟩,_⟩;refine DXV 22 Z J Z O (λw Y=>f57 n Q0 e1.name (Y.q 4 Z) e2.name (Y.q 5 Z) ((acs ab).1) ((acs aa).1)) λah=>?_;refine dT 0 [47,49] ?_;refine DX.tail2 [] Z Z J ?_;refine yKN 41 ?_ ?_<;>intro h4 ae;have a5:=v2.trans (show _=(some false) by rw [abu a3];simp only [a80,a1,h3,h4,cC]);exact R4r Z Z (by simp only [a92,h1,a5,cC]);refine SA ?_
 exact ITr Z (i+1) ⟨Q0,(by rw [v2,abu a3];simp only [a80,a1,h3,h4,cC])⟩ Q1 [0,1];have a6:=v2.trans (show _=none by rw [dn];simp only [a80];omega);exact R4r Z Z (by simp only [a92,h1,a6,cC])
theorem f63 (hn:n+0<=9){a:List UInt8}(N0:Rd w K0 M0 a){b:List UInt8}(N1:Rd w K1 M1 b)(a2:ok n a)(a7:ok n b):
 DP 63 #[vS K0 a M0,vS K1 b M1] w (pB (aa9 a b)):=by
 have hb:=bS0 hn;refine EN Tryz.func63 Z (aS2 N0 N1) ?_;refine yKM 10 ?_ ?_<;>intro h1 ad;exact R4r Z Z (by simp only [aa9,h1,cC]);have r1:=(okl a2).1;refine LS 5 a (a93 b) [0,1] [] [0,1] ?_;rintro i ⟨v1,v2⟩;refine yKD 14 ?_ ?_<;>intro h2 aa;have a6:i<a.length:=Q0;obtain ⟨e1,a3⟩:=gE a6;refine yD [] λbs G0 a0=>?_;refine dT 7 [1,3] ?_;refine zDI 2 0 i a0 Z a6 ?_;rintro ac rfl;refine zDL 3 0 2 e1 a0 a3 ?_;rintro ⟨⟩;refine dT 3 [9,11] ?_;have a5:i<b.length:=Q4;obtain ⟨e2,a1⟩:=gE a5
 refine zDI 6 1 i a0 Z a5 ?_;rintro ab rfl;refine zDL 7 1 2 e2 a0 a1 ?_;rintro ⟨⟩;refine dT 0 [17] ?_;refine DX.tail2 [] Z Z J ?_;refine yKM 25 ?_ ?_<;>intro h3 a9;have a8:=v2.trans (show _=(some false) by rw [abu a3];simp only [a93,a1,h3,cC]);exact R4r Z Z (by simp only [aa9,h1,a8,cC]);refine SA ?_;exact ITr Z (i+1) ⟨Q0,(by rw [v2,abu a3];simp only [a93,a1,h3,cC])⟩ Q1 [0,1];have a4:=v2.trans (show _=none by rw [dn];simp only [a93];omega)
 exact R4r Z Z (by simp only [aa9,h1,a4,cC])
end Go.Proofs.YthdfhghdipdknaaGreat
namespace Go.Stp
def a5f (a:aJ)(b:aJ):Bool:=bif (a4f a.name b.name)then bif (aa9 a.content b.content)then bif (a4f a.aR b.aR)then bif (a.bL==b.bL)then (a.cF==b.cF)else false else false else false else false
def a94 (b:(List aJ)):List aJ->Nat->Option (Bool)|[],i=>none|e1::rest_,i=>match (b)[i]? with|none=>default|some e2=>bif (!(a5f e1 e2))then (some false)else a94 b rest_ (i+1)
def a95 (a:(List aJ))(b:(List aJ)):Bool:=bif (((a).length:Int) !=((b).length:Int))then false else match a94 b a 0 with|some r_=>r_|none=>true
end Go.Stp
namespace Go.Proofs.YthdfhghdipdknaaGreat
open Go.Stp
open Go.Stp.GoT (ok)
variable {w : World} (n : Nat) {K0 K1 K2 K3 K4 K5 : Option Addr} {M0 M1 M2 M3 M4 M5 : Nat}
theorem f28 (hn:n+0<=9)(a:aJ)(N0:Rd w K0 M0 a.name.parts)(N1:Rd w K1 M1 a.content)(N2:Rd w K2 M2 a.aR.parts)(b:aJ)(N3:Rd w K3 M3 b.name.parts)(N4:Rd w K4 M4 b.content)(N5:Rd w K5 M5 b.aR.parts)(a0:ok n a)(a1:ok n b):
 DP 28 #[afd a K0 M0 K1 M1 K2 M2,afd b K3 M3 K4 M4 K5 M5] w (pB (a5f a b)):=by
 refine EN Tryz.func28 Z (aS6 N0 N1 N2 N3 N4 N5) ?_;refine KV Z Z O (λw Y=>f57 n Q0 a.name (Y.q 0 Z) b.name (Y.q 3 Z) ((ac0 a0).1) ((ac0 a1).1)) λa5=>?_;refine yKA 10 ?_ ?_<;>intro h1;refine KV Z Z O (λw Y=>f63 n Q0 (Y.q 1 Z) (Y.q 4 Z) ((ac0 a0).2.1) ((ac0 a1).2.1)) λa3=>?_;refine yKA 17 ?_ ?_<;>intro h2;refine KV Z Z O (λw Y=>f57 n Q0 a.aR (Y.q 2 Z) b.aR (Y.q 5 Z) ((ac0 a0).2.2.1) ((ac0 a1).2.2.1)) λa4=>?_;refine yKA 24 ?_ ?_<;>intro h3;refine yKE 31 ?_ ?_<;>intro h4 a2
 exact R4r Z Z (by simp only [a5f,h1,h2,h3,h4,cC]);exact R4r Z Z (by simp only [a5f,h1,h2,h3,h4,cC]);exact R4r Z Z (by simp only [a5f,h1,h2,h3,cC]);exact R4r Z Z (by simp only [a5f,h1,h2,cC]);exact R4r Z Z (by simp only [a5f,h1,cC])
theorem f55 (hn:n+0<=9){a:List aJ}(N0:Rd w K0 M0 a){b:List aJ}(N1:Rd w K1 M1 b)(a0:ok n a)(a2:ok n b):
 DP 55 #[vS K0 a M0,vS K1 b M1] w (pB (a95 a b)):=by
 have hb:=bS0 hn;refine EN Tryz.func55 Z (aS2 N0 N1) ?_;refine yKM 10 ?_ ?_<;>intro h1 ag;exact R4r Z Z (by simp only [a95,h1,cC]);have r1:=(okl a0).1;refine LS 5 a (a94 b) [0,1] [] [0,1] ?_;rintro i ⟨v1,v2⟩;refine yKD 14 ?_ ?_<;>intro h2 ac;obtain ⟨e1,a4,a8,aa⟩:=gO a0 i;refine yD [] λbs G0 a1=>?_;refine dT 8 [1,3] ?_;refine zDI 2 0 i a1 Z aa ?_;rintro ae rfl;refine zDL 3 0 2 e1 a1 a4 ?_;rintro ⟨⟨p1,c1⟩,⟨p2,c2⟩,⟨p3,c3⟩,_⟩;refine dT 4 [9,11] ?_;obtain ⟨e2,a3,a6,a7⟩:=gO a2 i;refine zDI 6 1 i a1 Z a7 ?_;rintro ad rfl
 refine zDL 7 1 5 e2 a1 a3 ?_;rintro ⟨⟨p4,c4⟩,⟨p5,c5⟩,⟨p6,c6⟩,_⟩;refine DXV 8 Z J Z O (λw Y=>f28 n Q0 e1 (Y.q 2 Z) (Y.q 3 Z) (Y.q 4 Z) e2 (Y.q 5 Z) (Y.q 6 Z) (Y.q 7 Z) a8 a6) λaf=>?_;refine dT 0 [19] ?_;refine DX.tail2 [] Z Z J ?_;refine yKN 26 ?_ ?_<;>intro h3 ab;have a9:=v2.trans (show _=(some false) by rw [abu a4];simp only [a94,a3,h3,cC]);exact R4r Z Z (by simp only [a95,h1,a9,cC]);refine SA ?_
 exact ITr Z (i+1) ⟨Q0,(by rw [v2,abu a4];simp only [a94,a3,h3,cC])⟩ Q1 [0,1];have a5:=v2.trans (show _=none by rw [dn];simp only [a94];omega);exact R4r Z Z (by simp only [a95,h1,a5,cC])
end Go.Proofs.YthdfhghdipdknaaGreat
namespace Go.Stp
def a20 (s:Str):bY×Bool:=bif ((s).toList==((⟨#[47]⟩:Str)).toList)then ((bY.mk ([])),true)else bif decide ((((a0w s (47:UInt8))).length:Int)<2)then ((bY.mk ([])),false)else match ((a0w s (47:UInt8)))[0]? with|none=>default|some e1=>bif (!((e1).toList==((⟨#[]⟩:Str)).toList))then ((bY.mk ([])),false)else bif (!(a53 (bY.mk (List.drop 1 (a0w s (47:UInt8))))))then ((bY.mk ([])),false)else ((bY.mk (List.drop 1 (a0w s (47:UInt8)))),true)
theorem apl {s t:Str}(h:(s.toList==t.toList)=true):s.size=t.size:=by have h:=congrArg List.length (eq_of_beq h);rw [ByteArray.toList_eq,ByteArray.toList_eq]at h;exact h
theorem awv {s:Str}(h:a64 s=true):s.size=2:=by
 unfold a64 at h
 grind
theorem ar5 (p:bY):∀(l:List Str) (i:Nat),a2o p l i=none->∀a∈l,a.size<=8
 |[],_,_,a,ha=>by cases ha
 |x::l,i,h,a,ha=>by
  simp only [a2o]at h
  have key:x.size<=8/\a2o p l (i+1)=none:=by
   cases hv:a2z x
   ·rw [hv]at h
    cases h1:(x.toList==((⟨#[42]⟩:Str)).toList)
    ·rw [h1]at h
     cases h2:a64 x
     ·rw [h2]at h
      cases h3:(x.toList==((⟨#[42,42]⟩:Str)).toList)
      ·grind
      ·rw [h3]at h
       have hs:=apl h3;refine ⟨by rw [hs];decide,?_⟩
       grind
     ·grind [awv]
    ·rw [h1]at h
     exact ⟨by rw [apl h1];decide,h⟩
   ·grind [awe]
  rcases List.mem_cons.1 ha with rfl|ha
  ·exact key.1
  ·exact ar5 p l (i+1) key.2 a ha
theorem ano (p:bY):∀(l:List Str) (i:Nat) (r:Bool),a2o p l i=some r->r=false
 |[],_,_,h=>by cases h
 |x::l,i,r,h=>by
  simp only [a2o]at h;have ih:=ano p l (i+1) r
  grind
theorem au9 {p:bY}(h:a53 p=true):GoT.ok 0 p:=by
 unfold a53 at h;cases h1:a2o p p.parts 0 with
 |some r=>rw [h1]at h;have:=ano _ _ _ _ h1;subst this;cases h
 |none=>
  rw [h1]at h;have h2:=of_decide_eq_true h;exact (aby (by rw [bd_0];omega) (λa ha=>Nat.le_trans (ar5 _ _ _ h1 a ha) (by decide)):GoT.ok 0 p.parts)
theorem ao5:GoT.ok 0 (bO.mk (bY.mk []) (bY.mk [])):=⟨(acd:GoT.ok 0 ([]:List Str)),(acd:GoT.ok 0 ([]:List Str))⟩
theorem axo {r:bO}(h:a65 r=true):GoT.ok 0 r:=by
 unfold a65 at h;cases h1:a53 r.cJ
 ·grind
 ·rw [h1]at h
  cases h2:a53 r.cK
  ·grind
  ·exact ⟨au9 h1,au9 h2⟩
def a21 (s:Str):bO×Bool:=bif ((((a0w s (32:UInt8))).length:Int) !=3)then ((bO.mk (bY.mk ([])) (bY.mk ([]))),false)else match ((a0w s (32:UInt8)))[1]? with|none=>default|some e1=>bif (!((e1).toList==((⟨#[60]⟩:Str)).toList))then ((bO.mk (bY.mk ([])) (bY.mk ([]))),false)else match ((a0w s (32:UInt8)))[0]? with|none=>default|some e2=>match ((a0w s (32:UInt8)))[2]? with|none=>default|some e3=>bif (!((a20 e2).2))then ((bO.mk (bY.mk ([])) (bY.mk ([]))),false)else bif (!((a20 e3).2))then ((bO.mk (bY.mk ([])) (bY.mk ([]))),false)else bif (!(a65 (bO.mk (bY.mk ((a20 e2).1.parts)) (bY.mk ((a20 e3).1.parts)))))then ((bO.mk (bY.mk ([])) (bY.mk ([]))),false)else ((bO.mk (bY.mk ((a20 e2).1.parts)) (bY.mk ((a20 e3).1.parts))),true)
theorem atx (s:Str):GoT.ok 0 (a21 s).1:=by
 unfold a21;cases ((((a0w s (32:UInt8))).length:Int) !=3)
 ·simp only [cond_false]
  cases ((a0w s (32:UInt8)))[1]? with
  |none=>exact ao5
  |some e1=>
   dsimp only;cases (!((e1).toList==((⟨#[60]⟩:Str)).toList))
   ·simp only [cond_false]
    cases ((a0w s (32:UInt8)))[0]? with
    |none=>exact ao5
    |some e2=>
     cases ((a0w s (32:UInt8)))[2]? with
     |none=>exact ao5
     |some e3=>
      dsimp only;cases (a20 e2).2
      ·exact ao5
      ·grind [a20,ao5,axo]
   ·exact ao5
 ·exact ao5
def a0j (l:(List Key))(by_:aA)(n_:aA)(b:(List UInt8))(till:Int):aJ×Bool:=bif ((a1v l by_)==0)then ((aJ.mk (aA.mk ([])) ([]) (aA.mk ([])) 0 0),false)else bif (!(a23 (a90 (a1v l by_) (aJ.mk n_ b by_ till 0))))then ((aJ.mk (aA.mk ([])) ([]) (aA.mk ([])) 0 0),false)else ((a90 (a1v l by_) (aJ.mk n_ b by_ till 0)),true)
theorem in39 {x a b:Int}(h:a07 x a b=true):a<=x/\x<=b:=by
 unfold a07 at h
 grind
theorem axk {x:aJ}(h:a23 x=true):GoT.ok 0 x/\x.content.length<=60:=by
 unfold a23 at h;cases h1:a1e x.name<;>simp only [h1,cond_true,cond_false]at h
 ·cases h
 cases h2:decide (((x.name.parts).length:Int)>0)<;>simp only [h2,cond_true,cond_false]at h
 ·cases h
 cases h3:decide (((x.content).length:Int)<=60)<;>simp only [h3,cond_true,cond_false]at h
 ·cases h
 cases h4:a1e x.aR<;>simp only [h4,cond_true,cond_false]at h
 ·cases h
 cases h5:a07 x.bL 0 100000<;>simp only [h5,cond_true,cond_false]at h
 ·cases h
 have h3':=of_decide_eq_true h3;have h5':=in39 h5;have h':=in39 h;exact ⟨⟨asx h1,(aby (by rw [bd_0];omega) (λ_ _=>trivial):GoT.ok 0 x.content),asx h4,(show I64 x.bL by unfold I64;omega),(show I64 x.cF by unfold I64;omega)⟩,by omega⟩
theorem auk:GoT.ok 0 (aA.mk []):=(acd:GoT.ok 0 ([]:List Str))
theorem awm:GoT.ok 0 (aJ.mk (aA.mk []) [] (aA.mk []) 0 0):=⟨auk,(acd:GoT.ok 0 ([]:List UInt8)),auk,(show I64 0 by unfold I64;omega),(show I64 0 by unfold I64;omega)⟩
theorem apy (l:List Key)(by_ n_:aA)(b:List UInt8)(till:Int):GoT.ok 0 (a0j l by_ n_ b till).1/\(a0j l by_ n_ b till).1.content.length<=60:=by
 unfold a0j;cases (a1v l by_==0)
 ·simp only [cond_false]
  cases hv:a23 (a90 (a1v l by_) (aJ.mk n_ b by_ till 0))
  ·exact ⟨awm,Nat.zero_le _⟩
  ·exact axk hv
 ·exact ⟨awm,Nat.zero_le _⟩
theorem au1 (l:List Key)(by_ n_:aA)(b:List UInt8)(till:Int):GoT.ok 0 (aJ.mk (a0j l by_ n_ b till).1.name ((a0j l by_ n_ b till).1.content++[(1:UInt8)]) (a0j l by_ n_ b till).1.aR (a0j l by_ n_ b till).1.bL (a0j l by_ n_ b till).1.cF):=by obtain ⟨h,hl⟩:=apy l by_ n_ b till;obtain ⟨h1,h2,h3,h4,h5⟩:=ac0 h;exact ⟨h1,(aby (by rw [bd_0,List.length_append,List.length_singleton];omega) (λ_ _=>trivial):GoT.ok 0 ((a0j l by_ n_ b till).1.content++[(1:UInt8)])),h3,h4,h5⟩
def a4x (l:(List Key))(n_:aA)(by_:aA)(till:Int):aJ×Bool:=(((a0j l by_ n_ (a6n l n_) till).1),((a0j l by_ n_ (a6n l n_) till).2))
def a4y (c_b:(List UInt8)):Nat->Nat->(List aJ)->Int->Int->(List aJ)×Int×Int|0,i,t2,u999_i,u999_h=>(((t2):List aJ),u999_i,u999_h)|m_+1,i,t2,u999_i,u999_h=>match ([(⟨#[47,97,47,107,101,121]⟩:Str),(⟨#[47,98,47,107,101,121]⟩:Str)])[i]? with|none=>default|some e2=>bif (a4x ([(Key.mk (a02 (⟨#[47,107,101,121,47,97]⟩:Str)) 100),(Key.mk (a02 (⟨#[47,97,47,107,101,121]⟩:Str)) 101),(Key.mk (a02 (⟨#[47,98,47,107,101,121]⟩:Str)) 102),(Key.mk (a02 (⟨#[47,98,97,100,47,107,101,121]⟩:Str)) 103)]) (a02 e2) (a02 (⟨#[47,107,101,121,47,97]⟩:Str)) 5000).2 then match a1m c_b u999_i u999_h 8 with|(u1,u2,u3)=>bif (!u1)then a4y c_b m_ (i+1) (((t2++[((a4x ([(Key.mk (a02 (⟨#[47,107,101,121,47,97]⟩:Str)) 100),(Key.mk (a02 (⟨#[47,97,47,107,101,121]⟩:Str)) 101),(Key.mk (a02 (⟨#[47,98,47,107,101,121]⟩:Str)) 102),(Key.mk (a02 (⟨#[47,98,97,100,47,107,101,121]⟩:Str)) 103)]) (a02 e2) (a02 (⟨#[47,107,101,121,47,97]⟩:Str)) 5000).1)])):List aJ) u2 u3 else a4y c_b m_ (i+1) ((t2):List aJ) u2 u3 else a4y c_b m_ (i+1) ((t2):List aJ) u999_i u999_h
def a96:Nat->Nat->(List bO)->(List bO)|0,i,t=>((t):List bO)|m_+1,i,t=>match ([(⟨#[47,63,120,47,107,101,121,32,60,32,47,107,101,121,47,97]⟩:Str),(⟨#[47,63,120,47,42,42,32,60,32,47,63,120,47,107,101,121]⟩:Str)])[i]? with|none=>default|some e1=>a96 m_ (i+1) (((t++[((a21 e1).1)])):List bO)
def a97 (c_b:(List UInt8))(c_i:Int)(c_h:Int):bU×Int×Int:=match a96 2 0 ([]:List bO)with|t=>match a4y c_b 2 0 (([]:List aJ):List aJ) c_i c_h with|(t2,u999_i,u999_h)=>((bU.mk ([(Key.mk (a02 (⟨#[47,107,101,121,47,97]⟩:Str)) 100),(Key.mk (a02 (⟨#[47,97,47,107,101,121]⟩:Str)) 101),(Key.mk (a02 (⟨#[47,98,47,107,101,121]⟩:Str)) 102),(Key.mk (a02 (⟨#[47,98,97,100,47,107,101,121]⟩:Str)) 103)]) t ([(a02 (⟨#[47,107,101,121,47,97]⟩:Str))]) t2),u999_i,u999_h)
def aaa (c_b:(List UInt8))(c_i:Int)(c_h:Int):bJ×Int×Int:=match a2x c_b c_i c_h ([(⟨#[47,97]⟩:Str),(⟨#[47,98]⟩:Str)])with|(u1,u2,u3)=>match a2x c_b u2 u3 ([(⟨#[49]⟩:Str),(⟨#[50]⟩:Str),(⟨#[120,45,49]⟩:Str)])with|(u4,u5,u6)=>match a0e c_b u5 u6 12 with|(u7,u8,u9)=>match a0e c_b u8 u9 5 with|(u10,u11,u12)=>match a0e c_b u11 u12 8 with|(u13,u14,u15)=>((bJ.mk ((a0i (a02 u1) u4).1) u7 u10 (1+u13)),u14,u15)
def a3a (c_b:(List UInt8))(c_i:Int)(c_h:Int)(t:bU):aJ×Int×Int:=
 match a2x c_b c_i c_h ([(⟨#[97]⟩:Str),(⟨#[98]⟩:Str)])with
  |(u1,u2,u3)=>
   match a2x c_b u2 u3 ([(⟨#[49]⟩:Str),(⟨#[50]⟩:Str),(⟨#[120,45,49]⟩:Str)])with
    |(u4,u5,u6)=>
     match a1m c_b u5 u6 6 with
      |(u7,u8,u9)=>
       bif u7 then
        match a2x c_b u8 u9 ([(⟨#[47,98,97,100,47,107,101,121]⟩:Str),(⟨#[47,107,101,121,47,97]⟩:Str),(⟨#[47,97,47,107,101,121]⟩:Str)])with
         |(u10,u11,u12)=>
          match a0e c_b u11 u12 4 with
           |(u13,u14,u15)=>
            match a4e c_b u14 u15 u13 with
             |(u16,u17,u18)=>
              match a1m c_b u17 u18 8 with
               |(u19,u20,u21)=>
                bif u19 then
                 ((aJ.mk ((a0j t.keys (a02 u10) ((a0i (a02 ((⟨#[47]⟩:Str)++u1)) u4).1) u16 4000).1.name) ((a0j t.keys (a02 u10) ((a0i (a02 ((⟨#[47]⟩:Str)++u1)) u4).1) u16 4000).1.content++[(1:UInt8)]) ((a0j t.keys (a02 u10) ((a0i (a02 ((⟨#[47]⟩:Str)++u1)) u4).1) u16 4000).1.aR) ((a0j t.keys (a02 u10) ((a0i (a02 ((⟨#[47]⟩:Str)++u1)) u4).1) u16 4000).1.bL) ((a0j t.keys (a02 u10) ((a0i (a02 ((⟨#[47]⟩:Str)++u1)) u4).1) u16 4000).1.cF)),u20,u21)
                else
                 (((a0j t.keys (a02 u10) ((a0i (a02 ((⟨#[47]⟩:Str)++u1)) u4).1) u16 4000).1),u20,u21)
       else
        match a0e c_b u8 u9 4 with
         |(u22,u23,u24)=>
          match a4e c_b u23 u24 u22 with
           |(u25,u26,u27)=>
            match a1m c_b u26 u27 8 with
             |(u28,u29,u30)=>
              bif u28 then
               ((aJ.mk ((a0j t.keys (a02 (((⟨#[47]⟩:Str)++u1)++(⟨#[47,107,101,121]⟩:Str))) ((a0i (a02 ((⟨#[47]⟩:Str)++u1)) u4).1) u25 4000).1.name) ((a0j t.keys (a02 (((⟨#[47]⟩:Str)++u1)++(⟨#[47,107,101,121]⟩:Str))) ((a0i (a02 ((⟨#[47]⟩:Str)++u1)) u4).1) u25 4000).1.content++[(1:UInt8)]) ((a0j t.keys (a02 (((⟨#[47]⟩:Str)++u1)++(⟨#[47,107,101,121]⟩:Str))) ((a0i (a02 ((⟨#[47]⟩:Str)++u1)) u4).1) u25 4000).1.aR) ((a0j t.keys (a02 (((⟨#[47]⟩:Str)++u1)++(⟨#[47,107,101,121]⟩:Str))) ((a0i (a02 ((⟨#[47]⟩:Str)++u1)) u4).1) u25 4000).1.bL) ((a0j t.keys (a02 (((⟨#[47]⟩:Str)++u1)++(⟨#[47,107,101,121]⟩:Str))) ((a0i (a02 ((⟨#[47]⟩:Str)++u1)) u4).1) u25 4000).1.cF)),u29,u30)
              else
               (((a0j t.keys (a02 (((⟨#[47]⟩:Str)++u1)++(⟨#[47,107,101,121]⟩:Str))) ((a0i (a02 ((⟨#[47]⟩:Str)++u1)) u4).1) u25 4000).1),u29,u30)
theorem ahy (c_b:List UInt8)(c_i c_h:Int)(t:bU):GoT.ok 0 (a3a c_b c_i c_h t).1:=by
 unfold a3a;rcases a2x c_b c_i c_h ([(⟨#[97]⟩:Str),(⟨#[98]⟩:Str)])with ⟨u1,u2,u3⟩;dsimp only;rcases a2x c_b u2 u3 ([(⟨#[49]⟩:Str),(⟨#[50]⟩:Str),(⟨#[120,45,49]⟩:Str)])with ⟨u4,u5,u6⟩;dsimp only;rcases a1m c_b u5 u6 6 with ⟨u7,u8,u9⟩;dsimp only;cases u7
 ·grind [a0e,a4e,a1m,apy,au1]
 ·simp only [cond_true]
  rcases a2x c_b u8 u9 ([(⟨#[47,98,97,100,47,107,101,121]⟩:Str),(⟨#[47,107,101,121,47,97]⟩:Str),(⟨#[47,97,47,107,101,121]⟩:Str)])with ⟨u22,u23,u24⟩
  grind [a0e,a4e,a1m,apy,au1]
def a5z (a:aX)(b:aX):Bool:=bif (a.node==b.node)then bif (a.index==b.index)then bif (a4f a.name b.name)then bif (a.cN==b.cN)then bif (a.wait==b.wait)then bif (a.cL==b.cL)then (a5f a.data b.data)else false else false else false else false else false else false
def a98 (a:bJ)(b:bJ):Bool:=bif (a4f a.name b.name)then bif (a.bI==b.bI)then bif (a.cM==b.cM)then (a.cD==b.cD)else false else false else false
end Go.Stp
namespace Go.Proofs.YthdfhghdipdknaaGreat
open Go.Stp
open Go.Stp.GoT (ok)
variable {w : World} (n : Nat) {K0 K1 K2 K3 K4 K5 K6 K7 : Option Addr} {M0 M1 M2 M3 M4 M5 M6 M7 : Nat}
theorem f209 (hn:n+1<=9){s:Str}(a0:ok n s):
 DP 209 #[.string s] w (pAB w (n+1) (a20 s)):=by
 have hb:=bS1 hn;refine EN Tryz.func209 Z ac8 ?_;refine yKE 7 ?_ ?_<;>intro h1 aa;refine F1 0 Str ?_;rw [show a20 s=(bY.mk ([]),true) by simp only [a20,h1,cC]];exact yX [0] (none,0) (acd);refine KF Z 0 Z O (λw Y=>f208 n Q0 47 a0) ?_;rintro ⟨p1,c1⟩ a2;have q1:=aic s (47:UInt8);have r2:=(okl a2).1;refine KS Z Z Z Z (λ_ hΓ=>aim 1 ttOk Z Z Z Z Q10 Q0) ?_
 refine WX.slot 12 (y:= .v (.slice (offP p1 c1 1 1) (((List.drop 1 (a0w s 47))).length) (c1-1))) Z (λ_=>by rw [show ((List.drop 1 (a0w s 47))).length=(((a0w s 47)).length)-1 from (by simp only [List.length_drop])]) ?_;refine WX.der 2 (MF.rs .der (offP p1 c1 1 1) (c1-1) (List.drop 1 (a0w s 47))) Z (λ_ hΓ=>RdSl.suf (hΓ.get 0 Z) 1) ?_;refine yKD 17 ?_ ?_<;>intro h2 a7;refine F1 3 Str ?_
 rw [show a20 s=(bY.mk ([]),false) by simp only [a20,h1,h2,cC]];exact yX [3] (none,0) (acd);obtain ⟨e1,a1,a8,a3⟩:=gO a2 0;refine yI 0 0 a3 ?_;rintro a4 rfl;refine zL 0 3 e1 a1 ?_;rintro ⟨⟩;refine yKX 23 ?_ ?_<;>intro h3 a6;refine F1 3 Str ?_;rw [show a20 s=(bY.mk ([]),false) by simp only [a20,h1,h2,a1,h3,cC]];exact yX [3] (none,0) (acd)
 refine KV Z Z O (λw Y=>f250 (n+1) Q0 (bY.mk (List.drop 1 (a0w s (47:UInt8)))) (Y.q 2 Z) (aby Q3 (λa ha=>(okl a2).2 a (List.mem_of_mem_drop ha)):ok (n+1) ((List.drop 1 (a0w s (47:UInt8))):List Str))) λa5=>?_;refine yKN 27 ?_ ?_<;>intro h4 a9;refine F1 3 Str ?_;rw [show a20 s=(bY.mk ([]),false) by simp only [a20,h1,h2,a1,h3,h4,cC]];exact yX [3] (none,0) (acd);refine R0 ?_
 refine WX.turn [1] 3 Z (λh hs=>ara 1 Q0 hs) Z ?_;rw [show a20 s=(bY.mk (List.drop 1 (a0w s (47:UInt8))),true) by simp only [a20,h1,h2,a1,h3,h4,cC]];exact zX [3] ((offP (some a4) c1 1 1),(c1-1)) (aby Q3 (λa ha=>(okl a2).2 a (List.mem_of_mem_drop ha)))
theorem f180 (hn:n+2<=9){s:Str}(a4:ok n s):
 DP 180 #[.string s] w (pAB w n (a21 s)):=by
 refine EN Tryz.func180 Z ac8 ?_;refine KF Z 0 Z O (λw Y=>f208 n Q0 32 a4) ?_;rintro ⟨p1,c1⟩ a5;have q1:=aic s (32:UInt8);refine yKM 15 ?_ ?_<;>intro h1 am;refine F1 2 Str ?_;refine F1 3 Str ?_;have a0:a21 s=(bO.mk (bY.mk ([])) (bY.mk ([])),false):=by simp only [a21,h1,cC]
 refine R0 ?_;rw [a0];exact zX [2,3] ((none,0),(none,0)) (by have z_:=(atx s);rw [a0]at z_;exact GoT.okm Q0 z_);obtain ⟨e1,a1,ah,aa⟩:=gO a5 1;refine yI 0 1 aa ?_;rintro al rfl;refine zL 0 2 e1 a1 ?_;rintro ⟨⟩;refine yKX 20 ?_ ?_<;>intro h2 ag;refine F1 2 Str ?_;refine F1 3 Str ?_;have a0:a21 s=(bO.mk (bY.mk ([])) (bY.mk ([])),false):=by simp only [a21,h1,a1,h2,cC]
 refine R0 ?_;rw [a0];exact zX [2,3] ((none,0),(none,0)) (by have z_:=(atx s);rw [a0]at z_;exact GoT.okm Q0 z_);obtain ⟨e2,a2,a8,a9⟩:=gO a5 0;refine yI 0 0 a9 ?_;rintro ak ⟨⟩;refine zL 0 2 e2 a2 ?_;rintro ⟨⟩;refine CF 2 Z O (λw Y=>f209 _ Q0 a8) ?_;rintro ⟨p2,c2⟩ a6;obtain ⟨e3,a3,a7,ac⟩:=gO a5 2;refine yI 0 2 ac ?_;rintro ad ⟨⟩;refine zL 0 4 e3 a3 ?_;rintro ⟨⟩;refine CF 4 Z O (λw Y=>f209 _ Q0 a7) ?_;rintro ⟨p3,c3⟩ ab;refine yKN 41 ?_ ?_<;>intro h3 ae;refine F1 6 Str ?_;refine F1 7 Str ?_
 have a0:a21 s=(bO.mk (bY.mk ([])) (bY.mk ([])),false):=by simp only [a21,h1,a1,h2,a2,a3,h3,cC]
 rotate_left;refine yKN 45 ?_ ?_<;>intro h4 ai;refine F1 6 Str ?_;refine F1 7 Str ?_;have a0:a21 s=(bO.mk (bY.mk ([])) (bY.mk ([])),false):=by simp only [a21,h1,a1,h2,a2,a3,h3,h4,cC]
 rotate_left;refine KV Z Z O (λw Y=>f210 (n+2) Q0 (bO.mk (bY.mk ((a20 e2).1.parts)) (bY.mk ((a20 e3).1.parts))) (Y.q 2 Z) (Y.q 4 Z) (An a6 ab)) λaf=>?_;refine yKN 49 ?_ ?_<;>intro h5 aj;refine F1 6 Str ?_;refine F1 7 Str ?_;have a0:a21 s=(bO.mk (bY.mk ([])) (bY.mk ([])),false):=by simp only [a21,h1,a1,h2,a2,a3,h3,h4,h5,cC]
 rotate_left;have a0:a21 s=(bO.mk (bY.mk ((a20 e2).1.parts)) (bY.mk ((a20 e3).1.parts)),true):=by simp only [a21,h1,a1,h2,a2,a3,h3,h4,h5,cC]
 refine R0 ?_;rw [a0];exact zX [3,5] ((p2,c2),(p3,c3)) (by have z_:=(atx s);rw [a0]at z_;exact GoT.okm Q0 z_)
 all_goals
  refine R0 ?_;rw [a0];exact zX [6,7] ((none,0),(none,0)) (by have z_:=(atx s);rw [a0]at z_;exact GoT.okm Q0 z_)
theorem f152 (hn:n+7<=9){l:List Key}(N0:Rd w K0 M0 l)(by_:aA)(N1:Rd w K1 M1 by_.parts)(n_:aA)(N2:Rd w K2 M2 n_.parts){b:List UInt8}(N3:Rd w K3 M3 b){till:Int}(a3:ok n l)(a0:ok n by_)(a4:ok n n_)(a5:ok n b)(a1:ok n till):
 DP 152 #[vS K0 l M0,adu by_ K1 M1,adu n_ K2 M2,vS K3 b M3,vI till] w (pAB w n (a0j l by_ n_ b till)):=by
 refine EN Tryz.func152 Z (aS4 N0 N1 N2 N3) ?_;refine yD [10] λbs G0 aa=>?_;refine dT 4 [1,2,6,9,10,13,15] ?_;refine DX.pend 9 12 ⟨78,[.slice none (0) 0,.slice none (0) 0,.slice none (0) 0,.int .i64 (0),.int .i64 (0)]⟩ ?_;refine DXA.callV 2 ttOk Z Z Z Z Z Z Z J J J Z Z Z Z Z Z Z Z Z Z O Z Z (λw G bs hI hΓ=>f191 n Q0 (hΓ.get 0 Z) by_ (hΓ.get 1 Z) a3 a0) λa7=>?_
 refine DXA.callF 8 4 (λ_ _ h=>GoT.ow_rd h) (λ_ f hf=>GoT.fak f hf) ttOk Z Z Z Z Z Z Z J J J Z Z Z Z Z Z Z Z Z Z O Z Z (λw G bs hI hΓ=>f190 n Q0 (aJ.mk n_ b by_ till 0) (hΓ.get 2 Z) (hΓ.get 3 Z) (hΓ.get 1 Z) a7 (An a4 (An a5 (An a0 (An a1 (i6 0)))))) O O ?_;rintro ⟨⟨p1,c1⟩,⟨p2,c2⟩,⟨p3,c3⟩,_⟩ a6;refine DXA.tail [10] ttOk Z Z Z Z Z Z J Z Z J ?_;refine KV Z Z O (λw Y=>f191 n Q0 (Y.q 0 Z) by_ (Y.q 1 Z) a3 a0) λab=>?_;refine yKE 26 ?_ ?_<;>intro h1 ac;refine F1 10 Str ?_;refine F1 11 UInt8 ?_;refine F1 12 Str ?_
 have a2:a0j l by_ n_ b till=(aJ.mk (aA.mk ([])) ([]) (aA.mk ([])) 0 0,false):=by simp only [a0j,h1,cC]
 rotate_left;refine KV Z Z O (λw Y=>f192 n Q0 (a90 (a1v l by_) (aJ.mk n_ b by_ till 0)) (Y.q 4 Z) (Y.q 5 Z) (Y.q 6 Z) a6) λa8=>?_;refine yKN 30 ?_ ?_<;>intro h2 a9;refine F1 10 Str ?_;refine F1 11 UInt8 ?_;refine F1 12 Str ?_;have a2:a0j l by_ n_ b till=(aJ.mk (aA.mk ([])) ([]) (aA.mk ([])) 0 0,false):=by simp only [a0j,h1,h2,cC]
 rotate_left;have a2:a0j l by_ n_ b till=(a90 (a1v l by_) (aJ.mk n_ b by_ till 0),true):=by simp only [a0j,h1,h2,cC]
 refine R0 ?_;rw [a2];exact zX [7,8,9] ((p1,c1),(p2,c2),(p3,c3),(),()) (by have z_:=((apy l by_ n_ b till).1);rw [a2]at z_;exact GoT.okm Q0 z_)
 all_goals
  refine R0 ?_;rw [a2];exact zX [10,11,12] ((none,0),(none,0),(none,0),(),()) (by have z_:=((apy l by_ n_ b till).1);rw [a2]at z_;exact GoT.okm Q0 z_)
theorem f181 (hn:n+8<=9){l:List Key}(N0:Rd w K0 M0 l)(n_:aA)(N1:Rd w K1 M1 n_.parts)(by_:aA)(N2:Rd w K2 M2 by_.parts){till:Int}(a3:ok n l)(a1:ok n n_)(a2:ok n by_)(a0:ok n till):
 DP 181 #[vS K0 l M0,adu n_ K1 M1,adu by_ K2 M2,vI till] w (pAB w n (a4x l n_ by_ till)):=by
 refine EN Tryz.func181 Z (aS3 N0 N1 N2) ?_;refine yD [10,11] λbs G0 a7=>?_;refine dT 6 [1,2,4,7,8,13] ?_;refine DXF 5 3 Z J Z O (λw Y=>f211 n Q0 (Y.q 0 Z) n_ (Y.q 1 Z) a3 a1) ?_;rintro ⟨p1,c1⟩ a5;refine DXF 7 5 Z J Z O (λw Y=>f152 (n+1) Q0 (Y.q 0 Z) by_ (Y.q 2 Z) n_ (Y.q 1 Z) (Y.q 3 Z) (GoT.okm Q0 a3) (GoT.okm Q0 (adf a2)) (GoT.okm Q0 (adf a1)) a5 a0) ?_;rintro ⟨⟨p2,c2⟩,⟨p3,c3⟩,⟨p4,c4⟩,_⟩ a6;refine dT 2 [17,19] ?_
 refine DX.tail2 [10,11] Z Z J ?_;have a4:a4x l n_ by_ till=((a0j l by_ n_ (a6n l n_) till).1,(a0j l by_ n_ (a6n l n_) till).2):=by simp only [a4x]
 refine R0 ?_;rw [a4];exact zX [8,9,10] _ (by have z_:=(show ok 0 (a4x l n_ by_ till).1 from (apy l by_ n_ _ till).1);rw [a4]at z_;exact GoT.okm Q0 z_)
theorem f146 (hn:n+8<=9){H:GH}(hH:Le H (hp w)){bc_:Nat}{c_b:List UInt8}(N0:RdSl (cut (hp w) H) K0 M0 c_b){c_i:Int}{c_h:Int}(hown:Sep H [cu bc_ K0 c_b M0 c_i c_h])(a2:ok n c_b)(a6:NN c_i)(a4:ok n c_h){o0_:bU}{o1_:Int}{o2_:Int}(hres:a97 c_b c_i c_h=(o0_,o1_,o2_)):
 Does Tryz.prog 146 #[.pointer (some ⟨bc_,0,none⟩)] w H (Post w H (λx:GoT.X (bU)=> .agg ⟨GoT.sh (o0_:bU) x⟩) (λx=>cu bc_ K0 c_b M0 o1_ o2_::GoT.oa (o0_:bU) x) (ok n (o0_:bU)/\NN (o1_)/\I64 (o2_))):=by
 have hb:=bS8 hn;refine WX.enterP (tt:=tt) (Γ:=[(0,MF.rs .stb K0 M0 c_b)]) 1 Tryz.func146 Z J Z (ac6 Z N0 ac8) hH hown (λf hf=>by cases hf) Z ?_;refine KF Z 2 Z O (λw Y=>f148 n Q0 (Nat.le_trans Q9 (adi n))) ?_;rintro ⟨p1,c1⟩ b1;refine KF Z 4 Z O (λw Y=>f148 n Q0 (Nat.le_trans Q9 (adi n))) ?_;rintro ⟨p2,c2⟩ au;refine KF Z 6 Z O (λw Y=>f148 n Q0 (Nat.le_trans Q9 (adi n))) ?_;rintro ⟨p3,c3⟩ az
 refine KF Z 8 Z O (λw Y=>f148 n Q0 (Nat.le_trans Q9 (adi n))) ?_;rintro ⟨p4,c4⟩ av;refine yB λp5=>?_;refine zT (α:=Key) [3] 11 (Key.mk (a02 (⟨#[47,107,101,121,47,97]⟩:Str)) 100) ((p1,c1),()) λ_=>?_
 refine WX.turn [11,5] 12 Z (λh hs=>aob (α:=Key) (a:=(Key.mk (a02 (⟨#[47,97,47,107,101,121]⟩:Str)) 101)) (x:=((p2,c2),())) hs) Z ?_
 refine WX.turn [12,7] 13 Z (λh hs=>aob (α:=Key) (a:=(Key.mk (a02 (⟨#[47,98,47,107,101,121]⟩:Str)) 102)) (x:=((p3,c3),())) hs) Z ?_
 refine WX.turn [13,9] 10 Z (λh hs=>aob (α:=Key) (a:=(Key.mk _ 103)) (x:=((p4,c4),())) hs) (gs:=[MF.ol [.slice p1 (((a02 (⟨#[47,107,101,121,47,97]⟩:Str)).parts).length) c1,.int .i64 (100),.slice p2 (((a02 (⟨#[47,97,47,107,101,121]⟩:Str)).parts).length) c2,.int .i64 (101),.slice p3 (((a02 (⟨#[47,98,47,107,101,121]⟩:Str)).parts).length) c3,.int .i64 (102),.slice p4 (((a02 (⟨#[47,98,97,100,47,107,101,121]⟩:Str)).parts).length) c4,.int .i64 (103)] ([(Key.mk (a02 (⟨#[47,107,101,121,47,97]⟩:Str)) 100),(Key.mk (a02 (⟨#[47,97,47,107,101,121]⟩:Str)) 101),(Key.mk (a02 (⟨#[47,98,47,107,101,121]⟩:Str)) 102),(Key.mk (a02 (⟨#[47,98,97,100,47,107,101,121]⟩:Str)) 103)]:List Key)]) Z ?_
 refine zE 20 10 14 ?_;refine CF 16 Z O (λw Y=>f148 n Q0 (Nat.le_trans Q9 (adi n))) ?_;rintro ⟨p6,c5⟩ bk;refine zB λp7=>?_;refine zT (α:=aA) [17] 18 (a02 (⟨#[47,107,101,121,47,97]⟩:Str)) (p6,c5) λ_=>?_;refine zE 22 18 19 ?_;refine yB λp8=>?_;refine R0 ?_;refine WX.row0 501 2 none Z ?_;refine F0 21 bO ?_
 refine LK (0,none,0,[],([]:List bO)) (λ|(i,pt,ct,ad,t)=>((i<=2)/\JE n t/\(t.length<=i)/\(a96 2 0 ([]:List bO)=a96 (2-i) i t),2-i,[(26,.v (vI i))],[(3,⟨32,[.slice p5 (4) 4,.slice pt (t.length) ct,.slice p7 (1) 1,.slice none (0) 0]⟩)],[(24,⟨1,p8,2,2,[.string _,.string (⟨#[47,63,120,47,42,42,32,60,32,47,63,120,47,107,101,121]⟩:Str)]⟩),(501,⟨2,pt,t.length,ct,ad⟩)],[(21,MF.ol ad (t:List bO))])) ⟨zl,nA,Q10,Z⟩ [25,24,3,2,0] [2,999] [0,15,20] [0,15,20,21] ?_
 rintro ⟨i,pt,ct,ad,t⟩ ⟨v1,v2,v3,v4⟩;refine yKD 27 ?_ ?_<;>intro h1 ca;have ay:i<2:=Q4;refine R0 ?_;refine zR 24 i ay ?_;rintro c9 rfl;have ba:i<([(⟨#[47,63,120,47,107,101,121,32,60,32,47,107,101,121,47,97]⟩:Str),(⟨#[47,63,120,47,42,42,32,60,32,47,63,120,47,107,101,121]⟩:Str)]).length:=Q4;obtain ⟨e1,ag⟩:=gE ba
 have aw:ok n e1:=(all_cons (α:=Str) (Nat.le_trans Q9 (adi n)) (all_cons (α:=Str) (Nat.le_trans Q9 (adi n)) nA)) _ (List.mem_of_getElem? ag)
 refine WX.turn [] 22 Z (λh hs=>ae6 ⟨(),_,emp,_,Z,acv _,Le.refl _,ade _,trivial,⟨(),_,emp,_,Z,acv _,Le.refl _,ade _,trivial,Z⟩⟩) (gs:=[MF.ol [.string ⟨#[47,63,120,47,107,101,121,32,60,32,47,107,101,121,47,97]⟩,.string ⟨#[47,63,120,47,42,42,32,60,32,47,63,120,47,107,101,121]⟩] [(⟨#[47,63,120,47,107,101,121,32,60,32,47,107,101,121,47,97]⟩:Str),(⟨#[47,63,120,47,42,42,32,60,32,47,63,120,47,107,101,121]⟩:Str)]]) Z ?_
 refine WX.ldR 24 22 e1 ttOk Z Z Z Z Z Z Z Z Z ay (λG hΓ=>(hΓ.get 22 Z).rd) ag O O ?_;rintro ⟨⟩ cq;refine KF Z 23 Z O (λw Y=>f180 n Q0 aw) ?_;rintro ⟨⟨p9,c6⟩,b6,c7⟩ b2;refine yB λce=>?_;refine zT (α:=bO) [25,26] 27 ((a21 e1).1) ((p9,c6),(b6,c7)) λ_=>?_;refine zE 38 27 28 ?_;refine zN (kk:=2) 502 29 30 λb8 bx=>?_;refine WX.know (λG hΓ=>(hΓ.get 30 Z:OwL _ _ _).rd.one) λbf=>?_;refine zP 501 502 ((t++[((a21 e1).1)]):List bO).length bf λb4 c8=>?_
 refine zV [21,30] 31 ?_;refine SA ?_;refine zU [31] 21 ?_;exact ITr Z (i+1,b4,c8,(ad++b8),(t++[((a21 e1).1)])) ⟨Q0,(ac2 v2 (all_cons b2 nA)),Q3,(by rw [v4,show 2-i=(2- (i+1))+1 by omega];simp only [a96,ag])⟩ Q1 [0,15,20,21];have ai:=v4.trans (show _=(t:List bO) by rw [show 2-i=0 by omega];simp only [a96]);refine yE 501 21 34 ?_;refine zB λb3=>?_;refine F1 37 aJ ?_
 refine zW 36 37 ?_
 refine LM Z (0,none,0,([]:List aJ),c_i,c_h) (λ|(i,a7,a8,t2,a0,a1)=>((i<=2)/\JL n t2/\(NN a0)/\J6 a1/\(t2.length<=i)/\(a4y c_b 2 0 ([]:List aJ) c_i c_h=a4y c_b (2-i) i t2 a0 a1),2-i,[(44,.v (vI i))],[(3,⟨32,[.slice p5 (4) 4,.slice pt (t.length) ct,.slice p7 (1) 1,.slice a7 (t2.length) a8]⟩),(999,⟨112,[.slice K0 (c_b.length) M0,.int .i64 a0,.int .i64 a1]⟩)],[(42,⟨1,b3,2,2,[.string ⟨#[47,97,47,107,101,121]⟩,.string ⟨#[47,98,47,107,101,121]⟩]⟩)],[(37,MF.os a7 a8 t2)])) ⟨zl,(aby zl nA),a6,a4,Q10,Z⟩ [43,42,3,2,0] [2] [0,15,20,35] [0,15,20,35,37] ?_
 rintro ⟨i,a7,a8,t2,a0,a1⟩ ⟨cd,a9,ah,ap,ch,ae⟩;refine yKD 45 ?_ ?_<;>intro cp bl;have aa:i<2:=Q4;refine R0 ?_;refine zR 42 i aa ?_;rintro bm rfl;have bp:i<([(⟨#[47,97,47,107,101,121]⟩:Str),(⟨#[47,98,47,107,101,121]⟩:Str)]).length:=Q4;obtain ⟨e2,ab⟩:=gE bp;have ac:ok n e2:=(all_cons (α:=Str) (Nat.le_trans Q9 (adi n)) (all_cons (α:=Str) (Nat.le_trans Q9 (adi n)) nA)) _ (List.mem_of_getElem? ab)
 refine WX.turn [] 38 Z (λh hs=>ae6 ⟨(),_,emp,_,Z,acv _,Le.refl _,ade _,trivial,⟨(),_,emp,_,Z,acv _,Le.refl _,ade _,trivial,Z⟩⟩) (gs:=[MF.ol [.string ⟨#[47,97,47,107,101,121]⟩,.string ⟨#[47,98,47,107,101,121]⟩] [(⟨#[47,97,47,107,101,121]⟩:Str),(⟨#[47,98,47,107,101,121]⟩:Str)]]) Z ?_;refine WX.ldR 42 38 e2 ttOk Z Z Z Z Z Z Z Z Z aa (λG hΓ=>(hΓ.get 38 Z).rd) ab O O ?_
 rintro ⟨⟩ b5;refine zW 39 15 ?_;refine zW 40 35 ?_;refine zW 41 20 ?_;refine zW 42 37 ?_;refine yD [10] λbs G0 bz=>?_;refine dT 9 [1,2,5] ?_;refine DX.toTX λS_=>?_;refine TX.toP ?_;refine TXP.pend (PI.loc 9 10 ⟨78,[.slice none (0) 0,.slice none (0) 0,.slice none (0) 0,.int .i64 (0),.int .i64 (0)]⟩) (ail ttOk Z Z Z Z Z) .nil Z J Z ?_;refine TPF 3 43 J J Z Z Z Z Z Z Z O Z (λw Y=>f148 n Q0 ac) ?_;rintro ⟨cc,ci⟩ am;refine TPF 4 45 J J Z Z Z Z Z Z Z O Z (λw Y=>f148 n Q0 (Nat.le_trans Q9 (adi n))) ?_;rintro ⟨bw,cl⟩ ak
 refine TPF 5 47 J J Z Z Z Z Z Z Z O Z (λw Y=>f181 n Q0 (Y.q 39 Z) (a02 e2) (Y.q 43 Z) _ (Y.q 45 Z) (aby Q7 (all_cons (α:=Key) (An b1 (i6 100)) (all_cons (α:=Key) (An au (i6 101)) (all_cons (α:=Key) (An az (i6 102)) (all_cons (α:=Key) (An av (i6 103)) nA))))) am ak (i6 5000)) ?_
 rintro ⟨⟨bt,bo⟩,⟨bu,bg⟩,⟨bj,b9⟩,_⟩ ao;refine TXP.takes ttOk [6,7,8] Z J Z ?_;refine TXP.settleL 0 Z Z J Z ?_;refine TXP.done ?_;refine TX.all1 10 J ?_;refine TS.op 10 Z J ?_;refine R0 ?_;refine WX.back0 ?_;refine TX.takes ttOk [11] J Z ?_;refine TX.tail [] Z Z J ?_;refine yKA 58 ?_ ?_<;>intro aq;obtain ⟨⟨u1,u2,u3⟩,a5⟩:=xE (a1m c_b a0 a1 8);refine KP Z 999 53 Z Z O (λw β H η σ Y=>f154 n Q0 η (Y.q 0 Z) σ a2 ah ap (i6 8) a5) ?_;rintro ⟨⟩ a3;refine yKN 62 ?_ ?_<;>intro b0 b7;refine yB λbv=>?_
 refine zT (α:=aJ) [50,51,52] 54 ((a4x ([(Key.mk (a02 (⟨#[47,107,101,121,47,97]⟩:Str)) 100),(Key.mk (a02 (⟨#[47,97,47,107,101,121]⟩:Str)) 101),(Key.mk (a02 (⟨#[47,98,47,107,101,121]⟩:Str)) 102),(Key.mk (a02 (⟨#[47,98,97,100,47,107,101,121]⟩:Str)) 103)]) (a02 e2) (a02 (⟨#[47,107,101,121,47,97]⟩:Str)) 5000).1) ((bt,bo),(bu,bg),(bj,b9),(),()) λ_=>?_;refine zE 66 54 55 ?_;refine zN (kk:=5) 514 37 57 λbq bb=>?_;refine zN (kk:=5) 515 56 58 λbr bc=>?_
 refine WX.know (λG hΓ=>(hΓ.get 58 Z:OwL _ _ _).rd.one) λaj=>?_;refine zP 514 515 ((t2++[((a4x ([(Key.mk (a02 (⟨#[47,107,101,121,47,97]⟩:Str)) 100),(Key.mk (a02 (⟨#[47,97,47,107,101,121]⟩:Str)) 101),(Key.mk (a02 (⟨#[47,98,47,107,101,121]⟩:Str)) 102),(Key.mk (a02 (⟨#[47,98,97,100,47,107,101,121]⟩:Str)) 103)]) (a02 e2) (a02 (⟨#[47,107,101,121,47,97]⟩:Str)) 5000).1)]):List aJ).length aj λbe bn=>?_;refine zV [57,58] 59 ?_;refine SA ?_
 refine yE 514 59 60 ?_;refine zU [61] 37 ?_
 exact IT (i+1,be,bn,(t2++[((a4x ([(Key.mk (a02 ⟨#[47,107,101,121,47,97]⟩) 100),(Key.mk (a02 ⟨#[47,97,47,107,101,121]⟩) 101),(Key.mk (a02 ⟨#[47,98,47,107,101,121]⟩) 102),(Key.mk (a02 ⟨#[47,98,97,100,47,107,101,121]⟩) 103)]) (a02 e2) (a02 ⟨#[47,107,101,121,47,97]⟩) 5000).1)]),u2,u3) ⟨Q0,(aby Q5 (ac2 a9.2 (all_cons (α:=aJ) ao nA))),a3.1,a3.2,Q3,(by rw [ae,show 2-i=(2- (i+1))+1 by omega];simp only [a4y,ab,aq,a5,b0,cC])⟩ Q1 [0,15,20,35,37]
 refine SA ?_;exact ITr Z (i+1,a7,a8,t2,u2,u3) ⟨Q0,(acp a9),a3.1,a3.2,Q3,(by rw [ae,show 2-i=(2- (i+1))+1 by omega];simp only [a4y,ab,aq,a5,b0,cC])⟩ Q1 [0,15,20,35,37];refine SA ?_
 exact ITr Z (i+1,a7,a8,t2,a0,a1) ⟨Q0,(acp a9),ah,ap,Q3,(by rw [ae,show 2-i=(2- (i+1))+1 by omega];simp only [a4y,ab,aq,cC])⟩ Q1 [0,15,20,35,37];have al:=ae.trans (show _=((t2:List aJ),a0,a1) by rw [show 2-i=0 by omega];simp only [a4y])
 have an:a97 c_b c_i c_h=(bU.mk ([(Key.mk (a02 (⟨#[47,107,101,121,47,97]⟩:Str)) 100),(Key.mk (a02 (⟨#[47,97,47,107,101,121]⟩:Str)) 101),(Key.mk (a02 (⟨#[47,98,47,107,101,121]⟩:Str)) 102),(Key.mk (a02 (⟨#[47,98,97,100,47,107,101,121]⟩:Str)) 103)]) t ([(a02 (⟨#[47,107,101,121,47,97]⟩:Str))]) t2,a0,a1):=by simp only [a97,ai,al]
 have ar:=an.symm.trans hres;obtain ⟨ar,af⟩:=Prod.mk.inj ar;obtain ⟨af,bi⟩:=Prod.mk.inj af;subst ar;subst af;subst bi
 exact yY [15,35,20,37] ((p5,4),(pt,ct),(p7,1),(a7,a8)) (⟨(An (aby Q7 (all_cons (α:=Key) (An b1 (i6 100)) (all_cons (α:=Key) (An au (i6 101)) (all_cons (α:=Key) (An az (i6 102)) (all_cons (α:=Key) (An av (i6 103)) nA))))) (An (aby Q0 v2) (An (aby Q7 (all_cons (α:=aA) bk nA)) (acp a9)))),⟨ah,ap⟩⟩)
theorem f160 (hn:n+1<=9){H:GH}(hH:Le H (hp w)){bc_:Nat}{c_b:List UInt8}(N0:RdSl (cut (hp w) H) K0 M0 c_b){c_i:Int}{c_h:Int}(hown:Sep H [cu bc_ K0 c_b M0 c_i c_h])(a0:ok n c_b)(a2:NN c_i)(a1:ok n c_h){o0_:bJ}{o1_:Int}{o2_:Int}(hres:aaa c_b c_i c_h=(o0_,o1_,o2_)):
 Does Tryz.prog 160 #[.pointer (some ⟨bc_,0,none⟩)] w H (Post w H (λx:GoT.X (bJ)=> .agg ⟨GoT.sh (o0_:bJ) x⟩) (λx=>cu bc_ K0 c_b M0 o1_ o2_::GoT.oa (o0_:bJ) x) (ok n (o0_:bJ)/\NN (o1_)/\I64 (o2_))):=by
 have hb:=bS1 hn;refine WX.enterP (tt:=tt) (Γ:=[(0,MF.rs .stb K0 M0 c_b)]) 1 Tryz.func160 Z J Z (ac6 Z N0 ac8) hH hown (λf hf=>by cases hf) Z ?_;refine yB λp1=>?_
 refine WX.turn [] 2 Z (λh hs=>ae6 ⟨(),_,emp,_,Z,acv _,Le.refl _,ade _,trivial,⟨(),_,emp,_,Z,acv _,Le.refl _,ade _,trivial,Z⟩⟩) (gs:=[MF.ol [.string ⟨#[47,97]⟩,.string ⟨#[47,98]⟩] [(⟨#[47,97]⟩:Str),(⟨#[47,98]⟩:Str)]]) Z ?_;refine zE 7 2 3 ?_;obtain ⟨⟨u1,u2,u3⟩,ah⟩:=xE (a2x c_b c_i c_h ([(⟨#[47,97]⟩:Str),(⟨#[47,98]⟩:Str)]))
 refine CP 999 5 Z Z O (λw β H η σ Y=>f156 n Q0 η (Y.q 0 Z) (Y.q 3 Z) σ a0 a2 a1 Q13 (aby Q7 (all_cons (α:=Str) (Nat.le_trans Q9 (adi n)) (all_cons (α:=Str) (Nat.le_trans Q9 (adi n)) nA))) ah) ?_;rintro ⟨⟩ a8;refine CF 6 Z O (λw Y=>f148 n Q0 a8.1) ?_;rintro ⟨p2,c1⟩ ak;refine yB λp3=>?_
 refine WX.turn [] 8 Z (λh hs=>ae6 ⟨(),_,emp,_,Z,acv _,Le.refl _,ade _,trivial,⟨(),_,emp,_,Z,acv _,Le.refl _,ade _,trivial,⟨(),_,emp,_,Z,acv _,Le.refl _,ade _,trivial,Z⟩⟩⟩) (gs:=[MF.ol [.string ⟨#[49]⟩,.string ⟨#[50]⟩,.string ⟨#[120,45,49]⟩] [(⟨#[49]⟩:Str),(⟨#[50]⟩:Str),(⟨#[120,45,49]⟩:Str)]]) Z ?_;refine zE 11 8 9 ?_
 obtain ⟨⟨u4,u5,u6⟩,ag⟩:=xE (a2x c_b u2 u3 ([(⟨#[49]⟩:Str),(⟨#[50]⟩:Str),(⟨#[120,45,49]⟩:Str)]))
 refine CP 999 11 Z Z O (λw β H η σ Y=>f156 n Q0 η (Y.q 0 Z) (Y.q 9 Z) σ a0 a8.2.1 a8.2.2 Q13 (aby Q7 (all_cons (α:=Str) (Nat.le_trans Q9 (adi n)) (all_cons (α:=Str) (Nat.le_trans Q9 (adi n)) (all_cons (α:=Str) (Nat.le_trans Q9 (adi n)) nA)))) ag) ?_;rintro ⟨⟩ a7;refine zW 12 7 ?_
 refine CF 13 Z O (λw Y=>f150 n Q0 _ (Y.q 12 Z) ak a7.1) ?_;rintro ⟨p4,c2⟩ al;have q1:=apa (a02 u1) u4;try dsimp only at q1
 refine R0 ?_;refine WX.drawY [9] mixed Z λbs G0 ar=>?_;refine DY.takes (fuel:=6) ttOk [(0,false),(1,true),(3,true),(5,true)] J Z ?_;refine DY.toTX λS_ a9=>?_;refine TX.all1 2 J ?_;obtain ⟨⟨u7,u8,u9⟩,a5⟩:=xE (a0e c_b u5 u6 12);refine TS.callP a9 2 15 ⟨_,Z⟩ Z (λ_ _ _=>All.nil) (λ_ f hf=>by cases hf) Z Z Z Z Z Z O Z (λw G bs H hI hH hs hΓ=>f105 n Q0 hH (hΓ.get 0 Z) hs a0 a7.2.1 a7.2.2 (i6 12) a5) O O ?_;rintro ⟨⟩ aa;have q2:=acu c_b u5 u6 12;rw [a5]at q2
 try dsimp only at q2
 refine TX.all1 4 J ?_;obtain ⟨⟨am,aj,af⟩,ad⟩:=xE (a0e c_b u8 u9 5);refine TS.callP a9 4 16 ⟨_,Z⟩ Z (λ_ _ _=>All.nil) (λ_ f hf=>by cases hf) Z Z Z Z Z Z O Z (λw G bs H hI hH hs hΓ=>f105 n Q0 hH (hΓ.get 0 Z) hs a0 aa.2.1 aa.2.2 (i6 5) ad) O O ?_;rintro ⟨⟩ a4;have q3:=acu c_b u8 u9 5;rw [ad]at q3
 try dsimp only at q3
 refine TX.all1 6 J ?_;obtain ⟨⟨ae,ap,aq⟩,ab⟩:=xE (a0e c_b aj af 8);refine TS.callP a9 6 17 ⟨_,Z⟩ Z (λ_ _ _=>All.nil) (λ_ f hf=>by cases hf) Z Z Z Z Z Z O Z (λw G bs H hI hH hs hΓ=>f105 n Q0 hH (hΓ.get 0 Z) hs a0 a4.2.1 a4.2.2 (i6 8) ab) O O ?_;rintro ⟨⟩ a3;have q4:=acu c_b aj af 8;rw [ab]at q4
 try dsimp only at q4
 have r6:=i8 a3.1;refine TX.seeP 7 J Z Z Z Z (ad7 Z Z Z Z Q6) ?_;refine TX.takes ttOk [8] J Z ?_;refine TX.tail [9] Z Z J ?_;have an:aaa c_b c_i c_h=(bJ.mk ((a0i (a02 u1) u4).1) u7 am (1+ae),ap,aq):=by simp only [aaa,ah,ag,a5,ad,ab]
 have ac:=an.symm.trans hres;obtain ⟨ac,a6⟩:=Prod.mk.inj ac;obtain ⟨a6,ao⟩:=Prod.mk.inj a6;subst ac;subst a6;subst ao;exact yY [14] ((p4,c2),(),(),()) ⟨(An al (An aa.1 (An a4.1 (i6 (1+ae))))),⟨a3.2.1,a3.2.2⟩⟩
theorem f195 (hn:n+9<=9){H:GH}(hH:Le H (hp w)){bc_:Nat}{c_b:List UInt8}(N0:RdSl (cut (hp w) H) K0 M0 c_b){c_i:Int}{c_h:Int}(t:bU)(N1:RdSl (cut (hp w) H) K1 M1 t.keys)(N2:RdSl (cut (hp w) H) K2 M2 t.bR)(N3:RdSl (cut (hp w) H) K3 M3 t.bV)(N4:RdSl (cut (hp w) H) K4 M4 t.bW)(hown:Sep H [cu bc_ K0 c_b M0 c_i c_h])(a0:ok n c_b)(ag:NN c_i)(ac:ok n c_h)(a8:ok n t){o0_:aJ}{o1_:Int}{o2_:Int}(hres:a3a c_b c_i c_h t=(o0_,o1_,o2_)):
 Does Tryz.prog 195 #[.pointer (some ⟨bc_,0,none⟩),ado t K1 M1 K2 M2 K3 M3 K4 M4] w H (Post w H (λx:GoT.X (aJ)=> .agg ⟨GoT.sh (o0_:aJ) x⟩) (λx=>cu bc_ K0 c_b M0 o1_ o2_::GoT.oa (o0_:aJ) x) (ok n (o0_:aJ)/\NN (o1_)/\I64 (o2_))):=by
 have hb:=bS9 hn;refine WX.enterP (tt:=tt) (Γ:=[(0,MF.rs .stb K0 M0 c_b),(1,MF.rs .stb K1 M1 t.keys),(2,MF.rs .stb K2 M2 t.bR),(3,MF.rs .stb K3 M3 t.bV),(4,MF.rs .stb K4 M4 t.bW)]) 5 Tryz.func195 Z J Z (ac6 Z N0 (ac6 Z N1 (ac6 Z N2 (ac6 Z N3 (ac6 Z N4 ac8))))) hH hown (λf hf=>by cases hf) Z ?_;refine yB λp1=>?_
 refine WX.turn [] 6 Z (λh hs=>ae6 (⟨(),_,emp,_,Z,acv _,Le.refl _,ade _,trivial,⟨(),_,emp,_,Z,acv _,Le.refl _,ade _,trivial,Z⟩⟩:OwL _ _ ([(⟨#[97]⟩:Str),(⟨#[98]⟩:Str)]:List Str))) (gs:=[MF.ol [.string (⟨#[97]⟩:Str),.string (⟨#[98]⟩:Str)] ([(⟨#[97]⟩:Str),(⟨#[98]⟩:Str)]:List Str)]) Z ?_;refine zE 12 6 7 ?_;obtain ⟨⟨u1,u2,u3⟩,an⟩:=xE (a2x c_b c_i c_h ([(⟨#[97]⟩:Str),(⟨#[98]⟩:Str)]))
 refine CP 999 9 Z Z O (λw β H η σ Y=>f156 n Q0 η (Y.q 0 Z) (Y.q 7 Z) σ a0 ag ac Q13 (aby Q7 (all_cons (α:=Str) (Nat.le_trans Q9 (adi n)) (all_cons (α:=Str) (Nat.le_trans Q9 (adi n)) nA)):ok n ([(⟨#[97]⟩:Str),(⟨#[98]⟩:Str)]:List Str)) an) ?_;rintro ⟨⟩ av;have r3:(⟨#[47]⟩:Str).size=1:=rfl;have r4:u1.size<=bd n:=av.1;refine KS Z Z Z Z (λ_ hΓ=>agx Z Z Z (by have:=ao1 (n+9);simp;omega)) ?_
 refine CF 10 Z O (λw Y=>f148 (n+1) Q0 (show (((⟨#[47]⟩:Str)++u1)).size<=bd (n+1)from Q5)) ?_;rintro ⟨p2,c1⟩ bb;refine yB λp3=>?_
 refine WX.turn [] 12 Z (λh hs=>ae6 (⟨(),_,emp,_,Z,acv _,Le.refl _,ade _,trivial,⟨(),_,emp,_,Z,acv _,Le.refl _,ade _,trivial,⟨(),_,emp,_,Z,acv _,Le.refl _,ade _,trivial,Z⟩⟩⟩:OwL _ _ ([(⟨#[49]⟩:Str),(⟨#[50]⟩:Str),(⟨#[120,45,49]⟩:Str)]:List Str))) (gs:=[MF.ol [.string (⟨#[49]⟩:Str),.string (⟨#[50]⟩:Str),.string (⟨#[120,45,49]⟩:Str)] ([(⟨#[49]⟩:Str),(⟨#[50]⟩:Str),(⟨#[120,45,49]⟩:Str)]:List Str)]) Z ?_;refine zE 19 12 13 ?_
 obtain ⟨⟨u4,u5,u6⟩,ak⟩:=xE (a2x c_b u2 u3 ([(⟨#[49]⟩:Str),(⟨#[50]⟩:Str),(⟨#[120,45,49]⟩:Str)]))
 refine CP 999 15 Z Z O (λw β H η σ Y=>f156 n Q0 η (Y.q 0 Z) (Y.q 13 Z) σ a0 av.2.1 av.2.2 Q13 (aby Q7 (all_cons (α:=Str) (Nat.le_trans Q9 (adi n)) (all_cons (α:=Str) (Nat.le_trans Q9 (adi n)) (all_cons (α:=Str) (Nat.le_trans Q9 (adi n)) nA))):ok n ([(⟨#[49]⟩:Str),(⟨#[50]⟩:Str),(⟨#[120,45,49]⟩:Str)]:List Str)) ak) ?_;rintro ⟨⟩ al;refine zW 16 11 ?_
 refine CF 17 Z O (λw Y=>f150 (n+1) Q0 (a02 ((⟨#[47]⟩:Str)++u1)) (Y.q 16 Z) bb (GoT.okm (α:=Str) Q0 al.1)) ?_;rintro ⟨p4,c2⟩ ax;have q1:=apa (a02 ((⟨#[47]⟩:Str)++u1)) u4;try dsimp only at q1
 refine KS Z Z Z Z (λ_ hΓ=>agx Z Z Z (by have:=ao1 (n+9);simp;omega)) ?_;have r8:(⟨#[47,107,101,121]⟩:Str).size=4:=rfl;refine WX.see Z Z Z (λ_ hΓ=>agx Z Z Z (by have:=ao1 (n+9);simp;omega)) ?_;refine CF 19 Z O (λw Y=>f148 (n+2) Q0 (show ((((⟨#[47]⟩:Str)++u1)++(⟨#[47,107,101,121]⟩:Str))).size<=bd (n+2)from Q5)) ?_;rintro ⟨p5,c3⟩ bm;dsimp only
 obtain ⟨⟨u7,u8,u9⟩,aj⟩:=xE (a1m c_b u5 u6 6);refine KP Z 999 21 Z Z O (λw β H η σ Y=>f154 n Q0 η (Y.q 0 Z) σ a0 al.2.1 al.2.2 (i6 6) aj) ?_;rintro ⟨⟩ ao;refine yKA 29 ?_ ?_<;>intro h1;refine yB λp6=>?_
 refine WX.turn [] 22 Z (λh hs=>ae6 (⟨(),_,emp,_,Z,acv _,Le.refl _,ade _,trivial,⟨(),_,emp,_,Z,acv _,Le.refl _,ade _,trivial,⟨(),_,emp,_,Z,acv _,Le.refl _,ade _,trivial,Z⟩⟩⟩:OwL _ _ ([(⟨#[47,98,97,100,47,107,101,121]⟩:Str),(⟨#[47,107,101,121,47,97]⟩:Str),(⟨#[47,97,47,107,101,121]⟩:Str)]:List Str))) (gs:=[MF.ol [.string (⟨#[47,98,97,100,47,107,101,121]⟩:Str),.string (⟨#[47,107,101,121,47,97]⟩:Str),.string (⟨#[47,97,47,107,101,121]⟩:Str)] ([(⟨#[47,98,97,100,47,107,101,121]⟩:Str),(⟨#[47,107,101,121,47,97]⟩:Str),(⟨#[47,97,47,107,101,121]⟩:Str)]:List Str)]) Z ?_
 refine zE 31 22 23 ?_;obtain ⟨⟨a5,b2,az⟩,ab⟩:=xE (a2x c_b u8 u9 ([(⟨#[47,98,97,100,47,107,101,121]⟩:Str),(⟨#[47,107,101,121,47,97]⟩:Str),(⟨#[47,97,47,107,101,121]⟩:Str)]))
 refine CP 999 25 Z Z O (λw β H η σ Y=>f156 n Q0 η (Y.q 0 Z) (Y.q 23 Z) σ a0 ao.1 ao.2 Q13 (aby Q7 (all_cons (α:=Str) (Nat.le_trans Q9 (adi n)) (all_cons (α:=Str) (Nat.le_trans Q9 (adi n)) (all_cons (α:=Str) (Nat.le_trans Q9 (adi n)) nA))):ok n ([(⟨#[47,98,97,100,47,107,101,121]⟩:Str),(⟨#[47,107,101,121,47,97]⟩:Str),(⟨#[47,97,47,107,101,121]⟩:Str)]:List Str)) ab) ?_;rintro ⟨⟩ aa
 refine CF 26 Z O (λw Y=>f148 n Q0 aa.1) ?_;rintro ⟨p7,c4⟩ ah;dsimp only
 refine zW 28 18 ?_;refine R0 ?_;refine WX.drawY [13] mixed Z λbs G0 bf=>?_;refine DY.takes (fuel:=9) ttOk [(0,true),(1,false),(2,false),(3,false),(4,true),(5,true)] J Z ?_;refine DY.toTX λS_ am=>?_;refine TX.toP ?_;refine TXP.pend (PI.loc 12 9 ⟨78,[.slice none (0) 0,.slice none (0) 0,.slice none (0) 0,.int .i64 (0),.int .i64 (0)]⟩) (ail ttOk Z Z Z Z Z) .nil Z J Z ?_;obtain ⟨⟨ay,b0,b6⟩,a6⟩:=xE (a0e c_b b2 az 4);refine TPP am 6 29 Z J J Z Z Z Z Z Z Z O Z (λw β H η σ Y=>f105 n Q0 η (Y.q 0 Z) σ a0 aa.2.1 aa.2.2 (i6 4) a6) ?_;rintro ⟨⟩ ai
 have q2:=acu c_b b2 az 4;rw [a6]at q2
 try dsimp only at q2
 obtain ⟨⟨ad,bi,bk⟩,a9⟩:=xE (a4e c_b b0 b6 ay);refine TPQ am 7 30 Z J J Z Z Z Z Z Z Z O Z (λw β H η σ Y=>f153 n Q0 η (Y.q 0 Z) σ a0 ai.2.1 ai.2.2 Q13 ai.1 a9) ?_;rintro ⟨p8,c5⟩ a1;dsimp only
 have q3:=ai9 c_b b0 b6 ay;rw [a9]at q3
 try dsimp only at q3
 refine TPF 8 32 J J Z Z Z Z Z Z Z O Z (λw Y=>f152 (n+1) Q0 (Y.q 1 Z) (a02 a5) (Y.q 26 Z) ((a0i (a02 ((⟨#[47]⟩:Str)++u1)) u4).1) (Y.q 28 Z) (Y.q 30 Z) (GoT.okm (α:=List Key) Q0 (ac4 a8).1) (GoT.okm (α:=List Str) Q0 (adf ah)) ax (GoT.okm (α:=List UInt8) Q0 a1.1) (i6 4000)) ?_;rintro ⟨⟨p9,c6⟩,⟨b5,c7⟩,⟨ap,c8⟩,_⟩ aq;dsimp only
 refine TXP.takes (fuel:=2) ttOk [9,10,11] Z J Z ?_;refine TXP.settleL 0 Z Z J Z ?_;refine TXP.done ?_;refine TX.all1 13 J ?_;refine TS.op 13 Z J ?_;refine R0 ?_;refine WX.back0 ?_;refine TX.takes (fuel:=0) ttOk [14] J Z ?_;refine TX.tail [] Z Z J ?_;obtain ⟨⟨br,b8,b7⟩,ar⟩:=xE (a1m c_b bi bk 8);refine KP Z 999 38 Z Z O (λw β H η σ Y=>f154 n Q0 η (Y.q 0 Z) σ a0 a1.2.1 a1.2.2 (i6 8) ar) ?_;rintro ⟨⟩ a7;refine yKA 47 ?_ ?_<;>intro h2;refine yB λbp=>?_;refine zN (kk:=1) 501 36 39 λbj bo=>?_;refine zT (α:=UInt8) [] 40 (1:UInt8) () λ_=>?_
 have be:=(okl (ac4 a8).1).1;have bq:=(okl (ac0 aq).2.1).1;refine WX.know (λG hΓ=>(hΓ.get 40 Z:OwL _ _ _).rd.one) λau=>?_;refine zP 501 50 (((a0j t.keys (a02 a5) ((a0i (a02 ((⟨#[47]⟩:Str)++u1)) u4).1) ad 4000).1.content++[(1:UInt8)]):List UInt8).length au λbn c9=>?_;refine zV [39,40] 41 ?_;refine yE 501 41 42 ?_
 have a4:a3a c_b c_i c_h t=(aJ.mk ((a0j t.keys (a02 a5) ((a0i (a02 ((⟨#[47]⟩:Str)++u1)) u4).1) ad 4000).1.name) ((a0j t.keys (a02 a5) ((a0i (a02 ((⟨#[47]⟩:Str)++u1)) u4).1) ad 4000).1.content++[(1:UInt8)]) ((a0j t.keys (a02 a5) ((a0i (a02 ((⟨#[47]⟩:Str)++u1)) u4).1) ad 4000).1.aR) ((a0j t.keys (a02 a5) ((a0i (a02 ((⟨#[47]⟩:Str)++u1)) u4).1) ad 4000).1.bL) ((a0j t.keys (a02 a5) ((a0i (a02 ((⟨#[47]⟩:Str)++u1)) u4).1) ad 4000).1.cF),b8,b7):=by simp only [a3a,an,ak,aj,h1,ab,a6,a9,ar,h2,cC]
 have a3:=a4.symm.trans hres;obtain ⟨a3,a2⟩:=Prod.mk.inj a3;obtain ⟨a2,af⟩:=Prod.mk.inj a2;subst a3;subst a2;subst af;exact zY [35,43,37] ((p9,c6),(bn,c9),(ap,c8),(),()) ⟨(by have z_:=(show ok 0 (a3a c_b c_i c_h t).1 from ahy c_b c_i c_h t);rw [a4]at z_;exact GoT.okm Q0 z_),⟨a7.1,a7.2⟩⟩;have a4:a3a c_b c_i c_h t=((a0j t.keys (a02 a5) ((a0i (a02 ((⟨#[47]⟩:Str)++u1)) u4).1) ad 4000).1,b8,b7):=by simp only [a3a,an,ak,aj,h1,ab,a6,a9,ar,h2,cC]
 have a3:=a4.symm.trans hres;obtain ⟨a3,a2⟩:=Prod.mk.inj a3;obtain ⟨a2,af⟩:=Prod.mk.inj a2;subst a3;subst a2;subst af;exact yY [35,36,37] ((p9,c6),(b5,c7),(ap,c8),(),()) ⟨(by have z_:=(show ok 0 (a3a c_b c_i c_h t).1 from ahy c_b c_i c_h t);rw [a4]at z_;exact GoT.okm Q0 z_),⟨a7.1,a7.2⟩⟩;refine R0 ?_;refine WX.drawY [13] mixed Z λbs G0 bf=>?_;refine DY.takes (fuel:=9) ttOk [(0,true),(1,false),(2,false),(3,false),(4,true),(5,true)] J Z ?_;refine DY.toTX λS_ am=>?_;refine TX.toP ?_
 refine TXP.pend (PI.loc 12 9 ⟨78,[.slice none (0) 0,.slice none (0) 0,.slice none (0) 0,.int .i64 (0),.int .i64 (0)]⟩) (ail ttOk Z Z Z Z Z) .nil Z J Z ?_;obtain ⟨⟨b4,ba,b9⟩,ab⟩:=xE (a0e c_b u8 u9 4);refine TPP am 6 22 Z J J Z Z Z Z Z Z Z O Z (λw β H η σ Y=>f105 n Q0 η (Y.q 0 Z) σ a0 ao.1 ao.2 (i6 4) ab) ?_;rintro ⟨⟩ aa;have q2:=acu c_b u8 u9 4;rw [ab]at q2
 try dsimp only at q2
 obtain ⟨⟨ae,bc,bh⟩,a6⟩:=xE (a4e c_b ba b9 b4);refine TPQ am 7 23 Z J J Z Z Z Z Z Z Z O Z (λw β H η σ Y=>f153 n Q0 η (Y.q 0 Z) σ a0 aa.2.1 aa.2.2 Q13 aa.1 a6) ?_;rintro ⟨p6,c4⟩ ah;dsimp only
 have q3:=ai9 c_b ba b9 b4;rw [a6]at q3
 try dsimp only at q3
 refine TPF 8 25 J J Z Z Z Z Z Z Z O Z (λw Y=>f152 (n+2) Q0 (Y.q 1 Z) (a02 (((⟨#[47]⟩:Str)++u1)++(⟨#[47,107,101,121]⟩:Str))) (Y.q 19 Z) ((a0i (a02 ((⟨#[47]⟩:Str)++u1)) u4).1) (Y.q 17 Z) (Y.q 23 Z) (GoT.okm (α:=List Key) Q0 (ac4 a8).1) bm (GoT.okm (α:=List Str) Q0 (adf ax)) (GoT.okm (α:=List UInt8) Q0 ah.1) (i6 4000)) ?_;rintro ⟨⟨p7,c5⟩,⟨p8,c6⟩,⟨p9,c7⟩,_⟩ ai;dsimp only
 refine TXP.takes (fuel:=2) ttOk [9,10,11] Z J Z ?_;refine TXP.settleL 0 Z Z J Z ?_;refine TXP.done ?_;refine TX.all1 13 J ?_;refine TS.op 13 Z J ?_;refine R0 ?_;refine WX.back0 ?_;refine TX.takes (fuel:=0) ttOk [14] J Z ?_;refine TX.tail [] Z Z J ?_;obtain ⟨⟨bu,aw,b3⟩,a9⟩:=xE (a1m c_b bc bh 8);refine KP Z 999 31 Z Z O (λw β H η σ Y=>f154 n Q0 η (Y.q 0 Z) σ a0 ah.2.1 ah.2.2 (i6 8) a9) ?_;rintro ⟨⟩ a1;refine yKA 47 ?_ ?_<;>intro h2;refine yB λb5=>?_;refine zN (kk:=1) 501 29 32 λbj bo=>?_;refine zT (α:=UInt8) [] 33 (1:UInt8) () λ_=>?_
 have be:=(okl (ac0 ai).2.1).1;refine WX.know (λG hΓ=>(hΓ.get 33 Z:OwL _ _ _).rd.one) λau=>?_;refine zP 501 50 (((a0j t.keys (a02 (((⟨#[47]⟩:Str)++u1)++(⟨#[47,107,101,121]⟩:Str))) ((a0i (a02 ((⟨#[47]⟩:Str)++u1)) u4).1) ae 4000).1.content++[(1:UInt8)]):List UInt8).length au λap c8=>?_;refine zV [32,33] 34 ?_;refine yE 501 34 35 ?_
 have a4:a3a c_b c_i c_h t=(aJ.mk ((a0j t.keys (a02 (((⟨#[47]⟩:Str)++u1)++(⟨#[47,107,101,121]⟩:Str))) ((a0i (a02 ((⟨#[47]⟩:Str)++u1)) u4).1) ae 4000).1.name) ((a0j t.keys (a02 (((⟨#[47]⟩:Str)++u1)++(⟨#[47,107,101,121]⟩:Str))) ((a0i (a02 ((⟨#[47]⟩:Str)++u1)) u4).1) ae 4000).1.content++[(1:UInt8)]) ((a0j t.keys (a02 (((⟨#[47]⟩:Str)++u1)++(⟨#[47,107,101,121]⟩:Str))) ((a0i (a02 ((⟨#[47]⟩:Str)++u1)) u4).1) ae 4000).1.aR) ((a0j t.keys (a02 (((⟨#[47]⟩:Str)++u1)++(⟨#[47,107,101,121]⟩:Str))) ((a0i (a02 ((⟨#[47]⟩:Str)++u1)) u4).1) ae 4000).1.bL) ((a0j t.keys (a02 (((⟨#[47]⟩:Str)++u1)++(⟨#[47,107,101,121]⟩:Str))) ((a0i (a02 ((⟨#[47]⟩:Str)++u1)) u4).1) ae 4000).1.cF),aw,b3):=by simp only [a3a,an,ak,aj,h1,ab,a6,a9,h2,cC]
 have a3:=a4.symm.trans hres;obtain ⟨a3,a2⟩:=Prod.mk.inj a3;obtain ⟨a2,af⟩:=Prod.mk.inj a2;subst a3;subst a2;subst af;exact zY [28,36,30] ((p7,c5),(ap,c8),(p9,c7),(),()) ⟨(by have z_:=(show ok 0 (a3a c_b c_i c_h t).1 from ahy c_b c_i c_h t);rw [a4]at z_;exact GoT.okm Q0 z_),⟨a1.1,a1.2⟩⟩
 have a4:a3a c_b c_i c_h t=((a0j t.keys (a02 (((⟨#[47]⟩:Str)++u1)++(⟨#[47,107,101,121]⟩:Str))) ((a0i (a02 ((⟨#[47]⟩:Str)++u1)) u4).1) ae 4000).1,aw,b3):=by simp only [a3a,an,ak,aj,h1,ab,a6,a9,h2,cC]
 have a3:=a4.symm.trans hres;obtain ⟨a3,a2⟩:=Prod.mk.inj a3;obtain ⟨a2,af⟩:=Prod.mk.inj a2;subst a3;subst a2;subst af;exact yY [28,29,30] ((p7,c5),(p8,c6),(p9,c7),(),()) ⟨(by have z_:=(show ok 0 (a3a c_b c_i c_h t).1 from ahy c_b c_i c_h t);rw [a4]at z_;exact GoT.okm Q0 z_),⟨a1.1,a1.2⟩⟩
theorem f29 (hn:n+0<=9)(a:aX)(N0:Rd w K0 M0 a.name.parts)(N1:Rd w K1 M1 a.data.name.parts)(N2:Rd w K2 M2 a.data.content)(N3:Rd w K3 M3 a.data.aR.parts)(b:aX)(N4:Rd w K4 M4 b.name.parts)(N5:Rd w K5 M5 b.data.name.parts)(N6:Rd w K6 M6 b.data.content)(N7:Rd w K7 M7 b.data.aR.parts)(a0:ok n a)(a1:ok n b):
 DP 29 #[ag7 a K0 M0 K1 M1 K2 M2 K3 M3,ag7 b K4 M4 K5 M5 K6 M6 K7 M7] w (pB (a5z a b)):=by
 refine EN Tryz.func29 Z (aC 0 N0 (aC 1 N1 (aC 2 N2 (aC 3 N3 (aC 4 N4 (aC 5 N5 (aC 6 N6 (aC 7 N7 ac8)))))))) ?_;refine yKE 10 ?_ ?_<;>intro h1 a3;refine yKE 17 ?_ ?_<;>intro h2 a6;refine KV Z Z O (λw Y=>f57 n Q0 a.name (Y.q 0 Z) b.name (Y.q 4 Z) ((ace a0).2.2.1) ((ace a1).2.2.1)) λa7=>?_;refine yKA 24 ?_ ?_<;>intro h3;refine yKE 31 ?_ ?_<;>intro h4 a2;refine yKE 38 ?_ ?_<;>intro h5 a4;refine KS Z Z Z Z (λ_ hΓ=>ahd ttOk Z Z Z Z Z Z) ?_;refine yKA 45 ?_ ?_<;>intro h6
 refine KV Z Z O (λw Y=>f28 n Q0 a.data (Y.q 1 Z) (Y.q 2 Z) (Y.q 3 Z) b.data (Y.q 5 Z) (Y.q 6 Z) (Y.q 7 Z) ((ace a0).2.2.2.2.2.2) ((ace a1).2.2.2.2.2.2)) λa5=>?_;exact R4r Z Z (by simp only [a5z,h1,h2,h3,h4,h5,h6,cC]);exact R4r Z Z (by simp only [a5z,h1,h2,h3,h4,h5,h6,cC]);exact R4r Z Z (by simp only [a5z,h1,h2,h3,h4,h5,cC]);exact R4r Z Z (by simp only [a5z,h1,h2,h3,h4,cC]);exact R4r Z Z (by simp only [a5z,h1,h2,h3,cC]);exact R4r Z Z (by simp only [a5z,h1,h2,cC])
 exact R4r Z Z (by simp only [a5z,h1,cC])
theorem f27 (hn:n+0<=9)(a:bJ)(N0:Rd w K0 M0 a.name.parts)(b:bJ)(N1:Rd w K1 M1 b.name.parts)(a0:ok n a)(a1:ok n b):
 DP 27 #[afr a K0 M0,afr b K1 M1] w (pB (a98 a b)):=by
 refine EN Tryz.func27 Z (aS2 N0 N1) ?_;refine KV Z Z O (λw Y=>f57 n Q0 a.name (Y.q 0 Z) b.name (Y.q 1 Z) ((acj a0).1) ((acj a1).1)) λa4=>?_;refine yKA 10 ?_ ?_<;>intro h1;refine yKE 17 ?_ ?_<;>intro h2 a2;refine yKE 24 ?_ ?_<;>intro h3 a3;exact R4r Z Z (by simp only [a98,h1,h2,h3,cC]);exact R4r Z Z (by simp only [a98,h1,h2,h3,cC]);exact R4r Z Z (by simp only [a98,h1,h2,cC]);exact R4r Z Z (by simp only [a98,h1,cC])
end Go.Proofs.YthdfhghdipdknaaGreat
namespace Go.Stp
theorem ase {C:Cx}{env:Env}{L:Locs}{R:Rows}{G:GH}{o:Oper}{x:Operand}{T:Nat}{m:Int}(ho:o.op= .unOp .neg T x)
  (hx:ev env x=some (.v (.int .i64 m))) (hr:I64 (-m)):Looks C env L R G o (.v (.int .i64 (-m))):=by
 intro a w G' bs _ hA hI;unfold execOp;simp only [ho,ac5 hA hx,conc];have:=afg hr;simp [Op.unary,Op.intArith,this]
theorem apr (y:Int):(i64.wrap y).natAbs<=y.natAbs:=by
 by_cases h:I64 y
 ·rw [afg h];grind
 ·grind [ad0,I64]
theorem ak6 {x:Int}(h:x≠0):(i64.wrap (x.tdiv 10)).natAbs<x.natAbs:=by
 refine Nat.lt_of_le_of_lt (apr _) ?_
 grind
def ars (x:Int)(s:Nat):Prop:=x.natAbs*10^s<=9223372036854775808/\(s=0\/10^ (s-1)<=9223372036854775808)
theorem auq {x:Int}(h:I64 x):ars x 0:=⟨by unfold I64 at h;simp;omega,.inl rfl⟩
theorem alu {x:Int}{s t:Str}(ht:t.size=1)(h:x≠0)(hi:ars x s.size):ars (i64.wrap (x.tdiv 10)) (t++s).size:=by
 obtain ⟨h1,_⟩:=hi;rw [ByteArray.size_append,ht];have h2:(i64.wrap (x.tdiv 10)).natAbs*10<=x.natAbs:=by grind [apr,Int.natAbs_tdiv]
 refine ⟨?_,.inr ?_⟩
 ·rw [Nat.add_comm,Nat.pow_succ,Nat.mul_comm (10^s.size),<-Nat.mul_assoc]
  exact Nat.le_trans (Nat.mul_le_mul_right _ h2) h1
 ·rw [Nat.add_sub_cancel_left]
  have h4:1*10^s.size<=x.natAbs*10^s.size:=Nat.mul_le_mul_right _ (by omega);omega
theorem aq4 {x:Int}{s:Nat}(hi:ars x s):s<=20:=by
 rcases hi.2 with h3|h3
 ·omega
 ·by_cases hs:s<=20
  ·exact hs
  ·have h4:10^20<=10^ (s-1):=Nat.pow_le_pow_right (by omega) (by omega)
   grind
end Go.Stp
namespace Go.Stp
def a99 (s:Str)(x_:Int):Str×Int:=if (x_ !=0)=true then if Int.tmod x_ 10<0 then a99 ((bstr ([(toU8 (i64.wrap (48+(-(Int.tmod x_ 10)))))]))++s) (i64.wrap (Int.tdiv x_ 10))else a99 ((bstr ([(toU8 (i64.wrap (48+(Int.tmod x_ 10))))]))++s) (i64.wrap (Int.tdiv x_ 10))else (s,x_)
termination_by x_.natAbs
decreasing_by all_goals exact ak6 (by simpa using ‹(x_ != 0) = true›)
def a2d (n_:Int):Str:=bif (n_==0)then (⟨#[48]⟩:Str)else match a99 (⟨#[]⟩:Str) n_ with|(s,x_)=>bif decide (n_<0)then ((⟨#[45]⟩:Str)++s)else s
end Go.Stp
namespace Go.Proofs.YthdfhghdipdknaaGreat
open Go.Stp
open Go.Stp.GoT (ok)
variable {w : World} (n : Nat)
theorem f151 (hn:n+0<=9){n_:Int}(a0:ok n n_):
 DP 151 #[vI n_] w (pT n (a2d n_)):=by
 have hb:=bS0 hn;refine EN Tryz.func151 Z ac8 ?_;refine yKE 7 ?_ ?_<;>intro h1 a8;rw [show a2d n_=(⟨#[48]⟩:Str) by simp only [a2d,h1,cC]];exact R6r Z Z (Nat.le_trans Q9 (adi n));have r1:(⟨#[]⟩:Str).size=0:=rfl;refine LM Z ((⟨#[]⟩:Str),n_) (λ|(s,x_)=>((s.size<=bd n)/\J6 x_/\(ars x_ s.size)/\(a99 (⟨#[]⟩:Str) n_=a99 s x_),x_.natAbs,[(3,.v (.string s)),(4,.v (vI x_))],[],[],[])) ⟨Q4,a0,(auq a0),Z⟩ [0] [] [] [] ?_;rintro ⟨s,x_⟩ ⟨v1,v2,v3,v4⟩
 have a6:=aq4 v3;refine yKM 10 ?_ ?_<;>intro h2 a7;have r2:=ahr x_ (show (0:Int)<10 by omega);refine KS Z Z Z Z (λ_ hΓ=>agt Z Z Z Q9) ?_;refine yKD 16 ?_ ?_<;>intro h3 a2;refine KS Z Z Z Z (λ_ hΓ=>ase Z Z (by unfold I64;omega)) ?_;refine SW ?_;refine WX.see Z Z Z (λ_ hΓ=>agv ttOk Z Z Z Z Z Z) ?_;refine zB λp1=>?_;refine zT (α:=UInt8) [] 0 (toU8 (i64.wrap (48+(-(Int.tmod x_ 10))))) () λ_=>?_;refine zE 22 0 1 ?_;refine WX.see Z Z Z (λ_ hΓ=>ah7 ttOk (hΓ.get 1 Z) Z Z Z Z Z Z Z Z Z) ?_
 have r3:(bstr ([(toU8 (i64.wrap (48+(-(Int.tmod x_ 10)))))])).size=1:=aip _;refine KS Z Z Z Z (λ_ hΓ=>agx Z Z Z (by have:=ao1 (n+9);simp;omega)) ?_;refine KS Z Z Z Z (λ_ hΓ=>aj2 Z Z Z Q9) ?_
 exact ITr Z (((bstr ([(toU8 (i64.wrap (48+(-(Int.tmod x_ 10)))))]))++s),i64.wrap (Int.tdiv x_ 10)) ⟨Q3,(ad0 _),(alu (aip _) (by simpa using h2) v3),(by rw [v4];rw [a99];simp only [h2,a2,↓reduceIte])⟩ (ak6 (by simpa using h2)) [];refine SW ?_;refine WX.see Z Z Z (λ_ hΓ=>agv ttOk Z Z Z Z Z Z) ?_;refine zB λp1=>?_;refine zT (α:=UInt8) [] 0 (toU8 (i64.wrap (48+(Int.tmod x_ 10)))) () λ_=>?_;refine zE 22 0 1 ?_
 refine WX.see Z Z Z (λ_ hΓ=>ah7 ttOk (hΓ.get 1 Z) Z Z Z Z Z Z Z Z Z) ?_;have r3:(bstr ([(toU8 (i64.wrap (48+(Int.tmod x_ 10))))])).size=1:=aip _;refine KS Z Z Z Z (λ_ hΓ=>agx Z Z Z (by have:=ao1 (n+9);simp;omega)) ?_;refine KS Z Z Z Z (λ_ hΓ=>aj2 Z Z Z Q9) ?_
 exact ITr Z (((bstr ([(toU8 (i64.wrap (48+(Int.tmod x_ 10))))]))++s),i64.wrap (Int.tdiv x_ 10)) ⟨Q3,(ad0 _),(alu (aip _) (by simpa using h2) v3),(by rw [v4];rw [a99];simp only [h2,a2,↓reduceIte])⟩ (ak6 (by simpa using h2)) [];have a1:=v4.trans (show _=(s,x_) by rw [a99];simp only [h2,↓reduceIte,Bool.false_eq_true]);refine yKD 27 ?_ ?_<;>intro a3 a4;have a5:(⟨#[45]⟩:Str).size=1:=rfl
 refine KS Z Z Z Z (λ_ hΓ=>agx Z Z Z (by have:=ao1 (n+9);simp;omega)) ?_;rw [show a2d n_=((⟨#[45]⟩:Str)++s) by simp only [a2d,h1,a1,a3,cC]];exact R6r Z Z (show ((⟨#[45]⟩++s)).size<=bd n from Q5);rw [show a2d n_=s by simp only [a2d,h1,a1,a3,cC]];exact R6r Z Z v1
end Go.Proofs.YthdfhghdipdknaaGreat
namespace Go.Stp
def a4z (code:(List UInt8))(most:Int):Int:=bif decide (i64.wrap (3+(i64.wrap (Int.tdiv ((code).length:Int) 12)))>most)then most else (i64.wrap (3+(i64.wrap (Int.tdiv ((code).length:Int) 12))))
def a3b (c_b:(List UInt8))(u1:Int)(i:Nat)(b:Int)(n_2:List aQ)(u999_i2:Int)(u999_h2:Int):Int×(List aQ)×Int×Int:=
 if b<2+u1 then
  if (b==((i:Nat):Int)+1)=true then
   match a1m c_b u999_i2 u999_h2 5 with
    |(u4,u5,u6)=>
     if (!u4)=true then
      a3b c_b u1 i (b+1) (((n_2++[(aQ.mk ((i:Nat):Int) b)])):List aQ) u5 u6
     else
      match a1m c_b u5 u6 4 with
       |(u7,u8,u9)=>
        if u7=true then
         a3b c_b u1 i (b+1) (((n_2++[(aQ.mk ((i:Nat):Int) b)])):List aQ) u8 u9
        else
         a3b c_b u1 i (b+1) ((n_2):List aQ) u8 u9
  else
   match a1m c_b u999_i2 u999_h2 4 with
    |(u10,u11,u12)=>
     if u10=true then
      a3b c_b u1 i (b+1) (((n_2++[(aQ.mk ((i:Nat):Int) b)])):List aQ) u11 u12
     else
      a3b c_b u1 i (b+1) ((n_2):List aQ) u11 u12
 else
  (b,((n_2):List aQ),u999_i2,u999_h2)
termination_by (2 + u1 - b).toNat
decreasing_by all_goals (simp_wf; omega)
def a6v (c_b:(List UInt8))(u1:Int):Nat->Nat->(List aQ)->Int->Int->(List aQ)×Int×Int|0,i,n_,u999_i,u999_h=>(((n_):List aQ),u999_i,u999_h)|m_+1,i,n_,u999_i,u999_h=>match a3b c_b u1 i (((i:Nat):Int)+1) (n_:List aQ) u999_i u999_h with|(b,n_2,u999_i2,u999_h2)=>a6v c_b u1 m_ (i+1) ((n_2):List aQ) u999_i2 u999_h2
def a9a (c_b:(List UInt8))(c_i:Int)(c_h:Int):aV×Int×Int:=match a0e c_b c_i c_h 5 with|(u1,u2,u3)=>match a6v c_b u1 ((2+u1).toNat) 0 ([]:List aQ) u2 u3 with|(n_,u999_i,u999_h)=>((aV.mk (2+u1) n_),u999_i,u999_h)
def a2e (x_:aH)(t:aJ):aH×Bool:=bif (!(a44 (aH.mk ((a00 x_).bF++[(a0m t)]) ((a00 x_).bG) ((a00 x_).bH) ((a00 x_).bS) ((a00 x_).bM) ((a00 x_).bQ) ((a00 x_).aP))))then ((a00 x_),false)else ((aH.mk ((a00 x_).bF++[(a0m t)]) ((a00 x_).bG) ((a00 x_).bH) ((a00 x_).bS) ((a00 x_).bM) ((a00 x_).bQ) ((a00 x_).aP)),true)
def a4g (c_b:(List UInt8))(u4:bU)(e2:aK)(j:Int)(w_2:List aH)(u999_i3:Int)(u999_h3:Int):Int×(List aH)×Int×Int:=if j<=2 then match a0e c_b u999_i3 u999_h3 4 with|(u13,u14,u15)=>match a4e c_b u14 u15 u13 with|(u16,u17,u18)=>if ((a0j u4.keys ((a0i e2.name (⟨#[107,101,121]⟩:Str)).1) ((a0i e2.name (a2d j)).1) u16 40000).2)=true then match a1m c_b u17 u18 6 with|(u19,u20,u21)=>if (!u19)=true then match (w_2)[(e2.value).toNat]? with|none=>default|some e3=>a4g c_b u4 e2 (j+1) (((w_2.set ((e2.value).toNat) ((a2e e3 ((a0j u4.keys ((a0i e2.name (⟨#[107,101,121]⟩:Str)).1) ((a0i e2.name (a2d j)).1) u16 40000).1)).1))):List aH) u20 u21 else a4g c_b u4 e2 (j+1) ((w_2):List aH) u20 u21 else a4g c_b u4 e2 (j+1) ((w_2):List aH) u17 u18 else (j,((w_2):List aH),u999_i3,u999_h3)
termination_by (3 - j).toNat
decreasing_by all_goals (simp_wf; omega)
def a81 (c_b:(List UInt8))(u1:aV)(i:Int)(w_3:List aX)(u999_i4:Int)(u999_h4:Int):Int×(List aX)×Int×Int:=if i>0 then match a2x c_b u999_i4 u999_h4 ([(⟨#[47,97,47,49]⟩:Str),(⟨#[47,97,47,50]⟩:Str),(⟨#[47,98,47,49]⟩:Str),(⟨#[47,98,47,50]⟩:Str),(⟨#[47,98,47,51]⟩:Str)])with|(u25,u26,u27)=>match a0e c_b u26 u27 u1.size with|(u28,u29,u30)=>a81 c_b u1 (i-1) (((w_3++[(a09 u28 ((w_3).length:Int) (a02 u25))])):List aX) u29 u30 else (i,((w_3):List aX),u999_i4,u999_h4)
termination_by i.toNat
decreasing_by all_goals (simp_wf; omega)
def a6w (c_b:(List UInt8))(u4:bU):List aK->(List aH)->Int->Int->(List aH)×Int×Int|[],w_,u999_i2,u999_h2=>(((w_):List aH),u999_i2,u999_h2)|e2::rest_,w_,u999_i2,u999_h2=>match a4g c_b u4 e2 1 (w_:List aH) u999_i2 u999_h2 with|(j,w_2,u999_i3,u999_h3)=>a6w c_b u4 rest_ ((w_2):List aH) u999_i3 u999_h3
def a6x (c_b:(List UInt8))(u1:aV):Nat->Nat->(List aK)->Int->Int->(List aK)×Int×Int|0,i,h_,u999_i,u999_h=>(((h_):List aK),u999_i,u999_h)|m_+1,i,h_,u999_i,u999_h=>match ([(⟨#[47,97]⟩:Str),(⟨#[47,98]⟩:Str)])[i]? with|none=>default|some e1=>match a0e c_b u999_i u999_h u1.size with|(u7,u8,u9)=>a6x c_b u1 m_ (i+1) (((a3g h_ (a02 e1) u7).1):List aK) u8 u9
def a9b (c_b:(List UInt8))(c_i:Int)(c_h:Int):aD×Int×Int:=match a9a c_b c_i c_h with|(u1,u2,u3)=>match a97 c_b u2 u3 with|(u4,u5,u6)=>match a6x c_b u1 2 0 ([]:List aK) u5 u6 with|(h_,u999_i,u999_h)=>match a0e c_b u999_i u999_h 4 with|(u10,u11,u12)=>match a6w c_b u4 h_ ((a0c u1 u4 h_ u10).aI:List aH) u11 u12 with|(w_,u999_i2,u999_h2)=>match a0e c_b u999_i2 u999_h2 4 with|(u22,u23,u24)=>match a81 c_b u1 (1+u22) ((a0c u1 u4 h_ u10).aE:List aX) u23 u24 with|(i,w_3,u999_i4,u999_h4)=>((aD.mk ((a0c u1 u4 h_ u10).aG) ((a0c u1 u4 h_ u10).aF) ((a0c u1 u4 h_ u10).aM) w_ ((a0c u1 u4 h_ u10).aY) ((a0c u1 u4 h_ u10).aU) ((a0c u1 u4 h_ u10).aL) w_3 ((a0c u1 u4 h_ u10).now) ((a0c u1 u4 h_ u10).aP)),u999_i4,u999_h4)
end Go.Stp
