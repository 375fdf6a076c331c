/-
  FnLiveRoutes: the law returns true at all arguments; conditions: those of the statement, no others. Written by a program (pack.py, mklaw2.py).
-/
import Derived.Test.YthdfhghdipdknaaGreatKXm7
open Go.IntKind (i64)
set_option linter.unusedVariables false
set_option linter.unusedSimpArgs false
namespace Go.Stp
structure TopoOk (t:aV):Prop where
 size:1<=t.size/\t.size<=6
 rng:∀e∈t.links,0<=e.a/\e.a<e.b/\e.b<t.size
 srt:t.links.Pairwise (λx y=>a52 x y=true)
theorem ap8 (x y:aQ):a52 x y=true↔x.a<y.a\/x.a=y.a/\x.b<y.b:=by grind [a52]
theorem arz {t:aV}(h:TopoOk t):∀(l:List aQ) (i:Nat),(∀j:Nat,l[j]? =t.links[i+j]?)->a35 t l i=none
 |[],i,hl=>rfl
 |e::l,i,hl=>by
  have hs:=h.size;have hw:i64.wrap (t.size-1)=t.size-1:=afg (by unfold I64;omega);have he:t.links[i]? =some e:=(hl 0).symm;have hr:=h.rng e (List.mem_of_getElem? he);have ih:=arz h l (i+1) (λj=>by have:=hl (j+1);grind);have h1:a07 e.a 0 (t.size-1)=true:=aff.2 (by omega);have h2:a07 e.b 0 (t.size-1)=true:=aff.2 (by omega);have h3:decide (e.a>=e.b)=false:=decide_eq_false (by omega);simp only [a35,hw,h1,h2,h3,Bool.not_true,cond_false];cases h4:decide (((i:Nat):Int)>0)
  ·grind
  ·have h5:=of_decide_eq_true h4
   have hil:=(List.getElem?_eq_some_iff.1 he).1;have h6:(((i:Nat):Int)-1).toNat=i-1:=by omega
   rw [cond_true,h6,List.getElem?_eq_getElem (show i-1<t.links.length by omega)];have h7:=List.pairwise_iff_getElem.1 h.srt (i-1) i (by omega) hil (by omega)
   grind
theorem TopoOk.valid {t:aV}(h:TopoOk t):a4j t=true:=by unfold a4j;rw [arz h t.links 0 (λj=>by grind)];exact aff.2 h.size
def Dr (z a b:Int)(l:List aQ):Prop:=(∀e∈l,0<=e.a/\e.a<e.b/\e.b<z)/\l.Pairwise (λx y=>a52 x y=true)/\∀e∈l,e.a<a\/e.a=a/\e.b<b
theorem Dr.skip {z a b:Int}{l:List aQ}(h:Dr z a b l):Dr z a (b+1) l:=⟨h.1,h.2.1,λe he=>by have:=h.2.2 e he;omega⟩
theorem Dr.add {z a b:Int}{l:List aQ}(h:Dr z a b l)(h0:0<=a/\a<b/\b<z):Dr z a (b+1) (l++[aQ.mk a b]):=by
 refine ⟨λe he=>?_,List.pairwise_append.2 ⟨h.2.1,List.pairwise_singleton _ _,λx hx y hy=>?_⟩,λe he=>?_⟩
 ·rcases List.mem_append.1 he with he|he
  ·exact h.1 e he
  ·grind
 ·rw [List.mem_singleton.1 hy,ap8];exact h.2.2 x hx
 ·rcases List.mem_append.1 he with he|he
  ·have:=h.2.2 e he;omega
  ·grind
theorem avd (cb:List UInt8)(u:Int)(i:Nat):∀(m:Nat) (b:Int) (l:List aQ) (ci ch:Int),(2+u-b).toNat=m->(i:Int)<b->b<=2+u->Dr (2+u) i b l->Dr (2+u) i (2+u) (a3b cb u i b l ci ch).2.1
 |m,b,l,ci,ch,hm,hi,hb,h=>by
  rw [a3b]
  split
  ·rename_i hlt
   have ha:Dr (2+u) i (b+1) (l++[aQ.mk i b]):=h.add ⟨by omega,hi,hlt⟩;have hs:Dr (2+u) i (b+1) l:=h.skip;have ia:=λx y=>avd cb u i (m-1) (b+1) _ x y (by omega) (by omega) (by omega) ha;have is_:=λx y=>avd cb u i (m-1) (b+1) _ x y (by omega) (by omega) (by omega) hs
   grind
  ·grind
 termination_by m=>m
 decreasing_by all_goals omega
theorem aww (cb:List UInt8)(u:Int):∀(m i:Nat) (l:List aQ) (ci ch:Int),(i:Int)+m=2+u->Dr (2+u) i (i+1) l->(∀e∈l,0<=e.a/\e.a<e.b/\e.b<2+u)/\(a6v cb u m i l ci ch).1.Pairwise (λx y=>a52 x y=true)/\∀e∈(a6v cb u m i l ci ch).1,0<=e.a/\e.a<e.b/\e.b<2+u
 |0,i,l,ci,ch,hm,h=>⟨h.1,h.2.1,h.1⟩
 |m+1,i,l,ci,ch,hm,h=>by
  rw [a6v];have h2:=avd cb u i _ ((i:Int)+1) l ci ch rfl (by omega) (by omega) h;generalize a3b cb u i ((i:Int)+1) l ci ch=r at h2;obtain ⟨b,l2,x,y⟩:=r;dsimp only at h2 ⊢;exact ⟨h.1,(aww cb u m (i+1) l2 x y (by omega) ⟨h2.1,h2.2.1,λe he=>by have:=h2.2.2 e he;grind⟩).2⟩
theorem ank (cb:List UInt8)(ci ch:Int):TopoOk (a9a cb ci ch).1:=by have h:=acu cb ci ch 5;unfold a9a;generalize a0e cb ci ch 5=r at h;obtain ⟨u,x,y⟩:=r;dsimp only at h ⊢;have h2:=aww cb u (2+u).toNat 0 [] x y (by omega) ⟨λe he=>(by cases he),List.Pairwise.nil,λe he=>(by cases he)⟩;generalize a6v cb u (2+u).toNat 0 [] x y=r at h2;obtain ⟨l,p,q⟩:=r;exact ⟨by show 1<=2+u/\2+u<=6;omega,h2.2.2,h2.2.1⟩
theorem aps:∀(l:List aJ),(∀x∈l,a23 x=true)->a8g l=none
 |[],_=>rfl
 |x::l,h=>by
  simp only [a8g,h x List.mem_cons_self,Bool.not_true,cond_false];exact aps l (λz hz=>h z (List.mem_cons_of_mem x hz))
theorem axp (l:List Key)(by_ n_:aA)(b:List UInt8)(till:Int)(h:(a0j l by_ n_ b till).2=true):a23 (a0j l by_ n_ b till).1=true:=by grind [a0j,a1v]
def Certs (k:Nat)(l:List aJ):Prop:=(∀x∈l,a23 x=true)/\l.length<=k
theorem ap9 (cb:List UInt8):∀(m i k:Nat) (t:List aJ) (ci ch:Int),k+m<=8->Certs k t->Certs 8 (a4y cb m i t ci ch).1
 |0,i,k,t,ci,ch,hk,h=>⟨h.1,by have:=h.2;show t.length<=8;omega⟩
 |m+1,i,k,t,ci,ch,hk,h=>by
  have hs:Certs (k+1) t:=⟨h.1,by have:=h.2;omega⟩;rw [a4y]
  split
  ·exact ⟨λx hx=>(by cases hx),Nat.zero_le _⟩
  ·rename_i e he
   have hv:(a4x ([(Key.mk (a02 (⟨#[47,107,101,121,47,97]⟩:Str)) 100),(Key.mk (a02 (⟨#[47,97,47,107,101,121]⟩:Str)) 101),(Key.mk (a02 (⟨#[47,98,47,107,101,121]⟩:Str)) 102),(Key.mk (a02 (⟨#[47,98,97,100,47,107,101,121]⟩:Str)) 103)]) (a02 e) (a02 (⟨#[47,107,101,121,47,97]⟩:Str)) 5000).2=true->a23 (a4x ([(Key.mk (a02 (⟨#[47,107,101,121,47,97]⟩:Str)) 100),(Key.mk (a02 (⟨#[47,97,47,107,101,121]⟩:Str)) 101),(Key.mk (a02 (⟨#[47,98,47,107,101,121]⟩:Str)) 102),(Key.mk (a02 (⟨#[47,98,97,100,47,107,101,121]⟩:Str)) 103)]) (a02 e) (a02 (⟨#[47,107,101,121,47,97]⟩:Str)) 5000).1=true:=λh=>axp _ _ _ _ _ h
   generalize a4x ([(Key.mk (a02 (⟨#[47,107,101,121,47,97]⟩:Str)) 100),(Key.mk (a02 (⟨#[47,97,47,107,101,121]⟩:Str)) 101),(Key.mk (a02 (⟨#[47,98,47,107,101,121]⟩:Str)) 102),(Key.mk (a02 (⟨#[47,98,97,100,47,107,101,121]⟩:Str)) 103)]) (a02 e) (a02 (⟨#[47,107,101,121,47,97]⟩:Str)) 5000=X at hv ⊢;obtain ⟨X1,X2⟩:=X;cases X2
   ·rw [cond_false];exact ap9 cb m (i+1) (k+1) t ci ch (by omega) hs
   ·rw [cond_true]
    have ha:Certs (k+1) (t++[X1]):=⟨λx hx=>(List.mem_append.1 hx).elim (h.1 x) (λhx=>by rw [List.mem_singleton.1 hx];exact hv rfl),by have:=h.2;grind⟩;generalize a1m cb ci ch 8=r;obtain ⟨r1,r2,r3⟩:=r;dsimp only;exact cnd (P:=λa:(List aJ)×Int×Int=>Certs 8 a.1) _ _ _ (ap9 cb m (i+1) (k+1) _ r2 r3 (by omega) ha) (ap9 cb m (i+1) (k+1) t r2 r3 (by omega) hs)
theorem akz (cb:List UInt8)(ci ch:Int):a42 (a97 cb ci ch).1=true:=by
 unfold a97;have h:=ap9 cb 2 0 0 [] ci ch (by omega) ⟨λx hx=>(by cases hx),Nat.zero_le _⟩;generalize a4y cb 2 0 [] ci ch=r at h;obtain ⟨c,x,y⟩:=r;dsimp only at h ⊢;unfold a42;have h1:a76 ([(Key.mk (a02 (⟨#[47,107,101,121,47,97]⟩:Str)) 100),(Key.mk (a02 (⟨#[47,97,47,107,101,121]⟩:Str)) 101),(Key.mk (a02 (⟨#[47,98,47,107,101,121]⟩:Str)) 102),(Key.mk (a02 (⟨#[47,98,97,100,47,107,101,121]⟩:Str)) 103)])=true:=by kernel_rfl
 have h2:ab4 (a96 2 0 [])=true:=by kernel_rfl
 have h3:∀c:List aJ,a9n (bU.mk ([(Key.mk (a02 (⟨#[47,107,101,121,47,97]⟩:Str)) 100),(Key.mk (a02 (⟨#[47,97,47,107,101,121]⟩:Str)) 101),(Key.mk (a02 (⟨#[47,98,47,107,101,121]⟩:Str)) 102),(Key.mk (a02 (⟨#[47,98,97,100,47,107,101,121]⟩:Str)) 103)]) (a96 2 0 []) ([a02 (⟨#[47,107,101,121,47,97]⟩:Str)]) c) [a02 (⟨#[47,107,101,121,47,97]⟩:Str)]=none:=by intro c;kernel_rfl
 have h4:decide ((c.length:Int)>8)=false:=decide_eq_false (by have:=h.2;omega);simp only [h1,h2,h3,h4,aps c h.1,Bool.not_true,cond_false];rfl
def nA:aA:=⟨[(⟨#[97]⟩:Str)]⟩
def nB:aA:=⟨[(⟨#[98]⟩:Str)]⟩
theorem pe1 (v:Int):(a3g [] (a02 (⟨#[47,97]⟩:Str)) v).1=[aK.mk nA v]:=by kernel_rfl
theorem pe2 (u v:Int):(a3g [aK.mk nA u] (a02 (⟨#[47,98]⟩:Str)) v).1=[aK.mk nA u,aK.mk nB v]:=by kernel_rfl
theorem pe3 (u v:Int):a8e [aK.mk nA u,aK.mk nB v]=true:=by kernel_rfl
def ajv (z:Int)(h:List aK):Prop:=∃u v,h=[aK.mk nA u,aK.mk nB v]/\(0<=u/\u<z)/\0<=v/\v<z
theorem aoy (cb:List UInt8){t:aV}(ht:TopoOk t)(ci ch:Int):ajv t.size (a6x cb t 2 0 [] ci ch).1:=by have hs:=ht.size;have h1:=acu cb ci ch t.size;simp only [a6x,List.getElem?_cons_zero,List.getElem?_cons_succ,Nat.zero_add];generalize a0e cb ci ch t.size=r at h1;obtain ⟨u,x,y⟩:=r;dsimp only at h1 ⊢;have h2:=acu cb x y t.size;generalize a0e cb x y t.size=r at h2;obtain ⟨v,p,q⟩:=r;dsimp only at h2 ⊢;rw [pe1,pe2];exact ⟨u,v,rfl,by grind⟩
theorem avy {cb:List UInt8}{t:aV}{ci ch i h':Int}{h:List aK}(ht:TopoOk t)(hX:a6x cb t 2 0 [] ci ch=(h,i,h')):ajv t.size h:=by grind [aoy]
theorem ajv.rng {z:Int}{h:List aK}(hr:ajv z h):∀e∈h,0<=e.value/\e.value<z:=by
 obtain ⟨u,v,rfl,h1,h2⟩:=hr
 grind
theorem ajv.rows {z:Int}{h:List aK}(hz:1<=z/\z<=6)(hr:ajv z h):aag h z=true:=by
 obtain ⟨u,v,rfl,h1,h2⟩:=hr;have hw:i64.wrap (z-1)=z-1:=afg (by unfold I64;omega);have a1:a07 u 0 (z-1)=true:=aff.2 (by omega);have a2:a07 v 0 (z-1)=true:=aff.2 (by omega)
 grind [aag,a9l,pe3]
theorem awb (c:Int):∀(m:Nat) (l:List aH),(∀x∈l,af5 x)->(a6l c m l).length=l.length+m/\∀x∈a6l c m l,af5 x
 |0,l,h=>⟨rfl,h⟩
 |m+1,l,h=>by
  rw [a6l];obtain ⟨h1,h2⟩:=awb c m (l++[a6e c]) (λx hx=>(List.mem_append.1 hx).elim (h x) (λhx=>by rw [List.mem_singleton.1 hx];exact ate c))
  grind
structure Neww (g:aV) (t:bU) (h:List aK) (w:aD):Prop where
 top:w.aG=g
 tru:w.aF=t
 pro:w.aM=h
 len:(w.aI.length:Int)=g.size
 net:ae3 w.aI
 fly:w.aL=[]
 con:w.aE=[]
theorem auf {g:aV}{t:bU}{h:List aK}(c:Int)(hg:TopoOk g)(ht:a42 t=true)(hr:ajv g.size h):Neww g t h (a0c g t h c):=by
 unfold a0c;rw [hg.valid,ht,hr.rows hg.size,agw];simp only [Bool.not_true,cond_false];have hs:=hg.size;have h1:=awb c g.size.toNat [] (λx hx=>by cases hx);generalize a6l c g.size.toNat []=l at h1;have h2:l.length=g.size.toNat:=by grind
 have k:=ajg (aD.mk g t h l 0 [] [] [] 0 0);have k2:=aqw (aD.mk g t h l 0 [] [] [] 0 0) _ 0 l rfl (by omega) rfl;refine ⟨k.top,k.tru,k.pro,by rw [k.len];show (l.length:Int)=g.size;omega,k.nod ⟨by show l.length<=6;omega,h1.2⟩,?_,?_⟩
 ·show (a2a (aD.mk g t h l 0 [] [] [] 0 0)).aL=[]
  unfold a2a
  grind
 ·show (a2a (aD.mk g t h l 0 [] [] [] 0 0)).aE=[]
  unfold a2a
  grind
theorem axe (x:aH):∀(l:List aJ) (i:Nat),a69 x l i=none\/a69 x l i=some false
 |[],_=>Or.inl rfl
 |e::l,i=>by
  rw [a69];exact cnd (P:=λa=>a=none\/a=some false) _ _ _ (Or.inr rfl) (cnd (P:=λa=>a=none\/a=some false) _ _ _ (Or.inr rfl) (axe x l (i+1)))
theorem aws {x:aH}(h:a44 x=true):x.bF.length<=8:=by grind [a44,axe]
theorem ar9 {n:Nat}{x:aH}{t:aJ}(hn:n<=9)(hx:GoT.ok n x)(ht:GoT.ok n t):GoT.ok n (a2e x t).1:=by
 have hb:=adi n;unfold a2e;rw [ahn];cases h:a44 (aH.mk (x.bF++[a0m t]) x.bG x.bH x.bS x.bM x.bQ x.aP)
 ·exact hx
 ·have h1:=aws h
  have h2:(x.bF++[a0m t]).length<=8:=h1;exact And.intro (aby (show (x.bF++[a0m t]).length<=bd n by omega) (ac2 (okl (abw hx).1).2 (all_cons (show GoT.ok n (a0m t)from ht) (λa ha=>by cases ha)))) (abw hx).2
theorem asp {x:aH}{t:aJ}(h:af5 x):af5 (a2e x t).1:=by unfold a2e;rw [ahn];exact cnd (P:=λa:aH×Bool=>af5 a.1) _ _ _ h h
end Go.Stp
namespace Go.Proofs.YthdfhghdipdknaaGreat
open Go.Stp
open Go.Stp.GoT (ok)
variable {w : World} (n : Nat) {K0 K1 K2 K3 K4 K5 K6 K7 K8 : Option Addr} {M0 M1 M2 M3 M4 M5 M6 M7 M8 : Nat}
theorem f21 (hn:n+0<=9){code:List UInt8}(N0:Rd w K0 M0 code){most:Int}(a1:ok n code)(a0:ok n most):
 DP 21 #[vS K0 code M0,vI most] w (pI n (a4z code most)):=by
 refine EN Tryz.func21 Z (aS1 N0) ?_;refine KS Z Z Z Z (λ_ hΓ=>aj2 Z Z Z Q9) ?_;refine SW0 ?_;refine yKD 12 ?_ ?_<;>intro h1 a2;rw [show a4z code most=most by simp only [a4z,h1,cC]];exact R6r Z Z a0;rw [show a4z code most=(i64.wrap (3+(i64.wrap (Int.tdiv (code.length:Int) 12)))) by simp only [a4z,h1,cC]];exact R6r Z Z (ad0 _)
theorem f145 (hn:n+0<=9){H:GH}(hH:Le H (hp w)){bc_:Nat}{c_b:List UInt8}(N0:RdSl (cut (hp w) H) K0 M0 c_b){c_i:Int}{c_h:Int}(hown:Sep H [cu bc_ K0 c_b M0 c_i c_h])(a4:ok n c_b)(ad:NN c_i)(ac:ok n c_h){o0_:aV}{o1_:Int}{o2_:Int}(hres:a9a c_b c_i c_h=(o0_,o1_,o2_)):
 Does Tryz.prog 145 #[.pointer (some ⟨bc_,0,none⟩)] w H (Post w H (λx:GoT.X (aV)=> .agg ⟨GoT.sh (o0_:aV) x⟩) (λx=>cu bc_ K0 c_b M0 o1_ o2_::GoT.oa (o0_:aV) x) (ok n (o0_:aV)/\NN (o1_)/\I64 (o2_))):=by
 have hb:=bS0 hn;have av:c_b.length<=bd n:=(okl a4).1;refine WX.enterP (tt:=tt) (Γ:=[(0,MF.rs .stb K0 M0 c_b)]) 1 Tryz.func145 Z J Z (ac6 Z N0 ac8) hH hown (λf hf=>by cases hf) Z ?_;obtain ⟨⟨u1,u2,u3⟩,ao⟩:=xE (a0e c_b c_i c_h 5);refine KP Z 999 2 Z Z O (λw β H η σ Y=>f105 n Q0 η (Y.q 0 Z) σ a4 ad ac (i6 5) ao) ?_;rintro ⟨⟩ ap;have q1:=acu c_b c_i c_h 5;rw [ao]at q1
 try dsimp only at q1
 have r1:=i8 ap.1;refine SA0 ?_;refine R0 ?_;refine WX.row0 501 2 none Z ?_;refine F0 3 aQ ?_
 refine LK (0,none,0,[],([]:List aQ),u2,u3) (λ|(i,ai,aj,aa,n_,a2,a3)=>((i<=(2+u1).toNat)/\JE n n_/\(NN a2)/\J6 a3/\(n_.length<=6*i)/\(a6v c_b u1 ((2+u1).toNat) 0 ([]:List aQ) u2 u3=a6v c_b u1 ((2+u1).toNat-i) i n_ a2 a3),(2+u1).toNat-i,[(4,.v (vI i))],[(3,⟨26,[.int .i64 (2+u1),.slice ai (n_.length) aj]⟩),(999,⟨112,[.slice K0 (c_b.length) M0,.int .i64 a2,.int .i64 a3]⟩)],[(501,⟨2,ai,n_.length,aj,aa⟩)],[(3,MF.ol aa (n_:List aQ))])) ⟨zl,nA,ap.2.1,ap.2.2,Q10,Z⟩ [3,2,0] [2] [0] [0,3] ?_
 rintro ⟨i,ai,aj,aa,n_,a2,a3⟩ ⟨v1,v2,v3,v4,v5,v6⟩;refine yKD 13 ?_ ?_<;>intro h1 b3;refine SA ?_
 refine LM Z (((i:Nat):Int)+1,ai,aj,aa,(n_:List aQ),a2,a3) (λ|(b,a8,a7,a5,a6,a0,a1)=>(J6 b/\JE n a6/\(NN a0)/\J6 a1/\(0<=b/\b<=2+u1)/\(a6.length+(i+1)<=n_.length+b.toNat)/\(a3b c_b u1 i (((i:Nat):Int)+1) (n_:List aQ) a2 a3=a3b c_b u1 i b a6 a0 a1),(2+u1-b).toNat,[(5,.v (vI b))],[(3,⟨26,[.int .i64 (2+u1),.slice a8 (a6.length) a7]⟩),(999,⟨112,[.slice K0 (c_b.length) M0,.int .i64 a0,.int .i64 a1]⟩)],[(501,⟨2,a8,a6.length,a7,a5⟩)],[(3,MF.ol a5 (a6:List aQ))])) ⟨Q4,v2,v3,v4,Q0,Q0,Z⟩ [4,3,2,0] [2] [0] [0,3] ?_
 rintro ⟨b,a8,a7,a5,a6,a0,a1⟩ ⟨v7,v8,v9,aq,b2,b0,ag⟩;refine yKD 21 ?_ ?_<;>intro h2 af;refine SA ?_;refine yKE 28 ?_ ?_<;>intro h3 az;obtain ⟨⟨u4,u5,u6⟩,ab⟩:=xE (a1m c_b a0 a1 5);refine KP Z 999 4 Z Z O (λw β H η σ Y=>f154 n Q0 η (Y.q 0 Z) σ a4 v9 aq (i6 5) ab) ?_;rintro ⟨⟩ a9;refine yKA 33 ?_ ?_<;>intro h4;have ax:=B.nt h4;refine yB λp1=>?_;refine zT (α:=aQ) [] 5 (aQ.mk ((i:Nat):Int) b) ((),()) λah=>?_;refine zP 501 42 ((a6++[(aQ.mk ((i:Nat):Int) b)]):List aQ).length ah λp2 c1=>?_;refine zV [3,5] 6 ?_
 refine SA ?_;refine zU [6] 3 ?_;exact ITr Z (b+1,p2,c1,_,((a6++[(aQ.mk ((i:Nat):Int) b)]):List aQ),u5,u6) ⟨Q4,(ac2 v8 (all_cons (α:=aQ) (An (i6 ((i:Nat):Int)) v7) nA)),a9.1,a9.2,Q0,Q11,(by rw [ag];rw [a3b];simp only [af,h3,ab,h4,↓reduceIte])⟩ Q1 [0,3];have ax:=B.nf h4;obtain ⟨⟨u7,u8,u9⟩,am⟩:=xE (a1m c_b u5 u6 4)
 refine KP Z 999 5 Z Z O (λw β H η σ Y=>f154 n Q0 η (Y.q 0 Z) σ a4 a9.1 a9.2 (i6 4) am) ?_;rintro ⟨⟩ ak;refine yKA 36 ?_ ?_<;>intro h5;refine yB λp1=>?_;refine zT (α:=aQ) [] 6 (aQ.mk ((i:Nat):Int) b) ((),()) λah=>?_;refine zP 501 42 ((a6++[(aQ.mk ((i:Nat):Int) b)]):List aQ).length ah λp2 c1=>?_;refine zV [3,6] 7 ?_;refine SA ?_;refine zU [7] 3 ?_
 exact ITr Z (b+1,p2,c1,_,((a6++[(aQ.mk ((i:Nat):Int) b)]):List aQ),u8,u9) ⟨Q4,(ac2 v8 (all_cons (α:=aQ) (An (i6 ((i:Nat):Int)) v7) nA)),ak.1,ak.2,Q0,Q11,(by rw [ag];rw [a3b];simp only [af,h3,ab,h4,am,h5,↓reduceIte,Bool.false_eq_true])⟩ Q1 [0,3];refine SA ?_
 exact ITr Z (b+1,a8,a7,a5,(a6:List aQ),u8,u9) ⟨Q4,v8,ak.1,ak.2,Q0,Q11,(by rw [ag];rw [a3b];simp only [af,h3,ab,h4,am,h5,↓reduceIte,Bool.false_eq_true])⟩ Q1 [0,3];obtain ⟨⟨b1,aw,au⟩,ab⟩:=xE (a1m c_b a0 a1 4);refine KP Z 999 4 Z Z O (λw β H η σ Y=>f154 n Q0 η (Y.q 0 Z) σ a4 v9 aq (i6 4) ab) ?_;rintro ⟨⟩ a9;refine yKA 36 ?_ ?_<;>intro h4
 refine yB λp1=>?_;refine zT (α:=aQ) [] 5 (aQ.mk ((i:Nat):Int) b) ((),()) λah=>?_;refine zP 501 42 ((a6++[(aQ.mk ((i:Nat):Int) b)]):List aQ).length ah λp2 c1=>?_;refine zV [3,5] 6 ?_;refine SA ?_;refine zU [6] 3 ?_
 exact ITr Z (b+1,p2,c1,_,((a6++[(aQ.mk ((i:Nat):Int) b)]):List aQ),aw,au) ⟨Q4,(ac2 v8 (all_cons (α:=aQ) (An (i6 ((i:Nat):Int)) v7) nA)),a9.1,a9.2,Q0,Q11,(by rw [ag];rw [a3b];simp only [af,h3,ab,h4,↓reduceIte,Bool.false_eq_true])⟩ Q1 [0,3];refine SA ?_
 exact ITr Z (b+1,a8,a7,a5,(a6:List aQ),aw,au) ⟨Q4,v8,a9.1,a9.2,Q0,Q11,(by rw [ag];rw [a3b];simp only [af,h3,ab,h4,↓reduceIte,Bool.false_eq_true])⟩ Q1 [0,3];have ae:=ag.trans (show _=(b,(a6:List aQ),a0,a1) by rw [a3b];simp only [af,↓reduceIte]);refine SA ?_
 exact ITr Z (i+1,a8,a7,a5,(a6:List aQ),a0,a1) ⟨Q0,v8,v9,aq,Q0,(by rw [v6,show (2+u1).toNat-i=((2+u1).toNat- (i+1))+1 by omega];simp only [a6v,ae])⟩ Q1 [0,3];have ae:=v6.trans (show _=((n_:List aQ),a2,a3) by rw [show (2+u1).toNat-i=0 by omega];simp only [a6v]);refine yE 501 3 16 ?_;have al:a9a c_b c_i c_h=(aV.mk (2+u1) n_,a2,a3):=by simp only [a9a,ao,ae]
 have ar:=al.symm.trans hres;obtain ⟨ar,an⟩:=Prod.mk.inj ar;obtain ⟨an,ay⟩:=Prod.mk.inj an;subst ar;subst an;subst ay;exact zY [17] ((),(ai,aj)) (⟨(An (i6 (2+u1)) (aby Q0 v2:ok n (n_:List aQ))),⟨v3,v4⟩⟩)
theorem f155 (hn:n+1<=9)(x_:aH)(N0:Rd w K0 M0 x_.bF)(N1:Rd w K1 M1 x_.bG.bB)(N2:Rd w K2 M2 x_.bH)(N3:Rd w K3 M3 x_.bS)(N4:Rd w K4 M4 x_.bM)(N5:Rd w K5 M5 x_.bQ)(t:aJ)(N6:Rd w K6 M6 t.name.parts)(N7:Rd w K7 M7 t.content)(N8:Rd w K8 M8 t.aR.parts)(a0:ok n x_)(a2:ok n t):
 DP 155 #[agh x_ K0 M0 K1 M1 K2 M2 K3 M3 K4 M4 K5 M5,afd t K6 M6 K7 M7 K8 M8] w (pAB w n (a2e x_ t)):=by
 have hb:=bS1 hn;refine EN Tryz.func155 Z (aC 0 N0 (aC 1 N1 (aC 2 N2 (aC 3 N3 (aC 4 N4 (aC 5 N5 (aC 6 N6 (aC 7 N7 (aC 8 N8 ac8))))))))) ?_;refine KF Z 9 Z O (λw Y=>f66 n Q0 x_ (Y.q 0 Z) (Y.q 1 Z) (Y.q 2 Z) (Y.q 3 Z) (Y.q 4 Z) (Y.q 5 Z) a0) ?_;rintro ⟨⟨p1,c1⟩,⟨_,p2,c2⟩,⟨p3,c3⟩,⟨p4,c4⟩,⟨p5,c5⟩,⟨p6,c6⟩,_⟩ a1;dsimp only
 refine yD [5,6,7] λbs G0 an=>?_;refine dT 5 [1,2,4] ?_;refine DXF 3 21 Z J Z O (λw Y=>f118 n Q0 t (Y.q 6 Z) (Y.q 7 Z) (Y.q 8 Z) a2) ?_;rintro ⟨⟨p7,c7⟩,⟨p8,c8⟩,⟨p9,c9⟩,_⟩ a4;dsimp only
 refine DX.tail2 [4,5,6,7] Z Z J ?_;refine zB λak=>?_;refine zN (kk:=5) 501 15 27 λal aq=>?_;refine zT (α:=aJ) [24,25,26] 28 (a0m t) ((p7,c7),(p8,c8),(p9,c9),(),()) λ_=>?_;have r1:=(okl (abw a1).1).1;refine WX.know (λG hΓ=>(hΓ.get 28 Z:OwL _ _ _).rd.one) λa7=>?_;refine zP 501 13 (((a00 x_).bF++[(a0m t)]):List aJ).length a7 λae ad=>?_;refine zV [27,28] 29 ?_;refine yE 501 29 30 ?_;refine zW 32 16 ?_;refine zW 33 17 ?_;refine zW 34 18 ?_;refine zW 35 19 ?_;refine zW 36 20 ?_
 refine CV Z O (λw Y=>f193 (n+1) Q0 (aH.mk ((a00 x_).bF++[(a0m t)]) ((a00 x_).bG) ((a00 x_).bH) ((a00 x_).bS) ((a00 x_).bM) ((a00 x_).bQ) ((a00 x_).aP)) (Y.q 30 Z) (Y.q 32 Z) (Y.q 33 Z) (Y.q 34 Z) (Y.q 35 Z) (Y.q 36 Z) (An (aby Q5 (λa ha=>GoT.okm (show n<=(n+1) by omega) ((ac2 (okl (abw a1).1).2 (all_cons (α:=aJ) a4 nA)) a ha)):ok (n+1) (((a00 x_).bF++[(a0m t)]):List aJ)) (An (An (aca (abw a1).2.1).1 (GoT.okm (α:=List aT) Q0 (aca (abw a1).2.1).2)) (An (GoT.okm (α:=List aO) Q0 (abw a1).2.2.1) (An (GoT.okm (α:=List bA) Q0 (abw a1).2.2.2.1) (An (GoT.okm (α:=List aB) Q0 (abw a1).2.2.2.2.1) (An (GoT.okm (α:=List aS) Q0 (abw a1).2.2.2.2.2.1) (abw a1).2.2.2.2.2.2))))))) λao=>?_
 refine yKN 18 ?_ ?_<;>intro h1 ap;refine KF Z 37 Z O (λw Y=>f66 n Q0 x_ (Y.q 0 Z) (Y.q 1 Z) (Y.q 2 Z) (Y.q 3 Z) (Y.q 4 Z) (Y.q 5 Z) a0) ?_;rintro ⟨⟨a5,a6⟩,⟨_,ag,a8⟩,⟨aj,af⟩,⟨aa,ab⟩,⟨ac,a9⟩,⟨ah,ai⟩,_⟩ am;dsimp only
 have a3:a2e x_ t=(a00 x_,false):=by simp only [a2e,h1,cC]
 refine R0 ?_;rw [a3];exact zX [43,44,45,46,47,48] ((a5,a6),((),(ag,a8)),(aj,af),(aa,ab),(ac,a9),(ah,ai),()) (by have z_:=(show ok n (a2e x_ t).1 from ar9 Q0 a0 a2);rw [a3]at z_;exact GoT.okm Q0 z_);have a3:a2e x_ t=(aH.mk ((a00 x_).bF++[(a0m t)]) ((a00 x_).bG) ((a00 x_).bH) ((a00 x_).bS) ((a00 x_).bM) ((a00 x_).bQ) ((a00 x_).aP),true):=by simp only [a2e,h1,cC]
 refine R0 ?_;rw [a3];exact zX [31,16,17,18,19,20] ((ae,ad),((),(p2,c2)),(p3,c3),(p4,c4),(p5,c5),(p6,c6),()) (by have z_:=(show ok n (a2e x_ t).1 from ar9 Q0 a0 a2);rw [a3]at z_;exact GoT.okm Q0 z_)
theorem f104 (hn:n+8<=9){H:GH}(hH:Le H (hp w)){bc_:Nat}{c_b:List UInt8}(N0:RdSl (cut (hp w) H) K0 M0 c_b){c_i:Int}{c_h:Int}(hown:Sep H [cu bc_ K0 c_b M0 c_i c_h])(a3:ok n c_b)(aw:NN c_i)(az:ok n c_h){o0_:aD}{o1_:Int}{o2_:Int}(hres:a9b c_b c_i c_h=(o0_,o1_,o2_)):
 Does Tryz.prog 104 #[.pointer (some ⟨bc_,0,none⟩)] w H (Post w H (λx:GoT.X (aD)=> .agg ⟨GoT.sh (o0_:aD) x⟩) (λx=>cu bc_ K0 c_b M0 o1_ o2_::GoT.oa (o0_:aD) x) (ok n (o0_:aD)/\NN (o1_)/\I64 (o2_))):=by
 have hb:=bS8 hn;have d6:c_b.length<=bd n:=(okl a3).1;refine WX.enterP (tt:=tt) (Γ:=[(0,MF.rs .stb K0 M0 c_b)]) 1 Tryz.func104 Z J Z (ac6 Z N0 ac8) hH hown (λf hf=>by cases hf) Z ?_;obtain ⟨⟨u1,u2,u3⟩,d0⟩:=xE (a9a c_b c_i c_h);refine KQ Z 999 2 Z Z O (λw β H η σ Y=>f145 n Q0 η (Y.q 0 Z) σ a3 aw az d0) ?_;rintro ⟨_,p1,c1⟩ bf;have q1:=ank c_b c_i c_h;rw [d0]at q1
 try dsimp only at q1
 obtain ⟨⟨u4,u5,u6⟩,d3⟩:=xE (a97 c_b u2 u3);refine KQ Z 999 4 Z Z O (λw β H η σ Y=>f146 n Q0 η (Y.q 0 Z) σ a3 bf.2.1 bf.2.2 d3) ?_;rintro ⟨⟨p2,c2⟩,⟨p3,c3⟩,⟨p4,c4⟩,p5,c5⟩ bj;have q2:=akz c_b u2 u3;rw [d3]at q2
 try dsimp only at q2
 refine yB λp6=>?_;refine yB λp7=>?_;refine F0 12 aK ?_;refine yE 25 12 13 ?_
 refine LK (p6,0,([]:List aK),0,u5,u6) (λ|(cl,co,h_,i,a6,a8)=>((i<=2)/\JL n h_/\(NN a6)/\J6 a8/\(h_.length<=i)/\(a6x c_b u1 2 0 ([]:List aK) u5 u6=a6x c_b u1 (2-i) i h_ a6 a8),2-i,[(5,.v (vS cl h_ co)),(28,.v (vI i))],[(999,⟨112,[.slice K0 (c_b.length) M0,.int .i64 a6,.int .i64 a8]⟩)],[(26,⟨1,p7,2,2,[.string (⟨#[47,97]⟩:Str),.string (⟨#[47,98]⟩:Str)]⟩)],[(14,MF.os cl co h_)])) ⟨zl,(aby zl nA:ok n ([]:List aK)),bj.2.1,bj.2.2,Q10,Z⟩ [27,26,4,3,2,0] [4,3,2] [0,3,8,9,10,11] [0,3,8,9,10,11,14] ?_
 rintro ⟨cl,co,h_,i,a6,a8⟩ ⟨v1,v2,v3,v4,v5,v6⟩;have fy:=v2.1;refine yKD 29 ?_ ?_<;>intro h1 g8;have dw:i<2:=Q4;refine R0 ?_;refine zR 26 i dw ?_;rintro go rfl;have ec:i<([(⟨#[47,97]⟩:Str),(⟨#[47,98]⟩:Str)]).length:=Q4;obtain ⟨e1,ct⟩:=gE ec;have du:ok n e1:=(all_cons (α:=Str) (Nat.le_trans Q9 (adi n)) (all_cons (α:=Str) (Nat.le_trans Q9 (adi n)) nA)) _ (List.mem_of_getElem? ct)
 refine WX.turn [] 15 Z (λh hs=>ae6 (⟨(),_,emp,_,Z,acv _,Le.refl _,ade _,trivial,⟨(),_,emp,_,Z,acv _,Le.refl _,ade _,trivial,Z⟩⟩:OwL _ _ ([(⟨#[47,97]⟩:Str),(⟨#[47,98]⟩:Str)]:List Str))) (gs:=[MF.ol [.string (⟨#[47,97]⟩:Str),.string (⟨#[47,98]⟩:Str)] ([(⟨#[47,97]⟩:Str),(⟨#[47,98]⟩:Str)]:List Str)]) Z ?_;refine WX.ldR 26 15 e1 ttOk Z Z Z Z Z Z Z Z Z dw (λG hΓ=>(hΓ.get 15 Z:OwL _ _ _).rd) ct O O ?_;rintro ⟨⟩ h0;refine zW 16 14 ?_;refine zW 17 8 ?_;refine zW 18 9 ?_;refine zW 19 10 ?_;refine zW 20 11 ?_;refine zW 21 3 ?_;refine R0 ?_;refine WX.drawY [] mixed Z λbs G0 ae=>?_
 refine DY.takes (fuel:=7) ttOk [(0,true),(1,true),(3,true),(4,true),(5,false)] J Z ?_;refine DY.toTX λS_ ap=>?_;refine TX.all1 2 J ?_;refine TSF 2 22 Z Z Z Z Z Z O Z (λw Y=>f148 n Q0 du) ?_;rintro ⟨p8,c6⟩ db;refine TX.all1 6 J ?_;obtain ⟨⟨u7,u8,u9⟩,cn⟩:=xE (a0e c_b a6 a8 u1.size);refine TS.callP (ds:=λ_=>[]) ap 6 24 ⟨_,Z⟩ Z (λ_ _ _=>All.nil) (λ_ f hf=>by cases hf) Z Z Z Z Z Z O Z (λw G bs H hI hH hs hΓ=>f105 n Q0 hH (hΓ.get 0 Z) hs a3 v3 v4 ((acm bf.1).1) cn) O O ?_;rintro ⟨⟩ bm
 have q3:=acu c_b a6 a8 u1.size;rw [cn]at q3
 try dsimp only at q3
 refine TX.all1 7 J ?_;refine TSF 7 25 Z Z Z Z Z Z O Z (λw Y=>f147 n Q0 (Y.q 16 Z) (a02 e1) (Y.q 22 Z) (acp v2) db bm.1) ?_;rintro ⟨p9,c7⟩ en;have q4:=(apf h_ (a02 e1) u7).len;have ch:=(apf h_ (a02 e1) u7).els (k:=n) v2.2 db bm.1;refine TX.takes (fuel:=0) ttOk [8,9,10,11] J Z ?_;refine TX.tail [] Z Z J ?_;refine SA ?_;refine zU [26] 14 ?_;have r1:e1.size<=bd n:=du;have r2:=i8 bm.1;have r3:=(okl en).1
 exact ITr Z (p9,c7,(a3g h_ (a02 e1) u7).1,i+1,u8,u9) ⟨Q0,(aby Q0 ch:ok n ((a3g h_ (a02 e1) u7).1:List aK)),bm.2.1,bm.2.2,Q3,(by rw [v6,show 2-i=(2- (i+1))+1 by omega];simp only [a6x,ct,cn])⟩ Q1 [0,3,8,9,10,11,14];have ce:=v6.trans (show _=((h_:List aK),a6,a8) by rw [show 2-i=0 by omega];simp only [a6x]);refine zW 27 14 ?_;refine zW 28 8 ?_;refine zW 29 9 ?_
 refine zW 30 10 ?_;refine zW 31 11 ?_;refine zW 32 3 ?_;refine R0 ?_;refine WX.drawY [7] mixed Z λbs G0 ae=>?_;refine DY.takes (fuel:=4) ttOk [(0,false),(1,false),(2,true),(3,true)] J Z ?_;refine DY.toTX λS_ ap=>?_;refine TX.toP ?_;refine TXP.pend (PI.loc 6 8 ⟨39,[.int .i64 (0),.slice none (0) 0,.slice none (0) 0,.slice none (0) 0,.slice none (0) 0,.slice none (0) 0,.slice none (0) 0,.slice none (0) 0,.int .i64 (0),.slice none (0) 0,.slice none (0) 0,.slice none (0) 0,.int .i64 (0),.int .i64 (0)]⟩) (ail ttOk Z Z Z Z Z) .nil Z J Z ?_
 obtain ⟨⟨a0,d7,e4⟩,ay⟩:=xE (a0e c_b a6 a8 4);refine TPP ap 4 33 Z J J Z Z Z Z Z Z Z O Z (λw β H η σ Y=>f105 n Q0 η (Y.q 0 Z) σ a3 v3 v4 (i6 4) ay) ?_;rintro ⟨⟩ b0;have df:=acu c_b a6 a8 4;rw [ay]at df
 try dsimp only at df
 refine TPF 5 34 J J Z Z Z Z Z Z Z O Z (λw Y=>f149 n Q0 u1 (Y.q 32 Z) u4 (Y.q 28 Z) (Y.q 29 Z) (Y.q 30 Z) (Y.q 31 Z) (Y.q 27 Z) bf.1 bj.1 (acp v2) b0.1) ?_;rintro ⟨⟨_,bo,bz⟩,⟨⟨bx,bt⟩,⟨bp,bv⟩,⟨bw,bq⟩,c8,ca⟩,⟨c9,bu⟩,⟨es,ek⟩,_,⟨b6,ba⟩,⟨bc,b9⟩,⟨bg,be⟩,_⟩ aa;dsimp only
 have ap:=(by assumption:TopoOk u1).size;have dk:ajv u1.size h_:=avy Q12 Q12;have cv:=auf a0 Q12 Q12 dk;have g3:=cv.len;refine TXP.settleL 0 Z Z J Z ?_;refine TXP.done ?_;refine TX.tail [7] Z Z J ?_
 refine LM Z (0,es,ek,((a0c u1 u4 h_ a0).aI:List aH),d7,e4) (λ|(i,b5,bb,w_,a2,a1)=>((i<=h_.length)/\JL n w_/\(NN a2)/\J6 a1/\((w_.length:Int)=u1.size)/\(a6w c_b u4 h_ ((a0c u1 u4 h_ a0).aI:List aH) d7 e4=a6w c_b u4 (h_.drop i) w_ a2 a1),h_.length-i,[(9,.v (vI i))],[(8,⟨39,[.int .i64 ((a0c u1 u4 h_ a0).aG.size),.slice bo (((a0c u1 u4 h_ a0).aG.links).length) bz,.slice bx (((a0c u1 u4 h_ a0).aF.keys).length) bt,.slice bp (((a0c u1 u4 h_ a0).aF.bR).length) bv,.slice bw (((a0c u1 u4 h_ a0).aF.bV).length) bq,.slice c8 (((a0c u1 u4 h_ a0).aF.bW).length) ca,.slice c9 (((a0c u1 u4 h_ a0).aM).length) bu,.slice b5 (w_.length) bb,.int .i64 ((a0c u1 u4 h_ a0).aY),.slice b6 (((a0c u1 u4 h_ a0).aU).length) ba,.slice bc (((a0c u1 u4 h_ a0).aL).length) b9,.slice bg (((a0c u1 u4 h_ a0).aE).length) be,.int .i64 ((a0c u1 u4 h_ a0).now),.int .i64 ((a0c u1 u4 h_ a0).aP)]⟩),(999,⟨112,[.slice K0 (c_b.length) M0,.int .i64 a2,.int .i64 a1]⟩)],[],[(50,MF.os b5 bb w_),(51,MF.os b6 ba ((a0c u1 u4 h_ a0).aU)),(52,MF.os bc b9 ((a0c u1 u4 h_ a0).aL)),(53,MF.os bg be ((a0c u1 u4 h_ a0).aE))])) ⟨zl,(abt aa).2.2.2.1,b0.2.1,b0.2.2,(by first|assumption|exact cv.len),Z⟩ [8,5,4,3,2,0] [4,3,2] [0,3,8,9,10,11,14,44,45,46,47,48,49] [0,3,8,9,10,11,14,44,45,46,47,48,49,50,51,52,53] ?_
 rintro ⟨i,b5,bb,w_,a2,a1⟩ ⟨fq,cj,dm,dz,fx,dg⟩;have fl:=cj.1;refine yKD 53 ?_ ?_<;>intro gj ev;have bi:i<h_.length:=Q0;obtain ⟨e2,ax⟩:=gE bi;have b2:ok n e2:=v2.2 _ (List.mem_of_getElem? ax);have fo:=dk.rng e2 (List.mem_of_getElem? ax)
 refine LM Z (1,b5,bb,(w_:List aH),a2,a1) (λ|(j,ag,ad,ab,a4,a5)=>(J6 j/\JL n ab/\(NN a4)/\J6 a5/\((ab.length:Int)=u1.size)/\(1<=j/\j<=3)/\(a4g c_b u4 e2 1 (w_:List aH) a2 a1=a4g c_b u4 e2 j ab a4 a5),(3-j).toNat,[(10,.v (vI j))],[(8,⟨39,[.int .i64 ((a0c u1 u4 h_ a0).aG.size),.slice bo (((a0c u1 u4 h_ a0).aG.links).length) bz,.slice bx (((a0c u1 u4 h_ a0).aF.keys).length) bt,.slice bp (((a0c u1 u4 h_ a0).aF.bR).length) bv,.slice bw (((a0c u1 u4 h_ a0).aF.bV).length) bq,.slice c8 (((a0c u1 u4 h_ a0).aF.bW).length) ca,.slice c9 (((a0c u1 u4 h_ a0).aM).length) bu,.slice ag (ab.length) ad,.int .i64 ((a0c u1 u4 h_ a0).aY),.slice b6 (((a0c u1 u4 h_ a0).aU).length) ba,.slice bc (((a0c u1 u4 h_ a0).aL).length) b9,.slice bg (((a0c u1 u4 h_ a0).aE).length) be,.int .i64 ((a0c u1 u4 h_ a0).now),.int .i64 ((a0c u1 u4 h_ a0).aP)]⟩),(999,⟨112,[.slice K0 (c_b.length) M0,.int .i64 a4,.int .i64 a5]⟩)],[],[(50,MF.os ag ad ab),(51,MF.os b6 ba ((a0c u1 u4 h_ a0).aU)),(52,MF.os bc b9 ((a0c u1 u4 h_ a0).aL)),(53,MF.os bg be ((a0c u1 u4 h_ a0).aE))])) ⟨Q4,(acp cj),dm,dz,Q0,Q0,Z⟩ [9,8,5,4,3,2,0] [4,3,2] [0,3,8,9,10,11,14,44,45,46,47,48,49] [0,3,8,9,10,11,14,44,45,46,47,48,49,50,51,52,53] ?_
 rintro ⟨j,ag,ad,ab,a4,a5⟩ ⟨ew,b8,e8,e0,h8,hu,br⟩;have ej:=b8.1;refine yKD 57 ?_ ?_<;>intro cc ak;refine zW 54 14 ?_;refine zW 55 44 ?_;refine zW 56 45 ?_;refine zW 57 46 ?_;refine zW 58 47 ?_;refine zW 59 48 ?_;refine zW 60 49 ?_;refine zW 61 50 ?_;refine zW 62 51 ?_;refine zW 63 52 ?_;refine zW 64 53 ?_;refine zW 65 8 ?_;refine zW 66 9 ?_;refine zW 67 10 ?_;refine zW 68 11 ?_;refine zW 69 3 ?_;refine yD [12] λbs G0 ae=>?_;refine dT 12 [1,3] ?_;refine zDI 2 54 i ae Z bi ?_;rintro fi rfl;refine dT 10 [7] ?_;refine zDL 4 54 70 e2 ae ax ?_;rintro ⟨⟨g4,h2⟩,_⟩
 refine dT 8 [11] ?_;refine DX.toTX λS_=>?_;refine TX.toP ?_;refine TXP.pend (PI.loc 11 11 ⟨49,[.slice none (0) 0]⟩) (ail ttOk Z Z Z Z Z) .nil Z J Z ?_;refine TPV 6 J J Z Z Z Z Z Z Z O Z (λw Y=>f151 n Q0 ew) λbk=>?_;refine TPF 7 71 J J Z Z Z Z Z Z Z O Z (λw Y=>f150 n Q0 e2.name (Y.q 70 Z) ((acs b2).1) bk) ?_;rintro ⟨g2,hj⟩ cw;have fh:=apa e2.name (a2d j);try dsimp only at fh
 refine TXP.takes (fuel:=2) ttOk [8,9,10] Z J Z ?_;refine TXP.settleL 0 Z Z J Z ?_;refine TXP.done ?_;refine TX.all1 12 J ?_;refine TS.op 12 Z J ?_;refine R0 ?_;refine WX.back0 ?_;refine TX.takes (fuel:=0) ttOk [13] J Z ?_;refine TX.tail [] Z Z J ?_;refine yI 54 i bi ?_;rintro fk ⟨⟩;refine yL 54 73 e2 ax ?_;rintro ⟨⟨hr,gk⟩,_⟩;refine CF 74 Z O (λw Y=>f150 n Q0 e2.name (Y.q 73 Z) ((acs b2).1) (Nat.le_trans Q9 (adi n))) ?_;rintro ⟨gh,ge⟩ cp;have et:=apa e2.name (⟨#[107,101,121]⟩:Str);try dsimp only at et
 refine R0 ?_;refine WX.drawY [13] mixed Z λbs G0 ae=>?_;refine DY.takes (fuel:=9) ttOk [(0,true),(1,false),(2,false),(3,false),(4,true),(5,true)] J Z ?_;refine DY.toTX λS_ ap=>?_;refine TX.toP ?_;refine TXP.pend (PI.loc 12 15 ⟨78,[.slice none (0) 0,.slice none (0) 0,.slice none (0) 0,.int .i64 (0),.int .i64 (0)]⟩) (ail ttOk Z Z Z Z Z) .nil Z J Z ?_;obtain ⟨⟨d5,dv,dc⟩,ah⟩:=xE (a0e c_b a4 a5 4);refine TPP ap 6 76 Z J J Z Z Z Z Z Z Z O Z (λw β H η σ Y=>f105 n Q0 η (Y.q 0 Z) σ a3 e8 e0 (i6 4) ah) ?_;rintro ⟨⟩ av
 have dl:=acu c_b a4 a5 4;rw [ah]at dl
 try dsimp only at dl
 obtain ⟨⟨al,e6,da⟩,ai⟩:=xE (a4e c_b dv dc d5);refine TPQ ap 7 77 Z J J Z Z Z Z Z Z Z O Z (λw β H η σ Y=>f153 n Q0 η (Y.q 0 Z) σ a3 av.2.1 av.2.2 Q13 av.1 ai) ?_;rintro ⟨gy,fn⟩ af;have d8:=ai9 c_b dv dc d5;rw [ai]at d8
 try dsimp only at d8
 refine TPF 8 79 J J Z Z Z Z Z Z Z O Z (λw Y=>f152 n Q0 (Y.q 65 Z) ((a0i e2.name (⟨#[107,101,121]⟩:Str)).1) (Y.q 74 Z) ((a0i e2.name (a2d j)).1) (Y.q 71 Z) (Y.q 77 Z) ((ac4 bj.1).1) cp cw af.1 (i6 40000)) ?_;rintro ⟨⟨gn,h7⟩,⟨hm,gw⟩,⟨g1,ft⟩,_⟩ d2;refine TXP.takes (fuel:=2) ttOk [9,10,11] Z J Z ?_;refine TXP.settleL 0 Z Z J Z ?_;refine TXP.done ?_;refine TX.all1 13 J ?_;refine TS.op 13 Z J ?_;refine R0 ?_;refine WX.back0 ?_;refine TX.takes (fuel:=0) ttOk [14] J Z ?_;refine TX.tail [] Z Z J ?_
 refine yKA 93 ?_ ?_<;>intro cq;obtain ⟨⟨hk,dq,dy⟩,au⟩:=xE (a1m c_b e6 da 6);refine KP Z 999 85 Z Z O (λw β H η σ Y=>f154 n Q0 η (Y.q 0 Z) σ a3 af.2.1 af.2.2 (i6 6) au) ?_;rintro ⟨⟩ an;refine yKN 97 ?_ ?_<;>intro dj ea;refine yD [15] λbs G0 ae=>?_;refine dT 13 [1,2,5,7] ?_;refine zDI 4 54 i ae Z bi ?_;rintro eg ⟨⟩;refine dT 11 [11] ?_;refine zDL 6 54 86 e2 ae ax ?_;rintro ⟨⟨ha,fv⟩,_⟩;have gx:=i8 ((acs b2).2);refine DI 105 ?_;have cr:e2.value.toNat<ab.length:=Q4;obtain ⟨e3,cb⟩:=gE cr
 have cg:ok n e3:=b8.2 _ (List.mem_of_getElem? cb);refine zDI 7 61 (e2.value.toNat) ae Z cr ?_;rintro cm rfl;refine zDL 8 61 87 e3 ae cb ?_;rintro ⟨⟨gu,gp⟩,⟨_,fz,fm⟩,⟨gf,gc⟩,⟨hw,fu⟩,⟨ga,gl⟩,⟨gs,fs⟩,_⟩;refine dT 7 [18] ?_;refine DX.toTX λS_=>?_;refine TX.toP ?_;refine TXP.pend (PI.loc 14 17 ⟨74,[.slice none (0) 0,.int .i64 (0),.slice none (0) 0,.slice none (0) 0,.slice none (0) 0,.slice none (0) 0,.slice none (0) 0,.int .i64 (0)]⟩) (ail ttOk Z Z Z Z Z) .nil Z J Z ?_
 refine TPF 10 93 J J Z Z Z Z Z Z Z O Z (λw Y=>f155 n Q0 e3 (Y.q 87 Z) (Y.q 88 Z) (Y.q 89 Z) (Y.q 90 Z) (Y.q 91 Z) (Y.q 92 Z) ((a0j u4.keys ((a0i e2.name (⟨#[107,101,121]⟩:Str)).1) ((a0i e2.name (a2d j)).1) al 40000).1) (Y.q 79 Z) (Y.q 80 Z) (Y.q 81 Z) cg d2) ?_;rintro ⟨⟨f3,fa⟩,⟨_,em,f7⟩,⟨f4,eu⟩,⟨fg,ey⟩,⟨ed,fe⟩,⟨ee,f5⟩,_⟩ cx;refine TXP.takes (fuel:=2) ttOk [11,12,13] Z J Z ?_;refine TXP.settleL 0 Z Z J Z ?_;refine TXP.done ?_;refine TX.all1 15 J ?_;refine TS.op 15 Z J ?_;refine R0 ?_;refine WX.back0 ?_
 refine TX.takes (fuel:=0) ttOk [16] J Z ?_;refine TX.tail [] Z Z J ?_;refine yD [8,9] λbs G0 ae=>?_;refine dT 6 [1,2,5,7] ?_;refine zDI 4 54 i ae Z bi ?_;rintro fj ⟨⟩;refine dT 4 [11] ?_;refine zDL 6 54 105 e2 ae ax ?_;rintro ⟨⟨hc,fw⟩,_⟩;refine dT 2 [14] ?_;refine DX.tail2 [8,9] Z Z J ?_;refine SI 118 ?_;refine zN (kk:=8) 513 50 106 λeo fc=>?_;have bn:e2.value.toNat<ab.length:=Q4;refine zR 513 (e2.value.toNat) bn ?_;rintro f0 ⟨⟩;refine zO (α:=aH) (e:=e3) 513 106 107 (e2.value.toNat) cb ?_
 rintro hg he ⟨⟨g5,fp⟩,⟨_,hi,hh⟩,⟨hd,g9⟩,⟨h4,h3⟩,⟨ho,h5⟩,⟨gq,gt⟩,_⟩ cy eq;refine zS 513 cy bn ?_;refine SA ?_;refine R0 ?_;refine WX.turn [99,100,101,102,103,104,119,120] 121 Z (λh hs=>ae8 (α:=aH) (e:=((a2e e3 ((a0j u4.keys ((a0i e2.name (⟨#[107,101,121]⟩:Str)).1) ((a0i e2.name (a2d j)).1) al 40000).1)).1)) (x:=((f3,fa),((),(em,f7)),(f4,eu),(fg,ey),(ed,fe),(ee,f5),())) cr hs) Z ?_
 refine zE 513 121 122 (hn:=(show ab.length=((ab.set (e2.value.toNat) ((a2e e3 ((a0j u4.keys ((a0i e2.name (⟨#[107,101,121]⟩:Str)).1) ((a0i e2.name (a2d j)).1) al 40000).1)).1))).length from by first|(simp;done)|(simp;omega))) ?_;refine WX.lsl 8 7 ((ab.set (e2.value.toNat) ((a2e e3 ((a0j u4.keys ((a0i e2.name (⟨#[107,101,121]⟩:Str)).1) ((a0i e2.name (a2d j)).1) al 40000).1)).1))).length Z Q14 ?_
 refine SL 113 ((ab.set (e2.value.toNat) ((a2e e3 ((a0j u4.keys ((a0i e2.name (⟨#[107,101,121]⟩:Str)).1) ((a0i e2.name (a2d j)).1) al 40000).1)).1))).length ?_;refine SL 100 ((ab.set (e2.value.toNat) ((a2e e3 ((a0j u4.keys ((a0i e2.name (⟨#[107,101,121]⟩:Str)).1) ((a0i e2.name (a2d j)).1) al 40000).1)).1))).length ?_;refine zU [123] 50 ?_;have g0:(⟨#[107,101,121]⟩:Str).size=3:=rfl;have gd:=(okl (ac4 bj.1).1).1
 have hq:(a2d j).size<=bd n:=bk;have ht:=(okl af.1).1
 exact IT (j+1,(some cm),ad,(ab.set (e2.value.toNat) ((a2e e3 ((a0j u4.keys ((a0i e2.name (⟨#[107,101,121]⟩:Str)).1) ((a0i e2.name (a2d j)).1) al 40000).1)).1)),dq,dy) ⟨Q4,(aby Q5 (adz b8.2 (show ok n (((a2e e3 ((a0j u4.keys ((a0i e2.name (⟨#[107,101,121]⟩:Str)).1) ((a0i e2.name (a2d j)).1) al 40000).1)).1):aH)from cx)):ok n ((ab.set (e2.value.toNat) ((a2e e3 ((a0j u4.keys ((a0i e2.name (⟨#[107,101,121]⟩:Str)).1) ((a0i e2.name (a2d j)).1) al 40000).1)).1)):List aH)),an.1,an.2,(by first|omega|(rw [List.length_set];omega)),Q0,(by rw [br];rw [a4g];simp only [ak,ah,ai,cq,au,dj,cb,↓reduceIte])⟩ Q1 [0,3,8,9,10,11,14,44,45,46,47,48,49,50,51,52,53]
 refine SA ?_;exact ITr Z (j+1,ag,ad,ab,dq,dy) ⟨Q4,(acp b8),an.1,an.2,(by first|omega|(rw [List.length_set];omega)),Q0,(by rw [br];rw [a4g];simp only [ak,ah,ai,cq,au,dj,↓reduceIte,Bool.false_eq_true])⟩ Q1 [0,3,8,9,10,11,14,44,45,46,47,48,49,50,51,52,53];refine SA ?_
 exact ITr Z (j+1,ag,ad,ab,e6,da) ⟨Q4,(acp b8),af.2.1,af.2.2,(by first|omega|(rw [List.length_set];omega)),Q0,(by rw [br];rw [a4g];simp only [ak,ah,ai,cq,↓reduceIte,Bool.false_eq_true])⟩ Q1 [0,3,8,9,10,11,14,44,45,46,47,48,49,50,51,52,53];have ar:=br.trans (show _=(j,(ab:List aH),a4,a5) by rw [a4g];simp only [ak,↓reduceIte]);refine SA ?_
 exact ITr Z (i+1,ag,ad,ab,a4,a5) ⟨Q0,(acp b8),e8,e0,Q0,(by rw [dg,abu ax];simp only [a6w,ar])⟩ Q1 [0,3,8,9,10,11,14,44,45,46,47,48,49,50,51,52,53];have ar:=dg.trans (show _=((w_:List aH),a2,a1) by rw [dn];simp only [a6w];omega);obtain ⟨⟨dh,dr,dd⟩,b3⟩:=xE (a0e c_b a2 a1 4);refine KP Z 999 66 Z Z O (λw β H η σ Y=>f105 n Q0 η (Y.q 0 Z) σ a3 dm dz (i6 4) b3) ?_;rintro ⟨⟩ b1;have de:=acu c_b a2 a1 4;rw [b3]at de
 try dsimp only at de
 have gb:=i8 b1.1;refine SA0 ?_
 refine LM Z (1+dh,bg,be,((a0c u1 u4 h_ a0).aE:List aX),dr,dd) (λ|(i,aq,am,ac,a9,a7)=>(J6 i/\JL n ac/\(NN a9)/\J6 a7/\((ac.length:Int)+i<=4/\0<=i)/\(a81 c_b u1 (1+dh) ((a0c u1 u4 h_ a0).aE:List aX) dr dd=a81 c_b u1 i ac a9 a7),i.toNat,[(19,.v (vI i))],[(8,⟨39,[.int .i64 ((a0c u1 u4 h_ a0).aG.size),.slice bo (((a0c u1 u4 h_ a0).aG.links).length) bz,.slice bx (((a0c u1 u4 h_ a0).aF.keys).length) bt,.slice bp (((a0c u1 u4 h_ a0).aF.bR).length) bv,.slice bw (((a0c u1 u4 h_ a0).aF.bV).length) bq,.slice c8 (((a0c u1 u4 h_ a0).aF.bW).length) ca,.slice c9 (((a0c u1 u4 h_ a0).aM).length) bu,.slice b5 (w_.length) bb,.int .i64 ((a0c u1 u4 h_ a0).aY),.slice b6 (((a0c u1 u4 h_ a0).aU).length) ba,.slice bc (((a0c u1 u4 h_ a0).aL).length) b9,.slice aq (ac.length) am,.int .i64 ((a0c u1 u4 h_ a0).now),.int .i64 ((a0c u1 u4 h_ a0).aP)]⟩),(999,⟨112,[.slice K0 (c_b.length) M0,.int .i64 a9,.int .i64 a7]⟩)],[],[(53,MF.os aq am ac)])) ⟨Q4,(abt aa).2.2.2.2.2.2.2.1,b1.2.1,b1.2.2,(by rw [cv.con];simp only [List.length_nil];omega),Z⟩ [8,3,2,0] [3,2] [0,3,44,45,46,47,48,49,50,51,52] [0,3,44,45,46,47,48,49,50,51,52,53] ?_
 rintro ⟨i,aq,am,ac,a9,a7⟩ ⟨gg,cf,dp,di,gm,e7⟩;have fb:=cf.1;refine yKD 125 ?_ ?_<;>intro dx bl;refine yB λfr=>?_
 refine WX.turn [] 67 Z (λh hs=>ae6 (⟨(),_,emp,_,Z,acv _,Le.refl _,ade _,trivial,⟨(),_,emp,_,Z,acv _,Le.refl _,ade _,trivial,⟨(),_,emp,_,Z,acv _,Le.refl _,ade _,trivial,⟨(),_,emp,_,Z,acv _,Le.refl _,ade _,trivial,⟨(),_,emp,_,Z,acv _,Le.refl _,ade _,trivial,Z⟩⟩⟩⟩⟩:OwL _ _ ([(⟨#[47,97,47,49]⟩:Str),(⟨#[47,97,47,50]⟩:Str),(⟨#[47,98,47,49]⟩:Str),(⟨#[47,98,47,50]⟩:Str),(⟨#[47,98,47,51]⟩:Str)]:List Str))) (gs:=[MF.ol [.string (⟨#[47,97,47,49]⟩:Str),.string (⟨#[47,97,47,50]⟩:Str),.string (⟨#[47,98,47,49]⟩:Str),.string (⟨#[47,98,47,50]⟩:Str),.string (⟨#[47,98,47,51]⟩:Str)] ([(⟨#[47,97,47,49]⟩:Str),(⟨#[47,97,47,50]⟩:Str),(⟨#[47,98,47,49]⟩:Str),(⟨#[47,98,47,50]⟩:Str),(⟨#[47,98,47,51]⟩:Str)]:List Str)]) Z ?_;refine zE 129 67 68 ?_
 have hl:(⟨#[47,97,47,49]⟩:Str).size=4:=rfl;have gr:(⟨#[47,97,47,50]⟩:Str).size=4:=rfl;have h9:(⟨#[47,98,47,49]⟩:Str).size=4:=rfl;have gz:(⟨#[47,98,47,50]⟩:Str).size=4:=rfl;have g6:(⟨#[47,98,47,51]⟩:Str).size=4:=rfl;obtain ⟨⟨b7,dt,d9⟩,bh⟩:=xE (a2x c_b a9 a7 ([(⟨#[47,97,47,49]⟩:Str),(⟨#[47,97,47,50]⟩:Str),(⟨#[47,98,47,49]⟩:Str),(⟨#[47,98,47,50]⟩:Str),(⟨#[47,98,47,51]⟩:Str)]))
 refine CP 999 70 Z Z O (λw β H η σ Y=>f156 n Q0 η (Y.q 0 Z) (Y.q 68 Z) σ a3 dp di Q13 (aby Q7 (all_cons (α:=Str) (Nat.le_trans Q9 (adi n)) (all_cons (α:=Str) (Nat.le_trans Q9 (adi n)) (all_cons (α:=Str) (Nat.le_trans Q9 (adi n)) (all_cons (α:=Str) (Nat.le_trans Q9 (adi n)) (all_cons (α:=Str) (Nat.le_trans Q9 (adi n)) nA))))):ok n ([(⟨#[47,97,47,49]⟩:Str),(⟨#[47,97,47,50]⟩:Str),(⟨#[47,98,47,49]⟩:Str),(⟨#[47,98,47,50]⟩:Str),(⟨#[47,98,47,51]⟩:Str)]:List Str)) bh) ?_
 rintro ⟨⟩ ao;refine CF 71 Z O (λw Y=>f148 n Q0 ao.1) ?_;rintro ⟨gv,gi⟩ cz;refine zW 73 44 ?_;refine zW 74 45 ?_;refine zW 75 46 ?_;refine zW 76 47 ?_;refine zW 77 48 ?_;refine zW 78 49 ?_;refine zW 79 50 ?_;refine zW 80 51 ?_;refine zW 81 52 ?_;refine zW 82 53 ?_;refine zW 83 3 ?_;refine R0 ?_;refine WX.drawY [12,14] mixed Z λbs G0 ae=>?_;refine DY.takes (fuel:=6) ttOk [(0,true),(1,false),(2,true),(3,true),(4,false),(6,true),(7,false),(8,true),(9,false)] J Z ?_;refine DY.toTX λS_ ap=>?_;refine TX.all1 5 J ?_
 obtain ⟨⟨c0,f8,eb⟩,b4⟩:=xE (a0e c_b dt d9 u1.size);refine TS.callP (ds:=λ_=>[]) ap 5 84 ⟨_,Z⟩ Z (λ_ _ _=>All.nil) (λ_ f hf=>by cases hf) Z Z Z Z Z Z O Z (λw G bs H hI hH hs hΓ=>f105 n Q0 hH (hΓ.get 0 Z) hs a3 ao.2.1 ao.2.2 ((acm bf.1).1) b4) O O ?_;rintro ⟨⟩ aj;have e5:=acu c_b dt d9 u1.size;rw [b4]at e5
 try dsimp only at e5
 refine TX.all1 10 J ?_;refine TSF 10 85 Z Z Z Z Z Z O Z (λw Y=>f157 n Q0 (a02 b7) (Y.q 71 Z) aj.1 (i6 (ac.length:Int)) cz) ?_;rintro ⟨_,_,⟨f9,f6⟩,_,_,_,⟨⟨eh,f2⟩,⟨ez,ei⟩,⟨ex,e9⟩,_⟩⟩ ck;refine TX.all1 11 J ?_;refine TS.op 11 Z J ?_;refine zB λg7=>?_;refine R0 ?_;refine zT (α:=aX) [89,90,91,92] 93 (a09 c0 (ac.length:Int) (a02 b7)) ((),(),(f9,f6),(),(),(),((eh,f2),(ez,ei),(ex,e9),(),())) λ_=>?_;refine zE 143 93 94 ?_;refine WX.back0 ?_;refine TX.all1 12 J ?_;refine TS.op 12 Z J ?_
 refine zN (kk:=11) 525 53 96 λer fd=>?_;refine zN (kk:=11) 526 95 97 λef f1=>?_;have hv:b7.size<=bd n:=ao.1;have h6:=i8 aj.1;refine WX.know (λG hΓ=>(hΓ.get 97 Z:OwL _ _ _).rd.one) λd4=>?_;refine zP 525 526 ((ac++[(a09 c0 (ac.length:Int) (a02 b7))]):List aX).length d4 λff ep=>?_;refine zV [96,97] 98 ?_;refine R0 ?_;refine WX.back0 ?_;refine TX.takes (fuel:=1) ttOk [13] J Z ?_;refine TX.tail [14] Z Z J ?_;refine SA ?_;refine yE 525 98 99 ?_;refine zU [100] 53 ?_
 exact IT (i-1,ff,ep,(ac++[(a09 c0 (ac.length:Int) (a02 b7))]),f8,eb) ⟨Q4,(aby Q5 (ac2 cf.2 (all_cons (α:=aX) ck nA)):ok n ((ac++[(a09 c0 (ac.length:Int) (a02 b7))]):List aX)),aj.2.1,aj.2.2,Q11,(by rw [e7];rw [a81];simp only [dx,bl,bh,b4,cC,↓reduceIte,Bool.false_eq_true])⟩ Q1 [0,3,44,45,46,47,48,49,50,51,52,53]
 have ci:=e7.trans (show _=(i,(ac:List aX),a9,a7) by rw [a81];simp only [dx,bl,cC,↓reduceIte,Bool.false_eq_true]);have cd:a9b c_b c_i c_h=(aD.mk ((a0c u1 u4 h_ a0).aG) ((a0c u1 u4 h_ a0).aF) ((a0c u1 u4 h_ a0).aM) w_ ((a0c u1 u4 h_ a0).aY) ((a0c u1 u4 h_ a0).aU) ((a0c u1 u4 h_ a0).aL) ac ((a0c u1 u4 h_ a0).now) ((a0c u1 u4 h_ a0).aP),a9,a7):=by simp only [a9b,d0,d3,ce,ay,ar,b3,ci,cC]
 have cs:=cd.symm.trans hres;obtain ⟨cs,d1⟩:=Prod.mk.inj cs;obtain ⟨d1,el⟩:=Prod.mk.inj d1;subst cs;subst d1;subst el;exact yY [44,45,46,47,48,49,50,51,52,53] (nT bo bz bx bt bp bv bw bq c8 ca c9 bu b5 bb b6 ba bc b9 aq am) ⟨(An (abt aa).1 (An (abt aa).2.1 (An (abt aa).2.2.1 (An (acp cj) (An (abt aa).2.2.2.2.1 (An (abt aa).2.2.2.2.2.1 (An (abt aa).2.2.2.2.2.2.1 (An (acp cf) (An (abt aa).2.2.2.2.2.2.2.2.1 (abt aa).2.2.2.2.2.2.2.2.2))))))))),⟨dp,di⟩⟩
end Go.Proofs.YthdfhghdipdknaaGreat
namespace Go.Stp
def a82 (c_b:(List UInt8))(c_i:Int)(c_h:Int)(w_:aD):bP×Int×Int:=match a0e c_b c_i c_h ((w_.aI).length:Int)with|(u1,u2,u3)=>match a0e c_b u2 u3 (a1s 1 (((a1f w_.aG u1)).length:Int))with|(u4,u5,u6)=>match a3a c_b u5 u6 w_.aF with|(u7,u8,u9)=>match a1m c_b u8 u9 2 with|(u10,u11,u12)=>bif u10 then match aaa c_b u11 u12 with|(u13,u14,u15)=>match a0e c_b u14 u15 200 with|(u16,u17,u18)=>match a0e c_b u17 u18 17 with|(u19,u20,u21)=>match a0e c_b u20 u21 20 with|(u22,u23,u24)=>((bP.mk 9 0 (aA.mk ([])) (aZ.mk u1 (i64.wrap (1+u4)) true (bJ.mk u13.name (i64.wrap (700000+u16)) u19 (i64.wrap (1+u22))) (aJ.mk (aA.mk ([])) ([]) (aA.mk ([])) 0 0))),u23,u24)else ((bP.mk 9 0 (aA.mk ([])) (aZ.mk u1 (i64.wrap (1+u4)) false (bJ.mk (aA.mk ([])) 0 0 0) u7)),u11,u12)
def a1b (c_b:(List UInt8))(c_i:Int)(c_h:Int)(w_:aD):bP×Int×Int:=
 match a0e c_b c_i c_h 30 with
  |(u1,u2,u3)=>
   bif (u1==0)then
    match a0e c_b u2 u3 (i64.wrap (((w_.aG.links).length:Int)+1))with
     |(u4,u5,u6)=>
      ((bP.mk 5 u4 (aA.mk ([])) (aZ.mk 0 0 false (bJ.mk (aA.mk ([])) 0 0 0) (aJ.mk (aA.mk ([])) ([]) (aA.mk ([])) 0 0))),u5,u6)
   else
    bif (u1==1)then
     match a0e c_b u2 u3 (i64.wrap (((w_.aG.links).length:Int)+1))with
      |(u7,u8,u9)=>
       ((bP.mk 6 u7 (aA.mk ([])) (aZ.mk 0 0 false (bJ.mk (aA.mk ([])) 0 0 0) (aJ.mk (aA.mk ([])) ([]) (aA.mk ([])) 0 0))),u8,u9)
    else
     bif (u1==2)then
      match a0e c_b u2 u3 ((w_.aI).length:Int)with
       |(u10,u11,u12)=>
        ((bP.mk 7 u10 (aA.mk ([])) (aZ.mk 0 0 false (bJ.mk (aA.mk ([])) 0 0 0) (aJ.mk (aA.mk ([])) ([]) (aA.mk ([])) 0 0))),u11,u12)
     else
      bif (u1==3)then
       match a0e c_b u2 u3 ((w_.aI).length:Int)with
        |(u13,u14,u15)=>
         ((bP.mk 8 u13 (aA.mk ([])) (aZ.mk 0 0 false (bJ.mk (aA.mk ([])) 0 0 0) (aJ.mk (aA.mk ([])) ([]) (aA.mk ([])) 0 0))),u14,u15)
      else
       bif (u1==4)then
        match a0e c_b u2 u3 ((w_.aI).length:Int)with
         |(u16,u17,u18)=>
          ((bP.mk 8 u16 (aA.mk ([])) (aZ.mk 0 0 false (bJ.mk (aA.mk ([])) 0 0 0) (aJ.mk (aA.mk ([])) ([]) (aA.mk ([])) 0 0))),u17,u18)
       else
        bif (u1==5)then
         match a82 c_b u2 u3 w_ with
          |(u19,u20,u21)=>
           (u19,u20,u21)
        else
         bif (u1==6)then
          match a82 c_b u2 u3 w_ with
           |(u22,u23,u24)=>
            (u22,u23,u24)
         else
          bif (u1==7)then
           ((bP.mk 10 0 (aA.mk ([])) (aZ.mk 0 0 false (bJ.mk (aA.mk ([])) 0 0 0) (aJ.mk (aA.mk ([])) ([]) (aA.mk ([])) 0 0))),u2,u3)
          else
           bif (u1==8)then
            match a0e c_b u2 u3 ((w_.aI).length:Int)with
             |(u25,u26,u27)=>
              match aaa c_b u26 u27 with
               |(u28,u29,u30)=>
                ((bP.mk 11 u25 u28.name (aZ.mk 0 0 false (bJ.mk (aA.mk ([])) 0 0 0) (aJ.mk (aA.mk ([])) ([]) (aA.mk ([])) 0 0))),u29,u30)
           else
            bif decide (((w_.aL).length:Int)>0)then
             match a1m c_b u2 u3 4 with
              |(u31,u32,u33)=>
               bif (!u31)then
                match a0e c_b u32 u33 (a11 ((w_.aL).length:Int) 3)with
                 |(u34,u35,u36)=>
                  match a0e c_b u35 u36 12 with
                   |(u37,u38,u39)=>
                    bif (u37==0)then
                     ((bP.mk 3 u34 (aA.mk ([])) (aZ.mk 0 0 false (bJ.mk (aA.mk ([])) 0 0 0) (aJ.mk (aA.mk ([])) ([]) (aA.mk ([])) 0 0))),u38,u39)
                    else
                     bif (u37==1)then
                      ((bP.mk 4 u34 (aA.mk ([])) (aZ.mk 0 0 false (bJ.mk (aA.mk ([])) 0 0 0) (aJ.mk (aA.mk ([])) ([]) (aA.mk ([])) 0 0))),u38,u39)
                     else
                      ((bP.mk 2 u34 (aA.mk ([])) (aZ.mk 0 0 false (bJ.mk (aA.mk ([])) 0 0 0) (aJ.mk (aA.mk ([])) ([]) (aA.mk ([])) 0 0))),u38,u39)
               else
                ((bP.mk 1 0 (aA.mk ([])) (aZ.mk 0 0 false (bJ.mk (aA.mk ([])) 0 0 0) (aJ.mk (aA.mk ([])) ([]) (aA.mk ([])) 0 0))),u32,u33)
            else
             ((bP.mk 1 0 (aA.mk ([])) (aZ.mk 0 0 false (bJ.mk (aA.mk ([])) 0 0 0) (aJ.mk (aA.mk ([])) ([]) (aA.mk ([])) 0 0))),u2,u3)
def a6y (c_b:(List UInt8))(l:List bP)(i:Int)(w_:aD)(u999_i:Int)(u999_h:Int):(List bP)×Int×aD×Int×Int:=if i>0 then match a1b c_b u999_i u999_h w_ with|(u7,u8,u9)=>if ((a0u (a0b w_) u7).1)=true then a6y c_b (((l++[u7])):List bP) (i-1) ((a0u (a0b w_) u7).2) u8 u9 else a6y c_b (((l++[u7])):List bP) (i-1) w_ u8 u9 else (((l):List bP),i,w_,u999_i,u999_h)
termination_by i.toNat
decreasing_by all_goals (simp_wf; omega)
def ab1 (c_b:(List UInt8))(c_i:Int)(c_h:Int)(most:Int):aD×(List bP)×aD×Int×Int:=match a9b c_b c_i c_h with|(u1,u2,u3)=>match a0e c_b u2 u3 most with|(u4,u5,u6)=>match a6y c_b ([]:List bP) (3+u4) (a0b u1) u5 u6 with|(l,i,w_,u999_i,u999_h)=>(u1,l,w_,u999_i,u999_h)
def aab (c_b:(List UInt8))(c_i:Int)(c_h:Int)(most:Int):aD×Int×Int:=match ab1 c_b c_i c_h most with|(u1,u2,u3,u4,u5)=>(u3,u4,u5)
def a0v (code:(List UInt8)):aD:=match aa8 code with|(u1,u2)=>match aab code u1 u2 (30+(a4z code 50))with|(u3,u4,u5)=>u3
theorem axn {code:List UInt8}{u1 u2:Int}{u3:aD}{u4 u5:Int}(hu1:aa8 code=(u1,u2))(hu2:aab code u1 u2 (30+(a4z code 50))=(u3,u4,u5)):a0v code=u3:=by
 unfold a0v
 grind
end Go.Stp
namespace Go.Stp
theorem av5 (cb:List UInt8)(t:bU)(e:aK):∀(m:Nat) (j:Int) (l:List aH) (ci ch:Int),(3-j).toNat=m->0<=e.value/\e.value<(l.length:Int)->(∀x∈l,af5 x)->(a4g cb t e j l ci ch).2.1.length=l.length/\∀x∈(a4g cb t e j l ci ch).2.1,af5 x
 |m,j,l,ci,ch,hm,he,h=>by
  rw [a4g]
  split
  ·rename_i hj
   have hi:e.value.toNat<l.length:=by omega
   have ih:=λx y=>av5 cb t e (m-1) (j+1) l x y (by omega) he h;generalize a0e cb ci ch 4=r;obtain ⟨r1,r2,r3⟩:=r;dsimp only;generalize a4e cb r2 r3 r1=r;obtain ⟨b,b2,b3⟩:=r;dsimp only
   split
   ·generalize a1m cb b2 b3 6=r
    obtain ⟨o1,o2,o3⟩:=r;dsimp only
    split
    ·rw [List.getElem?_eq_getElem hi]
     dsimp only
     have h2:=λy z w=>av5 cb t e (m-1) (j+1) (l.set e.value.toNat (a2e (l[e.value.toNat]'hi) w).1) y z (by omega) (by grind) (λx hx=>by
      rcases List.mem_or_eq_of_mem_set hx with h1|h1
      ·exact h x h1
      ·rw [h1];exact asp (h _ (List.getElem_mem hi)))
     grind
    ·exact ih _ _
   ·exact ih _ _
  ·grind
 termination_by m=>m
 decreasing_by all_goals omega
theorem awh (cb:List UInt8)(t:bU):∀(q:List aK) (l:List aH) (ci ch:Int),(∀e∈q,0<=e.value/\e.value<(l.length:Int))->(∀x∈l,af5 x)->(a6w cb t q l ci ch).1.length=l.length/\∀x∈(a6w cb t q l ci ch).1,af5 x
 |[],l,ci,ch,hq,h=>⟨rfl,h⟩
 |e::q,l,ci,ch,hq,h=>by
  rw [a6w];have h1:=av5 cb t e _ 1 l ci ch rfl (hq e List.mem_cons_self) h;generalize a4g cb t e 1 l ci ch=r at h1;obtain ⟨j,l2,x,y⟩:=r;dsimp only at h1 ⊢;have h2:=awh cb t q l2 x y (λe' he'=>by grind) h1.2
  grind
theorem ax0 (cb:List UInt8)(g:aV):∀(m:Nat) (i:Int) (l:List aX) (ci ch:Int),i.toNat=m->(a81 cb g i l ci ch).2.1.length=l.length+i.toNat
 |m,i,l,ci,ch,hm=>by
  rw [a81]
  split
  ·rename_i hi
   generalize a2x cb ci ch _=r;obtain ⟨r1,r2,r3⟩:=r;dsimp only;generalize a0e cb r2 r3 g.size=r;obtain ⟨q1,q2,q3⟩:=r;dsimp only;rw [ax0 cb g (m-1) (i-1) _ q2 q3 (by omega)]
   grind
  ·grind
 termination_by m=>m
 decreasing_by all_goals omega
structure NetW (w:aD):Prop where
 top:TopoOk w.aG
 tru:a42 w.aF=true
 pro:ajv w.aG.size w.aM
 len:(w.aI.length:Int)=w.aG.size
 net:NetC w
theorem as4 (cb:List UInt8)(ci ch:Int):NetW (a9b cb ci ch).1:=by
 unfold a9b;have h1:=ank cb ci ch;generalize a9a cb ci ch=r at h1;obtain ⟨g,g2,g3⟩:=r;dsimp only at h1 ⊢;have h2:=akz cb g2 g3;generalize a97 cb g2 g3=r at h2;obtain ⟨t,t2,t3⟩:=r;dsimp only at h2 ⊢;have h3:=aoy cb h1 t2 t3;generalize a6x cb g 2 0 [] t2 t3=r at h3;obtain ⟨h,p2,p3⟩:=r;dsimp only at h3 ⊢;generalize a0e cb p2 p3 4=r;obtain ⟨c,c2,c3⟩:=r;dsimp only;have h4:=auf c h1 h2 h3;generalize a0c g t h c=w at h4;have h5:=awh cb t h w.aI c2 c3 (λe he=>by rw [h4.len];exact h3.rng e he) h4.net.2
 generalize a6w cb t h w.aI c2 c3=r at h5;obtain ⟨l,l2,l3⟩:=r;dsimp only at h5 ⊢;have h6:=acu cb l2 l3 4;generalize a0e cb l2 l3 4=r at h6;obtain ⟨m,m2,m3⟩:=r;dsimp only at h6 ⊢;have h7:=ax0 cb g _ (1+m) w.aE m2 m3 rfl;generalize a81 cb g (1+m) w.aE m2 m3=r at h7;obtain ⟨i,q,q2,q3⟩:=r;dsimp only at h7 ⊢;have h8:=h4.con;have h9:=h4.fly;have h10:=h4.len
 refine ⟨by show TopoOk w.aG;rw [h4.top];exact h1,by show a42 w.aF=true;rw [h4.tru];exact h2,by show ajv w.aG.size w.aM;rw [h4.top,h4.pro];exact h3,by show (l.length:Int)=w.aG.size;rw [h5.1,h4.top];exact h10,⟨by show l.length<=6;rw [h5.1];exact h4.net.1,h5.2⟩,by show w.aL.length<=200;rw [h9];simp,?_⟩
 grind
theorem anw {w:aD}{e:bP}(hw:NetW w)(h:(a0u (a0b w) e).1=true):NetW (a0u (a0b w) e).2:=by rw [agw]at h ⊢;have k:=apx hw.net h;exact ⟨by rw [k.top];exact hw.top,by rw [k.tru];exact hw.tru,by rw [k.top,k.pro];exact hw.pro,by rw [k.len,k.top];exact hw.len,k.net hw.net⟩
theorem NetW.copy {w:aD}(h:NetW w):NetW (a0b w):=by rw [agw];exact h
theorem aqa (code:List UInt8)(h:code.length<=4611686018427387904):3<=a4z code 50/\a4z code 50<=50:=by
 have h0:0<=Int.tdiv (code.length:Int) 12/\Int.tdiv (code.length:Int) 12<=4611686018427387904:=by grind
 unfold a4z
 grind [afg,I64,Int.tdiv]
theorem NetC.copy {w:aD}(h:NetC w):NetC (a0b w):=by rw [agw];exact h
end Go.Stp
namespace Go.Proofs.YthdfhghdipdknaaGreat
open Go.Stp
open Go.Stp.GoT (ok)
variable {w : World} (n : Nat) {K0 K1 K2 K3 K4 K5 K6 K7 K8 K9 K10 : Option Addr} {M0 M1 M2 M3 M4 M5 M6 M7 M8 M9 M10 : Nat}
theorem f159 (hn:n+9<=9){H:GH}(hH:Le H (hp w)){bc_:Nat}{c_b:List UInt8}(N0:RdSl (cut (hp w) H) K0 M0 c_b){c_i:Int}{c_h:Int}(w_:aD)(N1:RdSl (cut (hp w) H) K1 M1 w_.aG.links)(N2:RdSl (cut (hp w) H) K2 M2 w_.aF.keys)(N3:RdSl (cut (hp w) H) K3 M3 w_.aF.bR)(N4:RdSl (cut (hp w) H) K4 M4 w_.aF.bV)(N5:RdSl (cut (hp w) H) K5 M5 w_.aF.bW)(N6:RdSl (cut (hp w) H) K6 M6 w_.aM)(N7:RdSl (cut (hp w) H) K7 M7 w_.aI)(N8:RdSl (cut (hp w) H) K8 M8 w_.aU)(N9:RdSl (cut (hp w) H) K9 M9 w_.aL)(N10:RdSl (cut (hp w) H) K10 M10 w_.aE)(hown:Sep H [cu bc_ K0 c_b M0 c_i c_h])(a0:ok n c_b)(a4:NN c_i)(a2:ok n c_h)(a1:ok n w_){o0_:bP}{o1_:Int}{o2_:Int}(hres:a82 c_b c_i c_h w_=(o0_,o1_,o2_)):
 Does Tryz.prog 159 #[.pointer (some ⟨bc_,0,none⟩),af9 w_ K1 M1 K2 M2 K3 M3 K4 M4 K5 M5 K6 M6 K7 M7 K8 M8 K9 M9 K10 M10] w H (Post w H (λx:GoT.X (bP)=> .agg ⟨GoT.sh (o0_:bP) x⟩) (λx=>cu bc_ K0 c_b M0 o1_ o2_::GoT.oa (o0_:bP) x) (ok n (o0_:bP)/\NN (o1_)/\I64 (o2_))):=by
 have hb:=bS9 hn;have ap:c_b.length<=bd n:=(okl a0).1
 refine WX.enterP (tt:=tt) (Γ:=[(0,MF.rs .stb K0 M0 c_b),(1,MF.rs .stb K1 M1 w_.aG.links),(2,MF.rs .stb K2 M2 w_.aF.keys),(3,MF.rs .stb K3 M3 w_.aF.bR),(4,MF.rs .stb K4 M4 w_.aF.bV),(5,MF.rs .stb K5 M5 w_.aF.bW),(6,MF.rs .stb K6 M6 w_.aM),(7,MF.rs .stb K7 M7 w_.aI),(8,MF.rs .stb K8 M8 w_.aU),(9,MF.rs .stb K9 M9 w_.aL),(10,MF.rs .stb K10 M10 w_.aE)]) 11 Tryz.func159 Z J Z (ac6 Z N0 (ac6 Z N1 (ac6 Z N2 (ac6 Z N3 (ac6 Z N4 (ac6 Z N5 (ac6 Z N6 (ac6 Z N7 (ac6 Z N8 (ac6 Z N9 (ac6 Z N10 ac8))))))))))) hH hown (λf hf=>by cases hf) Z ?_
 have r1:=(okl (abt a1).2.2.2.1).1;obtain ⟨⟨u1,u2,u3⟩,aa⟩:=xE (a0e c_b c_i c_h (w_.aI.length:Int));refine KP Z 999 12 Z Z O (λw β H η σ Y=>f105 n Q0 η (Y.q 0 Z) σ a0 a4 a2 (i6 (w_.aI.length:Int)) aa) ?_;rintro ⟨⟩ a6;have q1:=acu c_b c_i c_h (w_.aI.length:Int);rw [aa]at q1
 try dsimp only at q1
 refine R0 ?_;refine WX.drawY [16] mixed Z λbs G0 b9=>?_;refine DY.takes (fuel:=9) ttOk [(0,true),(1,true),(2,true),(3,false),(4,true),(10,true),(11,true),(12,false)] J Z ?_;refine DY.toTX λS_ ay=>?_;refine TX.toP ?_;refine TXP.pend (PI.loc 15 6 ⟨80,[.int .i64 (0),.int .i64 (0),.bool false,.slice none (0) 0,.int .i64 (0),.int .i64 (0),.int .i64 (0),.slice none (0) 0,.slice none (0) 0,.slice none (0) 0,.int .i64 (0),.int .i64 (0)]⟩) (ail ttOk Z Z Z Z Z) .nil Z J Z ?_
 refine TPF 5 13 J J Z Z Z Z Z Z Z O Z (λw Y=>f121 n Q0 w_.aG (Y.q 1 Z) ((abt a1).1) a6.1) ?_;rintro ⟨p1,c1⟩ b0;dsimp only
 refine TXP.takes (fuel:=6) ttOk [6] Z J Z ?_;have r2:=i8 a6.1;have r3:=(okl b0).1;refine TPV 7 J J Z Z Z Z Z Z Z O Z (λw Y=>f194 n Q0 (i6 1) (i6 (((a1f w_.aG u1)).length:Int))) λb4=>?_;have q2:=mx_s 1 (((a1f w_.aG u1)).length:Int);obtain ⟨⟨u4,u5,u6⟩,a9⟩:=xE (a0e c_b u2 u3 (a1s 1 (((a1f w_.aG u1)).length:Int)));refine TPP ay 8 15 Z J J Z Z Z Z Z Z Z O Z (λw β H η σ Y=>f105 n Q0 η (Y.q 0 Z) σ a0 a6.2.1 a6.2.2 b4 a9) ?_;rintro ⟨⟩ am
 have q3:=acu c_b u2 u3 (a1s 1 (((a1f w_.aG u1)).length:Int));rw [a9]at q3
 try dsimp only at q3
 refine TXP.seeP 9 J Z Z Z Z Z (aes Z Z Z Z) ?_;obtain ⟨⟨u7,u8,u9⟩,ae⟩:=xE (a3a c_b u5 u6 w_.aF);refine TPQ ay 13 16 Z J J Z Z Z Z Z Z Z O Z (λw β H η σ Y=>f195 n Q0 η (Y.q 0 Z) w_.aF (Y.q 2 Z) (Y.q 3 Z) (Y.q 4 Z) (Y.q 5 Z) σ a0 am.2.1 am.2.2 ((abt a1).2.1) ae) ?_;rintro ⟨⟨p2,c2⟩,⟨p3,c3⟩,⟨p4,c4⟩,_⟩ ai;dsimp only
 refine TXP.takes (fuel:=1) ttOk [14] Z J Z ?_;refine TXP.settleL 0 Z Z J Z ?_;refine TXP.done ?_;refine TX.tail [16] Z Z J ?_;obtain ⟨⟨b8,ar,an⟩,aj⟩:=xE (a1m c_b u8 u9 2);refine KP Z 999 22 Z Z O (λw β H η σ Y=>f154 n Q0 η (Y.q 0 Z) σ a0 ai.2.1 ai.2.2 (i6 2) aj) ?_;rintro ⟨⟩ a8;refine yKA 28 ?_ ?_<;>intro h1;obtain ⟨⟨b1,ao,aw⟩,aq⟩:=xE (aaa c_b ar an);refine KQ Z 999 23 Z Z O (λw β H η σ Y=>f160 n Q0 η (Y.q 0 Z) σ a0 a8.1 a8.2 aq) ?_;rintro ⟨⟨p5,c5⟩,_⟩ ad;dsimp only
 obtain ⟨⟨b2,au,av⟩,ac⟩:=xE (a0e c_b ao aw 200);refine KP Z 999 25 Z Z O (λw β H η σ Y=>f105 n Q0 η (Y.q 0 Z) σ a0 ad.2.1 ad.2.2 (i6 200) ac) ?_;rintro ⟨⟩ al;have q4:=acu c_b ao aw 200;rw [ac]at q4
 try dsimp only at q4
 refine SW0 ?_;obtain ⟨⟨b5,az,ax⟩,af⟩:=xE (a0e c_b au av 17);refine KP Z 999 26 Z Z O (λw β H η σ Y=>f105 n Q0 η (Y.q 0 Z) σ a0 al.2.1 al.2.2 (i6 17) af) ?_;rintro ⟨⟩ ab;have q5:=acu c_b au av 17;rw [af]at q5
 try dsimp only at q5
 obtain ⟨⟨b3,b7,b6⟩,ak⟩:=xE (a0e c_b az ax 20);refine KP Z 999 27 Z Z O (λw β H η σ Y=>f105 n Q0 η (Y.q 0 Z) σ a0 ab.2.1 ab.2.2 (i6 20) ak) ?_;rintro ⟨⟩ a7;have q6:=acu c_b az ax 20;rw [ak]at q6
 try dsimp only at q6
 refine SW0 ?_;refine F1 28 Str ?_;refine F1 29 Str ?_;refine F1 30 UInt8 ?_;refine F1 31 Str ?_;have ag:a82 c_b c_i c_h w_=(bP.mk 9 0 (aA.mk ([])) (aZ.mk u1 (i64.wrap (1+u4)) true (bJ.mk b1.name (i64.wrap (700000+b2)) b5 (i64.wrap (1+b3))) (aJ.mk (aA.mk ([])) ([]) (aA.mk ([])) 0 0)),b7,b6):=by simp only [a82,aa,a9,ae,aj,h1,aq,ac,af,ak,cC]
 have a5:=ag.symm.trans hres;obtain ⟨a5,a3⟩:=Prod.mk.inj a5;obtain ⟨a3,ah⟩:=Prod.mk.inj a3;subst a5;subst a3;subst ah;exact yY [28,24,29,30,31] ((),(),(none,0),((),(),(),((p5,c5),(),(),()),((none,0),(none,0),(none,0),(),()))) ⟨(An (i6 9) (An (i6 0) (An (acd (α:=Str)) (An a6.1 (An (ad0 _) (An trivial (An (An (acj ad.1).1 (An (ad0 _) (An ab.1 (ad0 _)))) (An (acd (α:=Str)) (An (acd (α:=UInt8)) (An (acd (α:=Str)) (An (i6 0) (i6 0)))))))))))),⟨a7.2.1,a7.2.2⟩⟩;refine F1 23 Str ?_;refine F1 24 Str ?_
 have ag:a82 c_b c_i c_h w_=(bP.mk 9 0 (aA.mk ([])) (aZ.mk u1 (i64.wrap (1+u4)) false (bJ.mk (aA.mk ([])) 0 0 0) u7),ar,an):=by simp only [a82,aa,a9,ae,aj,h1,cC]
 have a5:=ag.symm.trans hres;obtain ⟨a5,a3⟩:=Prod.mk.inj a5;obtain ⟨a3,ah⟩:=Prod.mk.inj a3;subst a5;subst a3;subst ah;exact yY [23,24,19,20,21] ((),(),(none,0),((),(),(),((none,0),(),(),()),((p2,c2),(p3,c3),(p4,c4),(),()))) ⟨(An (i6 9) (An (i6 0) (An (acd (α:=Str)) (An a6.1 (An (ad0 _) (An trivial (An (An (acd (α:=Str)) (An (i6 0) (An (i6 0) (i6 0)))) ai.1))))))),⟨a8.1,a8.2⟩⟩
theorem f106 (hn:n+9<=9){H:GH}(hH:Le H (hp w)){bc_:Nat}{c_b:List UInt8}(N0:RdSl (cut (hp w) H) K0 M0 c_b){c_i:Int}{c_h:Int}(w_:aD)(N1:RdSl (cut (hp w) H) K1 M1 w_.aG.links)(N2:RdSl (cut (hp w) H) K2 M2 w_.aF.keys)(N3:RdSl (cut (hp w) H) K3 M3 w_.aF.bR)(N4:RdSl (cut (hp w) H) K4 M4 w_.aF.bV)(N5:RdSl (cut (hp w) H) K5 M5 w_.aF.bW)(N6:RdSl (cut (hp w) H) K6 M6 w_.aM)(N7:RdSl (cut (hp w) H) K7 M7 w_.aI)(N8:RdSl (cut (hp w) H) K8 M8 w_.aU)(N9:RdSl (cut (hp w) H) K9 M9 w_.aL)(N10:RdSl (cut (hp w) H) K10 M10 w_.aE)(hown:Sep H [cu bc_ K0 c_b M0 c_i c_h])(a0:ok n c_b)(ac:NN c_i)(ab:ok n c_h)(a7:ok n w_){o0_:bP}{o1_:Int}{o2_:Int}(hres:a1b c_b c_i c_h w_=(o0_,o1_,o2_)):
 Does Tryz.prog 106 #[.pointer (some ⟨bc_,0,none⟩),af9 w_ K1 M1 K2 M2 K3 M3 K4 M4 K5 M5 K6 M6 K7 M7 K8 M8 K9 M9 K10 M10] w H (Post w H (λx:GoT.X (bP)=> .agg ⟨GoT.sh (o0_:bP) x⟩) (λx=>cu bc_ K0 c_b M0 o1_ o2_::GoT.oa (o0_:bP) x) (ok n (o0_:bP)/\NN (o1_)/\I64 (o2_))):=by
 have hb:=bS9 hn;have ap:c_b.length<=bd n:=(okl a0).1
 refine WX.enterP (tt:=tt) (Γ:=[(0,MF.rs .stb K0 M0 c_b),(1,MF.rs .stb K1 M1 w_.aG.links),(2,MF.rs .stb K2 M2 w_.aF.keys),(3,MF.rs .stb K3 M3 w_.aF.bR),(4,MF.rs .stb K4 M4 w_.aF.bV),(5,MF.rs .stb K5 M5 w_.aF.bW),(6,MF.rs .stb K6 M6 w_.aM),(7,MF.rs .stb K7 M7 w_.aI),(8,MF.rs .stb K8 M8 w_.aU),(9,MF.rs .stb K9 M9 w_.aL),(10,MF.rs .stb K10 M10 w_.aE)]) 11 Tryz.func106 Z J Z (ac6 Z N0 (ac6 Z N1 (ac6 Z N2 (ac6 Z N3 (ac6 Z N4 (ac6 Z N5 (ac6 Z N6 (ac6 Z N7 (ac6 Z N8 (ac6 Z N9 (ac6 Z N10 ac8))))))))))) hH hown (λf hf=>by cases hf) Z ?_
 obtain ⟨⟨u1,u2,u3⟩,a9⟩:=xE (a0e c_b c_i c_h 30);refine KP Z 999 12 Z Z O (λw β H η σ Y=>f105 n Q0 η (Y.q 0 Z) σ a0 ac ab (i6 30) a9) ?_;rintro ⟨⟩ a8;have q1:=acu c_b c_i c_h 30;rw [a9]at q1
 try dsimp only at q1
 refine yKE 8 ?_ ?_<;>intro h1 bo;refine SW ?_;obtain ⟨⟨u4,u5,u6⟩,a3⟩:=xE (a0e c_b u2 u3 (i64.wrap ((w_.aG.links.length:Int)+1)));refine CP 999 13 Z Z O (λw β H η σ Y=>f105 n Q0 η (Y.q 0 Z) σ a0 a8.2.1 a8.2.2 (ad0 _) a3) ?_;rintro ⟨⟩ a4;have q2:=acu c_b u2 u3 (i64.wrap ((w_.aG.links.length:Int)+1));rw [a3]at q2
 try dsimp only at q2
 refine F1 14 Str ?_;refine F1 15 Str ?_;refine F1 16 Str ?_;refine F1 17 UInt8 ?_;refine F1 18 Str ?_;have a5:a1b c_b c_i c_h w_=(bP.mk 5 u4 (aA.mk ([])) (aZ.mk 0 0 false (bJ.mk (aA.mk ([])) 0 0 0) (aJ.mk (aA.mk ([])) ([]) (aA.mk ([])) 0 0)),u5,u6):=by simp only [a1b,a9,h1,a3,cC]
 have a2:=a5.symm.trans hres;obtain ⟨a2,a1⟩:=Prod.mk.inj a2;obtain ⟨a1,a6⟩:=Prod.mk.inj a1;subst a2;subst a1;subst a6;exact yY [14,15,16,17,18] ((),(),(none,0),((),(),(),((none,0),(),(),()),((none,0),(none,0),(none,0),(),()))) ⟨(An (i6 5) (An a4.1 (An (acd (α:=Str)) (An (i6 0) (An (i6 0) (An trivial (An (An (acd (α:=Str)) (An (i6 0) (An (i6 0) (i6 0)))) (An (acd (α:=Str)) (An (acd (α:=UInt8)) (An (acd (α:=Str)) (An (i6 0) (i6 0)))))))))))),⟨a4.2.1,a4.2.2⟩⟩;refine yKE 18 ?_ ?_<;>intro h2 bm;refine SW ?_
 obtain ⟨⟨u7,u8,u9⟩,a3⟩:=xE (a0e c_b u2 u3 (i64.wrap ((w_.aG.links.length:Int)+1)));refine CP 999 13 Z Z O (λw β H η σ Y=>f105 n Q0 η (Y.q 0 Z) σ a0 a8.2.1 a8.2.2 (ad0 _) a3) ?_;rintro ⟨⟩ a4;have q2:=acu c_b u2 u3 (i64.wrap ((w_.aG.links.length:Int)+1));rw [a3]at q2
 try dsimp only at q2
 refine F1 14 Str ?_;refine F1 15 Str ?_;refine F1 16 Str ?_;refine F1 17 UInt8 ?_;refine F1 18 Str ?_;have a5:a1b c_b c_i c_h w_=(bP.mk 6 u7 (aA.mk ([])) (aZ.mk 0 0 false (bJ.mk (aA.mk ([])) 0 0 0) (aJ.mk (aA.mk ([])) ([]) (aA.mk ([])) 0 0)),u8,u9):=by simp only [a1b,a9,h1,h2,a3,cC]
 have a2:=a5.symm.trans hres;obtain ⟨a2,a1⟩:=Prod.mk.inj a2;obtain ⟨a1,a6⟩:=Prod.mk.inj a1;subst a2;subst a1;subst a6;exact yY [14,15,16,17,18] ((),(),(none,0),((),(),(),((none,0),(),(),()),((none,0),(none,0),(none,0),(),()))) ⟨(An (i6 6) (An a4.1 (An (acd (α:=Str)) (An (i6 0) (An (i6 0) (An trivial (An (An (acd (α:=Str)) (An (i6 0) (An (i6 0) (i6 0)))) (An (acd (α:=Str)) (An (acd (α:=UInt8)) (An (acd (α:=Str)) (An (i6 0) (i6 0)))))))))))),⟨a4.2.1,a4.2.2⟩⟩;refine yKE 28 ?_ ?_<;>intro h3 bl;have r1:=(okl (abt a7).2.2.2.1).1
 obtain ⟨⟨ax,b2,az⟩,a3⟩:=xE (a0e c_b u2 u3 (w_.aI.length:Int));refine KP Z 999 13 Z Z O (λw β H η σ Y=>f105 n Q0 η (Y.q 0 Z) σ a0 a8.2.1 a8.2.2 (i6 (w_.aI.length:Int)) a3) ?_;rintro ⟨⟩ a4;have q2:=acu c_b u2 u3 (w_.aI.length:Int);rw [a3]at q2
 try dsimp only at q2
 refine F1 14 Str ?_;refine F1 15 Str ?_;refine F1 16 Str ?_;refine F1 17 UInt8 ?_;refine F1 18 Str ?_;have a5:a1b c_b c_i c_h w_=(bP.mk 7 ax (aA.mk ([])) (aZ.mk 0 0 false (bJ.mk (aA.mk ([])) 0 0 0) (aJ.mk (aA.mk ([])) ([]) (aA.mk ([])) 0 0)),b2,az):=by simp only [a1b,a9,h1,h2,h3,a3,cC]
 have a2:=a5.symm.trans hres;obtain ⟨a2,a1⟩:=Prod.mk.inj a2;obtain ⟨a1,a6⟩:=Prod.mk.inj a1;subst a2;subst a1;subst a6;exact yY [14,15,16,17,18] ((),(),(none,0),((),(),(),((none,0),(),(),()),((none,0),(none,0),(none,0),(),()))) ⟨(An (i6 7) (An a4.1 (An (acd (α:=Str)) (An (i6 0) (An (i6 0) (An trivial (An (An (acd (α:=Str)) (An (i6 0) (An (i6 0) (i6 0)))) (An (acd (α:=Str)) (An (acd (α:=UInt8)) (An (acd (α:=Str)) (An (i6 0) (i6 0)))))))))))),⟨a4.2.1,a4.2.2⟩⟩;refine yKE 36 ?_ ?_<;>intro h4 bn;have r1:=(okl (abt a7).2.2.2.1).1
 obtain ⟨⟨ay,b0,ba⟩,a3⟩:=xE (a0e c_b u2 u3 (w_.aI.length:Int));refine KP Z 999 13 Z Z O (λw β H η σ Y=>f105 n Q0 η (Y.q 0 Z) σ a0 a8.2.1 a8.2.2 (i6 (w_.aI.length:Int)) a3) ?_;rintro ⟨⟩ a4;have q2:=acu c_b u2 u3 (w_.aI.length:Int);rw [a3]at q2
 try dsimp only at q2
 refine F1 14 Str ?_;refine F1 15 Str ?_;refine F1 16 Str ?_;refine F1 17 UInt8 ?_;refine F1 18 Str ?_;have a5:a1b c_b c_i c_h w_=(bP.mk 8 ay (aA.mk ([])) (aZ.mk 0 0 false (bJ.mk (aA.mk ([])) 0 0 0) (aJ.mk (aA.mk ([])) ([]) (aA.mk ([])) 0 0)),b0,ba):=by simp only [a1b,a9,h1,h2,h3,h4,a3,cC]
 rotate_left;refine yKE 36 ?_ ?_<;>intro h5 bp;have r1:=(okl (abt a7).2.2.2.1).1;obtain ⟨⟨b1,b5,b7⟩,a3⟩:=xE (a0e c_b u2 u3 (w_.aI.length:Int));refine KP Z 999 13 Z Z O (λw β H η σ Y=>f105 n Q0 η (Y.q 0 Z) σ a0 a8.2.1 a8.2.2 (i6 (w_.aI.length:Int)) a3) ?_;rintro ⟨⟩ a4;have q2:=acu c_b u2 u3 (w_.aI.length:Int);rw [a3]at q2
 try dsimp only at q2
 refine F1 14 Str ?_;refine F1 15 Str ?_;refine F1 16 Str ?_;refine F1 17 UInt8 ?_;refine F1 18 Str ?_;have a5:a1b c_b c_i c_h w_=(bP.mk 8 b1 (aA.mk ([])) (aZ.mk 0 0 false (bJ.mk (aA.mk ([])) 0 0 0) (aJ.mk (aA.mk ([])) ([]) (aA.mk ([])) 0 0)),b5,b7):=by simp only [a1b,a9,h1,h2,h3,h4,h5,a3,cC]
 rotate_left
 ·skip
  refine yKE 45 ?_ ?_<;>intro h6 bu;obtain ⟨⟨be,bf,bc⟩,a3⟩:=xE (a82 c_b u2 u3 w_);refine KQ Z 999 13 Z Z O (λw β H η σ Y=>f159 n Q0 η (Y.q 0 Z) w_ (Y.q 1 Z) (Y.q 2 Z) (Y.q 3 Z) (Y.q 4 Z) (Y.q 5 Z) (Y.q 6 Z) (Y.q 7 Z) (Y.q 8 Z) (Y.q 9 Z) (Y.q 10 Z) σ a0 a8.2.1 a8.2.2 a7 a3) ?_;rintro ⟨_,_,⟨p1,c1⟩,⟨_,_,_,⟨⟨p2,c2⟩,_⟩,⟨⟨p3,c3⟩,⟨p4,c4⟩,⟨p5,c5⟩,_⟩⟩⟩ a4;dsimp only
  have a5:a1b c_b c_i c_h w_=(be,bf,bc):=by simp only [a1b,a9,h1,h2,h3,h4,h5,h6,a3,cC]
  rotate_left;refine yKE 45 ?_ ?_<;>intro h7 bs;obtain ⟨⟨b6,bk,bj⟩,a3⟩:=xE (a82 c_b u2 u3 w_);refine KQ Z 999 13 Z Z O (λw β H η σ Y=>f159 n Q0 η (Y.q 0 Z) w_ (Y.q 1 Z) (Y.q 2 Z) (Y.q 3 Z) (Y.q 4 Z) (Y.q 5 Z) (Y.q 6 Z) (Y.q 7 Z) (Y.q 8 Z) (Y.q 9 Z) (Y.q 10 Z) σ a0 a8.2.1 a8.2.2 a7 a3) ?_;rintro ⟨_,_,⟨p1,c1⟩,⟨_,_,_,⟨⟨p2,c2⟩,_⟩,⟨⟨p3,c3⟩,⟨p4,c4⟩,⟨p5,c5⟩,_⟩⟩⟩ a4;dsimp only
  have a5:a1b c_b c_i c_h w_=(b6,bk,bj):=by simp only [a1b,a9,h1,h2,h3,h4,h5,h6,h7,a3,cC]
  rotate_left;refine yKE 51 ?_ ?_<;>intro h8 bv;refine F1 13 Str ?_;refine F1 14 Str ?_;refine F1 15 Str ?_;refine F1 16 UInt8 ?_;refine F1 17 Str ?_;have a5:a1b c_b c_i c_h w_=(bP.mk 10 0 (aA.mk ([])) (aZ.mk 0 0 false (bJ.mk (aA.mk ([])) 0 0 0) (aJ.mk (aA.mk ([])) ([]) (aA.mk ([])) 0 0)),u2,u3):=by simp only [a1b,a9,h1,h2,h3,h4,h5,h6,h7,h8,cC]
  have a2:=a5.symm.trans hres;obtain ⟨a2,a1⟩:=Prod.mk.inj a2;obtain ⟨a1,a6⟩:=Prod.mk.inj a1;subst a2;subst a1;subst a6;exact yY [13,14,15,16,17] ((),(),(none,0),((),(),(),((none,0),(),(),()),((none,0),(none,0),(none,0),(),()))) ⟨(An (i6 10) (An (i6 0) (An (acd (α:=Str)) (An (i6 0) (An (i6 0) (An trivial (An (An (acd (α:=Str)) (An (i6 0) (An (i6 0) (i6 0)))) (An (acd (α:=Str)) (An (acd (α:=UInt8)) (An (acd (α:=Str)) (An (i6 0) (i6 0)))))))))))),⟨a8.2.1,a8.2.2⟩⟩;refine yKE 54 ?_ ?_<;>intro h9 bq
  have r1:=(okl (abt a7).2.2.2.1).1;obtain ⟨⟨b8,av,b4⟩,a3⟩:=xE (a0e c_b u2 u3 (w_.aI.length:Int));refine KP Z 999 13 Z Z O (λw β H η σ Y=>f105 n Q0 η (Y.q 0 Z) σ a0 a8.2.1 a8.2.2 (i6 (w_.aI.length:Int)) a3) ?_;rintro ⟨⟩ a4;have q2:=acu c_b u2 u3 (w_.aI.length:Int);rw [a3]at q2
  try dsimp only at q2
  obtain ⟨⟨bg,aw,b3⟩,aa⟩:=xE (aaa c_b av b4);refine KQ Z 999 14 Z Z O (λw β H η σ Y=>f160 n Q0 η (Y.q 0 Z) σ a0 a4.2.1 a4.2.2 aa) ?_;rintro ⟨⟨p1,c1⟩,_⟩ ag;dsimp only
  refine F1 16 Str ?_;refine F1 17 Str ?_;refine F1 18 UInt8 ?_;refine F1 19 Str ?_;have a5:a1b c_b c_i c_h w_=(bP.mk 11 b8 bg.name (aZ.mk 0 0 false (bJ.mk (aA.mk ([])) 0 0 0) (aJ.mk (aA.mk ([])) ([]) (aA.mk ([])) 0 0)),aw,b3):=by simp only [a1b,a9,h1,h2,h3,h4,h5,h6,h7,h8,h9,a3,aa,cC]
  have a2:=a5.symm.trans hres;obtain ⟨a2,a1⟩:=Prod.mk.inj a2;obtain ⟨a1,a6⟩:=Prod.mk.inj a1;subst a2;subst a1;subst a6;exact yY [15,16,17,18,19] ((),(),(p1,c1),((),(),(),((none,0),(),(),()),((none,0),(none,0),(none,0),(),()))) ⟨(An (i6 11) (An a4.1 (An (acj ag.1).1 (An (i6 0) (An (i6 0) (An trivial (An (An (acd (α:=Str)) (An (i6 0) (An (i6 0) (i6 0)))) (An (acd (α:=Str)) (An (acd (α:=UInt8)) (An (acd (α:=Str)) (An (i6 0) (i6 0)))))))))))),⟨ag.2.1,ag.2.2⟩⟩;refine yKD 69 ?_ ?_<;>intro af bh
  obtain ⟨⟨bt,am,aj⟩,a3⟩:=xE (a1m c_b u2 u3 4);refine KP Z 999 13 Z Z O (λw β H η σ Y=>f154 n Q0 η (Y.q 0 Z) σ a0 a8.2.1 a8.2.2 (i6 4) a3) ?_;rintro ⟨⟩ a4;refine yKN 73 ?_ ?_<;>intro ai bi;have r1:=(okl (abt a7).2.2.2.2.2.2.1).1;refine KV Z Z O (λw Y=>f161 n Q0 (i6 (w_.aL.length:Int)) (i6 3)) λag=>?_;have q2:=mn_s (w_.aL.length:Int) 3;obtain ⟨⟨ak,au,aq⟩,aa⟩:=xE (a0e c_b am aj (a11 (w_.aL.length:Int) 3))
  refine CP 999 14 Z Z O (λw β H η σ Y=>f105 n Q0 η (Y.q 0 Z) σ a0 a4.1 a4.2 ag aa) ?_;rintro ⟨⟩ ae;have q3:=acu c_b am aj (a11 (w_.aL.length:Int) 3);rw [aa]at q3
  try dsimp only at q3
  obtain ⟨⟨br,al,an⟩,ah⟩:=xE (a0e c_b au aq 12);refine KP Z 999 15 Z Z O (λw β H η σ Y=>f105 n Q0 η (Y.q 0 Z) σ a0 ae.2.1 ae.2.2 (i6 12) ah) ?_;rintro ⟨⟩ ad;have q4:=acu c_b au aq 12;rw [ah]at q4
  try dsimp only at q4
  refine yKE 82 ?_ ?_<;>intro ao b9;refine F1 16 Str ?_;refine F1 17 Str ?_;refine F1 18 Str ?_;refine F1 19 UInt8 ?_;refine F1 20 Str ?_;have a5:a1b c_b c_i c_h w_=(bP.mk 3 ak (aA.mk ([])) (aZ.mk 0 0 false (bJ.mk (aA.mk ([])) 0 0 0) (aJ.mk (aA.mk ([])) ([]) (aA.mk ([])) 0 0)),al,an):=by simp only [a1b,a9,h1,h2,h3,h4,h5,h6,h7,h8,h9,af,a3,ai,aa,ah,ao,cC]
  have a2:=a5.symm.trans hres;obtain ⟨a2,a1⟩:=Prod.mk.inj a2;obtain ⟨a1,a6⟩:=Prod.mk.inj a1;subst a2;subst a1;subst a6;exact yY [16,17,18,19,20] ((),(),(none,0),((),(),(),((none,0),(),(),()),((none,0),(none,0),(none,0),(),()))) ⟨(An (i6 3) (An ae.1 (An (acd (α:=Str)) (An (i6 0) (An (i6 0) (An trivial (An (An (acd (α:=Str)) (An (i6 0) (An (i6 0) (i6 0)))) (An (acd (α:=Str)) (An (acd (α:=UInt8)) (An (acd (α:=Str)) (An (i6 0) (i6 0)))))))))))),⟨ad.2.1,ad.2.2⟩⟩;refine yKE 86 ?_ ?_<;>intro ar bb;refine F1 16 Str ?_;refine F1 17 Str ?_
  refine F1 18 Str ?_;refine F1 19 UInt8 ?_;refine F1 20 Str ?_;have a5:a1b c_b c_i c_h w_=(bP.mk 4 ak (aA.mk ([])) (aZ.mk 0 0 false (bJ.mk (aA.mk ([])) 0 0 0) (aJ.mk (aA.mk ([])) ([]) (aA.mk ([])) 0 0)),al,an):=by simp only [a1b,a9,h1,h2,h3,h4,h5,h6,h7,h8,h9,af,a3,ai,aa,ah,ao,ar,cC]
  have a2:=a5.symm.trans hres;obtain ⟨a2,a1⟩:=Prod.mk.inj a2;obtain ⟨a1,a6⟩:=Prod.mk.inj a1;subst a2;subst a1;subst a6;exact yY [16,17,18,19,20] ((),(),(none,0),((),(),(),((none,0),(),(),()),((none,0),(none,0),(none,0),(),()))) ⟨(An (i6 4) (An ae.1 (An (acd (α:=Str)) (An (i6 0) (An (i6 0) (An trivial (An (An (acd (α:=Str)) (An (i6 0) (An (i6 0) (i6 0)))) (An (acd (α:=Str)) (An (acd (α:=UInt8)) (An (acd (α:=Str)) (An (i6 0) (i6 0)))))))))))),⟨ad.2.1,ad.2.2⟩⟩;refine F1 16 Str ?_;refine F1 17 Str ?_;refine F1 18 Str ?_
  refine F1 19 UInt8 ?_;refine F1 20 Str ?_;have a5:a1b c_b c_i c_h w_=(bP.mk 2 ak (aA.mk ([])) (aZ.mk 0 0 false (bJ.mk (aA.mk ([])) 0 0 0) (aJ.mk (aA.mk ([])) ([]) (aA.mk ([])) 0 0)),al,an):=by simp only [a1b,a9,h1,h2,h3,h4,h5,h6,h7,h8,h9,af,a3,ai,aa,ah,ao,ar,cC]
  have a2:=a5.symm.trans hres;obtain ⟨a2,a1⟩:=Prod.mk.inj a2;obtain ⟨a1,a6⟩:=Prod.mk.inj a1;subst a2;subst a1;subst a6;exact yY [16,17,18,19,20] ((),(),(none,0),((),(),(),((none,0),(),(),()),((none,0),(none,0),(none,0),(),()))) ⟨(An (i6 2) (An ae.1 (An (acd (α:=Str)) (An (i6 0) (An (i6 0) (An trivial (An (An (acd (α:=Str)) (An (i6 0) (An (i6 0) (i6 0)))) (An (acd (α:=Str)) (An (acd (α:=UInt8)) (An (acd (α:=Str)) (An (i6 0) (i6 0)))))))))))),⟨ad.2.1,ad.2.2⟩⟩;refine F1 14 Str ?_;refine F1 15 Str ?_;refine F1 16 Str ?_
  refine F1 17 UInt8 ?_;refine F1 18 Str ?_;have a5:a1b c_b c_i c_h w_=(bP.mk 1 0 (aA.mk ([])) (aZ.mk 0 0 false (bJ.mk (aA.mk ([])) 0 0 0) (aJ.mk (aA.mk ([])) ([]) (aA.mk ([])) 0 0)),am,aj):=by simp only [a1b,a9,h1,h2,h3,h4,h5,h6,h7,h8,h9,af,a3,ai,cC]
  have a2:=a5.symm.trans hres;obtain ⟨a2,a1⟩:=Prod.mk.inj a2;obtain ⟨a1,a6⟩:=Prod.mk.inj a1;subst a2;subst a1;subst a6;exact yY [14,15,16,17,18] ((),(),(none,0),((),(),(),((none,0),(),(),()),((none,0),(none,0),(none,0),(),()))) ⟨(An (i6 1) (An (i6 0) (An (acd (α:=Str)) (An (i6 0) (An (i6 0) (An trivial (An (An (acd (α:=Str)) (An (i6 0) (An (i6 0) (i6 0)))) (An (acd (α:=Str)) (An (acd (α:=UInt8)) (An (acd (α:=Str)) (An (i6 0) (i6 0)))))))))))),⟨a4.1,a4.2⟩⟩;refine F1 13 Str ?_;refine F1 14 Str ?_;refine F1 15 Str ?_
  refine F1 16 UInt8 ?_;refine F1 17 Str ?_;have a5:a1b c_b c_i c_h w_=(bP.mk 1 0 (aA.mk ([])) (aZ.mk 0 0 false (bJ.mk (aA.mk ([])) 0 0 0) (aJ.mk (aA.mk ([])) ([]) (aA.mk ([])) 0 0)),u2,u3):=by simp only [a1b,a9,h1,h2,h3,h4,h5,h6,h7,h8,h9,af,cC]
  have a2:=a5.symm.trans hres;obtain ⟨a2,a1⟩:=Prod.mk.inj a2;obtain ⟨a1,a6⟩:=Prod.mk.inj a1;subst a2;subst a1;subst a6;exact yY [13,14,15,16,17] ((),(),(none,0),((),(),(),((none,0),(),(),()),((none,0),(none,0),(none,0),(),()))) ⟨(An (i6 1) (An (i6 0) (An (acd (α:=Str)) (An (i6 0) (An (i6 0) (An trivial (An (An (acd (α:=Str)) (An (i6 0) (An (i6 0) (i6 0)))) (An (acd (α:=Str)) (An (acd (α:=UInt8)) (An (acd (α:=Str)) (An (i6 0) (i6 0)))))))))))),⟨a8.2.1,a8.2.2⟩⟩
  all_goals
   have a2:=a5.symm.trans hres;obtain ⟨a2,a1⟩:=Prod.mk.inj a2;obtain ⟨a1,a6⟩:=Prod.mk.inj a1;subst a2;subst a1;subst a6;exact yY [18,19,20,21,22] ((),(),(p1,c1),((),(),(),((p2,c2),(),(),()),((p3,c3),(p4,c4),(p5,c5),(),()))) ⟨a4.1,⟨a4.2.1,a4.2.2⟩⟩
 all_goals
  have a2:=a5.symm.trans hres;obtain ⟨a2,a1⟩:=Prod.mk.inj a2;obtain ⟨a1,a6⟩:=Prod.mk.inj a1;subst a2;subst a1;subst a6;exact yY [14,15,16,17,18] ((),(),(none,0),((),(),(),((none,0),(),(),()),((none,0),(none,0),(none,0),(),()))) ⟨(An (i6 8) (An a4.1 (An (acd (α:=Str)) (An (i6 0) (An (i6 0) (An trivial (An (An (acd (α:=Str)) (An (i6 0) (An (i6 0) (i6 0)))) (An (acd (α:=Str)) (An (acd (α:=UInt8)) (An (acd (α:=Str)) (An (i6 0) (i6 0)))))))))))),⟨a4.2.1,a4.2.2⟩⟩
theorem f52 (hn:n+9<=9){H:GH}(hH:Le H (hp w)){bc_:Nat}{c_b:List UInt8}(N0:RdSl (cut (hp w) H) K0 M0 c_b){c_i:Int}{c_h:Int}{most:Int}(hown:Sep H [cu bc_ K0 c_b M0 c_i c_h])(am:ok n c_b)(b3:NN c_i)(b1:ok n c_h)(hq0:0<=most/\most<=1000)(az:ok n most){o0_:aD}{o1_:List bP}{o2_:aD}{o3_:Int}{o4_:Int}(hres:ab1 c_b c_i c_h most=(o0_,o1_,o2_,o3_,o4_)):
 Does Tryz.prog 52 #[.pointer (some ⟨bc_,0,none⟩),vI most] w H (Post w H (λx:GoT.X (aD×(List bP)×aD)=> .tuple #[.agg ⟨GoT.sh (o0_:aD) x.1⟩,(GoT.sh (o1_:(List bP)) x.2.1).headD undef,.agg ⟨GoT.sh (o2_:aD) x.2.2⟩]) (λx=>cu bc_ K0 c_b M0 o3_ o4_::GoT.oa ((o0_,o1_,o2_):aD×(List bP)×aD) x) (ok n (o0_:aD)/\ok n (o1_:(List bP))/\ok n (o2_:aD)/\NN (o3_)/\I64 (o4_))):=by
 have hb:=bS9 hn;have bh:c_b.length<=bd n:=(okl am).1;refine WX.enterP (tt:=tt) (Γ:=[(0,MF.rs .stb K0 M0 c_b)]) 1 Tryz.func52 Z J Z (ac6 Z N0 ac8) hH hown (λf hf=>by cases hf) Z ?_;obtain ⟨⟨u1,u2,u3⟩,bf⟩:=xE (a9b c_b c_i c_h);refine KQ Z 999 2 Z Z O (λw β H η σ Y=>f104 n Q0 η (Y.q 0 Z) σ am b3 b1 bf) ?_;rintro ⟨⟨_,p1,c1⟩,⟨⟨p2,c2⟩,⟨p3,c3⟩,⟨p4,c4⟩,p5,c5⟩,⟨p6,c6⟩,⟨p7,c7⟩,_,⟨p8,c8⟩,⟨p9,c9⟩,⟨ca,cz⟩,_⟩ b4;dsimp only
 have q1:=as4 c_b c_i c_h;rw [bf]at q1
 try dsimp only at q1
 refine KF Z 22 Z O (λw Y=>f30 n Q0 u1 (Y.q 2 Z) (Y.q 3 Z) (Y.q 4 Z) (Y.q 5 Z) (Y.q 6 Z) (Y.q 7 Z) (Y.q 8 Z) (Y.q 9 Z) (Y.q 10 Z) (Y.q 11 Z) b4.1) ?_;rintro ⟨⟨_,cg,dc⟩,⟨⟨bx,cb⟩,⟨dq,d6⟩,⟨cm,cy⟩,cd,br⟩,⟨dk,bv⟩,⟨d8,bk⟩,_,⟨d9,d3⟩,⟨di,cx⟩,⟨bn,dh⟩,_⟩ bl;dsimp only
 have q2:=l32n u1;try dsimp only at q2
 try simp only [List.length_nil]at q2
 refine yB λci=>?_;obtain ⟨⟨u4,u5,u6⟩,b9⟩:=xE (a0e c_b u2 u3 most);refine KP Z 999 42 Z Z O (λw β H η σ Y=>f105 n Q0 η (Y.q 0 Z) σ am b4.2.1 b4.2.2 az b9) ?_;rintro ⟨⟩ ba;have q3:=acu c_b u2 u3 most;rw [b9]at q3
 try dsimp only at q3
 have r1:=i8 ba.1;refine SA0 ?_;refine F0 43 bP ?_
 refine LM Z (ci,0,[],([]:List bP),3+u4,cg,dc,bx,cb,dq,d6,cm,cy,cd,br,dk,bv,d8,bk,d9,d3,di,cx,bn,dh,(a0b u1),u5,u6) (λ|(pl,cl,b0,l,i,a2,a3,aa,ae,a8,a9,a5,a4,a0,a1,ac,ad,aj,ai,a7,a6,ah,ag,ab,af,w_,ak,al)=>(JE n l/\J6 i/\(ok n w_)/\(NN ak)/\J6 al/\(NetW w_)/\(0<=i/\(l.length:Int)+i<=1100)/\(a6y c_b ([]:List bP) (3+u4) (a0b u1) u5 u6=a6y c_b l i w_ ak al),i.toNat,[(9,.v (vS pl l cl)),(10,.v (vI i))],[(8,⟨39,[.int .i64 (w_.aG.size),.slice a2 (w_.aG.links.length) a3,.slice aa (w_.aF.keys.length) ae,.slice a8 (w_.aF.bR.length) a9,.slice a5 (w_.aF.bV.length) a4,.slice a0 (w_.aF.bW.length) a1,.slice ac (w_.aM.length) ad,.slice aj (w_.aI.length) ai,.int .i64 (w_.aY),.slice a7 (w_.aU.length) a6,.slice ah (w_.aL.length) ag,.slice ab (w_.aE.length) af,.int .i64 (w_.now),.int .i64 (w_.aP)]⟩),(999,⟨112,[.slice K0 (c_b.length) M0,.int .i64 ak,.int .i64 al]⟩)],[(17,⟨15,pl,l.length,cl,b0⟩)],[(32,MF.os a2 a3 w_.aG.links),(33,MF.os aa ae w_.aF.keys),(34,MF.os a8 a9 w_.aF.bR),(35,MF.os a5 a4 w_.aF.bV),(36,MF.os a0 a1 w_.aF.bW),(37,MF.os ac ad w_.aM),(38,MF.os aj ai w_.aI),(39,MF.os a7 a6 w_.aU),(40,MF.os ah ag w_.aL),(41,MF.os ab af w_.aE),(43,MF.ol b0 (l:List bP))])) ⟨nA,Q4,bl,ba.2.1,ba.2.2,(by exact NetW.copy Q12),(by simp only [List.length_nil];omega),Z⟩ [8,7,6,4,0] [7,6,4] [0,12,13,14,15,16,17,18,19,20,21] [0,12,13,14,15,16,17,18,19,20,21,32,33,34,35,36,37,38,39,40,41,43] ?_
 rintro ⟨pl,cl,b0,l,i,a2,a3,aa,ae,a8,a9,a5,a4,a0,a1,ac,ad,aj,ai,a7,a6,ah,ag,ab,af,w_,ak,al⟩ ⟨v1,v2,v3,v4,v5,v6,v7,v8⟩;refine yKD 23 ?_ ?_<;>intro h1 b6;refine zW 44 32 ?_;refine zW 45 33 ?_;refine zW 46 34 ?_;refine zW 47 35 ?_;refine zW 48 36 ?_;refine zW 49 37 ?_;refine zW 50 38 ?_;refine zW 51 39 ?_;refine zW 52 40 ?_;refine zW 53 41 ?_;obtain ⟨⟨u7,u8,u9⟩,b8⟩:=xE (a1b c_b ak al w_)
 refine KQ Z 999 54 Z Z O (λw β H η σ Y=>f106 n Q0 η (Y.q 0 Z) w_ (Y.q 44 Z) (Y.q 45 Z) (Y.q 46 Z) (Y.q 47 Z) (Y.q 48 Z) (Y.q 49 Z) (Y.q 50 Z) (Y.q 51 Z) (Y.q 52 Z) (Y.q 53 Z) σ am v4 v5 v3 b8) ?_;rintro ⟨_,_,⟨ar,an⟩,⟨_,_,_,⟨⟨ap,au⟩,_⟩,⟨⟨ay,av⟩,⟨aq,ao⟩,⟨aw,ax⟩,_⟩⟩⟩ b2;refine yB λdv=>?_;refine zT (α:=bP) [59,60,61,62,63] 64 u7 ((),(),(ar,an),((),(),(),((ap,au),(),(),()),((ay,av),(aq,ao),(aw,ax),(),()))) λcs=>?_;refine zP 17 31 ((l++[u7]):List bP).length cs λbi bj=>?_;refine zV [43,64] 65 ?_
 refine zW 66 32 ?_;refine zW 67 33 ?_;refine zW 68 34 ?_;refine zW 69 35 ?_;refine zW 70 36 ?_;refine zW 71 37 ?_;refine zW 72 38 ?_;refine zW 73 39 ?_;refine zW 74 40 ?_;refine zW 75 41 ?_;refine KF Z 76 Z O (λw Y=>f30 n Q0 w_ (Y.q 66 Z) (Y.q 67 Z) (Y.q 68 Z) (Y.q 69 Z) (Y.q 70 Z) (Y.q 71 Z) (Y.q 72 Z) (Y.q 73 Z) (Y.q 74 Z) (Y.q 75 Z) v3) ?_;rintro ⟨⟨_,cj,dn⟩,⟨⟨d4,de⟩,⟨dt,co⟩,⟨cv,dp⟩,d7,ch⟩,⟨db,ck⟩,⟨cp,bt⟩,_,⟨ds,dr⟩,⟨ce,cq⟩,⟨bu,d0⟩,_⟩ d5;have q4:=l32n w_;try dsimp only at q4
 try simp only [List.length_nil]at q4
 refine R0 ?_
 refine CU ((a0u (a0b w_) u7).2) 12 [86,87,88,89,90,91,92,93,94,95] 96 Z Z Z Z Z Z Z O Z (λw β H η σ Y=>f107 n Q0 η (β 12) (a0b w_) cj dn d4 de dt co cv dp d7 ch db ck cp bt ds dr ce cq bu d0 u7 (afq (a:=(u7:bP)) (x:=((),(),(ar,an),((),(),(),((ap,au),(),(),()),((ay,av),(aq,ao),(aw,ax),(),())))) (by rintro ⟨⟨⟩,⟨⟩,⟨pa1_,ca1_⟩,⟨⟨⟩,⟨⟩,⟨⟩,⟨⟨pa2_,ca2_⟩,⟨⟩,⟨⟩,⟨⟩⟩,⟨⟨pa3_,ca3_⟩,⟨pa4_,ca4_⟩,⟨pa5_,ca5_⟩,⟨⟩,⟨⟩⟩⟩⟩ ⟨⟨⟩,⟨⟩,⟨pb6_,cb6_⟩,⟨⟨⟩,⟨⟩,⟨⟩,⟨⟨pb7_,cb7_⟩,⟨⟩,⟨⟩,⟨⟩⟩,⟨⟨pb8_,cb8_⟩,⟨pb9_,cb9_⟩,⟨pb10_,cb10_⟩,⟨⟩,⟨⟩⟩⟩⟩ h_;cases h_;rfl) ((Y.q 65 Z:OwL _ ((b0++[.int .i64 (u7.kind),.int .i64 (u7.n),.slice ar (u7.name.parts.length) an,.int .i64 (u7.bC.to),.int .i64 (u7.bC.face),.bool u7.bC.cI,.slice ap (u7.bC.bT.name.parts.length) au,.int .i64 (u7.bC.bT.bI),.int .i64 (u7.bC.bT.cM),.int .i64 (u7.bC.bT.cD),.slice ay (u7.bC.data.name.parts.length) av,.slice aq (u7.bC.data.content.length) ao,.slice aw (u7.bC.data.aR.parts.length) ax,.int .i64 (u7.bC.data.bL),.int .i64 (u7.bC.data.cF)])) ((l++[u7]):List bP)).rd) (MF.rs .der ar an u7.name.parts) (List.mem_of_getElem? (i:=0) Z)) (afq (a:=(u7:bP)) (x:=((),(),(ar,an),((),(),(),((ap,au),(),(),()),((ay,av),(aq,ao),(aw,ax),(),())))) (by rintro ⟨⟨⟩,⟨⟩,⟨pa11_,ca11_⟩,⟨⟨⟩,⟨⟩,⟨⟩,⟨⟨pa12_,ca12_⟩,⟨⟩,⟨⟩,⟨⟩⟩,⟨⟨pa13_,ca13_⟩,⟨pa14_,ca14_⟩,⟨pa15_,ca15_⟩,⟨⟩,⟨⟩⟩⟩⟩ ⟨⟨⟩,⟨⟩,⟨pb16_,cb16_⟩,⟨⟨⟩,⟨⟩,⟨⟩,⟨⟨pb17_,cb17_⟩,⟨⟩,⟨⟩,⟨⟩⟩,⟨⟨pb18_,cb18_⟩,⟨pb19_,cb19_⟩,⟨pb20_,cb20_⟩,⟨⟩,⟨⟩⟩⟩⟩ h_;cases h_;rfl) ((Y.q 65 Z:OwL _ ((b0++[.int .i64 (u7.kind),.int .i64 (u7.n),.slice ar (u7.name.parts.length) an,.int .i64 (u7.bC.to),.int .i64 (u7.bC.face),.bool u7.bC.cI,.slice ap (u7.bC.bT.name.parts.length) au,.int .i64 (u7.bC.bT.bI),.int .i64 (u7.bC.bT.cM),.int .i64 (u7.bC.bT.cD),.slice ay (u7.bC.data.name.parts.length) av,.slice aq (u7.bC.data.content.length) ao,.slice aw (u7.bC.data.aR.parts.length) ax,.int .i64 (u7.bC.data.bL),.int .i64 (u7.bC.data.cF)])) ((l++[u7]):List bP)).rd) (MF.rs .der ap au u7.bC.bT.name.parts) (List.mem_of_getElem? (i:=1) Z)) (afq (a:=(u7:bP)) (x:=((),(),(ar,an),((),(),(),((ap,au),(),(),()),((ay,av),(aq,ao),(aw,ax),(),())))) (by rintro ⟨⟨⟩,⟨⟩,⟨pa21_,ca21_⟩,⟨⟨⟩,⟨⟩,⟨⟩,⟨⟨pa22_,ca22_⟩,⟨⟩,⟨⟩,⟨⟩⟩,⟨⟨pa23_,ca23_⟩,⟨pa24_,ca24_⟩,⟨pa25_,ca25_⟩,⟨⟩,⟨⟩⟩⟩⟩ ⟨⟨⟩,⟨⟩,⟨pb26_,cb26_⟩,⟨⟨⟩,⟨⟩,⟨⟩,⟨⟨pb27_,cb27_⟩,⟨⟩,⟨⟩,⟨⟩⟩,⟨⟨pb28_,cb28_⟩,⟨pb29_,cb29_⟩,⟨pb30_,cb30_⟩,⟨⟩,⟨⟩⟩⟩⟩ h_;cases h_;rfl) ((Y.q 65 Z:OwL _ ((b0++[.int .i64 (u7.kind),.int .i64 (u7.n),.slice ar (u7.name.parts.length) an,.int .i64 (u7.bC.to),.int .i64 (u7.bC.face),.bool u7.bC.cI,.slice ap (u7.bC.bT.name.parts.length) au,.int .i64 (u7.bC.bT.bI),.int .i64 (u7.bC.bT.cM),.int .i64 (u7.bC.bT.cD),.slice ay (u7.bC.data.name.parts.length) av,.slice aq (u7.bC.data.content.length) ao,.slice aw (u7.bC.data.aR.parts.length) ax,.int .i64 (u7.bC.data.bL),.int .i64 (u7.bC.data.cF)])) ((l++[u7]):List bP)).rd) (MF.rs .der ay av u7.bC.data.name.parts) (List.mem_of_getElem? (i:=2) Z)) (afq (a:=(u7:bP)) (x:=((),(),(ar,an),((),(),(),((ap,au),(),(),()),((ay,av),(aq,ao),(aw,ax),(),())))) (by rintro ⟨⟨⟩,⟨⟩,⟨pa31_,ca31_⟩,⟨⟨⟩,⟨⟩,⟨⟩,⟨⟨pa32_,ca32_⟩,⟨⟩,⟨⟩,⟨⟩⟩,⟨⟨pa33_,ca33_⟩,⟨pa34_,ca34_⟩,⟨pa35_,ca35_⟩,⟨⟩,⟨⟩⟩⟩⟩ ⟨⟨⟩,⟨⟩,⟨pb36_,cb36_⟩,⟨⟨⟩,⟨⟩,⟨⟩,⟨⟨pb37_,cb37_⟩,⟨⟩,⟨⟩,⟨⟩⟩,⟨⟨pb38_,cb38_⟩,⟨pb39_,cb39_⟩,⟨pb40_,cb40_⟩,⟨⟩,⟨⟩⟩⟩⟩ h_;cases h_;rfl) ((Y.q 65 Z:OwL _ ((b0++[.int .i64 (u7.kind),.int .i64 (u7.n),.slice ar (u7.name.parts.length) an,.int .i64 (u7.bC.to),.int .i64 (u7.bC.face),.bool u7.bC.cI,.slice ap (u7.bC.bT.name.parts.length) au,.int .i64 (u7.bC.bT.bI),.int .i64 (u7.bC.bT.cM),.int .i64 (u7.bC.bT.cD),.slice ay (u7.bC.data.name.parts.length) av,.slice aq (u7.bC.data.content.length) ao,.slice aw (u7.bC.data.aR.parts.length) ax,.int .i64 (u7.bC.data.bL),.int .i64 (u7.bC.data.cF)])) ((l++[u7]):List bP)).rd) (MF.rs .der aq ao u7.bC.data.content) (List.mem_of_getElem? (i:=3) Z)) (afq (a:=(u7:bP)) (x:=((),(),(ar,an),((),(),(),((ap,au),(),(),()),((ay,av),(aq,ao),(aw,ax),(),())))) (by rintro ⟨⟨⟩,⟨⟩,⟨pa41_,ca41_⟩,⟨⟨⟩,⟨⟩,⟨⟩,⟨⟨pa42_,ca42_⟩,⟨⟩,⟨⟩,⟨⟩⟩,⟨⟨pa43_,ca43_⟩,⟨pa44_,ca44_⟩,⟨pa45_,ca45_⟩,⟨⟩,⟨⟩⟩⟩⟩ ⟨⟨⟩,⟨⟩,⟨pb46_,cb46_⟩,⟨⟨⟩,⟨⟩,⟨⟩,⟨⟨pb47_,cb47_⟩,⟨⟩,⟨⟩,⟨⟩⟩,⟨⟨pb48_,cb48_⟩,⟨pb49_,cb49_⟩,⟨pb50_,cb50_⟩,⟨⟩,⟨⟩⟩⟩⟩ h_;cases h_;rfl) ((Y.q 65 Z:OwL _ ((b0++[.int .i64 (u7.kind),.int .i64 (u7.n),.slice ar (u7.name.parts.length) an,.int .i64 (u7.bC.to),.int .i64 (u7.bC.face),.bool u7.bC.cI,.slice ap (u7.bC.bT.name.parts.length) au,.int .i64 (u7.bC.bT.bI),.int .i64 (u7.bC.bT.cM),.int .i64 (u7.bC.bT.cD),.slice ay (u7.bC.data.name.parts.length) av,.slice aq (u7.bC.data.content.length) ao,.slice aw (u7.bC.data.aR.parts.length) ax,.int .i64 (u7.bC.data.bL),.int .i64 (u7.bC.data.cF)])) ((l++[u7]):List bP)).rd) (MF.rs .der aw ax u7.bC.data.aR.parts) (List.mem_of_getElem? (i:=4) Z)) σ (by exact NetC.copy (NetW.net Q12)) d5 b2.1) O ?_
 rintro ⟨⟨_,bw,da⟩,⟨⟨c0,dg⟩,⟨bo,ct⟩,⟨dl,cc⟩,dm,dd⟩,⟨d2,d1⟩,⟨bm,cw⟩,_,⟨cn,dj⟩,⟨cf,cr⟩,⟨bp,df⟩,_⟩ bq;refine yKA 36 ?_ ?_<;>intro h2;refine SA ?_;refine zU [106] 32 ?_;refine zU [107] 33 ?_;refine zU [108] 34 ?_;refine zU [109] 35 ?_;refine zU [110] 36 ?_;refine zU [111] 37 ?_;refine zU [112] 38 ?_;refine zU [113] 39 ?_;refine zU [114] 40 ?_;refine zU [115] 41 ?_;refine zU [65] 43 ?_
 exact ITr Z (bi,bj,_,((l++[u7]):List bP),i-1,bw,da,c0,dg,bo,ct,dl,cc,dm,dd,d2,d1,bm,cw,cn,dj,cf,cr,bp,df,((a0u (a0b w_) u7).2),u8,u9) ⟨(ac2 v1 (all_cons (α:=bP) b2.1 nA)),Q4,bq,b2.2.1,b2.2.2,(by first|assumption|exact anw Q12 Q12),Q11,(by rw [v8];rw [a6y];simp only [b6,b8,h2,↓reduceIte])⟩ Q1 [0,12,13,14,15,16,17,18,19,20,21,32,33,34,35,36,37,38,39,40,41,43]
 refine SA ?_;refine zU [65] 43 ?_
 exact ITr Z (bi,bj,_,((l++[u7]):List bP),i-1,a2,a3,aa,ae,a8,a9,a5,a4,a0,a1,ac,ad,aj,ai,a7,a6,ah,ag,ab,af,w_,u8,u9) ⟨(ac2 v1 (all_cons (α:=bP) b2.1 nA)),Q4,v3,b2.2.1,b2.2.2,(by first|assumption|exact anw Q12 Q12),Q11,(by rw [v8];rw [a6y];simp only [b6,b8,h2,↓reduceIte,Bool.false_eq_true])⟩ Q1 [0,12,13,14,15,16,17,18,19,20,21,32,33,34,35,36,37,38,39,40,41,43]
 have b7:=v8.trans (show _=((l:List bP),i,w_,ak,al) by rw [a6y];simp only [b6,↓reduceIte]);refine zW 56 32 ?_;refine zW 57 33 ?_;refine zW 58 34 ?_;refine zW 59 35 ?_;refine zW 60 36 ?_;refine zW 61 37 ?_;refine zW 62 38 ?_;refine zW 63 39 ?_;refine zW 64 40 ?_;refine zW 65 41 ?_;refine zW 66 12 ?_;refine zW 67 13 ?_;refine zW 68 14 ?_;refine zW 69 15 ?_;refine zW 70 16 ?_;refine zW 71 17 ?_;refine zW 72 18 ?_;refine zW 73 19 ?_;refine zW 74 20 ?_;refine zW 75 21 ?_;refine yD [0,2,3,4,5] λbs G0 du=>?_;refine dT 5 [3] ?_
 refine DX.toTX λS_=>?_;refine TX.all2 0 2 J ?_ ?_;refine TS.op 0 Z J ?_;refine R0 ?_;refine WX.back0 ?_;refine TX.all2 2 3 J ?_ ?_;refine TS.op 2 Z J ?_;refine R0 ?_;refine WX.back0 ?_;refine TX.tail [3,4,5] Z Z J ?_;rotate_left;refine TS.op 3 Z J ?_;refine R0 ?_;refine WX.back0 ?_;refine TX.all2 2 4 J ?_ ?_;refine TS.op 2 Z J ?_;refine R0 ?_;refine WX.back0 ?_;refine TX.tail [4,5] Z Z J ?_;rotate_left;refine TS.op 4 Z J ?_;refine R0 ?_;refine WX.back0 ?_;refine TX.tail [2,5] Z Z J ?_;rotate_left;refine TS.op 2 Z J ?_;refine R0 ?_;refine WX.back0 ?_
 refine TX.tail [0,3,4,5] Z Z J ?_;rotate_left
 all_goals
  refine yE 17 43 76 ?_;have bc:ab1 c_b c_i c_h most=(u1,l,w_,ak,al):=by simp only [ab1,bf,b9,b7]
  have bg:=bc.symm.trans hres;obtain ⟨bg,b5⟩:=Prod.mk.inj bg;obtain ⟨b5,be⟩:=Prod.mk.inj b5;obtain ⟨be,bb⟩:=Prod.mk.inj be;obtain ⟨bb,bz⟩:=Prod.mk.inj bb;subst bg;subst b5;subst be;subst bb;subst bz;exact zY [12,13,14,15,16,17,18,19,20,21,77,32,33,34,35,36,37,38,39,40,41] ((nT p1 c1 p2 c2 p3 c3 p4 c4 p5 c5 p6 c6 p7 c7 p8 c8 p9 c9 ca cz),(pl,cl),(nT a2 a3 aa ae a8 a9 a5 a4 a0 a1 ac ad aj ai a7 a6 ah ag ab af)) (⟨b4.1,⟨(aby Q0 v1:ok n (l:List bP)),⟨v3,⟨v4,v5⟩⟩⟩⟩)
theorem f20 (hn:n+9<=9){H:GH}(hH:Le H (hp w)){bc_:Nat}{c_b:List UInt8}(N0:RdSl (cut (hp w) H) K0 M0 c_b){c_i:Int}{c_h:Int}{most:Int}(hown:Sep H [cu bc_ K0 c_b M0 c_i c_h])(a0:ok n c_b)(a3:NN c_i)(a2:ok n c_h)(hq0:0<=most/\most<=1000)(a1:ok n most){o0_:aD}{o1_:Int}{o2_:Int}(hres:aab c_b c_i c_h most=(o0_,o1_,o2_)):
 Does Tryz.prog 20 #[.pointer (some ⟨bc_,0,none⟩),vI most] w H (Post w H (λx:GoT.X (aD)=> .agg ⟨GoT.sh (o0_:aD) x⟩) (λx=>cu bc_ K0 c_b M0 o1_ o2_::GoT.oa (o0_:aD) x) (ok n (o0_:aD)/\NN (o1_)/\I64 (o2_))):=by
 have hb:=bS9 hn;have a8:c_b.length<=bd n:=(okl a0).1;refine WX.enterP (tt:=tt) (Γ:=[(0,MF.rs .stb K0 M0 c_b)]) 1 Tryz.func20 Z J Z (ac6 Z N0 ac8) hH hown (λf hf=>by cases hf) Z ?_;obtain ⟨⟨u1,u2,u3,u4,u5⟩,a7⟩:=xE (ab1 c_b c_i c_h most);refine KQ Z 999 2 Z Z O (λw β H η σ Y=>f52 n Q0 η (Y.q 0 Z) σ a0 a3 a2 Q13 a1 a7) ?_
 rintro ⟨⟨⟨_,p1,c1⟩,⟨⟨p2,c2⟩,⟨p3,c3⟩,⟨p4,c4⟩,p5,c5⟩,⟨p6,c6⟩,⟨p7,c7⟩,_,⟨p8,c8⟩,⟨p9,c9⟩,⟨ay,az⟩,_⟩,⟨b0,ax⟩,⟨⟨_,aa,af⟩,⟨⟨aq,ap⟩,⟨aw,al⟩,⟨ah,ag⟩,am,av⟩,⟨ar,a9⟩,⟨ad,ao⟩,_,⟨aj,ak⟩,⟨ab,ae⟩,⟨au,ac⟩,_⟩⟩ a5;dsimp only
 have ai:aab c_b c_i c_h most=(u3,u4,u5):=by simp only [aab,a7]
 have a6:=ai.symm.trans hres;obtain ⟨a6,a4⟩:=Prod.mk.inj a6;obtain ⟨a4,an⟩:=Prod.mk.inj a4;subst a6;subst a4;subst an;exact yY [34,35,36,37,38,39,40,41,42,43] (nT aa af aq ap aw al ah ag am av ar a9 ad ao aj ak ab ae au ac) ⟨a5.2.2.1,⟨a5.2.2.2.1,a5.2.2.2.2⟩⟩
theorem f6 (hn:n+9<=9){code:List UInt8}(N0:Rd w K0 M0 code)(a0:ok n code):
 DP 6 #[vS K0 code M0] w (pA w n (a0v code)):=by
 have hb:=bS9 hn;refine EN Tryz.func6 Z (aS1 N0) ?_;obtain ⟨⟨u1,u2⟩,a2⟩:=xE (aa8 code);refine KG Z (ds:=λ_=>[]) 1 (λ_ _ _=>All.nil) (λ_ f hf=>by cases hf) Z Z Z Z Z O Z (λw G bs hI hΓ=>f19 n Q0 (hΓ.get 0 Z) a0 a2) O O ?_;rintro a9 a3;refine WX.adopt 5 1 Z Z Z ?_;refine KV Z Z O (λw Y=>f21 n Q0 (Y.q 0 Z) a0 (i6 50)) λa4=>?_;have q1:=aqa code (Nat.le_trans (okl a0).1 (by have:=aj4 (n:=n) Q0;omega));have r1:=(okl a0).1;have r2:=i8 a4;refine SA0 ?_
 obtain ⟨⟨u3,u4,u5⟩,a1⟩:=xE (aab code u1 u2 (30+(a4z code 50)));refine CQ 5 2 Z Z O (λw β H η σ Y=>f20 n Q0 η (Y.q 0 Z) σ a0 a3.1 a3.2 Q13 (i6 (30+(a4z code 50))) a1) ?_;rintro ⟨⟨_,p1,c1⟩,⟨⟨p2,c2⟩,⟨p3,c3⟩,⟨p4,c4⟩,p5,c5⟩,⟨p6,c6⟩,⟨p7,c7⟩,_,⟨p8,c8⟩,⟨p9,c9⟩,⟨a5,a7⟩,_⟩ a8;dsimp only
 have a6:a0v code=u3:=axn a2 a1;refine R0 ?_;rw [a6];exact zX [12,13,14,15,16,17,18,19,20,21] (nT p1 c1 p2 c2 p3 c3 p4 c4 p5 c5 p6 c6 p7 c7 p8 c8 p9 c9 a5 a7) a8.1
end Go.Proofs.YthdfhghdipdknaaGreat
namespace Go.Stp
def a9c (b:(List aQ)):List aQ->Nat->Option (Bool)|[],i=>none|e1::rest_,i=>match (b)[i]? with|none=>default|some e2=>bif (!(bif (e1.a==e2.a)then (e1.b==e2.b)else false))then (some false)else a9c b rest_ (i+1)
def aac (a:(List aQ))(b:(List aQ)):Bool:=bif (((a).length:Int) !=((b).length:Int))then false else match a9c b a 0 with|some r_=>r_|none=>true
def a83 (b:(List Key)):List Key->Nat->Option (Bool)|[],i=>none|e1::rest_,i=>match (b)[i]? with|none=>default|some e2=>bif (e1.bZ !=e2.bZ)then (some false)else bif (!(a4f e1.name e2.name))then (some false)else a83 b rest_ (i+1)
def a9d (a:(List Key))(b:(List Key)):Bool:=bif (((a).length:Int) !=((b).length:Int))then false else match a83 b a 0 with|some r_=>r_|none=>true
def a9e (b:(List aA)):List aA->Nat->Option (Bool)|[],i=>none|e1::rest_,i=>match (b)[i]? with|none=>default|some e2=>bif (!(a4f e1 e2))then (some false)else a9e b rest_ (i+1)
def aad (a:(List aA))(b:(List aA)):Bool:=bif (((a).length:Int) !=((b).length:Int))then false else match a9e b a 0 with|some r_=>r_|none=>true
def a84 (b:bU):List bO->Nat->Option (Bool)|[],i=>none|e1::rest_,i=>match (b.bR)[i]? with|none=>default|some e2=>bif (!(a7z e1.cJ.parts e2.cJ.parts))then (some false)else bif (!(a7z e1.cK.parts e2.cK.parts))then (some false)else a84 b rest_ (i+1)
def a60 (a:bU)(b:bU):Bool:=bif (!(a9d a.keys b.keys))then false else bif (((a.bR).length:Int) !=((b.bR).length:Int))then false else bif (!(aad a.bV b.bV))then false else bif (!(a95 a.bW b.bW))then false else match a84 b a.bR 0 with|some r_=>r_|none=>true
def a9f (b:(List Int)):List Int->Nat->Option (Bool)|[],i=>none|e1::rest_,i=>match (b)[i]? with|none=>default|some e2=>bif (e1 !=e2)then (some false)else a9f b rest_ (i+1)
def aae (a:(List Int))(b:(List Int)):Bool:=bif (((a).length:Int) !=((b).length:Int))then false else match a9f b a 0 with|some r_=>r_|none=>true
def a85 (b:bX):List aT->Nat->Option (Bool)|[],i=>none|e1::rest_,i=>match (b.bB)[i]? with|none=>default|some e2=>bif (e1.cO !=e2.cO)then (some false)else bif (!(a5f e1.data e2.data))then (some false)else a85 b rest_ (i+1)
def a86 (a:bX)(b:bX):Bool:=bif (a.cA !=b.cA)then false else bif (((a.bB).length:Int) !=((b.bB).length:Int))then false else match a85 b a.bB 0 with|some r_=>r_|none=>true
def a87 (e1:aO)(e2:aO)(i2:Nat):Ctl (Bool) (Nat):=if ((i2:Nat):Int)<((e1.bK).length:Int)then match (e1.bK)[i2]? with|none=>default|some e3=>match (e2.bK)[i2]? with|none=>default|some e4=>if (!(bif (e3.face==e4.face)then (bif (e3.bI==e4.bI)then (e3.expiry==e4.expiry)else false)else false))=true then (Ctl.ret false)else a87 e1 e2 (i2+1)else (Ctl.nxt i2)
termination_by e1.bK.length - i2
decreasing_by all_goals (simp_wf; omega)
def a61 (b:(List aO)):List aO->Nat->Option (Bool)|[],i=>none|e1::rest_,i=>match (b)[i]? with|none=>default|some e2=>bif (e1.cH !=e2.cH)then (some false)else bif (!(a4f e1.name e2.name))then (some false)else bif (((e1.bK).length:Int) !=((e2.bK).length:Int))then (some false)else match a87 e1 e2 0 with| .ret r_=>(some r_)| .nxt i2=>a61 b rest_ (i+1)
def a6z (a:(List aO))(b:(List aO)):Bool:=bif (((a).length:Int) !=((b).length:Int))then false else match a61 b a 0 with|some r_=>r_|none=>true
def a88 (b:(List bA)):List bA->Nat->Option (Bool)|[],i=>none|e1::rest_,i=>match (b)[i]? with|none=>default|some e2=>bif (e1.bI !=e2.bI)then (some false)else bif (!(a4f e1.name e2.name))then (some false)else a88 b rest_ (i+1)
def a9g (a:(List bA))(b:(List bA)):Bool:=bif (((a).length:Int) !=((b).length:Int))then false else match a88 b a 0 with|some r_=>r_|none=>true
def a70 (b:(List aB)):List aB->Nat->Option (Bool)|[],i=>none|e1::rest_,i=>match (b)[i]? with|none=>default|some e2=>bif (e1.face !=e2.face)then (some false)else bif (e1.cost !=e2.cost)then (some false)else bif (!(a4f e1.pfx e2.pfx))then (some false)else a70 b rest_ (i+1)
def a89 (a:(List aB))(b:(List aB)):Bool:=bif (((a).length:Int) !=((b).length:Int))then false else match a70 b a 0 with|some r_=>r_|none=>true
def a71 (b:(List aS)):List aS->Nat->Option (Bool)|[],i=>none|e1::rest_,i=>match (b)[i]? with|none=>default|some e2=>bif (e1.face !=e2.face)then (some false)else bif (e1.cE !=e2.cE)then (some false)else bif (!(a4f e1.pfx e2.pfx))then (some false)else a71 b rest_ (i+1)
def a8a (a:(List aS))(b:(List aS)):Bool:=bif (((a).length:Int) !=((b).length:Int))then false else match a71 b a 0 with|some r_=>r_|none=>true
def a62 (a:aH)(b:aH):Bool:=bif (a95 a.bF b.bF)then bif (a86 a.bG b.bG)then bif (a6z a.bH b.bH)then bif (a9g a.bS b.bS)then bif (a89 a.bM b.bM)then bif (a8a a.bQ b.bQ)then (a.aP==b.aP)else false else false else false else false else false else false
def a9h (b:aD):List aX->Nat->Option (Bool)|[],i=>none|e5::rest_,i=>match (b.aE)[i]? with|none=>default|some e6=>bif (!(a5z e5 e6))then (some false)else a9h b rest_ (i+1)
def a5g (b:aD):List aZ->Nat->Option (Bool)|[],i=>none|e3::rest_,i=>match (b.aL)[i]? with|none=>default|some e4=>bif (e3.to !=e4.to)then (some false)else bif (e3.face !=e4.face)then (some false)else bif (!(e3.cI==e4.cI))then (some false)else bif (!(a98 e3.bT e4.bT))then (some false)else bif (!(a5f e3.data e4.data))then (some false)else a5g b rest_ (i+1)
def a9i (b:aD):List aH->Nat->Option (Bool)|[],i=>none|e1::rest_,i=>match (b.aI)[i]? with|none=>default|some e2=>bif (!(a62 e1 e2))then (some false)else a9i b rest_ (i+1)
def a2y (a:aD)(b:aD):Bool:=bif (a.aG.size !=b.aG.size)then false else bif (!(aac a.aG.links b.aG.links))then false else bif (!(a60 a.aF b.aF))then false else bif (!(a92 a.aM b.aM))then false else bif (((a.aI).length:Int) !=((b.aI).length:Int))then false else bif (a.aY !=b.aY)then false else bif (!(aae a.aU b.aU))then false else bif (((a.aL).length:Int) !=((b.aL).length:Int))then false else bif (((a.aE).length:Int) !=((b.aE).length:Int))then false else bif (a.now !=b.now)then false else bif (a.aP !=b.aP)then false else match a9i b a.aI 0 with|some r_=>r_|none=>match a5g b a.aL 0 with|some r_=>r_|none=>match a9h b a.aE 0 with|some r_=>r_|none=>true
def a8b (n_:Int):List Int->Option (Bool)|[]=>none|e1::rest_=>bif (e1==n_)then (some true)else a8b n_ rest_
def a5h (l:(List Int))(n_:Int):Bool:=match a8b n_ l with|some r_=>r_|none=>false
end Go.Stp
namespace Go.Proofs.YthdfhghdipdknaaGreat
open Go.Stp
open Go.Stp.GoT (ok)
variable {w : World} (n : Nat) {K0 K1 K2 K3 K4 K5 K6 K7 K8 K9 K10 K11 K12 K13 K14 K15 K16 K17 K18 K19 : Option Addr} {M0 M1 M2 M3 M4 M5 M6 M7 M8 M9 M10 M11 M12 M13 M14 M15 M16 M17 M18 M19 : Nat}
theorem f22 (hn:n+0<=9){a:List aQ}(N0:Rd w K0 M0 a){b:List aQ}(N1:Rd w K1 M1 b)(a0:ok n a)(a2:ok n b):
 DP 22 #[vS K0 a M0,vS K1 b M1] w (pB (aac a b)):=by
 have hb:=bS0 hn;refine EN Tryz.func22 Z (aS2 N0 N1) ?_;refine yKM 10 ?_ ?_<;>intro h1 af;exact R4r Z Z (by simp only [aac,h1,cC]);have r1:=(okl a0).1;refine LS 5 a (a9c b) [0,1] [] [0,1] ?_;rintro i ⟨v1,v2⟩;refine yKD 14 ?_ ?_<;>intro h2 ab;obtain ⟨e1,a4,ac,a8⟩:=gO a0 i;refine yD [] λbs G0 a1=>?_;refine dT 7 [1,3] ?_;refine zDI 2 0 i a1 Z a8 ?_;rintro ae rfl;refine zDL 3 0 2 e1 a1 a4 ?_;rintro _;refine dT 3 [9,11] ?_;obtain ⟨e2,a3,aa,a6⟩:=gO a2 i;refine zDI 6 1 i a1 Z a6 ?_;rintro ad rfl;refine zDL 7 1 2 e2 a1 a3 ?_
 rintro _;refine DX.see 8 J Z Z Z Z (aqn ttOk Z Z Z J J Z Z Z Z Q9 Q9 Z Z Z Z Z) ?_;refine DX.tail2 [] Z Z J ?_;refine yKN 25 ?_ ?_<;>intro h3 a9;have a7:=v2.trans (show _=(some false) by rw [abu a4];simp only [a9c,a3,h3,cC]);exact R4r Z Z (by simp only [aac,h1,a7,cC]);refine SA ?_;exact ITr Z (i+1) ⟨Q0,(by rw [v2,abu a4];simp only [a9c,a3,h3,cC])⟩ Q1 [0,1];have a5:=v2.trans (show _=none by rw [dn];simp only [a9c];omega)
 exact R4r Z Z (by simp only [aac,h1,a5,cC])
theorem f53 (hn:n+0<=9){a:List Key}(N0:Rd w K0 M0 a){b:List Key}(N1:Rd w K1 M1 b)(a2:ok n a)(a4:ok n b):
 DP 53 #[vS K0 a M0,vS K1 b M1] w (pB (a9d a b)):=by
 have hb:=bS0 hn;refine EN Tryz.func53 Z (aS2 N0 N1) ?_;refine yKM 10 ?_ ?_<;>intro h1 ai;exact R4r Z Z (by simp only [a9d,h1,cC]);have r1:=(okl a2).1;refine LS 5 a (a83 b) [0,1] [] [0,1] ?_;rintro i ⟨v1,v2⟩;refine yKD 14 ?_ ?_<;>intro h2 ad;obtain ⟨e1,a3,ab,a8⟩:=gO a2 i;refine yD [] λbs G0 a0=>?_;refine dT 23 [1,3] ?_;refine zDI 2 0 i a0 Z a8 ?_;rintro ag rfl;refine dT 21 [7] ?_;refine zDL 4 0 2 e1 a0 a3 ?_;rintro ⟨⟨p1,c1⟩,_⟩;refine dT 18 [11,13] ?_;obtain ⟨e2,a1,aa,a7⟩:=gO a4 i;refine zDI 7 1 i a0 Z a7 ?_;rintro af rfl
 refine dT 16 [17] ?_;refine zDL 9 1 3 e2 a0 a1 ?_;rintro ⟨⟨p2,c2⟩,_⟩;refine dT 13 [21,23] ?_;refine zDC 28 ?_ ?_<;>intro h3;have a9:=B.nt' h3;refine dT 0 [25,27,29,31,33,35,37,39,41,43,45,47,49] ?_;refine DX.tail2 [] Z Z J ?_;have a5:=v2.trans (show _=(some false) by rw [abu a3];simp only [a83,a1,h3,cC]);exact R4r Z Z (by simp only [a9d,h1,a5,cC]);have a9:=B.nf' h3;refine dT 11 [25,27] ?_;refine zDI 14 0 i a0 Z a8 ?_;rintro ac ⟨⟩;refine dT 9 [31] ?_;refine zDL 16 0 4 e1 a0 a3 ?_;rintro ⟨⟨p3,c3⟩,_⟩;refine dT 6 [35,37] ?_
 refine zDI 19 1 i a0 Z a7 ?_;rintro aj ⟨⟩;refine dT 4 [41] ?_;refine zDL 21 1 5 e2 a0 a1 ?_;rintro ⟨⟨p4,c4⟩,_⟩;refine DXV 22 Z J Z O (λw Y=>f57 n Q0 e1.name (Y.q 4 Z) e2.name (Y.q 5 Z) ((agz ab).1) ((agz aa).1)) λah=>?_;refine dT 0 [47,49] ?_;refine DX.tail2 [] Z Z J ?_;refine yKN 41 ?_ ?_<;>intro h4 ae;have a5:=v2.trans (show _=(some false) by rw [abu a3];simp only [a83,a1,h3,h4,cC]);exact R4r Z Z (by simp only [a9d,h1,a5,cC]);refine SA ?_
 exact ITr Z (i+1) ⟨Q0,(by rw [v2,abu a3];simp only [a83,a1,h3,h4,cC])⟩ Q1 [0,1];have a6:=v2.trans (show _=none by rw [dn];simp only [a83];omega);exact R4r Z Z (by simp only [a9d,h1,a6,cC])
theorem f54 (hn:n+0<=9){a:List aA}(N0:Rd w K0 M0 a){b:List aA}(N1:Rd w K1 M1 b)(a0:ok n a)(a2:ok n b):
 DP 54 #[vS K0 a M0,vS K1 b M1] w (pB (aad a b)):=by
 have hb:=bS0 hn;refine EN Tryz.func54 Z (aS2 N0 N1) ?_;refine yKM 10 ?_ ?_<;>intro h1 ag;exact R4r Z Z (by simp only [aad,h1,cC]);have r1:=(okl a0).1;refine LS 5 a (a9e b) [0,1] [] [0,1] ?_;rintro i ⟨v1,v2⟩;refine yKD 14 ?_ ?_<;>intro h2 ac;obtain ⟨e1,a4,a8,aa⟩:=gO a0 i;refine yD [] λbs G0 a1=>?_;refine dT 8 [1,3] ?_;refine zDI 2 0 i a1 Z aa ?_;rintro ae rfl;refine zDL 3 0 2 e1 a1 a4 ?_;rintro ⟨p1,c1⟩;refine dT 4 [9,11] ?_;obtain ⟨e2,a3,a6,a7⟩:=gO a2 i;refine zDI 6 1 i a1 Z a7 ?_;rintro ad rfl;refine zDL 7 1 3 e2 a1 a3 ?_
 rintro ⟨p2,c2⟩;refine DXV 8 Z J Z O (λw Y=>f57 n Q0 e1 (Y.q 2 Z) e2 (Y.q 3 Z) a8 a6) λaf=>?_;refine dT 0 [19] ?_;refine DX.tail2 [] Z Z J ?_;refine yKN 26 ?_ ?_<;>intro h3 ab;have a9:=v2.trans (show _=(some false) by rw [abu a4];simp only [a9e,a3,h3,cC]);exact R4r Z Z (by simp only [aad,h1,a9,cC]);refine SA ?_;exact ITr Z (i+1) ⟨Q0,(by rw [v2,abu a4];simp only [a9e,a3,h3,cC])⟩ Q1 [0,1]
 have a5:=v2.trans (show _=none by rw [dn];simp only [a9e];omega);exact R4r Z Z (by simp only [aad,h1,a5,cC])
theorem f23 (hn:n+0<=9)(a:bU)(N0:Rd w K0 M0 a.keys)(N1:Rd w K1 M1 a.bR)(N2:Rd w K2 M2 a.bV)(N3:Rd w K3 M3 a.bW)(b:bU)(N4:Rd w K4 M4 b.keys)(N5:Rd w K5 M5 b.bR)(N6:Rd w K6 M6 b.bV)(N7:Rd w K7 M7 b.bW)(a0:ok n a)(a1:ok n b):
 DP 23 #[ado a K0 M0 K1 M1 K2 M2 K3 M3,ado b K4 M4 K5 M5 K6 M6 K7 M7] w (pB (a60 a b)):=by
 have hb:=bS0 hn;refine EN Tryz.func23 Z (aC 0 N0 (aC 1 N1 (aC 2 N2 (aC 3 N3 (aC 4 N4 (aC 5 N5 (aC 6 N6 (aC 7 N7 ac8)))))))) ?_;refine KV Z Z O (λw Y=>f53 n Q0 (Y.q 0 Z) (Y.q 4 Z) ((ac4 a0).1) ((ac4 a1).1)) λan=>?_;refine yKN 12 ?_ ?_<;>intro h1 ao;exact R4r Z Z (by simp only [a60,h1,cC]);refine yKM 21 ?_ ?_<;>intro h2 af;exact R4r Z Z (by simp only [a60,h1,h2,cC]);refine KV Z Z O (λw Y=>f54 n Q0 (Y.q 2 Z) (Y.q 6 Z) ((ac4 a0).2.2.1) ((ac4 a1).2.2.1)) λac=>?_
 refine yKN 29 ?_ ?_<;>intro h3 ae;exact R4r Z Z (by simp only [a60,h1,h2,h3,cC]);refine KV Z Z O (λw Y=>f55 n Q0 (Y.q 3 Z) (Y.q 7 Z) ((ac4 a0).2.2.2) ((ac4 a1).2.2.2)) λam=>?_;refine yKN 36 ?_ ?_<;>intro h4 ah;exact R4r Z Z (by simp only [a60,h1,h2,h3,h4,cC]);have r1:=(okl (ac4 a0).2.1).1;refine LS 5 a.bR (a84 b) [3,2] [3,2] [0,1,2,3,4,5,6,7] ?_;rintro i ⟨v1,v2⟩;refine yKD 41 ?_ ?_<;>intro h5 ai;obtain ⟨e1,a4,a9,aa⟩:=gO (ac4 a0).2.1 i
 refine yD [] λbs G0 a2=>?_;refine dT 31 [1,2,5] ?_;refine zDI 3 1 i a2 Z aa ?_;rintro al rfl;refine dT 28 [9,11] ?_;refine zDL 6 1 8 e1 a2 a4 ?_;rintro ⟨⟨p1,c1⟩,p2,c2⟩;refine dT 24 [15,16,19] ?_;obtain ⟨e2,a3,a7,a8⟩:=gO (ac4 a1).2.1 i;refine zDI 10 5 i a2 Z a8 ?_;rintro ak rfl;refine dT 21 [23,25] ?_;refine zDL 13 5 10 e2 a2 a3 ?_;rintro ⟨⟨p3,c3⟩,p4,c4⟩;refine DXV 14 Z J Z O (λw Y=>f56 n Q0 (Y.q 8 Z) (Y.q 10 Z) (ada (ae5 a9).1) (ada (ae5 a7).1)) λag=>?_;refine dT 17 [31,33] ?_;refine zDC 60 ?_ ?_<;>intro h6
 have ab:=B.nt h6;refine dT 0 [35,37,39,41,43,45,47,49,51,53,55,57,59,61,63,65,67] ?_;refine DX.tail2 [] Z Z J ?_;have a5:=v2.trans (show _=(some false) by rw [abu a4];simp only [a84,a3,h6,cC]);exact R4r Z Z (by simp only [a60,h1,h2,h3,h4,a5,cC]);have ab:=B.nf h6;refine dT 14 [35,36,39] ?_;refine zDI 20 1 i a2 Z aa ?_;rintro ad ⟨⟩;refine dT 11 [43,45] ?_;refine zDL 23 1 12 e1 a2 a4 ?_;rintro ⟨⟨p5,c5⟩,p6,c6⟩;refine dT 7 [49,50,53] ?_;refine zDI 27 5 i a2 Z a8 ?_;rintro aq ⟨⟩;refine dT 4 [57,59] ?_
 refine zDL 30 5 14 e2 a2 a3 ?_;rintro ⟨⟨p7,c7⟩,p8,c8⟩;refine DXV 31 Z J Z O (λw Y=>f56 n Q0 (Y.q 13 Z) (Y.q 15 Z) (ada (ae5 a9).2) (ada (ae5 a7).2)) λap=>?_;refine dT 0 [65,67] ?_;refine DX.tail2 [] Z Z J ?_;refine yKN 77 ?_ ?_<;>intro h7 aj;have a5:=v2.trans (show _=(some false) by rw [abu a4];simp only [a84,a3,h6,h7,cC]);exact R4r Z Z (by simp only [a60,h1,h2,h3,h4,a5,cC]);refine SA ?_
 exact ITr Z (i+1) ⟨Q0,(by rw [v2,abu a4];simp only [a84,a3,h6,h7,cC])⟩ Q1 [0,1,2,3,4,5,6,7];have a6:=v2.trans (show _=none by rw [dn];simp only [a84];omega);exact R4r Z Z (by simp only [a60,h1,h2,h3,h4,a6,cC])
theorem f25 (hn:n+0<=9){a:List Int}(N0:Rd w K0 M0 a){b:List Int}(N1:Rd w K1 M1 b)(a0:ok n a)(a2:ok n b):
 DP 25 #[vS K0 a M0,vS K1 b M1] w (pB (aae a b)):=by
 have hb:=bS0 hn;refine EN Tryz.func25 Z (aS2 N0 N1) ?_;refine yKM 10 ?_ ?_<;>intro h1 af;exact R4r Z Z (by simp only [aae,h1,cC]);have r1:=(okl a0).1;refine LS 5 a (a9f b) [0,1] [] [0,1] ?_;rintro i ⟨v1,v2⟩;refine yKD 14 ?_ ?_<;>intro h2 ab;obtain ⟨e1,a4,ac,a8⟩:=gO a0 i;refine yD [] λbs G0 a1=>?_;refine dT 7 [1,3] ?_;refine zDI 2 0 i a1 Z a8 ?_;rintro ae rfl;refine zDL 3 0 2 e1 a1 a4 ?_;rintro ⟨⟩;refine dT 3 [9,11] ?_;obtain ⟨e2,a3,aa,a6⟩:=gO a2 i;refine zDI 6 1 i a1 Z a6 ?_;rintro ad rfl;refine zDL 7 1 2 e2 a1 a3 ?_;rintro ⟨⟩
 refine dT 0 [17] ?_;refine DX.tail2 [] Z Z J ?_;refine yKM 25 ?_ ?_<;>intro h3 a9;have a7:=v2.trans (show _=(some false) by rw [abu a4];simp only [a9f,a3,h3,cC]);exact R4r Z Z (by simp only [aae,h1,a7,cC]);refine SA ?_;exact ITr Z (i+1) ⟨Q0,(by rw [v2,abu a4];simp only [a9f,a3,h3,cC])⟩ Q1 [0,1];have a5:=v2.trans (show _=none by rw [dn];simp only [a9f];omega);exact R4r Z Z (by simp only [aae,h1,a5,cC])
theorem f58 (hn:n+0<=9)(a:bX)(N0:Rd w K0 M0 a.bB)(b:bX)(N1:Rd w K1 M1 b.bB)(a2:ok n a)(a4:ok n b):
 DP 58 #[ady a K0 M0,ady b K1 M1] w (pB (a86 a b)):=by
 have hb:=bS0 hn;refine EN Tryz.func58 Z (aS2 N0 N1) ?_;refine yKM 11 ?_ ?_<;>intro h1 ap;exact R4r Z Z (by simp only [a86,h1,cC]);refine yKM 19 ?_ ?_<;>intro h2 ai;exact R4r Z Z (by simp only [a86,h1,h2,cC]);have r1:=(okl (aca a2).2).1;refine LS 5 a.bB (a85 b) [3,2] [3,2] [0,1] ?_;rintro i ⟨v1,v2⟩;refine yKD 24 ?_ ?_<;>intro h3 af;obtain ⟨e1,a3,aa,a8⟩:=gO (aca a2).2 i;refine yD [] λbs G0 a0=>?_;refine dT 26 [1,2,5] ?_;refine zDI 3 0 i a0 Z a8 ?_;rintro am rfl;refine dT 24 [9] ?_
 refine zDL 5 0 2 e1 a0 a3 ?_;rintro ⟨⟨⟨p1,c1⟩,⟨p2,c2⟩,⟨p3,c3⟩,_⟩,_⟩;refine dT 20 [13,14,17] ?_;obtain ⟨e2,a1,a9,a7⟩:=gO (aca a4).2 i;refine zDI 9 1 i a0 Z a7 ?_;rintro al rfl;refine dT 18 [21] ?_;refine zDL 11 1 5 e2 a0 a1 ?_;rintro ⟨⟨⟨p4,c4⟩,⟨p5,c5⟩,⟨p6,c6⟩,_⟩,_⟩;refine dT 15 [25,27] ?_;refine zDC 40 ?_ ?_<;>intro h4;have ab:=B.nt' h4;refine dT 0 [29,31,33,35,37,39,41,43,45,47,49,51,53,55,57] ?_;refine DX.tail2 [] Z Z J ?_;have a5:=v2.trans (show _=(some false) by rw [abu a3];simp only [a85,a1,h4,cC])
 exact R4r Z Z (by simp only [a86,h1,h2,a5,cC]);have ab:=B.nf' h4;refine dT 12 [29,30,33] ?_;refine zDI 17 0 i a0 Z a8 ?_;rintro ad ⟨⟩;refine dT 10 [37] ?_;refine zDL 19 0 8 e1 a0 a3 ?_;rintro ⟨⟨⟨p7,c7⟩,⟨p8,c8⟩,⟨p9,c9⟩,_⟩,_⟩;refine dT 6 [41,42,45] ?_;refine zDI 23 1 i a0 Z a7 ?_;rintro aq ⟨⟩;refine dT 4 [49] ?_;refine zDL 25 1 11 e2 a0 a1 ?_;rintro ⟨⟨⟨ag,aj⟩,⟨an,ae⟩,⟨ac,ah⟩,_⟩,_⟩
 refine DXV 26 Z J Z O (λw Y=>f28 n Q0 e1.data (Y.q 8 Z) (Y.q 9 Z) (Y.q 10 Z) e2.data (Y.q 11 Z) (Y.q 12 Z) (Y.q 13 Z) ((ad5 aa).1) ((ad5 a9).1)) λao=>?_;refine dT 0 [55,57] ?_;refine DX.tail2 [] Z Z J ?_;refine yKN 55 ?_ ?_<;>intro h5 ak;have a5:=v2.trans (show _=(some false) by rw [abu a3];simp only [a85,a1,h4,h5,cC]);exact R4r Z Z (by simp only [a86,h1,h2,a5,cC]);refine SA ?_
 exact ITr Z (i+1) ⟨Q0,(by rw [v2,abu a3];simp only [a85,a1,h4,h5,cC])⟩ Q1 [0,1];have a6:=v2.trans (show _=none by rw [dn];simp only [a85];omega);exact R4r Z Z (by simp only [a86,h1,h2,a6,cC])
theorem f59 (hn:n+0<=9){a:List aO}(N0:Rd w K0 M0 a){b:List aO}(N1:Rd w K1 M1 b)(a6:ok n a)(a9:ok n b):
 DP 59 #[vS K0 a M0,vS K1 b M1] w (pB (a6z a b)):=by
 have hb:=bS0 hn;refine EN Tryz.func59 Z (aS2 N0 N1) ?_;refine yKA 11 ?_ ?_<;>intro h1;have ap:(a.length:Int)≠(b.length:Int):=B.nt' h1;exact R4r Z Z (by simp only [a6z,h1,cC]);have ap:(a.length:Int)=(b.length:Int):=B.nf' h1;have r1:=(okl a6).1;refine LS 5 a (a61 b) [0,1] [] [0,1] ?_;rintro i ⟨v1,v2⟩;refine yKA 15 ?_ ?_<;>intro h2;have an:(((i:Nat):Int)<(a.length:Int)):=B.dt h2;obtain ⟨e1,a0,aa,a5⟩:=gO a6 i;refine yD [] λbs G0 a4=>?_;refine dT 38 [1,3] ?_
 refine zDI 2 0 i a4 Z a5 ?_;rintro b4 rfl;refine dT 36 [7] ?_;refine DX.ldE2 4 0 2 e1 ttOk a4 J Z Z Z Z Z Z Z Z a0 O O O ?_;rintro ⟨⟨p1,c1⟩,⟨p2,c2⟩,_⟩ af;refine dT 33 [11,13] ?_;obtain ⟨e2,a1,ad,a8⟩:=gO a9 i;refine zDI 7 1 i af Z a8 ?_;rintro b3 rfl;refine dT 31 [17] ?_;refine DX.ldE2 9 1 4 e2 ttOk af J Z Z Z Z Z Z Z Z a1 O O O ?_;rintro ⟨⟨p3,c3⟩,⟨p4,c4⟩,_⟩ ag;refine dT 28 [21,23] ?_;refine zDC 29 ?_ ?_<;>intro h3;have am:e1.cH≠e2.cH:=B.nt' h3
 refine dT 0 [25,27,29,31,33,35,37,39,41,43,45,47,49,51,53,55,57,59,61,63,65,67,69,71,73,75,77,79] ?_;refine DX.tail2 [] Z Z J ?_;have a3:=v2.trans (show _=(some false) by rw [abu a0];simp only [a61,a1,h3,cC]);exact R4r Z Z (by simp only [a6z,h1,a3,cC]);have am:e1.cH=e2.cH:=B.nf' h3;refine dT 26 [25,27] ?_;refine zDI 14 0 i ag Z a5 ?_;rintro bp ⟨⟩;refine dT 24 [31] ?_;refine DX.ldE2 16 0 6 e1 ttOk ag J Z Z Z Z Z Z Z Z a0 O O O ?_;rintro ⟨⟨p5,c5⟩,⟨p6,c6⟩,_⟩ ai;refine dT 21 [35,37] ?_
 refine zDI 19 1 i ai Z a8 ?_;rintro bf ⟨⟩;refine dT 19 [41] ?_;refine DX.ldE2 21 1 8 e2 ttOk ai J Z Z Z Z Z Z Z Z a1 O O O ?_;rintro ⟨⟨p7,c7⟩,⟨p8,c8⟩,_⟩ ah;refine DXV 22 Z J Z O (λw Y=>f57 n Q0 e1.name (Y.q 6 Z) e2.name (Y.q 8 Z) ((abx aa).1) ((abx ad).1)) λbw=>?_;refine dT 14 [47,49,51] ?_;refine zDC 43 ?_ ?_<;>intro h4;have ao:=B.nt h4;refine dT 0 [53,55,57,59,61,63,65,67,69,71,73,75,77,79] ?_;refine DX.tail2 [] Z Z J ?_
 have a3:=v2.trans (show _=(some false) by rw [abu a0];simp only [a61,a1,h3,h4,cC]);exact R4r Z Z (by simp only [a6z,h1,a3,cC]);have ao:=B.nf h4;refine dT 12 [53,55] ?_;refine zDI 28 0 i ah Z a5 ?_;rintro bb ⟨⟩;refine dT 10 [59] ?_;refine DX.ldE2 30 0 10 e1 ttOk ah J Z Z Z Z Z Z Z Z a0 O O O ?_;rintro ⟨⟨p9,c9⟩,⟨b8,bh⟩,_⟩ al;refine dT 6 [63,65,67] ?_;refine zDI 34 1 i al Z a8 ?_;rintro bu ⟨⟩;refine dT 4 [71] ?_;refine DX.ldE2 36 1 12 e2 ttOk al J Z Z Z Z Z Z Z Z a1 O O O ?_;rintro ⟨⟨bc,bq⟩,⟨b6,b9⟩,_⟩ be;refine dT 0 [75,77,79] ?_
 refine DX.tail2 [] Z Z J ?_;refine yKA 57 ?_ ?_<;>intro h5;have ar:(e1.bK.length:Int)≠(e2.bK.length:Int):=B.nt' h5;have a3:=v2.trans (show _=(some false) by rw [abu a0];simp only [a61,a1,h3,h4,h5,cC]);exact R4r Z Z (by simp only [a6z,h1,a3,cC]);have ar:(e1.bK.length:Int)=(e2.bK.length:Int):=B.nf' h5
 refine LM Z 0 (λi2=>((i2<=e1.bK.length)/\(a87 e1 e2 0=a87 e1 e2 i2),e1.bK.length-i2,[(6,.v (vI i2))],[],[],[])) ⟨zl,Z⟩ [56,55,54,53,52,51,50,49,48,47,46,45,44,41,40,39,38,37,36,35,34,33,32,31,30,5,0,1] [] [0,1] [0,1] ?_;rintro i2 ⟨v3,v4⟩;have b7:e1.bK.length<=bd n:=(okl (abx aa).2.1).1;refine yI 0 i a5 ?_;rintro b2 ⟨⟩;refine yL 0 14 e1 a0 ?_;rintro ⟨⟨bx,bl⟩,⟨bg,bi⟩,_⟩;refine yKA 65 ?_ ?_<;>intro h6
 have a7:(((i2:Nat):Int)<(e1.bK.length:Int)):=B.dt h6;refine yD [] λbs G0 a4=>?_;refine dT 15 [1,3] ?_;refine zDI 2 0 i a4 Z a5 ?_;rintro br ⟨⟩;refine dT 13 [7] ?_;refine DX.ldE2 4 0 16 e1 ttOk a4 J Z Z Z Z Z Z Z Z a0 O O O ?_;rintro ⟨⟨ba,b1⟩,⟨bv,b5⟩,_⟩ ak;refine dT 11 [11] ?_;obtain ⟨e3,ac,b0,av⟩:=gO (abx aa).2.1 i2;refine zDI 6 17 i2 ak Z av ?_;rintro bt rfl;refine DX.ldE2 7 17 18 e3 ttOk ak J Z Z Z Z Z Z Z Z ac O O O ?_;rintro _ ae;refine dT 7 [17,19] ?_;refine zDI 10 1 i ae Z a8 ?_;rintro au ⟨⟩;refine dT 5 [23] ?_
 refine DX.ldE2 12 1 18 e2 ttOk ae J Z Z Z Z Z Z Z Z a1 O O O ?_;rintro ⟨⟨bm,az⟩,⟨bo,bk⟩,_⟩ aj;refine dT 3 [27] ?_;obtain ⟨e4,ab,bn,aw⟩:=gO (abx ad).2.1 i2;refine zDI 14 19 i2 aj Z aw ?_;rintro aq rfl;refine DX.ldE2 15 19 20 e4 ttOk aj J Z Z Z Z Z Z Z Z ab O O O ?_;rintro _ ax;refine DX.see 16 J Z Z Z Z (arn ttOk Z Z Z J J Z Z Z Z Z Z Q9 Q9 Q9 Z Z Z Z Z Z) ?_;refine DX.tail2 [] Z Z J ?_;refine yKN 84 ?_ ?_<;>intro h7 bj
 have a3:=v4.trans (show _=(Ctl.ret false) by rw [a87];simp only [a7,ac,ab,h7,↓reduceIte]);have ay:=v2.trans (show _=(some false) by rw [abu a0];simp only [a61,a1,h3,h4,h5,a3,cC]);exact R4r Z Z (by simp only [a6z,h1,ay,cC]);refine SA ?_;exact ITr Z (i2+1) ⟨Q0,(by rw [v4];rw [a87];simp only [a7,ac,ab,h7,↓reduceIte,Bool.false_eq_true])⟩ Q1 [0,1]
 have a7:¬(((i2:Nat):Int)<(e1.bK.length:Int)):=B.df h6;have a2:=v4.trans (show _=(Ctl.nxt i2) by rw [a87];simp only [a7,↓reduceIte]);refine SA ?_;exact ITr Z (i+1) ⟨Q0,(by rw [v2,abu a0];simp only [a61,a1,h3,h4,h5,a2,cC])⟩ Q1 [0,1];have an:¬(((i:Nat):Int)<(a.length:Int)):=B.df h2;have a2:=v2.trans (show _=none by rw [dn];simp only [a61];omega)
 exact R4r Z Z (by simp only [a6z,h1,a2,cC])
theorem f60 (hn:n+0<=9){a:List bA}(N0:Rd w K0 M0 a){b:List bA}(N1:Rd w K1 M1 b)(a2:ok n a)(a4:ok n b):
 DP 60 #[vS K0 a M0,vS K1 b M1] w (pB (a9g a b)):=by
 have hb:=bS0 hn;refine EN Tryz.func60 Z (aS2 N0 N1) ?_;refine yKM 10 ?_ ?_<;>intro h1 ai;exact R4r Z Z (by simp only [a9g,h1,cC]);have r1:=(okl a2).1;refine LS 5 a (a88 b) [0,1] [] [0,1] ?_;rintro i ⟨v1,v2⟩;refine yKD 14 ?_ ?_<;>intro h2 ad;obtain ⟨e1,a3,ab,a8⟩:=gO a2 i;refine yD [] λbs G0 a0=>?_;refine dT 23 [1,3] ?_;refine zDI 2 0 i a0 Z a8 ?_;rintro ag rfl;refine dT 21 [7] ?_;refine zDL 4 0 2 e1 a0 a3 ?_;rintro ⟨⟨p1,c1⟩,_⟩;refine dT 18 [11,13] ?_;obtain ⟨e2,a1,aa,a7⟩:=gO a4 i;refine zDI 7 1 i a0 Z a7 ?_;rintro af rfl
 refine dT 16 [17] ?_;refine zDL 9 1 3 e2 a0 a1 ?_;rintro ⟨⟨p2,c2⟩,_⟩;refine dT 13 [21,23] ?_;refine zDC 28 ?_ ?_<;>intro h3;have a9:=B.nt' h3;refine dT 0 [25,27,29,31,33,35,37,39,41,43,45,47,49] ?_;refine DX.tail2 [] Z Z J ?_;have a5:=v2.trans (show _=(some false) by rw [abu a3];simp only [a88,a1,h3,cC]);exact R4r Z Z (by simp only [a9g,h1,a5,cC]);have a9:=B.nf' h3;refine dT 11 [25,27] ?_;refine zDI 14 0 i a0 Z a8 ?_;rintro ac ⟨⟩;refine dT 9 [31] ?_;refine zDL 16 0 4 e1 a0 a3 ?_;rintro ⟨⟨p3,c3⟩,_⟩;refine dT 6 [35,37] ?_
 refine zDI 19 1 i a0 Z a7 ?_;rintro aj ⟨⟩;refine dT 4 [41] ?_;refine zDL 21 1 5 e2 a0 a1 ?_;rintro ⟨⟨p4,c4⟩,_⟩;refine DXV 22 Z J Z O (λw Y=>f57 n Q0 e1.name (Y.q 4 Z) e2.name (Y.q 5 Z) ((aeb ab).1) ((aeb aa).1)) λah=>?_;refine dT 0 [47,49] ?_;refine DX.tail2 [] Z Z J ?_;refine yKN 41 ?_ ?_<;>intro h4 ae;have a5:=v2.trans (show _=(some false) by rw [abu a3];simp only [a88,a1,h3,h4,cC]);exact R4r Z Z (by simp only [a9g,h1,a5,cC]);refine SA ?_
 exact ITr Z (i+1) ⟨Q0,(by rw [v2,abu a3];simp only [a88,a1,h3,h4,cC])⟩ Q1 [0,1];have a6:=v2.trans (show _=none by rw [dn];simp only [a88];omega);exact R4r Z Z (by simp only [a9g,h1,a6,cC])
theorem f61 (hn:n+0<=9){a:List aB}(N0:Rd w K0 M0 a){b:List aB}(N1:Rd w K1 M1 b)(a4:ok n a)(a5:ok n b):
 DP 61 #[vS K0 a M0,vS K1 b M1] w (pB (a89 a b)):=by
 have hb:=bS0 hn;refine EN Tryz.func61 Z (aS2 N0 N1) ?_;refine yKM 10 ?_ ?_<;>intro h1 al;exact R4r Z Z (by simp only [a89,h1,cC]);have r1:=(okl a4).1;refine LS 5 a (a70 b) [0,1] [] [0,1] ?_;rintro i ⟨v1,v2⟩;refine yKD 14 ?_ ?_<;>intro h2 ae;obtain ⟨e1,a2,ab,a7⟩:=gO a4 i;refine yD [] λbs G0 a0=>?_;refine dT 36 [1,3] ?_;refine zDI 2 0 i a0 Z a7 ?_;rintro aj rfl;refine dT 34 [7] ?_;refine zDL 4 0 2 e1 a0 a2 ?_;rintro ⟨⟨p1,c1⟩,_⟩;refine dT 31 [11,13] ?_;obtain ⟨e2,a1,aa,a6⟩:=gO a5 i;refine zDI 7 1 i a0 Z a6 ?_;rintro ai rfl
 refine dT 29 [17] ?_;refine zDL 9 1 3 e2 a0 a1 ?_;rintro ⟨⟨p2,c2⟩,_⟩;refine dT 26 [21,23] ?_;refine zDC 28 ?_ ?_<;>intro h3;have a9:=B.nt' h3;refine dT 0 [25,27,29,31,33,35,37,39,41,43,45,47,49,51,53,55,57,59,61,63,65,67,69,71,73,75] ?_;refine DX.tail2 [] Z Z J ?_;have a3:=v2.trans (show _=(some false) by rw [abu a2];simp only [a70,a1,h3,cC]);exact R4r Z Z (by simp only [a89,h1,a3,cC]);have a9:=B.nf' h3;refine dT 24 [25,27] ?_;refine zDI 14 0 i a0 Z a7 ?_;rintro ad ⟨⟩;refine dT 22 [31] ?_
 refine zDL 16 0 4 e1 a0 a2 ?_;rintro ⟨⟨p3,c3⟩,_⟩;refine dT 19 [35,37] ?_;refine zDI 19 1 i a0 Z a6 ?_;rintro am ⟨⟩;refine dT 17 [41] ?_;refine zDL 21 1 5 e2 a0 a1 ?_;rintro ⟨⟨p4,c4⟩,_⟩;refine dT 13 [45,47,49] ?_;refine zDC 41 ?_ ?_<;>intro h4;have ac:=B.nt' h4;refine dT 0 [51,53,55,57,59,61,63,65,67,69,71,73,75] ?_;refine DX.tail2 [] Z Z J ?_;have a3:=v2.trans (show _=(some false) by rw [abu a2];simp only [a70,a1,h3,h4,cC]);exact R4r Z Z (by simp only [a89,h1,a3,cC]);have ac:=B.nf' h4;refine dT 11 [51,53] ?_
 refine zDI 27 0 i a0 Z a7 ?_;rintro ah ⟨⟩;refine dT 9 [57] ?_;refine zDL 29 0 6 e1 a0 a2 ?_;rintro ⟨⟨p5,c5⟩,_⟩;refine dT 6 [61,63] ?_;refine zDI 32 1 i a0 Z a6 ?_;rintro af ⟨⟩;refine dT 4 [67] ?_;refine zDL 34 1 7 e2 a0 a1 ?_;rintro ⟨⟨p6,c6⟩,_⟩;refine DXV 35 Z J Z O (λw Y=>f57 n Q0 e1.pfx (Y.q 6 Z) e2.pfx (Y.q 7 Z) ((ack ab).1) ((ack aa).1)) λak=>?_;refine dT 0 [73,75] ?_;refine DX.tail2 [] Z Z J ?_;refine yKN 54 ?_ ?_<;>intro h5 ag;have a3:=v2.trans (show _=(some false) by rw [abu a2];simp only [a70,a1,h3,h4,h5,cC])
 exact R4r Z Z (by simp only [a89,h1,a3,cC]);refine SA ?_;exact ITr Z (i+1) ⟨Q0,(by rw [v2,abu a2];simp only [a70,a1,h3,h4,h5,cC])⟩ Q1 [0,1];have a8:=v2.trans (show _=none by rw [dn];simp only [a70];omega);exact R4r Z Z (by simp only [a89,h1,a8,cC])
theorem f62 (hn:n+0<=9){a:List aS}(N0:Rd w K0 M0 a){b:List aS}(N1:Rd w K1 M1 b)(a4:ok n a)(a5:ok n b):
 DP 62 #[vS K0 a M0,vS K1 b M1] w (pB (a8a a b)):=by
 have hb:=bS0 hn;refine EN Tryz.func62 Z (aS2 N0 N1) ?_;refine yKM 10 ?_ ?_<;>intro h1 al;exact R4r Z Z (by simp only [a8a,h1,cC]);have r1:=(okl a4).1;refine LS 5 a (a71 b) [0,1] [] [0,1] ?_;rintro i ⟨v1,v2⟩;refine yKD 14 ?_ ?_<;>intro h2 ae;obtain ⟨e1,a2,ab,a7⟩:=gO a4 i;refine yD [] λbs G0 a0=>?_;refine dT 36 [1,3] ?_;refine zDI 2 0 i a0 Z a7 ?_;rintro aj rfl;refine dT 34 [7] ?_;refine zDL 4 0 2 e1 a0 a2 ?_;rintro ⟨⟨p1,c1⟩,_⟩;refine dT 31 [11,13] ?_;obtain ⟨e2,a1,aa,a6⟩:=gO a5 i;refine zDI 7 1 i a0 Z a6 ?_;rintro ai rfl
 refine dT 29 [17] ?_;refine zDL 9 1 3 e2 a0 a1 ?_;rintro ⟨⟨p2,c2⟩,_⟩;refine dT 26 [21,23] ?_;refine zDC 28 ?_ ?_<;>intro h3;have a9:=B.nt' h3;refine dT 0 [25,27,29,31,33,35,37,39,41,43,45,47,49,51,53,55,57,59,61,63,65,67,69,71,73,75] ?_;refine DX.tail2 [] Z Z J ?_;have a3:=v2.trans (show _=(some false) by rw [abu a2];simp only [a71,a1,h3,cC]);exact R4r Z Z (by simp only [a8a,h1,a3,cC]);have a9:=B.nf' h3;refine dT 24 [25,27] ?_;refine zDI 14 0 i a0 Z a7 ?_;rintro ad ⟨⟩;refine dT 22 [31] ?_
 refine zDL 16 0 4 e1 a0 a2 ?_;rintro ⟨⟨p3,c3⟩,_⟩;refine dT 19 [35,37] ?_;refine zDI 19 1 i a0 Z a6 ?_;rintro am ⟨⟩;refine dT 17 [41] ?_;refine zDL 21 1 5 e2 a0 a1 ?_;rintro ⟨⟨p4,c4⟩,_⟩;refine dT 13 [45,47,49] ?_;refine zDC 41 ?_ ?_<;>intro h4;have ac:=B.nt' h4;refine dT 0 [51,53,55,57,59,61,63,65,67,69,71,73,75] ?_;refine DX.tail2 [] Z Z J ?_;have a3:=v2.trans (show _=(some false) by rw [abu a2];simp only [a71,a1,h3,h4,cC]);exact R4r Z Z (by simp only [a8a,h1,a3,cC]);have ac:=B.nf' h4;refine dT 11 [51,53] ?_
 refine zDI 27 0 i a0 Z a7 ?_;rintro ah ⟨⟩;refine dT 9 [57] ?_;refine zDL 29 0 6 e1 a0 a2 ?_;rintro ⟨⟨p5,c5⟩,_⟩;refine dT 6 [61,63] ?_;refine zDI 32 1 i a0 Z a6 ?_;rintro af ⟨⟩;refine dT 4 [67] ?_;refine zDL 34 1 7 e2 a0 a1 ?_;rintro ⟨⟨p6,c6⟩,_⟩;refine DXV 35 Z J Z O (λw Y=>f57 n Q0 e1.pfx (Y.q 6 Z) e2.pfx (Y.q 7 Z) ((acl ab).1) ((acl aa).1)) λak=>?_;refine dT 0 [73,75] ?_;refine DX.tail2 [] Z Z J ?_;refine yKN 54 ?_ ?_<;>intro h5 ag
 have a3:=v2.trans (show _=(some false) by rw [abu a2];simp only [a71,a1,h3,h4,h5,cC]);exact R4r Z Z (by simp only [a8a,h1,a3,cC]);refine SA ?_;exact ITr Z (i+1) ⟨Q0,(by rw [v2,abu a2];simp only [a71,a1,h3,h4,h5,cC])⟩ Q1 [0,1];have a8:=v2.trans (show _=none by rw [dn];simp only [a71];omega);exact R4r Z Z (by simp only [a8a,h1,a8,cC])
theorem f26 (hn:n+0<=9)(a:aH)(N0:Rd w K0 M0 a.bF)(N1:Rd w K1 M1 a.bG.bB)(N2:Rd w K2 M2 a.bH)(N3:Rd w K3 M3 a.bS)(N4:Rd w K4 M4 a.bM)(N5:Rd w K5 M5 a.bQ)(b:aH)(N6:Rd w K6 M6 b.bF)(N7:Rd w K7 M7 b.bG.bB)(N8:Rd w K8 M8 b.bH)(N9:Rd w K9 M9 b.bS)(N10:Rd w K10 M10 b.bM)(N11:Rd w K11 M11 b.bQ)(a0:ok n a)(a1:ok n b):
 DP 26 #[agh a K0 M0 K1 M1 K2 M2 K3 M3 K4 M4 K5 M5,agh b K6 M6 K7 M7 K8 M8 K9 M9 K10 M10 K11 M11] w (pB (a62 a b)):=by
 have hb:=bS0 hn;refine EN Tryz.func26 Z (aC 0 N0 (aC 1 N1 (aC 2 N2 (aC 3 N3 (aC 4 N4 (aC 5 N5 (aC 6 N6 (aC 7 N7 (aC 8 N8 (aC 9 N9 (aC 10 N10 (aC 11 N11 ac8)))))))))))) ?_;refine KV Z Z O (λw Y=>f55 n Q0 (Y.q 0 Z) (Y.q 6 Z) ((abw a0).1) ((abw a1).1)) λa7=>?_;refine yKA 10 ?_ ?_<;>intro h1;refine KV Z Z O (λw Y=>f58 n Q0 a.bG (Y.q 1 Z) b.bG (Y.q 7 Z) ((abw a0).2.1) ((abw a1).2.1)) λa3=>?_;refine yKA 17 ?_ ?_<;>intro h2
 refine KV Z Z O (λw Y=>f59 n Q0 (Y.q 2 Z) (Y.q 8 Z) ((abw a0).2.2.1) ((abw a1).2.2.1)) λa6=>?_;refine yKA 24 ?_ ?_<;>intro h3;refine KV Z Z O (λw Y=>f60 n Q0 (Y.q 3 Z) (Y.q 9 Z) ((abw a0).2.2.2.1) ((abw a1).2.2.2.1)) λa4=>?_;refine yKA 31 ?_ ?_<;>intro h4;refine KV Z Z O (λw Y=>f61 n Q0 (Y.q 4 Z) (Y.q 10 Z) ((abw a0).2.2.2.2.1) ((abw a1).2.2.2.2.1)) λa2=>?_;refine yKA 38 ?_ ?_<;>intro h5
 refine KV Z Z O (λw Y=>f62 n Q0 (Y.q 5 Z) (Y.q 11 Z) ((abw a0).2.2.2.2.2.1) ((abw a1).2.2.2.2.2.1)) λa5=>?_;refine yKA 45 ?_ ?_<;>intro h6;exact R4r Z Z (by simp only [a62,h1,h2,h3,h4,h5,h6,cC]);exact R4r Z Z (by simp only [a62,h1,h2,h3,h4,h5,h6,cC]);exact R4r Z Z (by simp only [a62,h1,h2,h3,h4,h5,cC]);exact R4r Z Z (by simp only [a62,h1,h2,h3,h4,cC]);exact R4r Z Z (by simp only [a62,h1,h2,h3,cC]);exact R4r Z Z (by simp only [a62,h1,h2,cC])
 exact R4r Z Z (by simp only [a62,h1,cC])
theorem f7 (hn:n+0<=9)(a:aD)(N0:Rd w K0 M0 a.aG.links)(N1:Rd w K1 M1 a.aF.keys)(N2:Rd w K2 M2 a.aF.bR)(N3:Rd w K3 M3 a.aF.bV)(N4:Rd w K4 M4 a.aF.bW)(N5:Rd w K5 M5 a.aM)(N6:Rd w K6 M6 a.aI)(N7:Rd w K7 M7 a.aU)(N8:Rd w K8 M8 a.aL)(N9:Rd w K9 M9 a.aE)(b:aD)(N10:Rd w K10 M10 b.aG.links)(N11:Rd w K11 M11 b.aF.keys)(N12:Rd w K12 M12 b.aF.bR)(N13:Rd w K13 M13 b.aF.bV)(N14:Rd w K14 M14 b.aF.bW)(N15:Rd w K15 M15 b.aM)(N16:Rd w K16 M16 b.aI)(N17:Rd w K17 M17 b.aU)(N18:Rd w K18 M18 b.aL)(N19:Rd w K19 M19 b.aE)(a0:ok n a)(a1:ok n b):
 DP 7 #[af9 a K0 M0 K1 M1 K2 M2 K3 M3 K4 M4 K5 M5 K6 M6 K7 M7 K8 M8 K9 M9,af9 b K10 M10 K11 M11 K12 M12 K13 M13 K14 M14 K15 M15 K16 M16 K17 M17 K18 M18 K19 M19] w (pB (a2y a b)):=by
 have hb:=bS0 hn;refine EN Tryz.func7 Z (aC 0 N0 (aC 1 N1 (aC 2 N2 (aC 3 N3 (aC 4 N4 (aC 5 N5 (aC 6 N6 (aC 7 N7 (aC 8 N8 (aC 9 N9 (aC 10 N10 (aC 11 N11 (aC 12 N12 (aC 13 N13 (aC 14 N14 (aC 15 N15 (aC 16 N16 (aC 17 N17 (aC 18 N18 (aC 19 N19 ac8)))))))))))))))))))) ?_;refine yKM 17 ?_ ?_<;>intro h1 cb;exact R4r Z Z (by simp only [a2y,h1,cC]);refine KV Z Z O (λw Y=>f22 n Q0 (Y.q 0 Z) (Y.q 10 Z) ((acm (abt a0).1).2) ((acm (abt a1).1).2)) λdj=>?_;refine yKN 27 ?_ ?_<;>intro h2 bt
 exact R4r Z Z (by simp only [a2y,h1,h2,cC]);refine KV Z Z O (λw Y=>f23 n Q0 a.aF (Y.q 1 Z) (Y.q 2 Z) (Y.q 3 Z) (Y.q 4 Z) b.aF (Y.q 11 Z) (Y.q 12 Z) (Y.q 13 Z) (Y.q 14 Z) ((abt a0).2.1) ((abt a1).2.1)) λbp=>?_;refine yKN 35 ?_ ?_<;>intro h3 bq;exact R4r Z Z (by simp only [a2y,h1,h2,h3,cC]);refine KV Z Z O (λw Y=>f24 n Q0 (Y.q 5 Z) (Y.q 15 Z) ((abt a0).2.2.1) ((abt a1).2.2.1)) λco=>?_;refine yKN 43 ?_ ?_<;>intro h4 bx;exact R4r Z Z (by simp only [a2y,h1,h2,h3,h4,cC])
 refine yKM 52 ?_ ?_<;>intro h5 ck;exact R4r Z Z (by simp only [a2y,h1,h2,h3,h4,h5,cC]);refine yKM 59 ?_ ?_<;>intro h6 dg;exact R4r Z Z (by simp only [a2y,h1,h2,h3,h4,h5,h6,cC]);refine KV Z Z O (λw Y=>f25 n Q0 (Y.q 7 Z) (Y.q 17 Z) ((abt a0).2.2.2.2.2.1) ((abt a1).2.2.2.2.2.1)) λbr=>?_;refine yKN 67 ?_ ?_<;>intro h7 d1;exact R4r Z Z (by simp only [a2y,h1,h2,h3,h4,h5,h6,h7,cC]);refine yKM 76 ?_ ?_<;>intro h8 dh;exact R4r Z Z (by simp only [a2y,h1,h2,h3,h4,h5,h6,h7,h8,cC])
 refine yKM 85 ?_ ?_<;>intro h9 cp;exact R4r Z Z (by simp only [a2y,h1,h2,h3,h4,h5,h6,h7,h8,h9,cC]);refine yKM 92 ?_ ?_<;>intro a8 bj;exact R4r Z Z (by simp only [a2y,h1,h2,h3,h4,h5,h6,h7,h8,h9,a8,cC]);refine yKM 98 ?_ ?_<;>intro aa bl;exact R4r Z Z (by simp only [a2y,h1,h2,h3,h4,h5,h6,h7,h8,h9,a8,aa,cC]);have r1:=(okl (abt a0).2.2.2.1).1;refine LS 5 a.aI (a9i b) [3,2] [3,2] [0,1,2,3,4,5,6,7,8,9,10,11,12,13,14,15,16,17,18,19] ?_;rintro i ⟨v1,v2⟩
 refine yKD 103 ?_ ?_<;>intro dm b8;obtain ⟨e1,ag,ay,b5⟩:=gO (abt a0).2.2.2.1 i;refine yD [] λbs G0 a3=>?_;refine dT 9 [1,2,5] ?_;refine zDI 3 6 i a3 Z b5 ?_;rintro c0 rfl;refine zDL 4 6 20 e1 a3 ag ?_;rintro ⟨⟨p1,c1⟩,⟨_,p2,c2⟩,⟨p3,c3⟩,⟨p4,c4⟩,⟨p5,c5⟩,⟨p6,c6⟩,_⟩;refine dT 4 [11,12,15] ?_;obtain ⟨e2,ah,aw,bk⟩:=gO (abt a1).2.2.2.1 i;refine zDI 8 16 i a3 Z bk ?_;rintro bz rfl;refine zDL 9 16 26 e2 a3 ah ?_;rintro ⟨⟨p7,c7⟩,⟨_,p8,c8⟩,⟨p9,c9⟩,⟨ch,cz⟩,⟨cn,dd⟩,⟨ce,ci⟩,_⟩
 refine DXV 10 Z J Z O (λw Y=>f26 n Q0 e1 (Y.q 20 Z) (Y.q 21 Z) (Y.q 22 Z) (Y.q 23 Z) (Y.q 24 Z) (Y.q 25 Z) e2 (Y.q 26 Z) (Y.q 27 Z) (Y.q 28 Z) (Y.q 29 Z) (Y.q 30 Z) (Y.q 31 Z) ay aw) λd5=>?_;refine dT 0 [23] ?_;refine DX.tail2 [] Z Z J ?_;refine yKN 117 ?_ ?_<;>intro ar b9;have bb:=v2.trans (show _=(some false) by rw [abu ag];simp only [a9i,ah,ar,cC]);exact R4r Z Z (by simp only [a2y,h1,h2,h3,h4,h5,h6,h7,h8,h9,a8,aa,bb,cC]);refine SA ?_
 exact ITr Z (i+1) ⟨Q0,(by rw [v2,abu ag];simp only [a9i,ah,ar,cC])⟩ Q1 [0,1,2,3,4,5,6,7,8,9,10,11,12,13,14,15,16,17,18,19];have a4:=v2.trans (show _=none by rw [dn];simp only [a9i];omega);have db:=(okl (abt a0).2.2.2.2.2.2.1).1;refine LS 6 a.aL (a5g b) [3,2] [3,2] [0,1,2,3,4,5,6,7,8,9,10,11,12,13,14,15,16,17,18,19] ?_;rintro i ⟨di,a7⟩;refine yKD 122 ?_ ?_<;>intro d8 b4
 obtain ⟨e3,a6,ae,bf⟩:=gO (abt a0).2.2.2.2.2.2.1 i;refine yI 8 i bf ?_;rintro bg rfl;refine zL 8 32 e3 a6 ?_;rintro ⟨_,_,_,⟨⟨dq,cq⟩,_⟩,⟨⟨cv,cr⟩,⟨d6,bv⟩,⟨dc,dk⟩,_⟩⟩;obtain ⟨e4,a5,ac,bi⟩:=gO (abt a1).2.2.2.2.2.2.1 i;refine yI 18 i bi ?_;rintro bm rfl;refine zL 18 36 e4 a5 ?_;rintro ⟨_,_,_,⟨⟨cs,ct⟩,_⟩,⟨⟨dp,d0⟩,⟨cj,da⟩,⟨cc,df⟩,_⟩⟩
 ·skip
  refine yKM 140 ?_ ?_<;>intro a9 b1;have a2:=a7.trans (show _=(some false) by rw [abu a6];simp only [a5g,a5,a9,cC]);rotate_left;refine yKM 147 ?_ ?_<;>intro ad b0;have a2:=a7.trans (show _=(some false) by rw [abu a6];simp only [a5g,a5,a9,ad,cC]);rotate_left;refine KS Z Z Z Z (λ_ hΓ=>ahd ttOk Z Z Z Z Z Z) ?_;refine yKN 154 ?_ ?_<;>intro af b3;have a2:=a7.trans (show _=(some false) by rw [abu a6];simp only [a5g,a5,a9,ad,af,cC]);rotate_left
  refine KV Z Z O (λw Y=>f27 n Q0 e3.bT (Y.q 32 Z) e4.bT (Y.q 36 Z) ((acf ae).2.2.2.1) ((acf ac).2.2.2.1)) λb7=>?_;refine yKN 162 ?_ ?_<;>intro aj az;have a2:=a7.trans (show _=(some false) by rw [abu a6];simp only [a5g,a5,a9,ad,af,aj,cC]);rotate_left;refine KV Z Z O (λw Y=>f28 n Q0 e3.data (Y.q 33 Z) (Y.q 34 Z) (Y.q 35 Z) e4.data (Y.q 37 Z) (Y.q 38 Z) (Y.q 39 Z) ((acf ae).2.2.2.2) ((acf ac).2.2.2.2)) λbe=>?_;refine yKN 169 ?_ ?_<;>intro aq bn
  have a2:=a7.trans (show _=(some false) by rw [abu a6];simp only [a5g,a5,a9,ad,af,aj,aq,cC]);rotate_left;refine SA ?_;exact ITr Z (i+1) ⟨Q0,(by rw [a7,abu a6];simp only [a5g,a5,a9,ad,af,aj,aq,cC])⟩ Q1 [0,1,2,3,4,5,6,7,8,9,10,11,12,13,14,15,16,17,18,19]
  all_goals
   exact R4r Z Z (by simp only [a2y,h1,h2,h3,h4,h5,h6,h7,h8,h9,a8,aa,a4,a2,cC])
 have ab:=a7.trans (show _=none by rw [dn];simp only [a5g];omega);have cd:=(okl (abt a0).2.2.2.2.2.2.2.1).1;refine LS 9 a.aE (a9h b) [3,2] [3,2] [0,1,2,3,4,5,6,7,8,9,10,11,12,13,14,15,16,17,18,19] ?_;rintro i ⟨dl,ap⟩;refine yKD 174 ?_ ?_<;>intro cy b6;obtain ⟨e5,ao,am,av⟩:=gO (abt a0).2.2.2.2.2.2.2.1 i;refine yD [] λbs G0 a3=>?_;refine dT 9 [1,2,5] ?_;refine zDI 3 9 i a3 Z av ?_;rintro ba rfl;refine zDL 4 9 44 e5 a3 ao ?_
 rintro ⟨_,_,⟨cf,bu⟩,_,_,_,⟨⟨cg,bo⟩,⟨cx,d7⟩,⟨d4,ca⟩,_⟩⟩;refine dT 4 [11,12,15] ?_;obtain ⟨e6,ak,ai,b2⟩:=gO (abt a1).2.2.2.2.2.2.2.1 i;refine zDI 8 19 i a3 Z b2 ?_;rintro ax rfl;refine zDL 9 19 48 e6 a3 ak ?_;rintro ⟨_,_,⟨d9,cw⟩,_,_,_,⟨⟨d3,de⟩,⟨cl,d2⟩,⟨cm,bw⟩,_⟩⟩;refine DXV 10 Z J Z O (λw Y=>f29 n Q0 e5 (Y.q 44 Z) (Y.q 45 Z) (Y.q 46 Z) (Y.q 47 Z) e6 (Y.q 48 Z) (Y.q 49 Z) (Y.q 50 Z) (Y.q 51 Z) am ai) λbc=>?_;refine dT 0 [23] ?_;refine DX.tail2 [] Z Z J ?_;refine yKN 188 ?_ ?_<;>intro au bh
 have al:=ap.trans (show _=(some false) by rw [abu ao];simp only [a9h,ak,au,cC]);exact R4r Z Z (by simp only [a2y,h1,h2,h3,h4,h5,h6,h7,h8,h9,a8,aa,a4,ab,al,cC]);refine SA ?_;exact ITr Z (i+1) ⟨Q0,(by rw [ap,abu ao];simp only [a9h,ak,au,cC])⟩ Q1 [0,1,2,3,4,5,6,7,8,9,10,11,12,13,14,15,16,17,18,19];have an:=ap.trans (show _=none by rw [dn];simp only [a9h];omega)
 exact R4r Z Z (by simp only [a2y,h1,h2,h3,h4,h5,h6,h7,h8,h9,a8,aa,a4,ab,an,cC])
theorem f13 (hn:n+0<=9){l:List Int}(N0:Rd w K0 M0 l){n_:Int}(a0:ok n l)(a3:ok n n_):
 DP 13 #[vS K0 l M0,vI n_] w (pB (a5h l n_)):=by
 have hb:=bS0 hn;refine EN Tryz.func13 Z (aS1 N0) ?_;have r1:=(okl a0).1;refine LT 5 l (a8b n_) [0,1] [] [0] ?_;rintro i ⟨v1,v2⟩;refine yKD 9 ?_ ?_<;>intro h1 a9;obtain ⟨e1,a1,a7,a5⟩:=gO a0 i;refine yI 0 i a5 ?_;rintro a8 rfl;refine zL 0 1 e1 a1 ?_;rintro ⟨⟩;refine yKE 17 ?_ ?_<;>intro h2 a6;have a4:=v2.trans (show _=(some true) by rw [abu a1];simp only [a8b,h2,cC]);exact R4r Z Z (by simp only [a5h,a4]);refine SA ?_
 exact ITr Z (i+1) ⟨Q0,(by rw [v2,abu a1];simp only [a8b,h2,cC])⟩ Q1 [0];have a2:=v2.trans (show _=none by rw [dn];simp only [a8b];omega);exact R4r Z Z (by simp only [a5h,a2])
end Go.Proofs.YthdfhghdipdknaaGreat
namespace Go.Stp
def a3c (w_:aD)(e2:aK)(i:Nat)(j:Int):Ctl (Bool) (Int):=if j<=6 then if j<(((a1u (w_.aG) (a08 (a0z w_) (w_.aM) 1) ((i:Nat):Int) e2.name)).length:Int)then match ((a1u (w_.aG) (a08 (a0z w_) (w_.aM) 1) ((i:Nat):Int) e2.name))[(j).toNat]? with|none=>default|some e4=>if (!(a58 w_ e4))=true then (Ctl.ret false)else match ((a1u (w_.aG) (a08 (a0z w_) (w_.aM) 1) ((i:Nat):Int) e2.name))[(j-1).toNat]? with|none=>default|some e5=>if (a5h (w_.aU) (a3r (w_.aG) e5 e4))=true then (Ctl.ret false)else a3c w_ e2 i (j+1)else (Ctl.nxt j)else default
termination_by (7 - j).toNat
decreasing_by all_goals (simp_wf; omega)
def a50 (w_:aD)(i:Nat):List aK->Option (Bool)
 |[]=>none
 |e2::rest_=>
  match ((a1u (w_.aG) (a08 (a0z w_) (w_.aM) 1) ((i:Nat):Int) e2.name))[((((a1u (w_.aG) (a08 (a0z w_) (w_.aM) 1) ((i:Nat):Int) e2.name)).length:Int)-1).toNat]? with
   |none=>default
   |some e3=>
    bif (!((a5h (a1h (a08 (a0z w_) (w_.aM) 1) ((i:Nat):Int)) e2.value)==(e3==e2.value)))then
     (some false)
    else
     bif (a5h (a1h (a08 (a0z w_) (w_.aM) 1) ((i:Nat):Int)) e2.value)then
      bif ((((a1u (w_.aG) (a08 (a0z w_) (w_.aM) 1) ((i:Nat):Int) e2.name)).length:Int) !=(a0f (a08 (a0z w_) (w_.aM) 1) ((i:Nat):Int) e2.value)+1)then
       (some false)
      else
       match a3c w_ e2 i 1 with
        | .ret r_=>(some r_)
        | .nxt j=>
         a50 w_ i rest_
     else
      match a3c w_ e2 i 1 with
       | .ret r_=>(some r_)
       | .nxt j2=>
        a50 w_ i rest_
def a51 (w_:aD):List aH->Nat->Option (Bool)|[],i=>none|_::rest_,i=>bif (!(a58 w_ ((i:Nat):Int)))then a51 w_ rest_ (i+1)else match a50 w_ i (w_.aM)with|some r_=>(some r_)|none=>a51 w_ rest_ (i+1)
def a72 (code:(List UInt8)):Bool:=bif (abp code)then true else bif (!(a2y (a0y (a0v code)) (aa4 (a0v code))))then false else match a51 (a0y (a0v code)) ((a0y (a0v code)).aI) 0 with|some r_=>r_|none=>true
end Go.Stp
namespace Go.Stp
def Wk (R:Int->Int->Bool):Nat->Int->Int->Prop
 |0,a,b=>a=b
 |n+1,a,b=>∃u:Nat,u<6/\Wk R n a u/\R u b=true
theorem Wk.front {R:Int->Int->Bool}{a:Int}:∀ {n:Nat} {b:Nat},b<6->Wk R (n+1) a b->∃x:Nat,x<6/\R a x=true/\Wk R n x b
 |0,b,hb,⟨u,_,h,hr⟩=>⟨b,hb,by rw [show a=(u:Int)from h];exact hr,rfl⟩
 |n+1,b,_,⟨u,hu,h,hr⟩=>by
  obtain ⟨x,hx,h1,h2⟩:=Wk.front hu h;exact ⟨x,hx,h1,u,hu,h2,hr⟩
theorem Wk.back {R:Int->Int->Bool}{a x:Nat}(ha:a<6)(hr:R a x=true):∀ {n:Nat} {b:Int},Wk R n x b->Wk R (n+1) a b
 |0,b,h=>⟨a,ha,rfl,by rw [<-show (x:Int)=b from h];exact hr⟩
 |n+1,b,⟨u,hu,h,h1⟩=>⟨u,hu,Wk.back ha hr h,h1⟩
theorem GD.toWk {R:Int->Int->Bool}{a m:Int}{o:List Int}(h:GD R a m o):∀(n:Nat) (b:Nat),o[b]? =some (n:Int)->Wk R n a b
 |0,b,hb=>(h.zero b (by simpa using hb)).symm
 |n+1,b,hb=>by
  obtain ⟨u,hu,hr⟩:=h.pred b _ hb (by omega);have hl:u<6:=by have:=(List.getElem?_eq_some_iff.1 hu).1;have:=h.len;omega
  exact ⟨u,hl,GD.toWk h n u (by grind),hr⟩
theorem GD.ofWk {R:Int->Int->Bool}{a:Int}{o:List Int}(h:GD R a 5 o)(ho:∀z∈o,z<=5):∀(n:Nat) (b:Nat),b<6->Wk R n a b->∃q,o[b]? =some q/\0<=q/\q<=n
 |0,b,_,hw=>by
  have h2:=h.az.2.2;rw [show a=(b:Int)from hw]at h2
  grind
 |n+1,b,hb,⟨u,hu,hw,hr⟩=>by
  obtain ⟨q,h1,h2,h3⟩:=GD.ofWk h ho n u hu hw;obtain ⟨r,h4,h5,h6⟩:=h.cl u q h1 h2 (ho q (List.mem_of_getElem? h1)) b hb hr
  grind
theorem asn {R:Int->Int->Bool}{D:Int->List Int}{P:Int->Prop}(hD:∀x,P x->GD R x 5 (D x)/\∀z∈D x,z<=5)(hR:∀a x,R a x=true->P x){a e:Int}{b:Nat}(ha:P a)(h:(D a)[b]? =some e)(he:0<e):∃x:Nat,x<6/\R a x=true/\(D x)[b]? =some (e-1):=by
 obtain ⟨ga,la⟩:=hD a ha;have hb:b<6:=by have:=(List.getElem?_eq_some_iff.1 h).1;have:=ga.len;omega
 obtain ⟨a',rfl⟩:∃a':Nat,a=(a':Int):=⟨a.toNat,by have:=ga.az;omega⟩;have ha6:a'<6:=by have:=ga.az;omega
 obtain ⟨x,hx,hr,hw⟩:=Wk.front (n:=(e-1).toNat) hb (by
  have:=ga.toWk e.toNat b (by grind);rw [show e.toNat=(e-1).toNat+1 by omega]at this;exact this)
 obtain ⟨gx,lx⟩:=hD x (hR _ _ hr);obtain ⟨q,h1,h2,h3⟩:=gx.ofWk lx _ b hb hw;obtain ⟨r,h4,h5,h6⟩:=ga.ofWk la (q.toNat+1) b hb (Wk.back ha6 hr (gx.toWk q.toNat b (by grind)));rw [h]at h4;cases h4;exact ⟨x,hx,hr,by grind⟩
end Go.Stp
namespace Go.Stp
theorem ixG {α:Type}(fq:α->Bool)(F:List α->Nat->Option Int)(h0:∀i,F [] i=none)(h1:∀e l i,F (e::l) i=bif fq e then some ((i:Nat):Int)else F l (i+1)):∀(l:List α) (i:Nat),(F l i=none/\∀y∈l,fq y=false)\/∃(j:Nat) (y:α),F l i=some (((i+j:Nat):Int))/\l[j]? =some y/\fq y=true
 |[],i=> .inl ⟨h0 i,λy h=>by cases h⟩
 |x::l,i=>by
  rw [h1];cases hx:fq x with
  |true=>exact .inr ⟨0,x,rfl,rfl,hx⟩
  |false=>
   rw [cond_false];rcases ixG fq F h0 h1 l (i+1)with ⟨h2,h3⟩|⟨j,y,h2,h3,h4⟩
   ·grind
   ·exact .inr ⟨j+1,y,by grind⟩
theorem an6 (l:List Int)(v:Int):(adb l v= -1/\v∉l)\/∃j:Nat,adb l v=(j:Int)/\l[j]? =some v:=by
 unfold adb;rcases ixG (λe=>v==e) (acy v) (λ_=>rfl) (λ_ _ _=>rfl) l 0 with ⟨h1,h2⟩|⟨j,y,h1,h2,h3⟩
 ·grind
 ·grind
theorem ant {l:List Int}{v:Int}:acz l v=true↔v∈l:=by
 unfold acz
 grind [an6,List.mem_of_getElem?]
theorem ari {l:List Int}{v:Int}:acz l v=false↔v∉l:=by grind [ant]
theorem inL:∀ {l:List Int}{v:Int},(a8b v l=some true/\v∈l)\/(a8b v l=none/\v∉l)
  |[],v=> .inr ⟨rfl,λh=>by cases h⟩
  |e::l,v=>by
   simp only [a8b];cases h:(e==v)with
   |true=>have h':e=v:=by simpa using h
          exact .inl ⟨rfl,by grind⟩
   |false=>
    have h':e≠v:=by simpa using h
    rw [cond_false];rcases inL (l:=l) (v:=v)with ⟨h1,h2⟩|⟨h1,h2⟩
    ·grind
    ·grind
theorem aug {l:List Int}{v:Int}:a5h l v=true↔v∈l:=by
 unfold a5h
 grind [inL]
def Lk (l:List aQ)(a b:Int):Prop:=∃e∈l,(e.a=a/\e.b=b)\/(e.a=b/\e.b=a)
theorem ary {a b:Int}{k:aQ}:a3f a b k=true↔(k.a=a/\k.b=b)\/(k.a=b/\k.b=a):=by grind [a3f]
theorem apb (t:aV)(a b:Int):(a3r t a b= -1/\¬Lk t.links a b)\/∃(j:Nat) (e:aQ),a3r t a b=(j:Int)/\t.links[j]? =some e/\((e.a=a/\e.b=b)\/(e.a=b/\e.b=a)):=by
 unfold a3r ad1;rcases ixG (λe0_=>(a3f a b e0_)) (acr λe0_=>(a3f a b e0_)) (λ_=>rfl) (λ_ _ _=>rfl) t.links 0 with ⟨h1,h2⟩|⟨j,y,h1,h2,h3⟩
 ·rw [h1]
  refine .inl ⟨rfl,?_⟩;rintro ⟨e,he,hk⟩;have:=h2 e he;rw [ary.2 hk]at this;cases this
 ·rw [h1]
  exact .inr ⟨j,y,by rw [Nat.zero_add],h2,ary.1 h3⟩
theorem au3 {t:aV}{a b:Int}:decide (a3r t a b>=0)=true↔Lk t.links a b:=by
 rw [decide_eq_true_eq];rcases apb t a b with ⟨h1,h2⟩|⟨j,e,h1,h2,h3⟩
 ·grind
 ·rw [h1];exact ⟨λ_=>⟨e,List.mem_of_getElem? h2,h3⟩,λ_=>by omega⟩
theorem Lk.symm {l:List aQ}{a b:Int}(h:Lk l a b):Lk l b a:=by obtain ⟨e,he,h⟩:=h;exact ⟨e,he,h.symm⟩
theorem nbM (t:aV)(a x:Int):∀(m i:Nat) (o:List Int),x∈a41 t a m i o↔x∈o\/∃k:Nat,i<=k/\k<i+m/\x=(k:Int)/\Lk t.links a x
 |0,i,o=>⟨λh=> .inl h,λh=>h.elim id λ⟨k,h1,h2,_⟩=>absurd h2 (by omega)⟩
 |m+1,i,o=>by
  simp only [a41];cases h:decide (a3r t a ((i:Nat):Int)>=0)with
  |true=>
   rw [cond_true,nbM t a x m (i+1),List.mem_append,List.mem_singleton];have hl:=au3.1 h;constructor
   ·grind
   ·grind
  |false=>
   rw [cond_false,nbM t a x m (i+1)];have hl:¬Lk t.links a ((i:Nat):Int):=λh'=>by rw [au3.2 h']at h;cases h
   constructor
   ·grind
   ·grind
theorem as9 {t:aV}(hz:1<=t.size/\t.size<=6){a x:Int}:x∈a1w t a↔(0<=x/\x<t.size)/\Lk t.links a x:=by
 unfold a1w;show x∈a41 t a _ 0 []↔_;rw [nbM];constructor
 ·grind
 ·rintro ⟨h1,h2⟩
  exact .inr ⟨x.toNat,by grind⟩
theorem avb {t:aV}{a x:Int}(h:x∈a1w t a):∃j:Nat,a0s t a x=(j:Int)+1/\j<6/\(a2l t a ((j:Int)+1)).1=x:=by
 have hl:(a1w t a).length<=6:=by rw [ag2];exact ar4 t a
 unfold a0s;rcases an6 (a1w t a) x with ⟨h1,h2⟩|⟨j,h1,h2⟩
 ·grind
 ·have hj:=(List.getElem?_eq_some_iff.1 h2).1
  refine ⟨j,?_,by omega,?_⟩
  ·grind [afg,I64]
  ·unfold a2l
   have:a0o ((j:Int)+1) 1 ((a1w t a).length:Int)=true:=by
    unfold a0o
    grind
   grind
end Go.Stp
namespace Go.Stp
theorem atj (failed:List Int)(down:Int):∀(l:List aQ) (i:Nat) (o:List aQ),∃s,a2h failed down l i o=o++s/\s.Sublist l/\∀e∈s,∃j:Nat,l[j]? =some e/\((i+j:Nat):Int)∉failed/\a26 down e.a=false/\a26 down e.b=false
 |[],i,o=>⟨[],by simp [a2h],List.Sublist.refl _,λe h=>by cases h⟩
 |x::l,i,o=>by
  simp only [a2h]
  have lift:∀e,(∃j:Nat,l[j]? =some e/\((i+1+j:Nat):Int)∉failed/\a26 down e.a=false/\a26 down e.b=false)->∃j:Nat,(x::l)[j]? =some e/\((i+j:Nat):Int)∉failed/\a26 down e.a=false/\a26 down e.b=false:=λe ⟨j,a,b,c⟩=>
   ⟨j+1,by grind⟩
  have skip:∃s,a2h failed down l (i+1) o=o++s/\s.Sublist (x::l)/\∀e∈s,∃j:Nat,(x::l)[j]? =some e/\((i+j:Nat):Int)∉failed/\a26 down e.a=false/\a26 down e.b=false:=by
   obtain ⟨s,h1,h2,h3⟩:=atj failed down l (i+1) o;exact ⟨s,h1,h2.cons _,λe he=>lift e (h3 e he)⟩
  cases h1:acz failed ((i:Nat):Int)with
  |true=>exact skip
  |false=>
   cases h2:a26 down x.a with
   |true=>exact skip
   |false=>
    cases h3:a26 down x.b with
    |true=>exact skip
    |false=>
     obtain ⟨s,a,b,c⟩:=atj failed down l (i+1) (o++[x]);refine ⟨x::s,by simp only [Bool.not_false,cond_true];rw [a,List.append_assoc];rfl,b.cons_cons _,λe he=>?_⟩;rcases List.mem_cons.1 he with rfl|he
     ·exact ⟨0,rfl,ari.1 h1,h2,h3⟩
     ·exact lift e (c e he)
theorem ame (w:aD):(a0z w).links.Sublist w.aG.links:=by
 obtain ⟨s,h1,h2,_⟩:=atj w.aU w.aY w.aG.links 0 [];show (a2h w.aU w.aY w.aG.links 0 []).Sublist _
 grind
theorem arx {w:aD}{e:aQ}(he:e∈(a0z w).links):∃j:Nat,w.aG.links[j]? =some e/\(j:Int)∉w.aU/\a26 w.aY e.a=false/\a26 w.aY e.b=false:=by
 obtain ⟨s,h1,h2,h3⟩:=atj w.aU w.aY w.aG.links 0 [];have he':e∈a2h w.aU w.aY w.aG.links 0 []:=he
 grind
theorem aus {w:aD}(h:TopoOk w.aG):TopoOk (a0z w):=⟨h.size,λe he=>h.rng e ((ame w).subset he),h.srt.sublist (ame w)⟩
theorem Lk.live {w:aD}{a b:Int}(h:Lk (a0z w).links a b):Lk w.aG.links a b:=by obtain ⟨e,he,h⟩:=h;exact ⟨e,(ame w).subset he,h⟩
def AdOf (t:aV)(p:List aK)(k:Nat):aN:=aN.mk (k:Int) 1 (a1w t (k:Int)) (a2k k p [])
theorem awf (t:aV)(p:List aK):∀(m i:Nat) (o:List aN),a4q t p 1 m i o=o++(List.range' i m).map (AdOf t p)
 |0,i,o=>by simp [a4q]
 |m+1,i,o=>by
  simp only [a4q];rw [awf t p m,List.append_assoc,List.range'_succ];rfl
theorem awu {t:aV}(h:TopoOk t)(p:List aK):a08 t p 1=(List.range' 0 t.size.toNat).map (AdOf t p):=by
 unfold a08;rw [agj,h.valid];have:a0o 1 1 1000=true:=rfl
 grind [a4q,awf]
theorem ai6 {t:aV}(h:TopoOk t)(p:List aK)(k:Nat):(a08 t p 1)[k]? =if k<t.size.toNat then some (AdOf t p k)else none:=by
 rw [awu h,List.getElem?_map]
 grind
theorem am3 {t:aV}(h:TopoOk t)(p:List aK)(f:Int):(a14 (a08 t p 1) f= -1/\¬(0<=f/\f<t.size))\/(a14 (a08 t p 1) f=f/\0<=f/\f<t.size):=by
 unfold a14 ach;have hs:=h.size;rcases ixG (λe0_=>(a6g f e0_)) (ac7 λe0_=>(a6g f e0_)) (λ_=>rfl) (λ_ _ _=>rfl) (a08 t p 1) 0 with ⟨h1,h2⟩|⟨j,y,h1,h2,h3⟩
 ·rw [h1]
  refine .inl ⟨rfl,λhf=>?_⟩;have hg:=ai6 h p f.toNat
  rw [if_pos (by omega)]at hg;have:=h2 _ (List.mem_of_getElem? hg);have h4:((f.toNat:Int)==f)=false:=this
  grind
 ·rw [h1]
  rw [ai6 h]at h2
  split at h2
  ·rename_i hj
   cases h2;have h4:((j:Int)==f)=true:=h3
   grind
  ·cases h2
theorem at1 {t:aV}(h:TopoOk t)(p:List aK){a b:Int}:a15 (a08 t p 1) a b=true↔((0<=a/\a<t.size)/\0<=b/\b<t.size)/\Lk t.links a b:=by
 unfold a15;have hs:=h.size;rcases am3 h p a with ⟨h1,h2⟩|⟨h1,h2⟩
 ·grind
 rcases am3 h p b with ⟨h3,h4⟩|⟨h3,h4⟩
 ·grind
 rw [h1,h3,decide_eq_true (show a>=0 by omega),decide_eq_true (show b>=0 by omega),ai6 h,ai6 h,if_pos (by omega),if_pos (by omega)];simp only [cond_true,AdOf];rw [show ((a.toNat:Nat):Int)=a by omega,show ((b.toNat:Nat):Int)=b by omega];cases h5:acz (a1w t a) b with
 |false=>exact ⟨λe=>(by cases e),λe=>absurd ((as9 hs).2 ⟨h4,e.2⟩) (ari.1 h5)⟩
 |true=>
  rw [cond_true,ant,as9 hs];exact ⟨λe=>⟨⟨h2,h4⟩,e.2.symm⟩,λe=>⟨h2,e.2.symm⟩⟩
theorem ah6 {l:List aN}{a:Int}{b:Nat}(hb:b<6):(a19 l a)[b]? =some (a0f l a b):=by
 have hl:=ahz l a;unfold a0f
 have:a0o (b:Int) 0 5=true:=by
  unfold a0o
  grind
 grind
theorem rchI:∀(d:List Int) (i:Nat) (o:List Int) (x:Int),x∈a2j d i o↔x∈o\/∃(j:Nat) (e:Int),x=((i+j:Nat):Int)/\d[j]? =some e/\0<=e
 |[],i,o,x=>⟨λh=> .inl h,λh=>h.elim id λ⟨j,e,_,h,_⟩=>by simp at h⟩
 |e::d,i,o,x=>by
  simp only [a2j];have sh:(∃(j:Nat) (f:Int),x=((i+1+j:Nat):Int)/\d[j]? =some f/\0<=f)->∃(j:Nat) (f:Int),x=((i+j:Nat):Int)/\(e::d)[j]? =some f/\0<=f:=λ⟨j,f,a,b,c⟩=>⟨j+1,f,by grind⟩;have hs:∀(j:Nat) (f:Int),x=((i+j:Nat):Int)->(e::d)[j]? =some f->0<=f->(j=0/\f=e)\/∃(j:Nat) (f:Int),x=((i+1+j:Nat):Int)/\d[j]? =some f/\0<=f:=λj f a b c=>by grind
  cases h0:decide (e>=0)with
  |true=>
   have h1:=of_decide_eq_true h0;rw [cond_true,rchI d,List.mem_append,List.mem_singleton];constructor
   ·rintro ((h|h)|h)
    ·exact .inl h
    ·exact .inr ⟨0,e,h,rfl,h1⟩
    ·grind
   ·grind
  |false=>
   have h1:=of_decide_eq_false h0;rw [cond_false,rchI d];constructor
   ·grind
   ·grind
theorem ak7 {l:List aN}{a x:Int}:x∈a1h l a↔∃j:Nat,j<6/\x=(j:Int)/\0<=a0f l a x:=by
 unfold a1h;show x∈a2j (a19 l a) 0 []↔_;rw [rchI];constructor
 ·rintro (h|⟨j,e,h1,h2,h3⟩)
  ·cases h
  ·rw [Nat.zero_add]at h1
   grind [List.getElem?_eq_some_iff.1,ahz,ah6]
 ·rintro ⟨j,h1,h2,h3⟩
  exact .inr ⟨j,_,by rw [Nat.zero_add];exact h2,ah6 h1,by grind⟩
theorem clM (l:List aN)(a b x:Int):∀(m i:Nat) (o:List Int),x∈a2q l a b m i o↔x∈o\/∃k:Nat,i<=k/\k<i+m/\x=(k:Int)/\0<=a0f l a b/\a15 l a x=true/\a0f l x b=a0f l a b-1
 |0,i,o=>⟨λh=> .inl h,λh=>h.elim id λ⟨k,h1,h2,_⟩=>absurd h2 (by omega)⟩
 |m+1,i,o=>by
  simp only [a2q]
  have key:∀o',(x∈o'↔x∈o\/(x=((i:Nat):Int)/\0<=a0f l a b/\a15 l a x=true/\a0f l x b=a0f l a b-1))->(x∈a2q l a b m (i+1) o'↔x∈o\/∃k:Nat,i<=k/\k<i+(m+1)/\x=(k:Int)/\0<=a0f l a b/\a15 l a x=true/\a0f l x b=a0f l a b-1):=λo' ho=>by
   rw [clM l a b x m (i+1) o',ho]
   grind
  have no:¬(x=((i:Nat):Int)/\0<=a0f l a b/\a15 l a x=true/\a0f l x b=a0f l a b-1)->(x∈o↔x∈o\/(x=((i:Nat):Int)/\0<=a0f l a b/\a15 l a x=true/\a0f l x b=a0f l a b-1)):=λh=>⟨.inl,λh'=>h'.elim id λh'=>absurd h' h⟩
  grind
theorem alk {l:List aN}{a b x:Int}:x∈a28 l a b↔∃k:Nat,k<6/\x=(k:Int)/\0<=a0f l a b/\a15 l a x=true/\a0f l x b=a0f l a b-1:=by grind [a28,a2q,clM]
end Go.Stp
namespace Go.Stp
theorem awo {α:Type}{p q:α->Bool}:∀ {l:List α},(∀x∈l,p x=true\/q x=true)->l.length<=(l.filter p).length+(l.filter q).length
 |[],_=>Nat.zero_le _
 |x::l,h=>by
  have ih:=awo (l:=l) λy hy=>h y (List.mem_cons_of_mem _ hy)
  grind
def AB (x:aA):Prop:=x=nA\/x=nB
theorem axl {o:List aB}(h:a16 o=true)(ha:∀r∈o,AB r.pfx):o.length<=12:=by
 have h1:(o.filter (λa=> !a0q nA a)).length<=6:=hop6 h nA;have h2:(o.filter (λa=> !a0q nB a)).length<=6:=hop6 h nB
 have:=awo (l:=o) (p:=λa=> !a0q nA a) (q:=λa=> !a0q nB a) λx hx=>by
  unfold a0q;rw [Bool.not_not,Bool.not_not];exact (ha x hx).imp (λe=>ajj.2 e) (λe=>ajj.2 e)
 omega
theorem arg {o:List aB}{r z:aB}(h:z∈(a1a o r).1):(∃q∈o,q.pfx=z.pfx/\q.face=z.face)\/(r.pfx=z.pfx/\r.face=z.face):=by
 have old:z∈o->(∃q∈o,q.pfx=z.pfx/\q.face=z.face)\/(r.pfx=z.pfx/\r.face=z.face):=λh=> .inl ⟨z,h,rfl,rfl⟩;unfold a1a at h;rw [afm]at h;cases h1:decide (a0x o r.pfx r.face>=0)
 ·rw [h1,cond_false]at h
  cases h2:a16 (o++[(aB.mk (a0l r.pfx) r.face r.cost)])
  ·grind
  ·rw [h2]at h
   rcases List.mem_append.1 h with h|h
   ·exact old h
   ·rw [List.mem_singleton]at h;subst h;exact .inr ⟨rfl,rfl⟩
 ·rw [h1,cond_true]at h
  split at h
  ·cases h
  ·grind
theorem apm {o:List aB}{r z:aB}(h:z∈o):∃q∈(a1a o r).1,q.pfx=z.pfx:=by
 unfold a1a;rw [afm];cases h1:decide (a0x o r.pfx r.face>=0)
 ·grind
 ·rw [cond_true]
  rcases ahx o r.pfx r.face with ⟨h3,_⟩|⟨j,y,h3,h4,h5,h6⟩
  ·grind
  ·rw [h3,Int.toNat_natCast,h4]
   dsimp only;cases h2:a16 (o.set j (aB.mk y.pfx y.face r.cost))
   ·grind
   ·obtain ⟨k,hk⟩:=List.getElem?_of_mem h
    by_cases hj:j=k
    ·grind [List.mem_set,List.getElem?_eq_some_iff.1]
    ·exact ⟨z,List.mem_of_getElem? (by show (o.set j _)[k]? =_;grind),rfl⟩
theorem avj {o:List aB}{r:aB}(h:a16 o=true)(hl:o.length<=23)(hr:RtOk r):∃q∈(a1a o r).1,q.pfx=r.pfx:=by
 rcases ahx o r.pfx r.face with ⟨h3,h4⟩|⟨j,y,h3,h4,h5,h6⟩
 ·have hv:a16 (o++[(aB.mk (a0l r.pfx) r.face r.cost)])=true:=by
   obtain ⟨a,b,c⟩:=arw.1 h;refine arw.2 ⟨λx hx=>?_,?_,by grind⟩
   ·rcases List.mem_append.1 hx with hx|hx
    ·exact a x hx
    ·rw [List.mem_singleton]at hx;subst hx;exact hr
   ·refine List.pairwise_append.2 ⟨b,List.pairwise_singleton _ _,λx hx y hy=>?_⟩
    rw [List.mem_singleton]at hy;subst hy;exact h4 x hx
  refine ⟨aB.mk (a0l r.pfx) r.face r.cost,?_,rfl⟩
  grind [a1a,afm,List.mem_append_right,List.mem_singleton.2]
 ·obtain ⟨q,h1,h2⟩:=apm (r:=r) (List.mem_of_getElem? h4)
  grind
theorem ao3 {n_:aV}{l:List aN}{a e1:Int}{e3:aA}{S:aA->Int->Prop}:∀(c:List Int) (o:List aB),(∀x∈c,a0s n_ a x≠0->S e3 (a0s n_ a x))->(∀r∈o,S r.pfx r.face)->∀r∈a1y n_ l a e1 e3 c o,S r.pfx r.face
 |[],o,_,h=>h
 |e4::c,o,hc,h=>by
  simp only [a1y];have ih:=λo h=>ao3 (n_:=n_) (l:=l) (a:=a) (e1:=e1) (e3:=e3) c o (λx hx=>hc x (List.mem_cons_of_mem _ hx)) h;cases h1:(a0s n_ a e4 !=0)
  ·exact ih _ h
  ·have new:∀r∈(a1a o (aB.mk e3 (a0s n_ a e4) (a0f l a e1))).1,S r.pfx r.face:=λr hr=>by
    rcases arg hr with ⟨q,h2,h3,h4⟩|⟨h3,h4⟩
    ·grind
    ·grind
   rw [cond_true];cases h2:decide (a0x o e3 (a0s n_ a e4)<0)
   ·rw [cond_false]
    split
    ·intro r hr;cases hr
    ·grind
   ·exact ih _ new
theorem aj8 {n_:aV}{l:List aN}{a e1:Int}{e3 p:aA}:∀(c:List Int) (o:List aB),(∃q∈o,q.pfx=p)->∃q∈a1y n_ l a e1 e3 c o,q.pfx=p
 |[],o,h=>h
 |e4::c,o,h=>by
  simp only [a1y];have ih:=λo h=>aj8 (n_:=n_) (l:=l) (a:=a) (e1:=e1) (e3:=e3) (p:=p) c o h
  have new:∃q∈(a1a o (aB.mk e3 (a0s n_ a e4) (a0f l a e1))).1,q.pfx=p:=by
   obtain ⟨q,h1,h2⟩:=h;obtain ⟨q',h3,h4⟩:=apm (r:=(aB.mk e3 (a0s n_ a e4) (a0f l a e1))) h1
   grind
  cases h1:(a0s n_ a e4 !=0)
  ·exact ih _ h
  ·rw [cond_true]
   rcases ahx o e3 (a0s n_ a e4)with ⟨h3,_⟩|⟨j,y,h3,h4,_⟩
   ·rw [h3,show decide ((-1:Int)<0)=true from rfl];exact ih _ new
   ·rw [h3,decide_eq_false (show¬((j:Int)<0) by omega),cond_false,Int.toNat_natCast,h4]
    dsimp only;cases h3:decide (y.cost>a0f l a e1)
    ·exact ih _ h
    ·exact ih _ new
theorem asg {n_:aV}{l:List aN}{a e1:Int}{e3:aA}{x:Int}(hf:a0o (a0s n_ a x) 1 6=true)(hd:a0o (a0f l a e1) 0 1000=true)(hn:AB e3):∀(c:List Int) (o:List aB),x∈c->a16 o=true->(∀r∈o,AB r.pfx)->∃q∈a1y n_ l a e1 e3 c o,q.pfx=e3
 |e4::c,o,hx,hv,h=>by
  simp only [a1y]
  by_cases h4:x=e4
  ·subst h4
   have:=inR6 hf;rw [show (a0s n_ a x !=0)=true by grind];have vn:a5i e3=true:=by rcases hn with rfl|rfl<;>kernel_rfl
   have new:∃q∈(a1a o (aB.mk e3 (a0s n_ a x) (a0f l a e1))).1,q.pfx=e3:=avj hv (by grind [axl]) ⟨vn,hf,hd⟩;rcases ahx o e3 (a0s n_ a x)with ⟨h3,_⟩|⟨j,y,h3,h4,h5,h6⟩
   ·rw [h3,show decide ((-1:Int)<0)=true from rfl];exact aj8 _ _ new
   ·rw [h3,decide_eq_false (show¬((j:Int)<0) by omega),cond_false,Int.toNat_natCast,h4]
    dsimp only;cases h7:decide (y.cost>a0f l a e1)
    ·exact aj8 _ _ ⟨y,List.mem_of_getElem? h4,h6⟩
    ·exact aj8 _ _ new
  ·have hx:x∈c:=(List.mem_cons.1 hx).resolve_left h4
   have ih:=λo hv h=>asg (n_:=n_) (l:=l) (a:=a) (e1:=e1) hf hd hn c o hx hv h;cases h1:(a0s n_ a e4 !=0)
   ·grind
   ·have new:∀r∈(a1a o (aB.mk e3 (a0s n_ a e4) (a0f l a e1))).1,AB r.pfx:=λr hr=>by
     rcases arg hr with ⟨q,h2,h3,h4⟩|⟨h3,h4⟩
     ·grind
     ·grind
    grind [ahx,a0s,ao4,Int.toNat_natCast,a0f]
theorem aof {n_:aV}{l:List aN}{a e1:Int}{S:aA->Int->Prop}:∀(c:List aA) (o:List aB),(∀p∈c,∀x∈a28 l a e1,a0s n_ a x≠0->S p (a0s n_ a x))->(∀r∈o,S r.pfx r.face)->∀r∈a48 n_ l a e1 c o,S r.pfx r.face
 |[],o,_,h=>h
 |e3::c,o,hc,h=>aof c _ (λp hp=>hc p (List.mem_cons_of_mem _ hp)) (ao3 _ _ (hc e3 List.mem_cons_self) h)
theorem ama {n_:aV}{l:List aN}{a e1:Int}{p:aA}:∀(c:List aA) (o:List aB),(∃q∈o,q.pfx=p)->∃q∈a48 n_ l a e1 c o,q.pfx=p
 |[],o,h=>h
 |e3::c,o,h=>ama c _ (aj8 _ _ h)
theorem ark {n_:aV}{l:List aN}{a e1:Int}{e3:aA}{x:Int}(hf:a0o (a0s n_ a x) 1 6=true)(hd:a0o (a0f l a e1) 0 1000=true)(hx:x∈a28 l a e1):∀(c:List aA) (o:List aB),e3∈c->(∀p∈c,AB p)->a16 o=true->(∀r∈o,AB r.pfx)->∃q∈a48 n_ l a e1 c o,q.pfx=e3
 |e::c,o,he,hc,hv,h=>by
  simp only [a48]
  by_cases h4:e3=e
  ·subst h4
   exact ama _ _ (asg hf hd (hc e3 List.mem_cons_self) _ _ hx hv h)
  ·exact ark hf hd hx c _ ((List.mem_cons.1 he).resolve_left h4) (λp hp=>hc p (List.mem_cons_of_mem _ hp)) (aoj _ _ _ _ _ _ _ hv) (ao3 (S:=λp _=>AB p) _ _ (λ_ _ _=>hc e List.mem_cons_self) h)
theorem ao9 {n_:aV}{l:List aN}{a:Int}{S:aA->Int->Prop}:∀(c:List Int) (o:List aB),(∀b∈c,b≠a->∀e,l[(a14 l b).toNat]? =some e->∀p∈e.cG,∀x∈a28 l a b,a0s n_ a x≠0->S p (a0s n_ a x))->(∀r∈o,S r.pfx r.face)->∀r∈a2r n_ l a c o,S r.pfx r.face
 |[],o,_,h=>h
 |e1::c,o,hc,h=>by
  simp only [a2r];have hc':=λb hb=>hc b (List.mem_cons_of_mem _ hb);cases h1:(e1==a)
  ·rw [cond_false]
   split
   ·intro r hr;cases hr
   ·rename_i e he
    exact ao9 c _ hc' (aof _ _ (hc e1 List.mem_cons_self (by simpa using h1) e he) h)
  ·exact ao9 c o hc' h
theorem amh {n_:aV}{l:List aN}{a:Int}{p:aA}:∀(c:List Int) (o:List aB),(∀b∈c,∃e,l[(a14 l b).toNat]? =some e)->(∃q∈o,q.pfx=p)->∃q∈a2r n_ l a c o,q.pfx=p
 |[],o,_,h=>h
 |e1::c,o,hc,h=>by
  simp only [a2r];have hc':=λb hb=>hc b (List.mem_cons_of_mem _ hb);cases h1:(e1==a)
  ·obtain ⟨e,he⟩:=hc e1 List.mem_cons_self
   rw [cond_false,he];exact amh c _ hc' (ama _ _ h)
  ·exact amh c o hc' h
theorem anx {n_:aV}{l:List aN}{a b x:Int}{e3:aA}{e:aN}(hf:a0o (a0s n_ a x) 1 6=true)(hd:a0o (a0f l a b) 0 1000=true)(hx:x∈a28 l a b)(hb:b≠a)(he:l[(a14 l b).toNat]? =some e)(hp:e3∈e.cG)(hab:∀e∈l,∀p∈e.cG,AB p):∀(c:List Int) (o:List aB),b∈c->(∀b∈c,∃e,l[(a14 l b).toNat]? =some e)->a16 o=true->(∀r∈o,AB r.pfx)->∃q∈a2r n_ l a c o,q.pfx=e3
 |e1::c,o,hm,hc,hv,h=>by
  simp only [a2r];have hc':=λb hb=>hc b (List.mem_cons_of_mem _ hb)
  by_cases h4:b=e1
  ·subst h4
   rw [show (b==a)=false from beq_eq_false_iff_ne.2 hb,cond_false,he];exact amh c _ hc' (ark hf hd hx _ _ hp (hab e (List.mem_of_getElem? he)) hv h)
  ·have hm:=(List.mem_cons.1 hm).resolve_left h4
   cases h1:(e1==a)
   ·obtain ⟨e',he'⟩:=hc e1 List.mem_cons_self
    rw [cond_false,he'];exact anx hf hd hx hb he hp hab c _ hm hc' (aoc _ _ _ _ _ _ hv) (aof (S:=λp _=>AB p) _ _ (λp hp' _ _ _=>hab e' (List.mem_of_getElem? he') p hp') h)
   ·exact anx hf hd hx hb he hp hab c _ hm hc' hv h
theorem aue:∀(m:Nat) (d:List RouteK)(j:Int),j.toNat=m->0<=j->j<d.length->(ac9 0 d j).1.length=d.length/\∀z∈(ac9 0 d j).1,z∈d
 |m,d,j,hm,h0,hl=>by
  rw [ac9]
  by_cases hj:j>0
  ·rw [if_pos hj,List.getElem?_eq_getElem (show j.toNat<d.length by omega),List.getElem?_eq_getElem (show (j-1).toNat<d.length by omega)]
   dsimp only
   split
   ·rw [List.getElem?_eq_getElem (show (j-1).toNat<(d.set j.toNat (d[(j-1).toNat]'(by omega))).length by grind)]
    dsimp only;obtain ⟨h1,h2⟩:=aue (m-1) ((d.set j.toNat (d[(j-1).toNat]'(by omega))).set (j-1).toNat (d[j.toNat]'(by omega))) (j-1) (by omega) (by omega) (by grind)
    grind
   ·grind
  ·grind
 termination_by m=>m
 decreasing_by all_goals omega
theorem au5:∀(m:Nat) (d:List RouteK)(b i:Int),(b-i).toNat=m->0<=i->b<=d.length->(acb 0 b d i).1.length=d.length/\∀z∈(acb 0 b d i).1,z∈d
 |m,d,b,i,hm,h0,hl=>by
  rw [acb]
  by_cases hj:i<b
  ·rw [if_pos hj]
   have h1:=aue _ d i rfl h0 (by omega);generalize ac9 0 d i=r at h1;obtain ⟨d',j'⟩:=r;dsimp only at h1 ⊢;obtain ⟨h2,h3⟩:=au5 (m-1) d' b (i+1) (by omega) (by omega) (by omega)
   grind
  ·grind
 termination_by m=>m
 decreasing_by all_goals omega
theorem atf (d:List RouteK):(ac3 d).length=d.length/\∀z∈ac3 d,z∈d:=by
 have h:=au5 _ d (d.length:Int) (0+1) rfl (by omega) (Int.le_refl _);have e:ac3 d=(acb 0 (d.length:Int) d (0+1)).1:=rfl
 grind
theorem ax7 (l:List aB)(n_:aA){S:List RouteK}(hS:ac3 (List.map aB.toK (abv (a0g l) (λe0_=>(a0q ((a0t l n_).1) e0_))))=S):∀(m i:Nat) (o:List Int),i+m=S.length->a7k l n_ m i o=o++(S.drop i).map RouteK.face
 |0,i,o,h=>by grind [List.drop_eq_nil_of_le,a7k]
 |m+1,i,o,h=>by
  simp only [a7k];rw [hS,List.getElem?_eq_getElem (show i<S.length by omega)];dsimp only;rw [ax7 l n_ hS m (i+1) _ (by omega),List.append_assoc,List.drop_eq_getElem_cons (show i<S.length by omega)];rfl
theorem aut {x p:aA}(hx:AB x)(hp:AB p):a5s x p=true↔p=x:=by
 have h1:a5s nA nA=true:=by kernel_rfl
 have h2:a5s nA nB=false:=by kernel_rfl
 have h3:a5s nB nA=false:=by kernel_rfl
 have h4:a5s nB nB=true:=by kernel_rfl
 have h5:nA≠nB:=λe=>by grind
 rcases hx with rfl|rfl<;>rcases hp with rfl|rfl
 ·simp [h1]
 ·grind
 ·simp [h3,h5]
 ·simp [h4]
theorem ax3 {l:List aB}{x:aA}(hx:AB x)(ha:∀r∈l,AB r.pfx):∀(q:List aB) (i:Nat) (b:Int),(∀j:Nat,q[j]? =l[i+j]?)->(b= -1\/∃(j:Nat) (r:aB),b=(j:Int)/\l[j]? =some r/\r.pfx=x)->(∃(j:Nat) (r:aB),a32 l x q i b=(j:Int)/\l[j]? =some r/\r.pfx=x)\/(a32 l x q i b= -1/\∀r∈q,r.pfx≠x)
 |[],i,b,_,hb=>hb.elim (λh=> .inr ⟨h,λr hr=>by cases hr⟩) .inl
 |e::q,i,b,hq,hb=>by
  have h0:l[i]? =some e:=by have:=hq 0;grind
  have ih:=λb hb=>ax3 hx ha q (i+1) b (λj=>by have:=hq (j+1);grind) hb;have hae:=ha e (List.mem_of_getElem? h0);simp only [a32];cases h1:a5s x e.pfx
  ·grind [List.mem_cons.1,aut]
  ·have hex:=(aut hx hae).1 h1
   rw [cond_true]
   have yes:∀b',(∃(j:Nat) (r:aB),b'=(j:Int)/\l[j]? =some r/\r.pfx=x)->∃(j:Nat) (r:aB),a32 l x q (i+1) b'=(j:Int)/\l[j]? =some r/\r.pfx=x:=λb' hb'=>by
    have keep:∀(q:List aB) (i:Nat) (j:Nat) (r:aB),(∀r∈q,AB r.pfx)->l[j]? =some r->r.pfx=x->a32 l x q i (j:Int)=(j:Int):=λq=>by
     induction q with
     |nil=>intros;rfl
     |cons e q ih=>
      intro i j r hq hj hr;simp only [a32];have ih:=ih (i+1) j r (λr h=>hq r (List.mem_cons_of_mem _ h)) hj hr;cases h2:a5s x e.pfx
      ·exact ih
      ·grind [aut,List.mem_cons_self,Int.toNat_natCast]
    grind [List.getElem?_of_mem,List.getElem?_cons_succ,List.mem_of_getElem?]
   cases h2:decide (b<0)
   ·rw [cond_false]
    have h2:=of_decide_eq_false h2;obtain ⟨j,r,rfl,h3,h4⟩:=hb.resolve_left (by omega)
    simp_all
   ·exact .inl (yes _ ⟨i,e,rfl,h0,hex⟩)
theorem atu {l:List aB}{x:aA}(hx:AB x)(ha:∀r∈l,AB r.pfx):(a0t l x=(x,true)/\∃r∈l,r.pfx=x)\/((a0t l x).2=false/\∀r∈l,r.pfx≠x):=by
 have h:=ax3 hx ha l 0 (-1) (λj=>by grind) (.inl rfl);unfold a0t;rcases h with ⟨j,r,h1,h2,h3⟩|⟨h1,h2⟩
 ·rw [h1]
  dsimp only;rw [decide_eq_false (show¬((j:Int)<0) by omega),cond_false,Int.toNat_natCast,h2];exact .inl ⟨by show (r.pfx,true)=_;rw [h3],r,List.mem_of_getElem? h2,h3⟩
 ·grind
theorem apn {l:List aB}{x:aA}(hx:AB x)(ha:∀r∈l,AB r.pfx):(a59 l x=[]/\∀r∈l,r.pfx≠x)\/∃f t,a59 l x=f::t/\∃r∈l,r.pfx=x/\r.face=f:=by
 unfold a59;rcases atu hx ha with ⟨h1,r,hr,h2⟩|⟨h1,h2⟩
 ·right
  have hs:=atf (List.map aB.toK (abv (a0g l) (λe0_=>(a0q ((a0t l x).1) e0_))));have hn:=ax7 l x rfl (abv (a0g l) (λe0_=>(a0q ((a0t l x).1) e0_))).length 0 [] (by grind);rw [hn];generalize ac3 _=S at hs ⊢;rw [h1,afm]at hs;rw [h1];simp only [Bool.not_true,cond_false,List.nil_append,List.drop_zero]
  have hm:r∈abv l (λe0_=>a0q x e0_):=by
   unfold abv a0q;refine List.mem_filter.2 ⟨hr,?_⟩;rw [Bool.not_not];exact ajj.2 h2
  cases S with
  |nil=>
   have h3:=hs.1;rw [List.length_map]at h3;have:=List.length_pos_of_mem hm;simp only [List.length_nil]at h3;omega
  |cons k S=>
   refine ⟨k.face,S.map RouteK.face,rfl,?_⟩;obtain ⟨q,hq,rfl⟩:=List.mem_map.1 (hs.2 k List.mem_cons_self);unfold abv a0q at hq;obtain ⟨h4,h5⟩:=List.mem_filter.1 hq;rw [Bool.not_not]at h5;exact ⟨q,h4,ajj.1 h5,rfl⟩
 ·grind
end Go.Stp
namespace Go.Stp
structure NetV (w:aD):Prop where
 top:TopoOk w.aG
 pro:ajv w.aG.size w.aM
 len:(w.aI.length:Int)=w.aG.size
theorem aqx (cb:List UInt8):∀(m:Nat) (l:List bP) (i:Int) (w:aD) (ci ch:Int),i.toNat=m->NetW w->NetW (a6y cb l i w ci ch).2.2.1
 |m,l,i,w,ci,ch,hm,hw=>by
  rw [a6y]
  by_cases h:i>0
  ·rw [if_pos h]
   generalize a1b cb ci ch w=r;obtain ⟨u7,u8,u9⟩:=r;dsimp only
   split
   ·rename_i he
    exact aqx cb (m-1) _ _ _ _ _ (by omega) (anw hw he)
   ·exact aqx cb (m-1) _ _ _ _ _ (by omega) hw
  ·grind
 termination_by m=>m
 decreasing_by all_goals omega
theorem aog (code:List UInt8):NetW (a0v code):=by
 unfold a0v;generalize aa8 code=r;obtain ⟨u1,u2⟩:=r;dsimp only;generalize (30+(a4z code 50))=most;unfold aab ab1;have h1:=as4 code u1 u2;generalize a9b code u1 u2=r at h1;obtain ⟨w,v2,v3⟩:=r;dsimp only at h1 ⊢;generalize a0e code v2 v3 most=r;obtain ⟨v4,v5,v6⟩:=r;dsimp only;have h2:=aqx code _ [] (3+v4) (a0b w) v5 v6 rfl h1.copy
 grind
theorem avs (w:aD):∀(l:List aH) (i:Nat) (o:List aH),i+l.length<=o.length->(a4a w l i o).length=o.length
 |[],i,o,_=>rfl
 |x::l,i,o,h=>by
  simp only [a4a];rw [List.length_cons]at h;cases a58 (aD.mk w.aG w.aF w.aM o w.aY w.aU w.aL w.aE w.now w.aP) ((i:Nat):Int)
  ·exact avs w l (i+1) o (by omega)
  ·rw [cond_true,List.getElem?_eq_getElem (show i<o.length by omega)]
   dsimp only;rw [avs w l (i+1) _ (by grind),List.length_set]
theorem ash {w:aD}(h:NetW w):NetV (a0y w):=by unfold a0y;rw [alg];exact ⟨h.top,h.pro,by show ((a4a w w.aI 0 w.aI).length:Int)=_;rw [avs w _ _ _ (by omega)];exact h.len⟩
theorem an7 {n a b:Int}(h:a<=n/\n<=b):a0o n a b=true:=by
 unfold a0o
 grind
theorem aql {x:aA}(k:Nat):∀(p:List aK) (o:List aA),o.length+p.length<=4->(x∈a2k k p o↔x∈o\/∃r∈p,r.value=(k:Int)/\r.name=x)
 |[],o,_=>by simp [a2k]
 |e::p,o,h=>by
  rw [List.length_cons]at h;simp only [a2k];cases h1:(e.value==((k:Nat):Int))
  ·rw [cond_false,aql k p o (by omega)]
   grind
  ·have h1:e.value=(k:Int):=by simpa using h1
   rw [cond_true,decide_eq_true (show (o.length:Int)<4 by omega),cond_true,aql k p _ (by grind)];rw [List.mem_append,List.mem_singleton];constructor
   ·rintro ((h|h)|⟨r,a,b⟩)
    ·exact .inl h
    ·exact .inr ⟨e,List.mem_cons_self,h1,h.symm⟩
    ·grind
   ·rintro (h|⟨r,a,b⟩)
    ·grind
    ·rcases List.mem_cons.1 a with rfl|a
     ·exact .inl (.inr b.2.symm)
     ·grind
theorem awn:nA≠nB:=λe=>by grind [nA,nB]
structure Ways (t L:aV) (P:List aK):Prop where
 ht:TopoOk t
 hL:TopoOk L
 hz:L.size=t.size
 hk:∀a b,Lk L.links a b->Lk t.links a b
 hP:ajv t.size P
section
variable {t L : aV} {P : List aK} {a b : Int} {x : aA} {s : aK}
theorem Ways.size (h:Ways t L P):1<=t.size/\t.size<=6:=h.ht.size
theorem Ways.find (h:Ways t L P)(ha:0<=a/\a<t.size):a14 (a08 L P 1) a=a:=(am3 h.hL P a).elim (λh'=>absurd (by rw [h.hz];exact ha) h'.2) (λh'=>h'.1)
theorem Ways.gd (h:Ways t L P)(ha:0<=a/\a<t.size):GD (a15 (a08 L P 1)) a 5 (a19 (a08 L P 1) a)/\∀z∈a19 (a08 L P 1) a,z<=5:=ahf _ (by have:=h.size;omega) (by rw [h.find ha];exact ha.1)
theorem Ways.rng (h:Ways t L P)(hb:a15 (a08 L P 1) a b=true):(0<=a/\a<t.size)/\(0<=b/\b<t.size)/\Lk L.links a b:=by
 have h1:=(at1 h.hL P).1 hb;rw [h.hz]at h1
 grind
theorem Ways.dle (h:Ways t L P)(ha:0<=a/\a<t.size)(hb:0<=b/\b<6): -1<=a0f (a08 L P 1) a b/\a0f (a08 L P 1) a b<=5:=by obtain ⟨g,hg⟩:=h.gd ha;have h1:=List.mem_of_getElem? (ah6 (l:=a08 L P 1) (a:=a) (b:=b.toNat) (by omega));rw [show ((b.toNat:Nat):Int)=b by omega]at h1;exact ⟨g.low _ h1,hg _ h1⟩
theorem Ways.zero (h:Ways t L P)(ha:0<=a/\a<t.size)(hb:0<=b/\b<6):a0f (a08 L P 1) a b=0↔b=a:=by
 obtain ⟨g,hg⟩:=h.gd ha;have h1:=ah6 (l:=a08 L P 1) (a:=a) (b:=b.toNat) (by omega);rw [show ((b.toNat:Nat):Int)=b by omega]at h1;constructor
 ·intro e;rw [e]at h1;have:=g.zero _ h1;omega
 ·intro e
  have h2:=g.az.2.2;rw [e]at h1;rw [h2]at h1;rw [e];exact (Option.some.inj h1).symm
theorem Ways.ads (h:Ways t L P){k:Nat}{e:aN}(hk:(a08 L P 1)[k]? =some e):∀x,x∈e.cG↔∃r∈P,r.value=(k:Int)/\r.name=x:=λx=>by
 rw [ai6 h.hL]at hk
 split at hk
 ·cases hk
  obtain ⟨u,v,rfl,_⟩:=h.hP;refine (aql k _ [] (by simp)).trans ⟨λh=>h.resolve_left (λh=>by cases h),.inr⟩
 ·cases hk
theorem Ways.name (h:Ways t L P){r:aK}(hs:s∈P)(hr:r∈P)(e:r.name=s.name):r=s:=by
 obtain ⟨u,v,rfl,_⟩:=h.hP;simp only [List.mem_cons,List.not_mem_nil,or_false]at hs hr;rcases hs with rfl|rfl<;>rcases hr with rfl|rfl
 ·rfl
 ·exact absurd e.symm awn
 ·exact absurd e awn
 ·rfl
theorem Ways.ab (h:Ways t L P)(hs:s∈P):AB s.name:=by
 obtain ⟨u,v,rfl,_⟩:=h.hP;simp only [List.mem_cons,List.not_mem_nil,or_false]at hs;rcases hs with rfl|rfl
 ·exact .inl rfl
 ·exact .inr rfl
theorem Ways.val (h:Ways t L P)(hs:s∈P):0<=s.value/\s.value<t.size:=h.hP.rng s hs
theorem Ways.abs (h:Ways t L P):∀e∈a08 L P 1,∀p∈e.cG,AB p:=λe he p hp=>by
 obtain ⟨k,hk⟩:=List.getElem?_of_mem he;obtain ⟨r,hr,_,rfl⟩:=(h.ads hk p).1 hp;exact h.ab hr
theorem Ways.rch (h:Ways t L P)(ha:0<=a/\a<t.size)(hb:b∈a1h (a08 L P 1) a):(0<=b/\b<t.size)/\0<=a0f (a08 L P 1) a b:=by
 obtain ⟨j,hj,rfl,hd⟩:=ak7.1 hb;refine ⟨?_,hd⟩
 by_cases hz:a0f (a08 L P 1) a (j:Int)=0
 ·have:=(h.zero ha ⟨by omega,by omega⟩).1 hz;omega
 ·obtain ⟨g,_⟩:=h.gd ha
  obtain ⟨u,_,hr⟩:=g.pred j _ (ah6 hj) (by omega);exact (h.rng hr).2.1
def Src (t L:aV)(P:List aK)(a:Int)(p:aA)(f:Int):Prop:=AB p/\∃(r:aK) (c:Int),r∈P/\r.name=p/\r.value≠a/\0<=a0f (a08 L P 1) a r.value/\c∈a28 (a08 L P 1) a r.value/\f=a0s t a c
theorem Ways.src (h:Ways t L P)(ha:0<=a/\a<t.size):∀r∈a2s t (a08 L P 1) a,Src t L P a r.pfx r.face:=by
 refine ao9 (S:=Src t L P a) _ [] (λb hb hn e he p hp c hc _=>?_) (λr hr=>by cases hr);obtain ⟨h1,h2⟩:=h.rch ha hb;rw [h.find h1]at he;obtain ⟨r,hr,hv,rfl⟩:=(h.ads he p).1 hp;have e:r.value=b:=by omega
 exact ⟨h.ab hr,r,c,hr,rfl,by grind⟩
theorem Ways.noh (h:Ways t L P)(ha:0<=a/\a<t.size)(hs:s∈P)(hd:a0f (a08 L P 1) a s.value<=0):a59 (a2s t (a08 L P 1) a) s.name=[]:=by
 rcases apn (h.ab hs) (λr hr=>(h.src ha r hr).1)with ⟨h1,_⟩|⟨f,q,_,r,hr,h2,_⟩
 ·exact h1
 ·obtain ⟨_,r',c,h3,h4,h5,h6,_⟩:=h.src ha r hr
  have:=h.name hs h3 (h4.trans h2);subst this;have hv:=h.val hs;have:=h.size;have:=(h.zero (b:=r'.value) ha ⟨hv.1,by omega⟩).1 (by omega)
  grind
theorem Ways.face (h:Ways t L P)(hb:a15 (a08 L P 1) a b=true):∃j:Nat,a0s t a b=(j:Int)+1/\j<6/\(a2l t a ((j:Int)+1)).1=b:=by obtain ⟨h1,h2,h3⟩:=h.rng hb;exact avb ((as9 h.size).2 ⟨h2,h.hk _ _ h3⟩)
theorem Ways.hop (h:Ways t L P)(ha:0<=a/\a<t.size)(hs:s∈P)(hd:0<a0f (a08 L P 1) a s.value):∃f q,a59 (a2s t (a08 L P 1) a) s.name=f::q/\∃c,(a2l t a f).1=c/\a15 (a08 L P 1) a c=true/\a0f (a08 L P 1) c s.value=a0f (a08 L P 1) a s.value-1:=by
 have hv:=h.val hs;have hz:=h.size;rcases apn (h.ab hs) (λr hr=>(h.src ha r hr).1)with ⟨_,h1⟩|⟨f,q,h1,r,hr,h2,h3⟩
 ·exfalso
  obtain ⟨c,hc,hr,hc2⟩:=asn (R:=a15 (a08 L P 1)) (D:=a19 (a08 L P 1)) (P:=λa=>0<=a/\a<t.size) (λx hx=>h.gd hx) (λa x hx=>(h.rng hx).2.1) ha (b:=s.value.toNat) (ah6 (by omega)) (by grind);rw [ah6 (by omega),show ((s.value.toNat:Nat):Int)=s.value by omega]at hc2;have hcl:(c:Int)∈a28 (a08 L P 1) a s.value:=alk.2 ⟨c,hc,rfl,by grind⟩;obtain ⟨j,h4,h5,_⟩:=h.face hr;have hdl:=h.dle (b:=s.value) ha ⟨hv.1,by omega⟩;have hne:s.value≠a:=λe=>by have:=(h.zero (b:=s.value) ha ⟨hv.1,by omega⟩).2 e;omega
  have hg:(a08 L P 1)[s.value.toNat]? =some (AdOf L P s.value.toNat):=by
   rw [ai6 h.hL,if_pos];have:=h.hz;omega
  obtain ⟨q,hq,he⟩:=anx (n_:=t) (e3:=s.name) (an7 (n:=a0s t a c) (a:=1) (b:=6) (by omega)) (an7 (a:=0) (b:=1000) (by omega)) hcl hne (by rw [h.find hv];exact hg) ((h.ads hg _).2 ⟨s,hs,(show s.value=((s.value.toNat:Nat):Int) by omega),rfl⟩) h.abs (a1h (a08 L P 1) a) [] (ak7.2 ⟨s.value.toNat,by grind⟩) (λb hb=>by
   obtain ⟨h6,_⟩:=h.rch ha hb;rw [h.find h6,ai6 h.hL,if_pos (by have:=h.hz;omega)];exact ⟨_,rfl⟩) anq (λr hr=>by cases hr)
  exact h1 q hq he
 ·obtain ⟨_,r',c,h4,h5,h6,h7,h8,h9⟩:=h.src ha r hr
  have:=h.name hs h4 (h5.trans h2);subst this;obtain ⟨k,hk,rfl,_,hb,hd'⟩:=alk.1 h8;obtain ⟨j,h10,_,h11⟩:=h.face hb
  grind
def Pth (R:Int->Int->Bool)(s:Int):Int->List Int->Prop
 |a,[]=>a=s
 |a,c::q=>R a c=true/\Pth R s c q
theorem avr (o:List Int)(a:Int):(o++[a])[(((o++[a]).length:Int)-1).toNat]? =some a:=by simp_all
theorem Ways.run (h:Ways t L P)(hs:s∈P):∀(m:Nat) (o:List Int) (a:Int),0<=a/\a<t.size->a0f (a08 L P 1) a s.value=(m:Int)->o.length+m<=5->(∀z∈o,a0f (a08 L P 1) z s.value>m)->∃q:List Int,a3j t (a08 L P 1) s.name (o++[a])=o++a::q/\q.length=m/\Pth (a15 (a08 L P 1)) s.value a q
 |m,o,a,ha,hd,hl,ho=>by
  have hv:=h.val hs;have hz:=h.size;rw [a3j,avr];dsimp only
  match m with
  |0=>
   refine ⟨[],?_,rfl,((h.zero ha ⟨hv.1,by omega⟩).1 hd).symm⟩;rw [h.noh ha hs (by omega)]
   split
   ·rfl
   ·rfl
  |m+1=>
   obtain ⟨f,q,h1,c,h2,h3,h4⟩:=h.hop ha hs (by omega);rw [if_pos (by grind),h1,if_neg (λe=>by rw [beq_iff_eq,List.length_cons]at e;omega),List.getElem?_cons_zero];dsimp only;obtain ⟨_,hc,_⟩:=h.rng h3;rw [h2,if_neg (by omega),if_neg ?_]
   ·obtain ⟨q',h5,h6,h7⟩:=h.run hs m (o++[a]) c hc (by omega) (by grind) (λz hz'=>by
     rcases List.mem_append.1 hz' with hz'|hz'
     ·grind
     ·rw [List.mem_singleton]at hz';grind)
    refine ⟨c::q',?_,by rw [List.length_cons,h6],h3,h7⟩
    grind
   ·rw [ant]
    grind
theorem Ways.path (h:Ways t L P)(hs:s∈P)(ha:0<=a/\a<t.size):(a0f (a08 L P 1) a s.value<0/\a1u t (a08 L P 1) a s.name=[a])\/∃q:List Int,a1u t (a08 L P 1) a s.name=a::q/\(q.length:Int)=a0f (a08 L P 1) a s.value/\Pth (a15 (a08 L P 1)) s.value a q:=by
 have hv:=h.val hs;have hz:=h.size;have e:a1u t (a08 L P 1) a s.name=a3j t (a08 L P 1) s.name [a]:=by grind [a1u,an7]
 rw [e];have hb:=h.dle (b:=s.value) ha ⟨hv.1,by omega⟩
 by_cases hd:a0f (a08 L P 1) a s.value<0
 ·left
  refine ⟨hd,?_⟩;rw [a3j,show ([a]:List Int)[((([a]:List Int).length:Nat)-1:Int).toNat]? =some a from rfl];dsimp only;rw [h.noh ha hs (by omega)]
  split<;>rfl
 ·right
  obtain ⟨q,h1,h2,h3⟩:=h.run hs (a0f (a08 L P 1) a s.value).toNat [] a ha (by omega) (by grind) (λz hz=>by cases hz)
  grind
end
theorem Pth.get {R:Int->Int->Bool}{s:Int}:∀ {q:List Int} {a:Int},Pth R s a q->∀(j:Nat) (x y:Int),(a::q)[j]? =some x->(a::q)[j+1]? =some y->R x y=true
 |[],a,_,j,x,y,_,h=>by simp at h
 |c::q,a,h,0,x,y,h1,h2=>by
  rw [List.getElem?_cons_zero]at h1;rw [List.getElem?_cons_succ,List.getElem?_cons_zero]at h2;cases h1;cases h2;exact h.1
 |c::q,a,h,j+1,x,y,h1,h2=>by
  rw [List.getElem?_cons_succ]at h1 h2;exact Pth.get h.2 j x y h1 h2
theorem Pth.last {R:Int->Int->Bool}{s:Int}:∀ {q:List Int} {a:Int},Pth R s a q->(a::q)[q.length]? =some s
 |[],a,h=>by rw [show a=s from h];rfl
 |c::q,a,h=>by
  rw [List.length_cons,List.getElem?_cons_succ];exact Pth.last h.2
theorem avz (t:aV)(l:List aN)(x:aA):∀(m:Nat) (o:List Int),6-o.length=m->o.length<=6->(a3j t l x o).length<=6/\(1<=o.length->1<=(a3j t l x o).length)
 |m,o,hm,ho=>by
  rw [a3j];have base:o.length<=6/\(1<=o.length->1<=o.length):=⟨ho,id⟩
  split
  ·rename_i h1
   split
   ·rename_i h2
    exact ⟨Nat.zero_le _,λh=>by
     rw [List.getElem?_eq_none_iff]at h2;omega⟩
   ·rename_i e1 _
    split
    ·exact base
    ·rename_i h3
     split
     ·simp_all
     ·rename_i e2 _
      split
      ·exact base
      ·split
       ·exact base
       ·have h5:=avz t l x (m-1) (o++[(a2l t e1 e2).1]) (by rw [List.length_append];simp only [List.length_cons,List.length_nil];omega) (by rw [List.length_append];simp only [List.length_cons,List.length_nil];omega)
        simp_all
  ·exact base
 termination_by m=>m
 decreasing_by all_goals omega
theorem as5 (t:aV)(l:List aN)(a:Int)(x:aA):(a1u t l a x).length<=6:=by
 unfold a1u;cases !(a0o a 0 (t.size-1))
 ·exact (avz t l x _ [a] rfl (by simp)).1
 ·grind
theorem ax4 {t:aV}{a:Int}(l:List aN)(x:aA)(h:0<=a/\a<t.size):1<=(a1u t l a x).length:=by unfold a1u;rw [an7 (by omega)];exact (avz t l x _ [a] rfl (by simp)).2 (by simp)
theorem axc (l:List aN)(a b:Int): -1<=a0f l a b/\a0f l a b<=5:=by
 unfold a0f;cases h1:a0o b 0 5
 ·grind
 ·have hb:=inR6 h1
  have hl:=ahz l a;simp only [cond_false,Bool.not_true];rw [List.getElem?_eq_getElem (show b.toNat<(a19 l a).length by omega)];have hm:(a19 l a)[b.toNat]'(by omega)∈a19 l a:=List.getElem_mem _;have all:∀z∈([-1,-1,-1,-1,-1,-1]:List Int),-1<=z/\z<=5:=by decide
  show-1<=(a19 l a)[b.toNat]'(by omega)/\(a19 l a)[b.toNat]'(by omega)<=5;generalize (a19 l a)[b.toNat]'(by omega)=z at hm
  by_cases ha:0<=a/\a<=5
  ·by_cases hf:0<=a14 l a
   ·obtain ⟨g,hg⟩:=ahf l ha hf
    exact ⟨g.low z hm,hg z hm⟩
   ·unfold a19 at hm
    grind
  ·unfold a19 at hm
   have:a0o a 0 5=false:=by
    cases h2:a0o a 0 5
    ·rfl
    ·exact absurd (inR6 h2) ha
   grind
end Go.Stp
namespace Go.Proofs.YthdfhghdipdknaaGreat
open Go.Stp
open Go.Stp.GoT (ok)
variable {w : World} (n : Nat) {K0 : Option Addr} {M0 : Nat}
set_option maxHeartbeats 1000000 in
theorem f3 (hn:n+9<=9){code:List UInt8}(N0:Rd w K0 M0 code)(a5:ok 10 code):
 DP 3 #[vS K0 code M0] w (pB (a72 code)):=by
 have hb:=bS9 hn;refine EN Tryz.func3 Z (aS1 N0) ?_;refine KV Z Z O (λw Y=>f4 10 (Y.q 0 Z) a5) λeb=>?_;refine yKA 12 ?_ ?_<;>intro h1;try dsimp only at h1
 exact R4r Z Z (by simp only [a72,h1,cC]);try dsimp only at h1
 have b5:¬((code.length:Int)>1048576):=of_decide_eq_false (show decide ((code.length:Int)>1048576)=false from h1);have ap:ok n code:=aby (show code.length<=bd n by omega) (λ_ _=>trivial);refine KF Z 1 Z O (λw Y=>f6 n Q0 (Y.q 0 Z) ap) ?_;rintro ⟨⟨_,p1,c1⟩,⟨⟨p2,c2⟩,⟨p3,c3⟩,⟨p4,c4⟩,p5,c5⟩,⟨p6,c6⟩,⟨p7,c7⟩,_,⟨p8,c8⟩,⟨p9,c9⟩,⟨cd,da⟩,_⟩ ae;dsimp only
 have ay:=aog code;refine CF 21 Z O (λw Y=>f5 n Q0 (a0v code) (Y.q 1 Z) (Y.q 2 Z) (Y.q 3 Z) (Y.q 4 Z) (Y.q 5 Z) (Y.q 6 Z) (Y.q 7 Z) (Y.q 8 Z) (Y.q 9 Z) (Y.q 10 Z) ae) ?_;rintro ⟨⟨_,cn,dq⟩,⟨⟨cb,cf⟩,⟨ef,dh⟩,⟨ct,d9⟩,ci,br⟩,⟨e8,c0⟩,⟨dj,bg⟩,_,⟨dk,dg⟩,⟨dz,d8⟩,⟨bj,dx⟩,_⟩ a2;dsimp only
 have az:=ash ay;have b9:=az.len;have ba:=az.top.size;refine yD [] λbs G0 a0=>?_;refine dT 4 [0,3] ?_;refine DXF 2 41 Z J Z O (λw Y=>f6 n Q0 (Y.q 0 Z) ap) ?_;rintro ⟨⟨_,cq,bm⟩,⟨⟨cj,cx⟩,⟨ce,d1⟩,⟨ds,bo⟩,cg,d7⟩,⟨d2,ea⟩,⟨cp,ed⟩,_,⟨d4,du⟩,⟨cr,cw⟩,⟨de,ee⟩,_⟩ a8;dsimp only
 have ay:=aog code;refine DXF 3 61 Z J Z O (λw Y=>f8 n Q0 (a0v code) (Y.q 41 Z) (Y.q 42 Z) (Y.q 43 Z) (Y.q 44 Z) (Y.q 45 Z) (Y.q 46 Z) (Y.q 47 Z) (Y.q 48 Z) (Y.q 49 Z) (Y.q 50 Z) (An (An (acm (abt ae).1).1 (acm (abt a8).1).2) (An (abt a8).2.1 (An (abt a8).2.2.1 (An (abt a8).2.2.2.1 (An (abt ae).2.2.2.2.1 (An (abt a8).2.2.2.2.2.1 (An (abt a8).2.2.2.2.2.2.1 (An (abt a8).2.2.2.2.2.2.2.1 (An (abt ae).2.2.2.2.2.2.2.2.1 (abt ae).2.2.2.2.2.2.2.2.2)))))))))) ?_
 rintro ⟨⟨_,ei,co⟩,⟨⟨d5,cs⟩,⟨di,bu⟩,⟨dp,eg⟩,cy,cz⟩,⟨eh,db⟩,⟨ck,dl⟩,_,⟨bz,dw⟩,⟨ca,d3⟩,⟨cc,ch⟩,_⟩ bb;dsimp only
 refine DXV 4 Z J Z O (λw Y=>f7 n Q0 (a0y (a0v code)) (Y.q 21 Z) (Y.q 22 Z) (Y.q 23 Z) (Y.q 24 Z) (Y.q 25 Z) (Y.q 26 Z) (Y.q 27 Z) (Y.q 28 Z) (Y.q 29 Z) (Y.q 30 Z) (aa4 (a0v code)) (Y.q 61 Z) (Y.q 62 Z) (Y.q 63 Z) (Y.q 64 Z) (Y.q 65 Z) (Y.q 66 Z) (Y.q 67 Z) (Y.q 68 Z) (Y.q 69 Z) (Y.q 70 Z) a2 bb) λbq=>?_;refine dT 0 [11] ?_;refine DX.tail2 [] Z Z J ?_;refine yKN 21 ?_ ?_<;>intro h2 bp;try dsimp only at h2
 exact R4r Z Z (by simp only [a72,h1,h2,cC]);try dsimp only at h2
 refine yD [] λbs G0 a0=>?_;refine dT 3 [0,5,6] ?_;refine DXF 1 81 Z J Z O (λw Y=>f10 n Q0 (a0y (a0v code)) (Y.q 21 Z) (Y.q 22 Z) (Y.q 23 Z) (Y.q 24 Z) (Y.q 25 Z) (Y.q 26 Z) (Y.q 27 Z) (Y.q 28 Z) (Y.q 29 Z) (Y.q 30 Z) a2) ?_;rintro ⟨_,bi,dr⟩ b4;dsimp only
 refine DXF 4 83 Z J Z O (λw Y=>f9 n Q0 (a0z (a0y (a0v code))) (Y.q 81 Z) (Y.q 26 Z) b4 ((abt a2).2.2.1) (i6 1)) ?_;rintro ⟨e9,dc⟩ al;dsimp only
 refine dT 0 [11] ?_;refine DX.tail2 [] Z Z J ?_;have r1:=(okl ap).1;have r2:=(okl (abt a2).2.2.2.1).1;refine LS 5 ((a0y (a0v code)).aI) (a51 (a0y (a0v code))) [4,3] [3] [0,31,32,33,34,35,36,37,38,39,40,84] ?_;rintro i ⟨v1,v2⟩;refine yKD 31 ?_ ?_<;>intro h3 bn;try dsimp only at h3
 obtain ⟨e1,ad,bt,cl⟩:=gO (abt a2).2.2.2.1 i;refine zW 85 31 ?_;refine zW 86 32 ?_;refine zW 87 33 ?_;refine zW 88 34 ?_;refine zW 89 35 ?_;refine zW 90 36 ?_;refine zW 91 37 ?_;refine zW 92 38 ?_;refine zW 93 39 ?_;refine zW 94 40 ?_;refine KV Z Z O (λw Y=>f11 n Q0 (a0y (a0v code)) (Y.q 85 Z) (Y.q 86 Z) (Y.q 87 Z) (Y.q 88 Z) (Y.q 89 Z) (Y.q 90 Z) (Y.q 91 Z) (Y.q 92 Z) (Y.q 93 Z) (Y.q 94 Z) a2 (i6 ((i:Nat):Int))) λbl=>?_;refine yKN 37 ?_ ?_<;>intro h4 bv;try dsimp only at h4
 refine SA ?_;exact ITr Z (i+1) ⟨Q0,(by rw [v2,abu ad];simp only [a51,h4,cC])⟩ Q1 [0,31,32,33,34,35,36,37,38,39,40,84];try dsimp only at h4
 have r3:=(okl (abt a2).2.2.1).1;refine LT 6 ((a0y (a0v code)).aM) (a50 (a0y (a0v code)) i) [5,4,3] [3] [0,31,32,33,34,35,36,37,38,39,40,84] ?_;rintro i2 ⟨v3,v4⟩;refine yKD 42 ?_ ?_<;>intro h5 cm;try dsimp only at h5
 obtain ⟨e2,a7,am,b1⟩:=gO (abt a2).2.2.1 i2;refine zW 95 36 ?_;refine yI 95 i2 b1 ?_;rintro bx rfl;refine yL 95 96 e2 a7 ?_;rintro ⟨⟨ec,d6⟩,_⟩;refine zW 97 84 ?_;refine zW 98 31 ?_;refine zW 99 32 ?_;refine zW 100 33 ?_;refine zW 101 34 ?_;refine zW 102 35 ?_;refine zW 103 37 ?_;refine zW 104 38 ?_;refine zW 105 39 ?_;refine zW 106 40 ?_;refine yD [] λbs G0 a0=>?_;refine dT 5 [1,2,5,7,9,10,13] ?_;refine zDI 7 95 i2 a0 Z b1 ?_;rintro bw ⟨⟩;refine dT 3 [17] ?_;refine zDL 9 95 107 e2 a0 a7 ?_;rintro ⟨⟨dd,e0⟩,_⟩
 refine DXF 10 108 Z J Z O (λw Y=>f12 n Q0 ((a0y (a0v code)).aG) (Y.q 98 Z) (Y.q 97 Z) e2.name (Y.q 107 Z) Q4 ((abt a2).1) al (i6 ((i:Nat):Int)) ((acs am).1)) ?_;rintro ⟨bh,d0⟩ a3;have q1:=as5 ((a0y (a0v code)).aG) (a08 (a0z (a0y (a0v code))) ((a0y (a0v code)).aM) 1) ((i:Nat):Int) e2.name
 have q2:=ax4 (t:=((a0y (a0v code)).aG)) (a:=((i:Nat):Int)) (a08 (a0z (a0y (a0v code))) ((a0y (a0v code)).aM) 1) e2.name Q0;refine dT 0 [23] ?_;refine DX.tail2 [] Z Z J ?_;refine KF Z 110 Z O (λw Y=>f14 n Q0 (Y.q 97 Z) al (i6 ((i:Nat):Int))) ?_;rintro ⟨cv,dv⟩ au;refine KV Z Z O (λw Y=>f13 n Q0 (Y.q 110 Z) au ((acs am).2)) λbc=>?_;have r4:=(okl al).1;have r5:=(okl a3).1;refine SA ?_
 refine SI 71 ?_;obtain ⟨e3,aa,bk,be⟩:=gO a3 (((((a1u ((a0y (a0v code)).aG) (a08 (a0z (a0y (a0v code))) ((a0y (a0v code)).aM) 1) ((i:Nat):Int) e2.name)).length:Int)-1).toNat)
 refine zI 108 (((((a1u ((a0y (a0v code)).aG) (a08 (a0z (a0y (a0v code))) ((a0y (a0v code)).aM) 1) ((i:Nat):Int) e2.name)).length:Int)-1).toNat) be ?_;rintro dm rfl;refine zL 108 112 e3 aa ?_;rintro ⟨⟩;refine KS Z Z Z Z (λ_ hΓ=>ahd ttOk Z Z Z Z Z Z) ?_;refine yKN 77 ?_ ?_<;>intro h6 dy;try dsimp only at h6
 have a6:=v4.trans (show _=(some false) by rw [abu a7];simp only [a50,aa,h6,cC]);have ac:=v2.trans (show _=(some false) by rw [abu ad];simp only [a51,h4,a6,cC]);exact R4r Z Z (by simp only [a72,h1,h2,ac,cC]);try dsimp only at h6
 refine yKA 79 ?_ ?_<;>intro h7;try dsimp only at h7
 try simp only [h7]at h6
 refine KV Z Z O (λw Y=>f15 n Q0 (Y.q 97 Z) al (i6 ((i:Nat):Int)) ((acs am).2)) λaf=>?_;have q3:=axc (a08 (a0z (a0y (a0v code))) ((a0y (a0v code)).aM) 1) ((i:Nat):Int) e2.value;have r6:=i8 ((acs am).2);have r7:=i8 af;refine SA0 ?_;refine yKA 89 ?_ ?_<;>intro h8;have ab:=B.nt' h8;try dsimp only at h8
 have a6:=v4.trans (show _=(some false) by rw [abu a7];simp only [a50,aa,h6,h7,h8,cC]);have ac:=v2.trans (show _=(some false) by rw [abu ad];simp only [a51,h4,a6,cC]);exact R4r Z Z (by simp only [a72,h1,h2,ac,cC]);have ab:=B.nf' h8;try dsimp only at h8
 refine LM Z 1 (λj=>(J6 j/\(1<=j/\j<=6)/\(a3c (a0y (a0v code)) e2 i 1=a3c (a0y (a0v code)) e2 i j),(7-j).toNat,[(10,.v (vI j))],[],[],[])) ⟨Q4,Q0,Z⟩ [88,87,86,85,84,83,82,81,80,79,78,8,6,5,4,3] [3] [0,31,32,33,34,35,36,37,38,39,40,84,109] [0,31,32,33,34,35,36,37,38,39,40,84,109] ?_;rintro j ⟨v5,v6,v7⟩;refine yKA 93 ?_ ?_<;>intro h9;have a9:=B.dt h9;try dsimp only at h9
 refine zW 112 109 ?_;refine zW 113 31 ?_;refine zW 114 32 ?_;refine zW 115 33 ?_;refine zW 116 34 ?_;refine zW 117 35 ?_;refine zW 118 36 ?_;refine zW 119 37 ?_;refine zW 120 38 ?_;refine zW 121 39 ?_;refine zW 122 40 ?_;refine yD [] λbs G0 a0=>?_;refine dT 21 [0,3,5] ?_;refine DI 98 ?_;obtain ⟨e4,ah,ak,b0⟩:=gO a3 j.toNat;refine zDI 3 112 (j.toNat) a0 Z b0 ?_;rintro b8 ⟨⟩;refine zDL 4 112 123 e4 a0 ah ?_;rintro ⟨⟩
 refine DXV 5 Z J Z O (λw Y=>f11 n Q0 (a0y (a0v code)) (Y.q 113 Z) (Y.q 114 Z) (Y.q 115 Z) (Y.q 116 Z) (Y.q 117 Z) (Y.q 118 Z) (Y.q 119 Z) (Y.q 120 Z) (Y.q 121 Z) (Y.q 122 Z) a2 ak) λaj=>?_;refine dT 16 [13,15] ?_
 ·skip
  refine zDC 103 ?_ ?_<;>intro a4;have av:=B.nt a4;try dsimp only at a4
  refine dT 0 [17,19,21,23,25,27,29,31,33,35,37,39,41,43,45,47] ?_;refine DX.tail2 [] Z Z J ?_;have a6:=v7.trans (show _=(Ctl.ret false) by rw [a3c];simp only [(show j<=6 by omega),a9,ah,a4,↓reduceIte]);rotate_left;have av:=B.nf a4;try dsimp only at a4
  refine dT 10 [17,18,21,22,25,27] ?_;refine DX.seeP 14 J Z Z Z Z (ad7 Z Z Z Z Q6) ?_;refine DI 110 ?_;obtain ⟨e5,aw,ar,b2⟩:=gO a3 ((j-1).toNat);refine zDI 15 112 ((j-1).toNat) a0 Z b2 ?_;rintro b6 ⟨⟩;refine zDL 16 112 123 e5 a0 aw ?_;rintro ⟨⟩;refine dT 5 [35,37] ?_;refine DI 114 ?_;refine zDI 19 112 (j.toNat) a0 Z b0 ?_;rintro bf ⟨⟩;refine zDL 20 112 123 e4 a0 ah ?_;rintro ⟨⟩
  refine DXV 21 Z J Z O (λw Y=>f16 n Q0 ((a0y (a0v code)).aG) (Y.q 113 Z) ((abt a2).1) ar ak) λag=>?_;refine DXV 22 Z J Z O (λw Y=>f13 n Q0 (Y.q 120 Z) ((abt a2).2.2.2.2.2.1) ag) λb7=>?_;refine dT 0 [47] ?_;refine DX.tail2 [] Z Z J ?_;refine yKA 119 ?_ ?_<;>intro an;try dsimp only at an
  have a6:=v7.trans (show _=(Ctl.ret false) by rw [a3c];simp only [(show j<=6 by omega),a9,ah,a4,aw,an,↓reduceIte,Bool.false_eq_true]);rotate_left;try dsimp only at an
  refine SA ?_;exact ITr Z (j+1) ⟨Q4,Q0,(by rw [v7];rw [a3c];simp only [(show j<=6 by omega),a9,ah,a4,aw,an,↓reduceIte,Bool.false_eq_true])⟩ Q1 [0,31,32,33,34,35,36,37,38,39,40,84,109]
  all_goals
   have ac:=v4.trans (show _=(some false) by rw [abu a7];simp only [a50,aa,h6,h7,h8,a6,cC]);have ao:=v2.trans (show _=(some false) by rw [abu ad];simp only [a51,h4,ac,cC]);exact R4r Z Z (by simp only [a72,h1,h2,ao,cC])
 have a9:=B.df h9;try dsimp only at h9
 have a1:=v7.trans (show _=(Ctl.nxt j) by rw [a3c];simp only [(show j<=6 by omega),a9,↓reduceIte]);refine SA ?_;exact ITr Z (i2+1) ⟨Q0,(by rw [v4,abu a7];simp only [a50,aa,h6,h7,h8,a1,cC])⟩ Q1 [0,31,32,33,34,35,36,37,38,39,40,84];try dsimp only at h7
 try simp only [h7]at h6
 refine LM Z 1 (λj2=>(J6 j2/\(1<=j2/\j2<=6)/\(a3c (a0y (a0v code)) e2 i 1=a3c (a0y (a0v code)) e2 i j2),(7-j2).toNat,[(10,.v (vI j2))],[],[],[])) ⟨Q4,Q0,Z⟩ [88,79,78,8,6,5,4,3] [3] [0,31,32,33,34,35,36,37,38,39,40,84,109] [0,31,32,33,34,35,36,37,38,39,40,84,109] ?_;rintro j2 ⟨v5,v6,v7⟩;refine yKA 93 ?_ ?_<;>intro h8;have ab:=B.dt h8;try dsimp only at h8
 refine zW 112 109 ?_;refine zW 113 31 ?_;refine zW 114 32 ?_;refine zW 115 33 ?_;refine zW 116 34 ?_;refine zW 117 35 ?_;refine zW 118 36 ?_;refine zW 119 37 ?_;refine zW 120 38 ?_;refine zW 121 39 ?_;refine zW 122 40 ?_;refine yD [] λbs G0 a0=>?_;refine dT 21 [0,3,5] ?_;refine DI 98 ?_;obtain ⟨e6,ai,ak,ax⟩:=gO a3 j2.toNat;refine zDI 3 112 (j2.toNat) a0 Z ax ?_;rintro b8 ⟨⟩;refine zDL 4 112 123 e6 a0 ai ?_;rintro ⟨⟩
 refine DXV 5 Z J Z O (λw Y=>f11 n Q0 (a0y (a0v code)) (Y.q 113 Z) (Y.q 114 Z) (Y.q 115 Z) (Y.q 116 Z) (Y.q 117 Z) (Y.q 118 Z) (Y.q 119 Z) (Y.q 120 Z) (Y.q 121 Z) (Y.q 122 Z) a2 ak) λaf=>?_;refine dT 16 [13,15] ?_
 ·skip
  refine zDC 103 ?_ ?_<;>intro h9;have a9:=B.nt h9;try dsimp only at h9
  refine dT 0 [17,19,21,23,25,27,29,31,33,35,37,39,41,43,45,47] ?_;refine DX.tail2 [] Z Z J ?_;have a6:=v7.trans (show _=(Ctl.ret false) by rw [a3c];simp only [(show j2<=6 by omega),ab,ai,h9,↓reduceIte]);rotate_left;have a9:=B.nf h9;try dsimp only at h9
  refine dT 10 [17,18,21,22,25,27] ?_;refine DX.seeP 14 J Z Z Z Z (ad7 Z Z Z Z Q6) ?_;refine DI 110 ?_;obtain ⟨e7,aq,ar,b3⟩:=gO a3 ((j2-1).toNat);refine zDI 15 112 ((j2-1).toNat) a0 Z b3 ?_;rintro b6 ⟨⟩;refine zDL 16 112 123 e7 a0 aq ?_;rintro ⟨⟩;refine dT 5 [35,37] ?_;refine DI 114 ?_;refine zDI 19 112 (j2.toNat) a0 Z ax ?_;rintro bf ⟨⟩;refine zDL 20 112 123 e6 a0 ai ?_;rintro ⟨⟩
  refine DXV 21 Z J Z O (λw Y=>f16 n Q0 ((a0y (a0v code)).aG) (Y.q 113 Z) ((abt a2).1) ar ak) λaj=>?_;refine DXV 22 Z J Z O (λw Y=>f13 n Q0 (Y.q 120 Z) ((abt a2).2.2.2.2.2.1) aj) λag=>?_;refine dT 0 [47] ?_;refine DX.tail2 [] Z Z J ?_;refine yKA 119 ?_ ?_<;>intro a4;try dsimp only at a4
  have a6:=v7.trans (show _=(Ctl.ret false) by rw [a3c];simp only [(show j2<=6 by omega),ab,ai,h9,aq,a4,↓reduceIte,Bool.false_eq_true]);rotate_left;try dsimp only at a4
  refine SA ?_;exact ITr Z (j2+1) ⟨Q4,Q0,(by rw [v7];rw [a3c];simp only [(show j2<=6 by omega),ab,ai,h9,aq,a4,↓reduceIte,Bool.false_eq_true])⟩ Q1 [0,31,32,33,34,35,36,37,38,39,40,84,109]
  all_goals
   have ac:=v4.trans (show _=(some false) by rw [abu a7];simp only [a50,aa,h6,h7,a6,cC]);have ao:=v2.trans (show _=(some false) by rw [abu ad];simp only [a51,h4,ac,cC]);exact R4r Z Z (by simp only [a72,h1,h2,ao,cC])
 have ab:=B.df h8;try dsimp only at h8
 have a1:=v7.trans (show _=(Ctl.nxt j2) by rw [a3c];simp only [(show j2<=6 by omega),ab,↓reduceIte]);refine SA ?_;exact ITr Z (i2+1) ⟨Q0,(by rw [v4,abu a7];simp only [a50,aa,h6,h7,a1,cC])⟩ Q1 [0,31,32,33,34,35,36,37,38,39,40,84];try dsimp only at h5
 have a1:=v4.trans (show _=none by rw [dn];simp only [a50];omega);refine SA ?_;exact ITr Z (i+1) ⟨Q0,(by rw [v2,abu ad];simp only [a51,h4,a1,cC])⟩ Q1 [0,31,32,33,34,35,36,37,38,39,40,84];try dsimp only at h3
 have a1:=v2.trans (show _=none by rw [dn];simp only [a51];omega);exact R4r Z Z (by simp only [a72,h1,h2,a1,cC])
end Go.Proofs.YthdfhghdipdknaaGreat
namespace Go.Stp
theorem rfG {α:Type}(G:List α->Nat->Option Bool)(B:List α)(h0:∀i,G [] i=none)(h1:∀x l i,B[i]? =some x->G (x::l) i=G l (i+1)):∀(l p:List α),p++l=B->G l p.length=none
 |[],p,_=>h0 _
 |x::l,p,h=>by
  rw [h1 x l p.length (by grind)];have:=rfG G B h0 h1 l (p++[x]) (by grind)
  grind
theorem aou (a:List Str):a7z a a=true:=by have h:=rfG (a91 a) a (λ_=>rfl) (λx l i h=>by simp only [a91,h,beq_self_eq_true,Bool.not_true,cond_false]) a [] rfl;simp only [List.length_nil]at h;simp only [a7z,bne_self_eq_false,cond_false,h]
theorem agp (a:aA):a4f a a=true:=aou _
theorem avg (a:List UInt8):aa9 a a=true:=by have h:=rfG (a93 a) a (λ_=>rfl) (λx l i h=>by simp only [a93,h,bne_self_eq_false,cond_false]) a [] rfl;simp only [List.length_nil]at h;simp only [aa9,bne_self_eq_false,cond_false,h]
theorem av7 (a:List aK):a92 a a=true:=by have h:=rfG (a80 a) a (λ_=>rfl) (λx l i h=>by simp only [a80,h,agp,bne_self_eq_false,Bool.not_true,cond_false]) a [] rfl;simp only [List.length_nil]at h;simp only [a92,bne_self_eq_false,cond_false,h]
theorem ak2 (a:aJ):a5f a a=true:=by simp only [a5f,agp,avg,beq_self_eq_true,cond_true]
theorem amy (a:List aJ):a95 a a=true:=by have h:=rfG (a94 a) a (λ_=>rfl) (λx l i h=>by simp only [a94,h,ak2,Bool.not_true,cond_false]) a [] rfl;simp only [List.length_nil]at h;simp only [a95,bne_self_eq_false,cond_false,h]
theorem asw (a:List aQ):aac a a=true:=by have h:=rfG (a9c a) a (λ_=>rfl) (λx l i h=>by simp only [a9c,h,beq_self_eq_true,Bool.not_true,cond_true,cond_false]) a [] rfl;simp only [List.length_nil]at h;simp only [aac,bne_self_eq_false,cond_false,h]
theorem auw (a:List Key):a9d a a=true:=by have h:=rfG (a83 a) a (λ_=>rfl) (λx l i h=>by simp only [a83,h,agp,bne_self_eq_false,Bool.not_true,cond_false]) a [] rfl;simp only [List.length_nil]at h;simp only [a9d,bne_self_eq_false,cond_false,h]
theorem atd (a:List aA):aad a a=true:=by have h:=rfG (a9e a) a (λ_=>rfl) (λx l i h=>by simp only [a9e,h,agp,Bool.not_true,cond_false]) a [] rfl;simp only [List.length_nil]at h;simp only [aad,bne_self_eq_false,cond_false,h]
theorem atb (a:bU):a60 a a=true:=by have h:=rfG (a84 a) a.bR (λ_=>rfl) (λx l i h=>by simp only [a84,h,aou,Bool.not_true,cond_false]) a.bR [] rfl;simp only [List.length_nil]at h;simp only [a60,auw,atd,amy,h,bne_self_eq_false,Bool.not_true,cond_false]
theorem av2 (a:List Int):aae a a=true:=by have h:=rfG (a9f a) a (λ_=>rfl) (λx l i h=>by simp only [a9f,h,bne_self_eq_false,cond_false]) a [] rfl;simp only [List.length_nil]at h;simp only [aae,bne_self_eq_false,cond_false,h]
theorem asv (a:bX):a86 a a=true:=by have h:=rfG (a85 a) a.bB (λ_=>rfl) (λx l i h=>by simp only [a85,h,ak2,bne_self_eq_false,Bool.not_true,cond_false]) a.bB [] rfl;simp only [List.length_nil]at h;simp only [a86,h,bne_self_eq_false,cond_false]
theorem arf (e:aO):∀(m i:Nat),e.bK.length-i=m->∃j,a87 e e i=Ctl.nxt j
 |m,i,hm=>by
  rw [a87]
  by_cases h:((i:Nat):Int)<(e.bK.length:Int)
  ·rw [if_pos h]
   have hi:i<e.bK.length:=by omega
   rw [List.getElem?_eq_getElem hi];simp only [beq_self_eq_true,Bool.not_true,cond_true,Bool.false_eq_true,if_false];exact arf e (m-1) (i+1) (by omega)
  ·rw [if_neg h];grind
 termination_by m=>m
 decreasing_by all_goals omega
theorem atc (a:List aO):a6z a a=true:=by
 have h:=rfG (a61 a) a (λ_=>rfl) (λx l i h=>by
  obtain ⟨j,hj⟩:=arf x _ 0 rfl;simp only [a61,h,hj,agp,bne_self_eq_false,Bool.not_true,cond_false]) a [] rfl
 simp only [List.length_nil]at h;simp only [a6z,bne_self_eq_false,cond_false,h]
theorem avc (a:List bA):a9g a a=true:=by have h:=rfG (a88 a) a (λ_=>rfl) (λx l i h=>by simp only [a88,h,agp,bne_self_eq_false,Bool.not_true,cond_false]) a [] rfl;simp only [List.length_nil]at h;simp only [a9g,bne_self_eq_false,cond_false,h]
theorem aqr (a:List aB):a89 a a=true:=by have h:=rfG (a70 a) a (λ_=>rfl) (λx l i h=>by simp only [a70,h,agp,bne_self_eq_false,Bool.not_true,cond_false]) a [] rfl;simp only [List.length_nil]at h;simp only [a89,bne_self_eq_false,cond_false,h]
theorem avh (a:List aS):a8a a a=true:=by have h:=rfG (a71 a) a (λ_=>rfl) (λx l i h=>by simp only [a71,h,agp,bne_self_eq_false,Bool.not_true,cond_false]) a [] rfl;simp only [List.length_nil]at h;simp only [a8a,bne_self_eq_false,cond_false,h]
theorem ave (a:aH):a62 a a=true:=by simp only [a62,amy,asv,atc,avc,aqr,avh,beq_self_eq_true,cond_true]
theorem ax9 (a:aX):a5z a a=true:=by grind [a5z,agp,ak2]
theorem av8 (a:bJ):a98 a a=true:=by grind [a98,agp]
theorem at5 (a:aD):a2y a a=true:=by
 have h1:=rfG (a9i a) a.aI (λ_=>rfl) (λx l i h=>by simp only [a9i,h,ave,Bool.not_true,cond_false]) a.aI [] rfl;have h2:=rfG (a5g a) a.aL (λ_=>rfl) (λx l i h=>by simp only [a5g,h,av8,ak2,beq_self_eq_true,bne_self_eq_false,Bool.not_true,cond_false]) a.aL [] rfl;have h3:=rfG (a9h a) a.aE (λ_=>rfl) (λx l i h=>by simp only [a9h,h,ax9,Bool.not_true,cond_false]) a.aE [] rfl
 simp only [List.length_nil]at h1 h2 h3;simp only [a2y,asw,atb,av7,av2,h1,h2,h3,bne_self_eq_false,Bool.not_true,cond_false]
end Go.Stp
namespace Go.Proofs.YthdfhghdipdknaaGreat.Facts
set_option maxRecDepth 100000
theorem laid:laidOutB Tryz.prog=true:=by kernel_rfl
theorem rowed:mapsRowed Tryz.prog=true:=by kernel_rfl
end Go.Proofs.YthdfhghdipdknaaGreat.Facts
namespace Go.Stp
theorem aqj {w:aD}(h:NetV w):Ways w.aG (a0z w) w.aM:=⟨h.top,aus h.top,rfl,λ_ _ h=>h.live,h.pro⟩
theorem axj {w:aD}(hV:NetV w){a b:Int}(h:a15 (a08 (a0z w) w.aM 1) a b=true):a58 w b=true/\a5h w.aU (a3r w.aG a b)=false:=by
 obtain ⟨h1,h2,h3⟩:=(aqj hV).rng h;have hz:=hV.top.size;have hl:=hV.len;obtain ⟨e,he,hab⟩:=h3;obtain ⟨j,hj,hf,da,db⟩:=arx he;constructor
 ·unfold a58
  grind [afg,I64,an7]
 ·rcases apb w.aG a b with ⟨_,h4⟩|⟨k,e',h4,h5,h6⟩
  ·exact absurd (Lk.live ⟨e,he,hab⟩) h4
  ·have r1:=hV.top.rng e (List.mem_of_getElem? hj)
   have r2:=hV.top.rng e' (List.mem_of_getElem? h5);have ee:e'.a=e.a/\e'.b=e.b:=by omega
   have hkj:k=j:=by
    obtain ⟨lj,gj⟩:=List.getElem?_eq_some_iff.1 hj;obtain ⟨lk,gk⟩:=List.getElem?_eq_some_iff.1 h5;have srt:=List.pairwise_iff_getElem.1 hV.top.srt
    grind [Nat.lt_trichotomy,ap8]
   grind [a3r,aug]
theorem awq (w:aD)(e2:aK)(i:Nat){p:List Int}(hp:a1u w.aG (a08 (a0z w) w.aM 1) ((i:Nat):Int) e2.name=p)(hl:p.length<=6)
  (hs:∀(j:Nat) (x y:Int),p[j]? =some x->p[j+1]? =some y->a58 w y=true/\a5h w.aU (a3r w.aG x y)=false):
  ∀(m:Nat) (j:Int),7-j.toNat=m->1<=j->j<=6->∃j',a3c w e2 i j= .nxt j'
 |m,j,hm,h1,h6=>by
  rw [a3c,if_pos h6,hp]
  by_cases hj:j<(p.length:Int)
  ·rw [if_pos hj,List.getElem?_eq_getElem (show j.toNat<p.length by omega)]
   dsimp only;obtain ⟨a,b⟩:=hs (j-1).toNat _ _ (List.getElem?_eq_getElem (show (j-1).toNat<p.length by omega)) (by rw [show (j-1).toNat+1=j.toNat by omega];exact List.getElem?_eq_getElem (by omega));rw [a,if_neg (by decide),List.getElem?_eq_getElem (show (j-1).toNat<p.length by omega)];dsimp only;rw [b,if_neg (by decide)];exact awq w e2 i hp hl hs (m-1) (j+1) (by omega) (by omega) (by omega)
  ·rw [if_neg hj];grind
 termination_by m=>m
 decreasing_by all_goals omega
theorem axb (w:aD)(hV:NetV w)(i:Nat)(hi:i<w.aI.length):∀(r:List aK),(∀e∈r,e∈w.aM)->a50 w i r=none
 |[],_=>rfl
 |e2::r,h=>by
  have ih:=axb w hV i hi r λe he=>h e (List.mem_cons_of_mem _ he);have hw:=aqj hV;have hs:=h e2 List.mem_cons_self;have hv:=hw.val hs;have hz:=hV.top.size;have hl:=hV.len;have ha:0<=((i:Nat):Int)/\((i:Nat):Int)<w.aG.size:=by omega
  have hL3:=awq w e2 i rfl (as5 _ _ _ _)
  have hrc:a5h (a1h (a08 (a0z w) w.aM 1) ((i:Nat):Int)) e2.value=true↔0<=a0f (a08 (a0z w) w.aM 1) ((i:Nat):Int) e2.value:=by
   rw [aug,ak7];exact ⟨λ⟨_,_,_,h⟩=>h,λh=>⟨e2.value.toNat,by grind⟩⟩
  simp only [a50];rcases hw.path hs ha with ⟨hd,hp⟩|⟨q,hp,hq,hpt⟩
  ·have hr:a5h (a1h (a08 (a0z w) w.aM 1) ((i:Nat):Int)) e2.value=false:=by grind
   have hne:(((i:Nat):Int)==e2.value)=false:=by
    rw [beq_eq_false_iff_ne];intro e;have:=(hw.zero (b:=e2.value) ha ⟨hv.1,by omega⟩).2 e.symm;omega
   rw [hp]at hL3;obtain ⟨j',hj'⟩:=hL3 (λj x y h1 h2=>by simp at h2) _ 1 rfl (by omega) (by omega);rw [hp,show ([((i:Nat):Int)]:List Int)[((([((i:Nat):Int)]:List Int).length:Nat)-1:Int).toNat]? =some ((i:Nat):Int)from rfl]
   grind
  ·have hr:=hrc.2 (by omega)
   have hlen:=as5 w.aG (a08 (a0z w) w.aM 1) ((i:Nat):Int) e2.name;rw [hp]at hL3 hlen;rw [List.length_cons]at hlen;obtain ⟨j',hj'⟩:=hL3 (λj x y h1 h2=>axj hV (hpt.get j x y h1 h2)) _ 1 rfl (by omega) (by omega);rw [hp,show (((((i:Nat):Int)::q).length:Int)-1).toNat=q.length by rw [List.length_cons];omega,hpt.last]
   grind
theorem awd (w:aD)(hV:NetV w):∀(l:List aH) (i:Nat),i+l.length<=w.aI.length->a51 w l i=none
 |[],i,_=>rfl
 |x::l,i,h=>by
  rw [List.length_cons]at h;have ih:=awd w hV l (i+1) (by omega);simp only [a51,axb w hV i (by omega) _ (λe he=>he),ih]
  grind
theorem ajc (code:List UInt8)(hcode:GoT.ok 10 code):a72 code=true:=by
 unfold a72
 grind [abp,ai0,at5,awd,ash,aog]
end Go.Stp
namespace Go.Proofs.YthdfhghdipdknaaGreat
open Go.Stp
open Go.RowKit (Below)
open Go.ChangeShapes Go.WideShapes Go.ChangeAt
namespace LawFnLiveRoutes
theorem own:ownKnob Tryz.prog.godebug=none:=by kernel_rfl
theorem laid:laidOutB Tryz.prog=true:=Facts.laid
set_option maxRecDepth 100000 in
theorem lifted (os:Os)(started:os.Started)(H:Type)(enc:TypeId×Value->H):
  ReturnsInHanded {} Tryz.checked os 3 .any (Rows.fnLiveRoutesSpec.pre6 enc Tryz.prog Tryz.f3 Rows.fnLiveRoutesRow.domain false) (Rows.fnLiveRoutesSpec.post enc Tryz.prog Tryz.f3 false true false false):=by
 refine returnsInHanded_of_change (C:=Tryz.checked) own started (by kernel_rfl) Tryz.func3
  (ChangeSpec.witness6 (enc:=enc) (C:=Tryz.checked) false ⟨#[],#[.slice none 0 0],[]⟩ 8 (by kernel_rfl) (by kernel_rfl) (by kernel_rfl) (by kernel_rfl)) ?_
 intro W base args ds gs before hval0 hW _ _;have hval:∀(j:Nat) t v,Tryz.f3.params[j]? =some t->args[j]? =some v->Value.okWide Tryz.prog W .any base t v:=hval0;have hW':=hW;obtain ⟨p,q,hA0,_⟩:=hW;have hA:DataW.TrodAll enc Tryz.prog W 0 (λ_=>true) true Tryz.f3.params.toList args.toList ds p:=hA0;rw [Tryz.params3]at hA hval;obtain ⟨v0,vs0,d0,ds0,p0,q0,hargs,rfl,rfl,h0,r0⟩:=ChangeShapes.trodAll_cons hA;obtain ⟨rfl,rfl,rfl⟩:=trodAll_nil r0;obtain rfl:args= #[v0]:=by cases args;simp_all
 obtain ⟨a0,x0,rfl,k0,g0⟩:=(arh Tryz.underlying22 (ao7 Tryz.underlying22 (by kernel_rfl) (aqc Tryz.underlying5 (by kernel_rfl)))) (hval 0 22 _ rfl rfl) h0;have ht:=ajc a0 k0;refine (f3 0 (by decide) (code:=a0) (g0 (MF.rs .der x0.1 x0.2 a0) (List.mem_cons_self)) k0).2.mono λe W1 ⟨v,he,hb,hv⟩=>?_;rw [ht]at hv;obtain ⟨rfl,_⟩:=hv;subst he;exact ⟨_,rfl,at6 laid (by kernel_rfl) rfl rfl Tryz.underlying4 (λds h=>by match ds,h with|[_],_=>rfl) hW' hb.below⟩
set_option maxRecDepth 100000 in
theorem c_inPlace:(Rows.fnLiveRoutesRow.inPlace==Tryz.prog.inPlace 3)=true:=by kernel_rfl
set_option maxRecDepth 100000 in
theorem c_unfollowed:(Rows.fnLiveRoutesRow.unfollowed==Tryz.prog.unfollowed 3)=true:=by kernel_rfl
set_option maxRecDepth 100000 in
theorem c_recurses:(Rows.fnLiveRoutesRow.recurses==Tryz.prog.recurses 3)=true:=by kernel_rfl
set_option maxRecDepth 100000 in
theorem c_named:(Rows.fnLiveRoutesRow.named==Tryz.prog.varsNamed 3)=true:=by kernel_rfl
set_option maxRecDepth 100000 in
theorem c_read:Tryz.f3.params.all (Tryz.pinned.checked.prog.readableRec ·)=true:=by kernel_rfl
set_option maxRecDepth 100000 in
theorem c_maps:(Rows.fnLiveRoutesRow.maps==(Tryz.f3.params.toList++Rows.fnLiveRoutesSpec.plain.varTypes Tryz.pinned.checked.prog).any (Tryz.pinned.checked.prog.mapsRec ·))=true:=by kernel_rfl
set_option maxRecDepth 100000 in
theorem c_ifaces:(Rows.fnLiveRoutesRow.ifaces==(Tryz.f3.params.toList++Rows.fnLiveRoutesSpec.plain.varTypes Tryz.pinned.checked.prog).any (Tryz.pinned.checked.prog.ifacesRec ·))=true:=by kernel_rfl
set_option maxRecDepth 100000 in
theorem c_loops:(Rows.fnLiveRoutesRow.loops==(Tryz.f3.params.toList++Rows.fnLiveRoutesSpec.plain.varTypes Tryz.pinned.checked.prog).any (Tryz.pinned.checked.prog.loopsFrom ·))=true:=by kernel_rfl
set_option maxRecDepth 100000 in
theorem c_wide:(Rows.fnLiveRoutesRow.wideKeys==(Tryz.f3.params.toList++Rows.fnLiveRoutesSpec.plain.varTypes Tryz.pinned.checked.prog++Tryz.f3.resultTypes.toList).any (Tryz.pinned.checked.prog.wideKeysFrom ·))=true:=by kernel_rfl
set_option maxRecDepth 100000 in
theorem c_rread:Tryz.f3.resultTypes.all (λt=>Tryz.pinned.checked.prog.readableRec t&&decide (t<Tryz.pinned.checked.prog.types.size))=true:=by kernel_rfl
set_option maxRecDepth 100000 in
theorem c_veiled:(Rows.fnLiveRoutesRow.veiled==(Tryz.f3.params.toList++Rows.fnLiveRoutesSpec.plain.varTypes Tryz.pinned.checked.prog++Tryz.f3.resultTypes.toList).any (Tryz.pinned.checked.prog.veiledRec ·))=true:=by kernel_rfl
set_option maxRecDepth 100000 in
theorem c_vfits:Rows.fnLiveRoutesRow.veiledFits Tryz.pinned.checked.prog Tryz.f3.params.toList (Tryz.f3.params.toList++Rows.fnLiveRoutesSpec.plain.varTypes Tryz.pinned.checked.prog++Tryz.f3.resultTypes.toList)=true:=by kernel_rfl
set_option maxRecDepth 100000 in
theorem c_enter:Tryz.pinned.checked.prog.mayEnter=true:=by kernel_rfl
set_option maxRecDepth 100000 in
theorem c_heard:Tryz.pinned.checked.prog.stopsHeard=true:=by kernel_rfl
set_option maxRecDepth 100000 in
theorem c_lifted:(Rows.fnLiveRoutesRow.lifted==Tryz.pinned.checked.prog.liftsFinal)=true:=by kernel_rfl
set_option maxRecDepth 100000 in
theorem c_plainKeys:(Rows.fnLiveRoutesRow.plainKeys==Tryz.pinned.checked.prog.plainKeys)=true:=by kernel_rfl
set_option maxRecDepth 100000 in
theorem c_make:(Tryz.pinned.checked.prog.make==some Rows.fnLiveRoutesRow.make)=true:=by kernel_rfl
set_option maxRecDepth 100000 in
theorem closed:joinedFacts Tryz.pinned.checked.prog 3 Tryz.f3 Rows.fnLiveRoutesSpec Rows.fnLiveRoutesRow=true:=by
 unfold joinedFacts
 rw [show laidOutB Tryz.pinned.checked.prog=true from laid,show mapsRowed Tryz.pinned.checked.prog=true from Facts.rowed,show (Rows.fnLiveRoutesRow.inPlace==Tryz.pinned.checked.prog.inPlace 3)=true from c_inPlace,show (Rows.fnLiveRoutesRow.unfollowed==Tryz.pinned.checked.prog.unfollowed 3)=true from c_unfollowed,show (Rows.fnLiveRoutesRow.recurses==Tryz.pinned.checked.prog.recurses 3)=true from c_recurses,show (Rows.fnLiveRoutesRow.named==Tryz.pinned.checked.prog.varsNamed 3)=true from c_named,c_read,c_maps,c_ifaces,c_loops,c_wide,c_rread,c_veiled,c_vfits,c_enter,c_heard,c_lifted,c_plainKeys,c_make]
 kernel_rfl
theorem over:Rows.fnLiveRoutesRow.holds Tryz.pinned (OpenSpec.ofChange Rows.fnLiveRoutesSpec):=
 OpenClaim.holds_of_wide 3 Tryz.f3 rfl rfl rfl rfl rfl rfl rfl ⟨rfl,rfl,rfl,rfl,rfl⟩ rfl rfl rfl rfl rfl (by kernel_rfl) Tryz.func3 closed
  (of_decide_eq_true (by kernel_rfl)) (by unfold Func.isWrapper;first|(rw [if_pos (by decide+kernel)];kernel_rfl)|(rw [if_neg (by decide+kernel)];exact ⟨rfl,rfl⟩))
  (λos started H enc _=>lifted os started H enc)
theorem proved:Rows.FnLiveRoutesSaid:=over
#print axioms proved
end LawFnLiveRoutes
end Go.Proofs.YthdfhghdipdknaaGreat
