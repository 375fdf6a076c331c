/-
  What the proof of one law needs: rules of the program logic, functions as Lean functions, contracts. No condition but what each says. Written by a program (pack.py) out of my own texts.
-/
import Derived.OrdersHeld
import Derived.Tactics
import Derived.Below
import Derived.Laws.AppendOwn
import Derived.Deep.AppendSrc
import Derived.KernelRfl
import Derived.IntWalk
import Derived.Test.YthdfhghdipdknaaGreatRows
import Derived.Laws.MakeOwn
import Derived.StillTail
open Go.IntKind (i64)
set_option linter.unusedVariables false
set_option linter.unusedSimpArgs false
namespace Go.Stp
open Go.RowKit (Below)
variable {v : Value} {b g T d i off n : Nat} {o : Oper} {ks : List Nat} {a : Act} {w w' : World} {cs : List Value} {P : Program} {bs : Nat → Nat}
def look {α:Type}:List (Nat×α)->Nat->Option α
 |[],_=>none
 |(j,x)::r,i=>match Nat.beq j i with|true=>some x|false=>look r i
theorem acg {α:Type}(j i:Nat)(x:α)(r:List (Nat×α)):look ((j,x)::r) i=if j=i then some x else look r i:=by
 show (match Nat.beq j i with|true=>some x|false=>look r i)=_;cases hb:Nat.beq j i with
 |true=>rw [if_pos (Nat.eq_of_beq_eq_true hb)]
 |false=>rw [if_neg (λe=>by subst e;simp at hb)]
def getO {α:Type}:List α->Nat->Option α
 |[],_=>none
 |x::_,0=>some x
 |_::r,n+1=>getO r n
theorem adh {α:Type}:∀(l:List α) (n:Nat),getO l n=l[n]?
 |[],_=>by simp [getO]
 |_::_,0=>by simp [getO]
 |_::r,n+1=>by simp [getO,adh r n]
def aqb {α:Type}:List α->Nat->Option (List α)
 |_,0=>some []
 |x::r,n+1=>match aqb r n with|some l=>some (x::l)|none=>none
 |[],_+1=>none
theorem ajh {α:Type}:∀(l:List α) (n:Nat) (r:List α),aqb l n=some r->n<=l.length/\r=l.take n
 |l,0,r,h=>by grind [aqb]
 |x::l,n+1,r,h=>by
  simp only [aqb]at h
  split at h
  ·rename_i q hq
   obtain ⟨h1,h2⟩:=ajh l n q hq
   grind
  ·cases h
 |[],n+1,r,h=>by simp [aqb]at h
def apv {α:Type}:List α->Nat->Option (List α)
 |l,0=>some l
 |_::r,n+1=>apv r n
 |[],_+1=>none
theorem ajd {α:Type}:∀(l:List α) (n:Nat) (r:List α),apv l n=some r->n<=l.length/\r=l.drop n
 |l,0,r,h=>by grind [apv]
 |x::l,n+1,r,h=>by
  simp only [apv]at h;obtain ⟨h1,h2⟩:=ajd l n r h
  grind
 |[],n+1,r,h=>by simp [apv]at h
def afx {α:Type}(l:List α)(o:Nat)(vs:List α):Option (List α):=
 match o,l,vs with
 |_,l,[]=>some l
 |0,_::l,v::vs=>match afx l 0 vs with|some q=>some (v::q)|none=>none
 |o+1,x::l,vs=>match afx l o vs with|some q=>some (x::q)|none=>none
 |_,[],_=>none
theorem agk {α:Type}:∀(l:List α) (o:Nat) (vs r:List α),afx l o vs=some r->r.length=l.length/\(vs=[]\/o+vs.length<=l.length)/\(vs≠ []->r=l.take o++vs++l.drop (o+vs.length))/\(vs=[]->r=l):=by
 intro l
 induction l with
 |nil=>
  intro o vs r h;cases vs with
  |nil=>unfold afx at h;simp at h;subst h;simp
  |cons v vs=>unfold afx at h;cases o<;>simp at h
 |cons x l ih=>
  intro o vs r h;cases vs with
  |nil=>unfold afx at h;simp at h;subst h;simp
  |cons v vs=>
   cases o with
   |zero=>
    simp only [afx]at h
    split at h
    ·rename_i q hq
     simp at h;subst h;obtain ⟨h1,h2,h3,h4⟩:=ih 0 vs q hq;refine ⟨by simp [h1],.inr ?_,λ_=>?_,λhc=>by cases hc⟩
     ·grind
     ·by_cases hv:vs=[]
      ·grind
      ·grind
    ·cases h
   |succ o=>
    simp only [afx]at h
    split at h
    ·grind
    ·cases h
theorem aod {α:Type}(l:List α)(o:Nat)(v:α)(vs:List α)(h:o+(v::vs).length<=l.length):
  (l.set o v).take (o+1)++vs++(l.set o v).drop (o+1+vs.length)=l.take o++(v::vs)++l.drop (o+(v::vs).length):=by
 simp at h
 have h1:(l.set o v).take (o+1)=l.take o++[v]:=by
  rw [List.take_add_one,List.take_set_of_le (Nat.le_refl _),List.getElem?_set];simp;omega
 rw [h1,List.drop_set_of_lt (by omega)]
 grind
inductive SV where
 |v (x:Value)
 |p (i off:Nat)
 |e (a:Option Addr) (i k off:Nat)
 |f (g:FuncId) (caps:List (Nat×Nat))
 |T
 |F
def conc (bs:Nat->Nat):SV->Value
 | .v x=>x
 | .p i off=> .pointer (some ⟨bs i,off,none⟩)
 | .e a i k off=>match a with|some a=> .pointer (some ((a.add (i*k)).add off))|none=>undef
 | .f g caps=> .func (.func g) #[] (caps.map λc=>Value.pointer (some ⟨bs c.1,c.2,none⟩)).toArray
 | .T=> .bool true
 | .F=> .bool false
theorem aif (bs:Nat->Nat)(x:Value):conc bs (.v x)=x:=rfl
def valO:SV->Option Value
 | .v x=>some x
 | .T=>some (.bool true)
 | .F=>some (.bool false)
 |_=>none
theorem ahl {s:SV}(h:valO s=some v)(bs:Nat->Nat):conc bs s=v:=by cases s<;>simp [valO]at h<;>subst h<;>rfl
abbrev Env:=List (Nat×SV)
variable {env env' : Env}
structure TI where
 desc:TypeDesc
 size:Nat
 bytes:Nat
 zero:Value
variable {ti : TI}
abbrev TT:=List (Nat×TI)
structure Loc where
 T:Nat
 cs:List Value
variable {l : Loc}
abbrev Locs:=List (Nat×Loc)
variable {L L' : Locs}
structure Row where
 k:Nat
 p:Option Addr
 n:Nat
 c:Nat
 xs:List Value
variable {r : Row}
abbrev Rows:=List (Nat×Row)
variable {R : Rows}
abbrev GH:=Nat->Option Obj
variable {A B G h G' H : GH}
def hp (w:World):GH:=λb=>w.heap[b]?
def Le (G G':GH):Prop:=∀b o,G b=some o->G' b=some o
theorem Le.refl (G:GH):Le G G:=λ_ _ h=>h
theorem Le.trans {C:GH}(h:Le A B)(k:Le B C):Le A C:=λb o x=>k b o (h b o x)
def Dj (A B:GH):Prop:=∀b,A b=none\/B b=none
theorem Dj.symm (h:Dj A B):Dj B A:=λb=>(h b).symm
theorem Dj.mono {A B A' B':GH}(h:Dj A B)(ha:Le A' A)(hb:Le B' B):Dj A' B':=λb=>by
 rcases h b with h|h
 ·left;cases hx:A' b with
  |none=>rfl
  |some o=>rw [ha b o hx]at h;cases h
 ·right;cases hx:B' b with
  |none=>rfl
  |some o=>rw [hb b o hx]at h;cases h
def emp:GH:=λ_=>none
theorem acv (G:GH):Le emp G:=λ_ _ h=>by cases h
theorem ade (G:GH):Dj emp G:=λ_=> .inl rfl
def cut (G h:GH):GH:=λb=>match h b with|none=>G b|some _=>none
theorem agb (G h:GH):Le (cut G h) G:=λb o x=>by grind [cut]
theorem ael (ha:Le A G)(hd:Dj A h):Le A (cut G h):=λb o x=>by
 unfold cut;rcases hd b with h1|h1
 ·grind
 ·rw [h1];exact ha b o x
theorem ahg (G h:GH):Dj (cut G h) h:=λb=>by grind [cut]
theorem aj7 (hb:G b=none):cut G h b=none:=by grind [cut]
theorem apg (hl:Le G G'):Le (cut G h) (cut G' h):=ael ((agb G h).trans hl) (ahg G h)
def join (A B:GH):GH:=λb=>match A b with|some o=>some o|none=>B b
theorem acq (A B:GH):Le A (join A B):=λb o h=>by unfold join;rw [h]
theorem ad3 (hd:Dj A B):Le B (join A B):=λb o h=>by
 unfold join;rcases hd b with h1|h1
 ·grind
 ·grind
theorem ae0 {A B G:GH}(ha:Le A G)(hb:Le B G):Le (join A B) G:=λb o h=>by
 unfold join at h;cases hx:A b with
 |some q=>rw [hx]at h;cases h;exact ha b _ hx
 |none=>rw [hx]at h;exact hb b o h
theorem ani {o:Obj}(h:join A B b=some o):A b=some o\/B b=some o:=by grind [join]
theorem afc {C:GH}(ha:Dj A C)(hb:Dj B C):Dj (join A B) C:=λb=>by
 rcases ha b with h1|h1
 ·rcases hb b with h2|h2
  ·left;grind [join]
  ·exact .inr h2
 ·exact .inr h1
def gcell (G:GH)(a:Addr):Option Value:=
 match G a.block with
 |some (.cells c _ _)=>if a.spot.isSome then none else c[a.off]?
 |_=>none
theorem ah1 {G G':GH}(h:Le G G'){a:Addr}{v:Value}(hc:gcell G a=some v):gcell G' a=some v:=by
 unfold gcell at*;cases hb:G a.block with
 |none=>rw [hb]at hc;cases hc
 |some o=>rw [hb]at hc;rw [h _ _ hb];exact hc
inductive Kd where
 |lin
 |stb
 |der
structure MF where
 k:Kd
 p:GH->Prop
 m:∀ {G G':GH},Le G G'->p G->p G'
variable {fs : List MF} {f : MF}
abbrev Facts:=List (Nat×MF)
variable {Γ Γ' : Facts}
def All (G:GH)(fs:List MF):Prop:=∀f∈fs,f.p G
theorem All.mono (h:Le G G')(k:All G fs):All G' fs:=λf hf=>f.m h (k f hf)
def Sep (h:GH):List MF->Prop
 |[]=>True
 |f::fs=>∃h1 h2,Le h1 h/\Le h2 h/\Dj h1 h2/\f.p h1/\Sep h2 fs
theorem Sep.mono:∀ {fs:List MF}{h h':GH},Le h h'->Sep h fs->Sep h' fs
 |[],_,_,_,_=>trivial
 |_::_,_,_,hl,⟨h1,h2,a,b,c,d,e⟩=>⟨h1,h2,a.trans hl,b.trans hl,c,d,e⟩
theorem Sep.all:∀ {fs:List MF}{h:GH},Sep h fs->All h fs
 |[],_,_,f,hf=>by cases hf
 |g::fs,h,⟨h1,h2,a,b,_,d,e⟩,f,hf=>by
  rcases List.mem_cons.1 hf with rfl|hf
  ·exact f.m a d
  ·exact f.m b (e.all f hf)
theorem Sep.append:∀ {fs gs:List MF}{h:GH},Sep h (fs++gs)->∃h1 h2,Le h1 h/\Le h2 h/\Dj h1 h2/\Sep h1 fs/\Sep h2 gs
 |[],_,h,k=>⟨emp,h,acv _,Le.refl _,ade _,trivial,k⟩
 |f::fs,gs,h,⟨h1,h2,a,b,c,d,e⟩=>by
  obtain ⟨q1,q2,r1,r2,r3,r4,r5⟩:=Sep.append e;refine ⟨join h1 q1,q2,ae0 a (r1.trans b),r2.trans b,afc (c.mono (Le.refl _) r2) r3,⟨h1,q1,acq _ _,ad3 (c.mono (Le.refl _) r1),c.mono (Le.refl _) r1,d,r4⟩,r5⟩
theorem Sep.both:∀ {fs gs:List MF}{h h1 h2:GH},Le h1 h->Le h2 h->Dj h1 h2->Sep h1 fs->Sep h2 gs->Sep h (fs++gs)
 |[],_,_,_,_,_,b,_,_,k=>k.mono b
 |f::fs,gs,h,h1,h2,a,b,c,⟨q1,q2,r1,r2,r3,r4,r5⟩,k=>
  ⟨q1,join q2 h2,r1.trans a,ae0 (r2.trans a) b,(afc r3.symm ((c.mono r1 (Le.refl _)).symm)).symm,r4,Sep.both (acq _ _) (ad3 (c.mono r2 (Le.refl _))) (c.mono r2 (Le.refl _)) r5 k⟩
theorem Sep.perm {l l':List MF}(hp:l.Perm l'):∀ {h:GH},Sep h l->Sep h l':=by
 induction hp with
 |nil=>exact λh=>h
 |cons x _ ih=>exact λ⟨h1,h2,a,b,c,d,e⟩=>⟨h1,h2,a,b,c,d,ih e⟩
 |swap x y l=>
  rintro h ⟨h1,h2,a,b,c,d,q1,q2,r1,r2,r3,r4,r5⟩;exact ⟨q1,join h1 q2,r1.trans b,ae0 a (r2.trans b),(afc (c.mono (Le.refl _) r1) r3.symm).symm,r4,h1,q2,acq _ _,ad3 (c.mono (Le.refl _) r2),c.mono (Le.refl _) r2,d,r5⟩
 |trans _ _ ih1 ih2=>exact λh=>ih2 (ih1 h)
theorem Sep.tail:Sep h (f::fs)->Sep h fs:=λ⟨_,_,_,b,_,_,e⟩=>e.mono b
def lins:Facts->List MF
 |[]=>[]
 |(_,f)::r=>match f.k with| .lin=>f::lins r| .stb=>lins r| .der=>lins r
structure Holds (M:Nat->Prop) (G:GH) (Γ:Facts) (S h:GH):Prop where
 sle:Le S G
 hle:Le h G
 dj:Dj S h
 own:∀b o,h b=some o->M b
 stb:∀n f,(n,f)∈Γ->f.k= .stb->f.p S
 der:∀n f,(n,f)∈Γ->f.k= .der->f.p G
 lin:Sep h (lins Γ)
def AllK (M:Nat->Prop)(G:GH)(Γ:Facts):Prop:=∃S h,Holds M G Γ S h
theorem aj6 {α:Type}:∀ {l:List (Nat×α)} {i:Nat} {x:α},look l i=some x->(i,x)∈l
 |[],i,x,h=>by simp [look]at h
 |(j,y)::r,i,x,h=>by
  rw [acg]at h
  split at h
  ·grind
  ·exact List.mem_cons_of_mem _ (aj6 h)
theorem ap0 {n:Nat}{f:MF}:∀ {Γ:Facts},(n,f)∈Γ->f.k= .lin->f∈lins Γ
 |(m,g)::r,h,hk=>by
  rcases List.mem_cons.1 h with h|h
  ·grind [lins]
  ·have:=ap0 h hk
   unfold lins
   grind
theorem AllK.mem {M:Nat->Prop}{G:GH}{Γ:Facts}(h:AllK M G Γ){n:Nat}{f:MF}(hf:(n,f)∈Γ):f.p G:=by
 obtain ⟨S,q,h⟩:=h;cases hk:f.k with
 |lin=>exact f.m h.hle (h.lin.all f (ap0 hf hk))
 |stb=>exact f.m h.sle (h.stb n f hf hk)
 |der=>exact h.der n f hf hk
theorem AllK.get {M:Nat->Prop}(h:AllK M G Γ)(i:Nat)(hf:look Γ i=some f):f.p G:=h.mem (aj6 hf)
theorem AllK.mono {M:Nat->Prop}(hl:Le G G')(k:AllK M G Γ):AllK M G' Γ:=by obtain ⟨S,h,k⟩:=k;exact ⟨S,h,k.sle.trans hl,k.hle.trans hl,k.dj,k.own,k.stb,λn f hf hk=>f.m hl (k.der n f hf hk),k.lin⟩
theorem AllK.new {M:Nat->Prop}{G G' h:GH}{Γ:Facts}(hΓ:AllK M G Γ)(n:Nat)(f:MF)(hG:Le G G')(hl:Le h G')(hd:f.k≠ .der->Dj h G)(hM:f.k= .lin->∀b o,h b=some o->M b)(hp:f.p h):AllK M G' ((n,f)::Γ):=by
 obtain ⟨S,q,k⟩:=hΓ
 have hder:∀m g,(m,g)∈(n,f)::Γ->g.k= .der->g.p G':=λm g hg hk=>by
  rcases List.mem_cons.1 hg with hg|hg
  ·cases hg;exact f.m hl hp
  ·exact g.m hG (k.der m g hg hk)
 cases hk:f.k with
 |lin=>
  have hD:=hd (by rw [hk];simp);refine ⟨S,join h q,k.sle.trans hG,ae0 hl (k.hle.trans hG),(afc (hD.mono (Le.refl _) k.sle) k.dj.symm).symm,λb o hb=>(ani hb).elim (hM hk b o) (k.own b o),λm g hg hk'=>?_,hder,?_⟩
  ·rcases List.mem_cons.1 hg with hg|hg
   ·grind
   ·exact k.stb m g hg hk'
  ·simp only [lins,hk]
   exact ⟨h,q,acq _ _,ad3 (hD.mono (Le.refl _) k.hle),hD.mono (Le.refl _) k.hle,hp,k.lin⟩
 |stb=>
  have hD:=hd (by rw [hk];simp);refine ⟨join h S,q,ae0 hl (k.sle.trans hG),k.hle.trans hG,afc (hD.mono (Le.refl _) k.hle) k.dj,k.own,λm g hg hk'=>?_,hder,?_⟩
  ·rcases List.mem_cons.1 hg with hg|hg
   ·cases hg;exact f.m (acq _ _) hp
   ·exact g.m (ad3 (hD.mono (Le.refl _) k.sle)) (k.stb m g hg hk')
  ·simp only [lins,hk];exact k.lin
 |der=>
  refine ⟨S,q,k.sle.trans hG,k.hle.trans hG,k.dj,k.own,λm g hg hk'=>?_,hder,?_⟩
  ·rcases List.mem_cons.1 hg with hg|hg
   ·grind
   ·exact k.stb m g hg hk'
  ·simp only [lins,hk];exact k.lin
theorem AllK.der {M:Nat->Prop}(hΓ:AllK M G Γ)(n:Nat)(f:MF)(hk:f.k= .der)(hp:f.p G):AllK M G ((n,f)::Γ):=
 hΓ.new n f (Le.refl _) (Le.refl _) (λh=>absurd hk h) (λh=>by rw [hk]at h;cases h) hp
theorem AllK.stbOf {M:Nat->Prop}(hΓ:AllK M G Γ)(n:Nat)(f:MF)(hk:f.k= .stb)(i:Nat){g:MF}(hi:look Γ i=some g)(hg:g.k= .stb)(hp:∀G,g.p G->f.p G):AllK M G ((n,f)::Γ):=by
 obtain ⟨S,q,k⟩:=hΓ;refine ⟨S,q,k.sle,k.hle,k.dj,k.own,λm e he hk'=>?_,λm e he hk'=>?_,?_⟩
 ·rcases List.mem_cons.1 he with he|he
  ·cases he;exact hp S (k.stb i g (aj6 hi) hg)
  ·exact k.stb m e he hk'
 ·rcases List.mem_cons.1 he with he|he
  ·grind
  ·exact k.der m e he hk'
 ·simp only [lins,hk];exact k.lin
def addL (n:Nat):List MF->Facts->Facts
 |[],Γ=>Γ
 |f::fs,Γ=>(n,f)::addL (n+1) fs Γ
theorem AllK.newSep {M:Nat->Prop}:∀ {fs:List MF} {G h:GH} {Γ:Facts} (n:Nat),AllK M G Γ->Dj h G->(∀b o,h b=some o->M b)->Sep h fs->AllK M (join G h) (addL n fs Γ)
 |[],G,h,Γ,n,hΓ,_,_,_=>hΓ.mono (acq _ _)
 |f::fs,G,h,Γ,n,hΓ,hd,hM,⟨h1,h2,a,b,c,d,e⟩=>by
  have hr:=AllK.newSep (n+1) hΓ (hd.mono b (Le.refl _)) (λx o hx=>hM x o (b x o hx)) e;exact hr.new n f (ae0 (acq _ _) (b.trans (ad3 hd.symm))) (a.trans (ad3 hd.symm)) (λ_=>(afc (hd.mono a (Le.refl _)).symm c.symm).symm) (λ_ x o hx=>hM x o (a x o hx)) d
def addF (n:Nat)(fs:List MF)(Γ:Facts):Option Facts:=
 match fs with
 |[]=>some Γ
 |f::fs=>(match addF (n+1) fs Γ with|some q=>some ((n,f)::q)|none=>none)
theorem akd:∀ {fs:List MF}{n:Nat}{Γ Γ':Facts},addF n fs Γ=some Γ'->Γ'=addL n fs Γ
 |[],n,Γ,Γ',h=>by simp [addF]at h;exact h.symm
 |f::fs,n,Γ,Γ',h=>by
  simp only [addF]at h
  split at h
  ·rename_i q hq;simp at h;rw [<-h,akd hq];rfl
  ·cases h
theorem AllK.ders {M:Nat->Prop}{G:GH}:∀ {fs:List MF} {n:Nat} {Γ Γ':Facts},addF n fs Γ=some Γ'->(∀f∈fs,f.k= .der)->All G fs->AllK M G Γ->AllK M G Γ'
 |[],n,Γ,Γ',h,_,_,k=>by grind [addF]
 |f::fs,n,Γ,Γ',h,hk,ha,k=>by
  simp only [addF]at h
  split at h
  ·rename_i q hq
   simp only [Option.some.injEq]at h;subst h;exact (AllK.ders hq (λg hg=>hk g (List.mem_cons_of_mem _ hg)) (λg hg=>ha g (List.mem_cons_of_mem _ hg)) k).der n f (hk f (List.mem_cons_self ..)) (ha f (List.mem_cons_self ..))
  ·cases h
def ass (k:Nat):Facts->Option (MF×Facts)
 |[]=>none
 |(j,f)::r=>(match Nat.beq j k with
  |true=>some (f,r)
  |false=>(match ass k r with
   |some (g,q)=>some (g,(j,f)::q)
   |none=>none))
theorem ajm:∀ {Γ:Facts}{k:Nat}{f:MF}{Γ':Facts},ass k Γ=some (f,Γ')->((k,f)::Γ').Perm Γ
 |(j,g)::r,k,f,Γ',h=>by
  simp only [ass]at h
  split at h
  ·simp_all
  ·split at h
   ·rename_i g' q hq
    simp at h;obtain ⟨rfl,rfl⟩:=h;exact (List.Perm.swap ..).trans ((ajm hq).cons _)
   ·cases h
theorem amm {Γ Γ':Facts}(h:Γ.Perm Γ'):(lins Γ).Perm (lins Γ'):=by
 induction h with
 |nil=>exact .nil
 |cons x _ ih=>obtain ⟨n,f⟩:=x;unfold lins;cases f.k<;>first|exact ih.cons _|exact ih
 |swap x y l=>
  obtain ⟨n,f⟩:=x;obtain ⟨m,g⟩:=y;simp only [lins];cases f.k<;>cases g.k<;>first|exact List.Perm.swap .. |exact List.Perm.refl _
 |trans _ _ a b=>exact a.trans b
theorem AllK.perm {M:Nat->Prop}(h:Γ.Perm Γ')(k:AllK M G Γ):AllK M G Γ':=by obtain ⟨S,q,k⟩:=k;exact ⟨S,q,k.sle,k.hle,k.dj,k.own,λn f hf=>k.stb n f (h.mem_iff.2 hf),λn f hf=>k.der n f (h.mem_iff.2 hf),k.lin.perm (amm h)⟩
theorem AllK.tail {M:Nat->Prop}{G:GH}{x:Nat×MF}{Γ:Facts}(k:AllK M G (x::Γ)):AllK M G Γ:=by
 obtain ⟨S,q,k⟩:=k;refine ⟨S,q,k.sle,k.hle,k.dj,k.own,λn f hf=>k.stb n f (List.mem_cons_of_mem _ hf),λn f hf=>k.der n f (List.mem_cons_of_mem _ hf),?_⟩;have:=k.lin;obtain ⟨n,f⟩:=x;unfold lins at this;cases hk:f.k with
 |lin=>rw [hk]at this;exact this.tail
 |stb=>rw [hk]at this;exact this
 |der=>rw [hk]at this;exact this
def ag6:List Nat->Facts->Option Facts
 |[],_=>some []
 |k::ks,Γ=>(match ass k Γ with
  |some (f,r)=>(match ag6 ks r with
   |some q=>some ((k,f)::q)
   |none=>none)
  |none=>none)
theorem alf {M:Nat->Prop}{G:GH}:∀ {ks:List Nat} {Γ Γ' A:Facts},ag6 ks Γ=some Γ'->AllK M G (A++Γ)->AllK M G (A++Γ')
 |[],Γ,Γ',A,h,k=>by
  simp [ag6]at h;subst h
  have:∀B:Facts,AllK M G (A++B)->AllK M G (A++[]):=by
   intro B
   induction B with
   |nil=>exact λh=>h
   |cons x B ih=>exact λh=>ih ((h.perm List.perm_middle).tail)
  grind
 |n::ks,Γ,Γ',A,h,k=>by
  simp only [ag6]at h
  split at h
  ·rename_i f r hr
   split at h
   ·rename_i q hq
    simp at h;subst h
    have h1:AllK M G ((A++[(n,f)])++r):=by
     rw [List.append_assoc];exact k.perm ((ajm hr).symm.append_left A)
    have:=alf hq h1
    grind
   ·cases h
  ·cases h
theorem AllK.pick {M:Nat->Prop}(h:ag6 ks Γ=some Γ')(k:AllK M G Γ):AllK M G Γ':=alf (A:=[]) h k
def aqv:Facts->Option Facts
 |[]=>some []
 |(j,f)::r=>(match aqv r with
  |some q=>(match f.k with| .der=>some q| .lin=>some ((j,f)::q)| .stb=>some ((j,f)::q))
  |none=>none)
theorem alr:∀ {Γ Γ':Facts},aqv Γ=some Γ'->lins Γ'=lins Γ/\(∀n f,(n,f)∈Γ'->(n,f)∈Γ/\f.k≠ .der)
 |[],Γ',h=>by grind [aqv]
 |(j,f)::r,Γ',h=>by
  simp only [aqv]at h
  split at h
  ·rename_i q hq
   obtain ⟨h1,h2⟩:=alr hq
   grind [List.mem_cons_of_mem,lins,List.mem_cons.1,List.mem_cons_self]
  ·cases h
def aw0 (f:MF):Bool:=match f.k with| .lin=>true| .stb=>false| .der=>false
theorem apz (h:aw0 f=true):f.k= .lin:=by grind [aw0]
def aqt:List Nat->Facts->Option (List MF×Facts)
 |[],Γ=>some ([],Γ)
 |k::ks,Γ=>(match ass k Γ with
  |some (f,r)=>(match aw0 f with
   |true=>(match aqt ks r with
    |some (fs,q)=>some (f::fs,q)
    |none=>none)
   |false=>none)
  |none=>none)
theorem alt:∀ {ks:List Nat}{h:GH}{Γ Γ':Facts}{fs:List MF},aqt ks Γ=some (fs,Γ')->Sep h (lins Γ)->
  ∃H h',Le H h/\Le h' h/\Dj H h'/\Sep H fs/\Sep h' (lins Γ')/\∀x∈Γ',x∈Γ
 |[],h,Γ,Γ',fs,e,k=>by
  simp [aqt]at e;obtain ⟨rfl,rfl⟩:=e;exact ⟨emp,h,acv _,Le.refl _,ade _,trivial,k,λ_ h=>h⟩
 |n::ks,h,Γ,Γ',fs,e,k=>by
  simp only [aqt]at e
  split at e
  ·rename_i f r hr
   split at e
   ·rename_i hl
    split at e
    ·rename_i fs' q hq
     simp at e;obtain ⟨rfl,rfl⟩:=e;have hp:=ajm hr;have hlin:=k.perm (amm hp.symm);simp only [lins,apz hl]at hlin;obtain ⟨h1,h2,a,b,c,d,e⟩:=hlin;obtain ⟨H,h',q1,q2,q3,q4,q5,q6⟩:=alt hq e;exact ⟨join h1 H,h',ae0 a (q1.trans b),q2.trans b,afc (c.mono (Le.refl _) q2) q3,⟨h1,H,acq _ _,ad3 (c.mono (Le.refl _) q1),c.mono (Le.refl _) q1,d,q4⟩,q5,λx hx=>hp.mem_iff.1 (List.mem_cons_of_mem _ (q6 x hx))⟩
    ·cases e
   ·cases e
  ·cases e
def af4 (ks:List Nat)(Γ:Facts):Option (List MF×Facts):=
 match aqv Γ with
 |some Γ0=>aqt ks Γ0
 |none=>none
theorem aek {M:Nat->Prop}(h:af4 ks Γ=some (fs,Γ'))(k:AllK M G Γ):
  ∃H,Le H G/\(∀b o,H b=some o->M b)/\Sep H fs/\AllK M (cut G H) Γ':=by
 unfold af4 at h
 split at h
 ·rename_i Γ0 h0
  obtain ⟨n1,n2⟩:=alr h0;obtain ⟨S,g,k⟩:=k;obtain ⟨H,h',q1,q2,q3,q4,q5,q6⟩:=alt h (by rw [n1];exact k.lin);refine ⟨H,q1.trans k.hle,λb o hb=>k.own b o (q1 b o hb),q4,S,h',ael k.sle (k.dj.mono (Le.refl _) q1),ael (q2.trans k.hle) q3.symm,k.dj.mono (Le.refl _) q2,λb o hb=>k.own b o (q2 b o hb),λn f hf hk=>?_,λn f hf hk=>?_,q5⟩
  ·exact k.stb n f (n2 n f (q6 _ hf)).1 hk
  ·grind
 ·cases h
structure At (n:Nat) (env:Env) (bs:Nat->Nat) (a:Act):Prop where
 size:a.tmps.size=n
 dfr:a.defers=[]
 slot:∀d s,look env d=some s->a.tmps.getD d undef=conc bs s
def agm (M:Nat->Prop)(w:World)(G:GH)(b:Nat)(r:Row):Prop:=
 r.xs.length=r.n*r.k/\((r.c=0/\r.n=0)\/
  ∃o,r.p=some ⟨b,o,none⟩/\M b/\G b=none/\r.n<=r.c/\r.c<=maxLen/\
   ∃cur T,w.heap[b]? =some (.cells cur T (0,0))/\o+r.c*r.k<=cur.size/\(cur.toList.drop o).take (r.n*r.k)=r.xs)
def Acts (L:Locs)(R:Rows)(i:Nat):Prop:=(∃l,look L i=some l)\/(∃r,look R i=some r/\r.c≠0)
structure Kp (H:GH) (w w':World):Prop where
 os:w'.os=w.os
 tape:w'.tape=w.tape
 output:w'.output=w.output
 size:w.heap.size<=w'.heap.size
 block:∀k,k<w.heap.size->H k=none->w'.heap[k]? =w.heap[k]?
theorem Kp.refl (H:GH)(w:World):Kp H w w:=⟨rfl,rfl,rfl,Nat.le_refl _,λ_ _ _=>rfl⟩
theorem Kp.trans {a b c:World}(h:Kp H a b)(k:Kp H b c):Kp H a c:=
 ⟨k.os.trans h.os,k.tape.trans h.tape,k.output.trans h.output,Nat.le_trans h.size k.size,λi hi hn=>(k.block i (Nat.lt_of_lt_of_le hi h.size) hn).trans (h.block i hi hn)⟩
theorem Kp.wide {H':GH}(h:Kp H w w')(k:∀b,H' b=none->b<w.heap.size->H b=none):Kp H' w w':=
 ⟨h.os,h.tape,h.output,h.size,λi hi hn=>h.block i hi (k i hn hi)⟩
theorem Kp.below (h:Kp emp w w'):Below w.heap.size w w':=⟨h.os,h.tape,h.output,h.size,λi hi=>h.block i hi rfl⟩
def Ret (w:World)(H:GH)(Φ:Value->World->Prop):Ending->World->Prop:=
 λe w'=>∃v,e= .returned v/\Kp H w w'/\Φ v w'
structure Cx where
 P:Program
 fn:Func
 tt:TT
 w0:World
 H:GH
 pin:Option Nat
 Φ:Value->World->Prop
variable {C : Cx}
def Cx.M (C:Cx)(b:Nat):Prop:=C.w0.heap.size<=b\/C.H b≠none
structure HInv (C:Cx) (w:World) (G:GH) (bs:Nat->Nat) (L:Locs) (R:Rows):Prop where
 keep:Kp C.H C.w0 w
 le:Le G (hp w)
 loc:∀i l,look L i=some l->w.heap[bs i]? =some (.cells l.cs.toArray l.T (0,0))/\C.M (bs i)/\G (bs i)=none
 row:∀i r,look R i=some r->agm C.M w G (bs i) r
 inj:∀i j,i≠j->Acts L R i->Acts L R j->bs i≠bs j
 dis:∀i l r,look L i=some l->look R i=some r->False
 pin:∀b,C.pin=some b->bs 999=b
 nr:∀r,look R 999≠some r
inductive It where
 |ops (ops:Array Oper) (rest:List Oper)
 |code (c:Code)
 |blk (id:Nat)
 |iter (I:Act->World->Prop)
def cont (C:Cx):List It->Exit->Act->World->Prop
 |[]=>bodyPost C.P C.fn (Ret C.w0 C.H C.Φ)
 | .code c::s=>Exit.then (c.wp C.P (cont C s)) (cont C s)
 | .blk id::s=>Exit.inBlock id (cont C s)
 | .iter I::s=>Exit.then I (cont C s)
 | .ops ops rest::s=>Exit.then (wpList C.P ops (cont C s) rest) (cont C s)
def SatB (C:Cx)(env:Env)(L:Locs)(R:Rows)(Γ:Facts)(G:GH)(bs:Nat->Nat)(a:Act)(w:World):Prop:=
 At C.fn.ntmps env bs a/\HInv C w G bs L R/\AllK C.M G Γ
def Sat (C:Cx)(env:Env)(L:Locs)(R:Rows)(Γ:Facts)(a:Act)(w:World):Prop:=
 ∃G bs,SatB C env L R Γ G bs a w
def WX (C:Cx)(s:List It)(env:Env)(L:Locs)(R:Rows)(Γ:Facts):Prop:=
 ∀a w,Sat C env L R Γ a w->cont C s .normal a w
def ad6 (P:Program):TT->Prop
 |[]=>True
 |(T,ti)::r=>(P.underlying T=some ti.desc/\(P.info? T).map (λi=>(i.zero,i.size,i.bytes))=some (some ti.zero,ti.size,ti.bytes))/\ad6 P r
theorem ad6.get {P:Program}:∀ {tt:TT},ad6 P tt->∀ {T:Nat} {ti:TI},look tt T=some ti->
  P.underlying T=some ti.desc/\∃i,P.info? T=some i/\i.zero=some ti.zero/\i.size=ti.size/\i.bytes=ti.bytes
 |[],_,_,_,h=>by simp [look]at h
 |(T',ti')::r,h,T,ti,hl=>by
  rw [acg]at hl
  split at hl
  ·rename_i e;subst e;simp at hl;subst hl
   refine ⟨h.1.1,?_⟩;have h2:=h.1.2
   simp_all
  ·exact h.2.get hl
def ev (env:Env):Operand->Option SV
 | .tmp t=>look env t
 | .const v=>(match v with| .bool true=>some .T| .bool false=>some .F|v=>some (.v v))
 | .func g=>some (.f g [])
 | .global _=>none
theorem ac5 {n:Nat}{env:Env}{bs:Nat->Nat}{a:Act}(h:At n env bs a){x:Operand}{s:SV}(hx:ev env x=some s):a.eval x=conc bs s:=by
 cases x with
 |tmp t=>exact h.slot t s hx
 |const v=>
  simp only [ev]at hx
  split at hx<;>simp only [Option.some.injEq]at hx<;>subst hx<;>rfl
 |func g=>simp [ev]at hx;subst hx;rfl
 |global g=>simp [ev]at hx
def asm (ti:TI)(cs:List Value)(off:Nat):Option Value:=
 match ti.desc with
 | .struct _=>(match apv cs off with
  |some r=>(match aqb r ti.size with|some q=>some (.agg ⟨q⟩)|none=>none)
  |none=>none)
 | .array _ _=>none
 |_=>getO cs off
def cmpI (b:BinOp)(m n:Int):Option Bool:=
 match b with
 | .lss=>some (decide (m<n))
 | .leq=>some (decide (m<=n))
 | .gtr=>some (decide (m>n))
 | .geq=>some (decide (m>=n))
 | .eql=>some (m==n)
 | .neq=>some (m !=n)
 |_=>none
def cmpS (b:BinOp)(x y:ByteArray):Option Bool:=
 match b with
 | .eql=>some (x.toList==y.toList)
 | .neq=>some (!(x.toList==y.toList))
 | .lss=>some (Op.bytesLess x.toList y.toList)
 | .leq=>some (Op.bytesLess x.toList y.toList||x.toList==y.toList)
 | .gtr=>some (!(Op.bytesLess x.toList y.toList||x.toList==y.toList))
 | .geq=>some (!(Op.bytesLess x.toList y.toList))
 |_=>none
def ar0 (tt:TT)(T f:Nat):Option Nat:=
 match look tt T with
 |some ti=>(match ti.desc with
  | .struct fs=>(match getO fs.toList f with
   |some fd=>(match look tt fd.type with
    |some tf=>(match tf.size with|0=>none|_+1=>some fd.offset)
    |none=>none)
   |none=>none)
  |_=>none)
 |none=>none
def ajk:SV->Bool
 | .p _ _=>false
 | .e (some _) _ _ _=>false
 | .v (.pointer (some _))=>false
 |_=>true
def ai5 (ti:TI)(v:Value):Option (List Value):=
 match ti.desc with
 | .struct _=>(match v with| .agg cs=>some cs.toList|_=>none)
 | .array _ _=>none
 |_=>(match v with| .agg _=>none| .tuple _=>none|v=>some [v])
theorem afu (h:ai5 ti v=some cs):v.cells.toList=cs:=by
 unfold ai5 at h
 split at h
 ·split at h
  ·simp at h;subst h;simp [Value.cells]
  ·cases h
 ·cases h
 ·cases v<;>simp at h<;>subst h<;>simp [Value.cells]
def amj (tt:TT)(env:Env)(place:Nat->Option (Nat×Nat))(cs:List Value):List (Nat×Operand)->Option (List Value)
 |[]=>some cs
 |(i,x)::r=>(match place i with
  |some (off,T)=>(match look tt T with
   |some ti=>(match ev env x with
    |some sv=>(match valO sv with
     |some v=>(match ai5 ti v with
      |some (v0::vs)=>(match Nat.beq (v0::vs).length ti.size with
       |true=>(match afx cs off (v0::vs)with
        |some cs'=>amj tt env place cs' r
        |none=>none)
       |false=>none)
      |_=>none)
     |none=>none)
    |none=>none)
   |none=>none)
  |none=>none)
def ak5 (fs:List Field)(i:Nat):Option (Nat×Nat):=
 match getO fs i with
 |some f=>some (f.offset,f.type)
 |none=>none
def ajy (tt:TT):List Field->Bool
 |[]=>true
 |f::r=>(match look tt f.type with|some _=>ajy tt r|none=>false)
def al8 (tt:TT)(env:Env)(L:Locs)(op:Op):Option SV:=
 match op with
 | .move x=>ev env x
 | .assign x=>ev env x
 | .pick c x y=>(match ev env c with
  |some .T=>ev env x
  |some .F=>ev env y
  |_=>none)
 | .binOp b _ x y _=>(match ev env x with
  |some (.v (.int .i64 m))=>(match ev env y with
   |some (.v (.int .i64 n))=>(match cmpI b m n with|some r=>some (.v (.bool r))|none=>none)
   |_=>none)
  |some (.v (.int .u8 m))=>(match ev env y with
   |some (.v (.int .u8 n))=>(match cmpI b m n with|some r=>some (.v (.bool r))|none=>none)
   |_=>none)
  |some (.v (.string m))=>(match ev env y with
   |some (.v (.string n))=>(match cmpS b m n with|some r=>some (.v (.bool r))|none=>none)
   |_=>none)
  |_=>none)
 | .unOp .not _ x=>(match ev env x with
  |some (.v (.bool b))=>some (.v (.bool (!b)))
  |some .T=>some .F
  |some .F=>some .T
  |_=>none)
 | .call c=>(match c.callee with
  | .builtin .len=>(match c.args.toList with
   |[x]=>(match c.argTypes.toList with
    |[T]=>(match look tt T with
     |some ti=>(match ti.desc with
      | .slice _=>(match ev env x with
       |some (.v (.slice _ n _))=>some (.v (.int .i64 n))
       |_=>none)
      | .string=>(match ev env x with
       |some (.v (.string b))=>some (.v (.int .i64 b.size))
       |_=>none)
      |_=>none)
     |none=>none)
    |_=>none)
   |_=>none)
  |_=>none)
 | .extract x i=>(match ev env x with
  |some (.v (.tuple vs))=>(match getO vs.toList i with|some v=>some (.v v)|none=>none)
  |_=>none)
 | .fieldAddr T x f=>(match ar0 tt T f with
  |some o=>(match ev env x with
   |some (.p i off)=>some (.p i (off+o))
   |some (.e a i k off)=>(match a with|some a=>some (.e (some a) i k (off+o))|none=>none)
   |_=>none)
  |none=>none)
 | .load T x=>(match look tt T with
  |some ti=>(match ev env x with
   |some (.p i off)=>(match look L i with
    |some l=>(match asm ti l.cs off with|some v=>some (.v v)|none=>none)
    |none=>none)
   |_=>none)
  |none=>none)
 | .makeFunc fn first caps=>(match fn with
  | .func g=>(match first.toList with
   |[]=>(match capsO env caps.toList with|some q=>some (.f g q)|none=>none)
   |_=>none)
  |_=>none)
 | .build T parts=>(match look tt T with
  |some ti=>(match ti.desc with
   | .struct fs=>(match ajy tt fs.toList with
    |true=>(match ti.zero with
     | .agg z=>(match amj tt env (ak5 fs.toList) z.toList parts.toList with
      |some cs=>some (.v (.agg ⟨cs⟩))
      |none=>none)
     |_=>none)
    |false=>none)
   |_=>none)
  |none=>none)
 | .field T x f=>(match look tt T with
  |some ti=>(match ti.desc with
   | .struct fs=>(match getO fs.toList f with
    |some fd=>(match look tt fd.type with
     |some tf=>(match ev env x with
      |some (.v (.agg cs))=>(match asm tf cs.toList fd.offset with|some v=>some (.v v)|none=>none)
      |_=>none)
     |none=>none)
    |none=>none)
   |_=>none)
  |none=>none)
 | .nilCheck x=>(match ev env x with
  |some sv=>(match ajk sv with|false=>some sv|true=>none)
  |none=>none)
 |_=>none
where
 capsO (env : Env) : List Operand → Option (List (Nat × Nat))
  | [] => some []
  | x :: r => (match ev env x with
   | some (.p i off) => (match capsO env r with | some q => some ((i, off) :: q) | none => none)
   | _ => none)
theorem aed (a:Addr)(m n:Nat):(a.add m).add n=a.add (m+n):=by
 unfold Addr.add
 grind
def aggD:TypeDesc->Bool
 | .struct _=>true
 | .array _ _=>true
 |_=>false
theorem aku {d:TypeDesc}(h:P.underlying T=some d)(w:World):
  (isAgg T).run P w= .ok (aggD d) w:=by
 unfold isAgg;simp only [Sem.run_bind,run_underlying h,Result.andThen_ok];cases d<;>rfl
theorem aej {i:TypeInfo}(h:P.info? T=some i)(w:World):(sizeOf T).run P w= .ok i.size w:=by simp [sizeOf,typeInfo,h]
theorem afw {tt:TT}(ht:ad6 P tt)(hT:look tt T=some ti){a:Addr}
  (hc:∀j u,cs[j]? =some u->w.cell? (a.add j)=some u) (hv:asm ti cs off=some v):(loadVar T (a.add off)).run P w= .ok v w:=by
 obtain ⟨hu,i,hi,_,hs,_⟩:=ht.get hT;have hcell:∀j u,(cs.drop off)[j]? =some u->w.cell? ((a.add off).add j)=some u:=by grind [aed]
 unfold loadVar;simp only [Sem.run_bind,aku hu,Result.andThen_ok];unfold asm at hv
 split at hv
 ·rename_i fs hd
  rw [hd];simp only [aggD,if_true,Sem.run_bind,aej hi,Result.andThen_ok,hs]
  split at hv
  ·rename_i r hr
   obtain ⟨_,rfl⟩:=ajd _ _ _ hr
   split at hv
   ·rename_i q hq
    obtain ⟨hl,rfl⟩:=ajh _ _ _ hq
    have hrun:=run_loadCells_list (P:=P) w (a.add off) ((cs.drop off).take ti.size) (λj u h=>by
     rw [List.getElem?_take]at h
     split at h
     ·grind
     ·cases h)
    simp_all
   ·cases hv
  ·cases hv
 ·cases hv
 ·rename_i h1 h2
  rw [adh]at hv;have:aggD ti.desc=false:=by grind [aggD]
  simp_all
theorem aki {tt:TT}(ht:ad6 P tt){f o:Nat}(h:ar0 tt T f=some o)(w:World)(a:Addr):
  (Instr.fieldAt T (.pointer (some a)) f).run P w= .ok (.pointer (some (a.add o))) w:=by
 unfold ar0 at h
 split at h
 ·rename_i ti hT
  split at h
  ·rename_i fs hd
   split at h
   ·rename_i fd hf
    split at h
    ·rename_i tf hF
     split at h
     ·cases h
     ·rename_i k hk
      simp only [Option.some.injEq]at h;subst h;obtain ⟨hu,_⟩:=ht.get hT;obtain ⟨_,i,hi,_,hs,_⟩:=ht.get hF;rw [adh]at hf;have hf':fs[f]? =some fd:=by simpa using hf
      rw [hd]at hu;have hz:i.size≠0:=by omega
      simp [Instr.fieldAt,run_underlying hu,hf',Instr.sureAddr,fieldPlace,aej hi,hz]
    ·cases h
   ·cases h
  ·cases h
 ·cases h
theorem aka {n:Nat}{env:Env}{bs:Nat->Nat}{a:Act}(hA:At n env bs a):∀(l:List Operand) (q:List (Nat×Nat)),al8.capsO env l=some q->
  l.map a.eval=q.map λc=>Value.pointer (some ⟨bs c.1,c.2,none⟩)
 |[],q,h=>by simp [al8.capsO]at h;subst h;rfl
 |x::r,q,h=>by
  simp only [al8.capsO]at h
  split at h
  ·rename_i i off hx
   split at h
   ·rename_i q' hq
    simp only [Option.some.injEq]at h;subst h;simp only [List.map_cons,aka hA r q' hq,ac5 hA hx];rfl
   ·cases h
  ·cases h
theorem ajo (off:Nat):∀(vs:List Value) (j:Nat) (cs cs':List Value),off+j+vs.length<=cs.length->cs'=cs.take (off+j)++vs++cs.drop (off+j+vs.length)->
  (vs.zipIdx j).foldl (λ(c:Array Value) (x:Value×Nat)=>c.setIfInBounds (off+x.2) x.1) cs.toArray=cs'.toArray
 |[],j,cs,cs',_,h=>by subst h;simp
 |v::vs,j,cs,cs',hl,h=>by
  simp only [List.zipIdx_cons,List.foldl_cons];rw [show cs.toArray.setIfInBounds (off+j) v=(cs.set (off+j) v).toArray by simp];refine ajo off vs (j+1) _ _ (by grind) ?_
  grind [aod,Nat.add_assoc]
theorem asb {place:Nat->Option (Nat×Nat)}{rest:List (Nat×Value)}{cs' vs:List Value}(hp:place i=some (off,vs.length))(hv:v.cells.toList=vs)(hvs:vs≠ [])(hsp:afx cs off vs=some cs'):
  Instr.fill place cs.toArray ((i,v)::rest)=Instr.fill place cs'.toArray rest:=by
 have hsz:v.cells.size=vs.length:=by grind
 obtain ⟨q1,q2,q3,q4⟩:=agk _ _ _ _ hsp;have hle:=q2.resolve_left hvs
 have hfold:v.cells.zipIdx.foldl (λ(c:Array Value) (x:Value×Nat)=>c.setIfInBounds (off+x.2) x.1) cs.toArray=cs'.toArray:=by
  rw [<-Array.foldl_toList,Array.toList_zipIdx,hv];exact ajo off vs 0 cs cs' (by simpa using hle) (by grind)
 rw [Instr.fill,hp]
 grind
theorem ah5 {P:Program}{tt:TT}(ht:ad6 P tt){n:Nat}{env:Env}{bs:Nat->Nat}{a:Act}(hA:At n env bs a){place place':Nat->Option (Nat×Nat)}
  (hp:∀i off T ti,place i=some (off,T)->look tt T=some ti->place' i=some (off,ti.size)):
  ∀(parts:List (Nat×Operand)) (cs r:List Value),amj tt env place cs parts=some r->Instr.fill place' cs.toArray (parts.map λx=>(x.1,a.eval x.2))=some r.toArray
 |[],cs,r,h=>by simp [amj]at h;subst h;simp [Instr.fill]
 |(i,x)::rest,cs,r,h=>by
  simp only [amj]at h
  split at h
  ·rename_i off T hpl
   split at h
   ·rename_i ti hT
    split at h
    ·rename_i sv hs
     split at h
     ·rename_i v hv
      split at h
      ·rename_i v0 vs hvs
       split at h
       ·rename_i hlen
        split at h
        ·rename_i cs' hsp
         have hcells:=afu hvs;have heval:a.eval x=v:=by rw [ac5 hA hs,ahl hv]
         simp only [List.map_cons,heval];have hsize:(v0::vs).length=ti.size:=Nat.eq_of_beq_eq_true hlen;rw [asb (by grind) hcells (by simp) hsp];exact ah5 ht hA hp rest cs' r h
        ·cases h
       ·cases h
      ·cases h
     ·cases h
    ·cases h
   ·cases h
  ·cases h
theorem ai4 {P:Program}{tt:TT}(ht:ad6 P tt):∀(fs:List Field),ajy tt fs=true->
  ∃places,fs.mapM (λf=>(P.info? f.type).map λi=>(f.offset,i.size))=some places/\∀(i:Nat) (f:Field) (ti:TI),fs[i]? =some f->look tt f.type=some ti->places[i]? =some (f.offset,ti.size)
 |[],_=>⟨[],by simp,by simp⟩
 |f::r,h=>by
  simp only [ajy]at h
  split at h
  ·rename_i ti hti
   obtain ⟨places,h1,h2⟩:=ai4 ht r h;obtain ⟨_,inf,hi,_,hs,_⟩:=ht.get hti;refine ⟨(f.offset,inf.size)::places,by simp [hi,h1],λi g tg hg htg=>?_⟩
   grind
  ·cases h
theorem ag5 {C:Cx}(ht:ad6 C.P C.tt){env:Env}{L:Locs}{R:Rows}{G:GH}{bs:Nat->Nat}{a:Act}{w:World}(hA:At C.fn.ntmps env bs a)(hI:HInv C w G bs L R)
  {o:Oper} {sv:SV} (h:al8 C.tt env L o.op=some sv):(execOp a.eval o).run C.P w= .ok (.value (conc bs sv)) w:=by
 unfold al8 at h;unfold execOp
 split at h
 case h_1 x ho=>simp only [ho,ac5 hA h];rfl
 case h_2 x ho=>simp only [ho,ac5 hA h];rfl
 case h_3 c x y ho=>
  simp only [ho]
  split at h
  ·rename_i hc;simp only [ac5 hA hc,ac5 hA h];rfl
  ·rename_i hc;simp only [ac5 hA hc,ac5 hA h];rfl
  ·cases h
 case h_4 b xt x y yt ho=>
  simp only [ho]
  split at h
  ·rename_i m hx
   split at h
   ·rename_i n hy
    split at h
    ·rename_i r hr
     simp only [Option.some.injEq]at h;subst h;simp only [ac5 hA hx,ac5 hA hy];cases b<;>simp [cmpI]at hr<;>subst hr<;>simp [conc,eqGuard,binOp,Op.intCmp]
    ·cases h
   ·cases h
  ·rename_i m hx
   split at h
   ·rename_i n hy
    split at h
    ·rename_i r hr
     simp only [Option.some.injEq]at h;subst h;simp only [ac5 hA hx,ac5 hA hy];cases b<;>simp [cmpI]at hr<;>subst hr<;>simp [conc,eqGuard,binOp,Op.intCmp]
    ·cases h
   ·cases h
  ·rename_i m hx
   split at h
   ·rename_i n hy
    split at h
    ·rename_i r hr
     simp only [Option.some.injEq]at h;subst h;simp only [ac5 hA hx,ac5 hA hy];cases b<;>simp only [cmpS,Option.some.injEq,reduceCtorEq]at hr<;>subst hr<;>simp [conc,eqGuard,binOp,Op.stringOp]
    ·cases h
   ·cases h
  ·cases h
 case h_5 xt x ho=>
  simp only [ho]
  split at h
  ·rename_i b hx
   simp only [Option.some.injEq]at h;subst h;simp only [ac5 hA hx];simp [conc,Op.unary]
  ·rename_i hx
   simp only [Option.some.injEq]at h;subst h;simp only [ac5 hA hx];simp [conc,Op.unary]
  ·rename_i hx
   simp only [Option.some.injEq]at h;subst h;simp only [ac5 hA hx];simp [conc,Op.unary]
  ·cases h
 case h_6 c ho=>
  simp only [ho]
  split at h
  ·rename_i hb
   split at h
   ·rename_i x hx
    split at h
    ·rename_i T hT
     split at h
     ·rename_i ti htt
      obtain ⟨hu,_⟩:=ht.get htt;have hargs:c.args= #[x]:=by cases hc:c.args;simp_all
      have hty:c.argTypes= #[T]:=by cases hc:c.argTypes;simp_all
      split at h
      ·rename_i e hd
       rw [hd]at hu
       split at h
       ·rename_i p n cc hv
        simp only [Option.some.injEq]at h;subst h;simp [resolve,hb,hargs,hty,ac5 hA hv,conc,invoke,builtin,Builtin.len_,run_underlying hu,goInt]
       ·cases h
      ·rename_i hd
       rw [hd]at hu
       split at h
       ·rename_i b hv
        simp only [Option.some.injEq]at h;subst h;simp [resolve,hb,hargs,hty,ac5 hA hv,conc,invoke,builtin,Builtin.len_,run_underlying hu,goInt]
       ·cases h
      ·cases h
     ·cases h
    ·cases h
   ·cases h
  ·cases h
 case h_7 x i ho=>
  simp only [ho]
  split at h
  ·rename_i vs hx
   split at h
   ·rename_i v hv
    simp only [Option.some.injEq]at h;subst h;rw [adh]at hv;have hv':vs[i]? =some v:=by simpa using hv
    simp [ac5 hA hx,conc,Instr.extract,hv']
   ·cases h
  ·cases h
 case h_8 T x f ho=>
  simp only [ho]
  split at h
  ·rename_i o' hf
   split at h
   ·rename_i i off hx
    simp only [Option.some.injEq]at h;subst h;simp only [ac5 hA hx,conc];simp only [Sem.run_bind,aki ht hf,Result.andThen_ok,Sem.run_pure,Addr.add_lit]
   ·rename_i ad i k off hx
    split at h
    ·rename_i a'
     simp only [Option.some.injEq]at h;subst h;simp only [ac5 hA hx,conc];simp only [Sem.run_bind,aki ht hf,Result.andThen_ok,Sem.run_pure,aed,Nat.add_assoc]
    ·cases h
   ·cases h
  ·cases h
 case h_9 T x ho=>
  simp only [ho]
  split at h
  ·rename_i ti hT
   split at h
   ·rename_i i off hx
    split at h
    ·rename_i l hl
     split at h
     ·rename_i v hv
      simp only [Option.some.injEq]at h;subst h;obtain ⟨hb,_⟩:=hI.loc i l hl
      have hrun:=afw (P:=C.P) ht hT (w:=w) (a:=⟨bs i,0,none⟩) (cs:=l.cs) (off:=off) (v:=v) (λj u hj=>by
       rw [Addr.add_lit,cell_of_row w _ _ _ _ _ hb];simpa using hj) hv
      rw [Addr.add_lit,Nat.zero_add]at hrun;simp only [ac5 hA hx,conc,Instr.loadAt,Instr.sureAddr,Sem.run_bind,Sem.run_pure,Result.andThen_ok,hrun]
     ·cases h
    ·cases h
   ·cases h
  ·cases h
 case h_10 fn first caps ho=>
  simp only [ho]
  split at h
  ·rename_i g
   split at h
   ·rename_i hf
    split at h
    ·rename_i q hq
     simp only [Option.some.injEq]at h;subst h;have hfirst:first= #[]:=by cases first;simp_all
     have hcaps:caps.map a.eval=(q.map λc=>Value.pointer (some ⟨bs c.1,c.2,none⟩)).toArray:=by
      apply Array.ext';simpa using aka hA _ _ hq
     simp [hfirst,hcaps,conc,Instr.makeFunc]
    ·cases h
   ·cases h
  ·cases h
 case h_11 T parts ho=>
  simp only [ho]
  split at h
  ·rename_i ti hT
   split at h
   ·rename_i fs hd
    split at h
    ·rename_i hin
     split at h
     ·rename_i z hz
      split at h
      ·rename_i cs hcs
       simp only [Option.some.injEq]at h;subst h;obtain ⟨hu,inf,hi,hz',_,_⟩:=ht.get hT;rw [hd]at hu;rw [hz]at hz';obtain ⟨places,hpl,hpl2⟩:=ai4 ht _ hin
       have hfill:=ah5 ht hA (place':=λi=>places.toArray[i]?) (λi off T ti h1 h2=>by
        unfold ak5 at h1
        split at h1
        ·rename_i f hf
         simp only [Option.some.injEq,Prod.mk.injEq]at h1;obtain ⟨rfl,rfl⟩:=h1;rw [adh]at hf;simpa using hpl2 i f ti hf h2
        ·cases h1) _ _ _ hcs
       have hb:C.P.built T (parts.map λx=>(x.1,a.eval x.2)).toList=some cs.toArray:=by
        unfold Program.built;simp only [hi,hu,hz',hpl,Value.cells];simpa using hfill
       simp only [Sem.run_bind,run_build w T _ _ hb,Result.andThen_ok,Sem.run_pure,conc]
      ·cases h
     ·cases h
    ·cases h
   ·cases h
  ·cases h
 case h_12 T x f ho=>
  simp only [ho]
  split at h
  ·rename_i ti hT
   split at h
   ·rename_i fs hd
    split at h
    ·rename_i fd hfd
     split at h
     ·rename_i tf hF
      split at h
      ·rename_i cs hx
       split at h
       ·rename_i v hv
        simp only [Option.some.injEq]at h;subst h;obtain ⟨hu,_⟩:=ht.get hT;obtain ⟨hu2,inf,hi,_,hs,_⟩:=ht.get hF;rw [hd]at hu;rw [adh]at hfd;have hfd':fs[f]? =some fd:=by simpa using hfd
        have hpart:(part fd.type cs fd.offset).run C.P w= .ok v w:=by
         unfold part;simp only [Sem.run_bind,aku hu2,Result.andThen_ok];unfold asm at hv
         split at hv
         ·rename_i hd2
          rw [hd2]
          split at hv
          ·rename_i r hr
           split at hv
           ·rename_i q hq
            obtain ⟨h1,rfl⟩:=ajd _ _ _ hr;obtain ⟨h2,rfl⟩:=ajh _ _ _ hq;simp only [Option.some.injEq]at hv;subst hv;simp only [aggD,if_true,Sem.run_bind,aej hi,Result.andThen_ok,Sem.run_pure,hs];congr 2;apply Array.ext';simp [List.extract_eq_take_drop]
           ·cases hv
          ·cases hv
         ·cases hv
         ·rename_i h1 h2
          have:aggD tf.desc=false:=by grind [aggD]
          rw [this];rw [adh]at hv;have hv':cs[fd.offset]? =some v:=by simpa using hv
          simp [hv']
        simp [Instr.field,ac5 hA hx,conc,run_underlying hu,hfd',asAgg,hpart]
       ·cases h
      ·cases h
     ·cases h
    ·cases h
   ·cases h
  ·cases h
 case h_13 x ho=>
  simp only [ho]
  split at h
  ·rename_i sv' hx
   split at h
   ·rename_i hn
    simp only [Option.some.injEq]at h;subst h;rw [ac5 hA hx];cases sv' with
    |p i off=>rfl
    |e ad i k off=>cases ad<;>simp [ajk]at hn;rfl
    |v y=>cases y<;>simp [ajk]at hn;rename_i ad;cases ad<;>simp at hn;rfl
    |f g caps=>simp [ajk]at hn
    |T=>simp [ajk]at hn
    |F=>simp [ajk]at hn
   ·cases h
  ·cases h
 ·cases h
def arl (d:Nat):SV->Bool
 | .p i _=>Nat.beq i d
 | .f _ caps=>capHas caps
 | .v _=>false
 | .e _ _ _ _=>false
 | .T=>false
 | .F=>false
where
 capHas : List (Nat × Nat) → Bool
  | [] => false
  | (i, _) :: r => (match Nat.beq i d with
   | true => true
   | false => capHas r)
def alj (d:Nat):Env->Bool
 |[]=>false
 |(_,s)::r=>(match arl d s with
  |true=>true
  |false=>alj d r)
def aho {α:Type}(d:Nat):List (Nat×α)->Bool
 |[]=>false
 |(i,_)::r=>(match Nat.beq i d with
  |true=>true
  |false=>aho d r)
def afn (d:Nat)(env:Env)(L:Locs)(R:Rows):Bool:=
 match Nat.beq d 999 with
 |true=>true
 |false=>(match alj d env with
  |true=>true
  |false=>(match aho d L with
   |true=>true
   |false=>aho d R))
theorem anc {d:Nat}:∀ {l:List (Nat×Nat)} {c:Nat×Nat},arl.capHas d l=false->c∈l->c.1≠d
 |(i,o)::r,c,h,hc=>by
  simp only [arl.capHas]at h
  split at h
  ·cases h
  ·rename_i hn
   rcases List.mem_cons.1 hc with rfl|hc
   ·exact Nat.ne_of_beq_eq_false hn
   ·exact anc h hc
theorem as2 {bs bs':Nat->Nat}{s:SV}{d:Nat}(hn:arl d s=false)(h:∀i,i≠d->bs' i=bs i):conc bs' s=conc bs s:=by
 cases s with
 |v x=>rfl
 |p i off=>simp only [conc];rw [h i (Nat.ne_of_beq_eq_false hn)]
 |e a i k off=>rfl
 |T=>rfl
 |F=>rfl
 |f g caps=>
  simp only [conc];congr 2;apply List.map_congr_left;intro c hc;rw [h c.1 (anc hn hc)]
theorem ald {d:Nat}:∀ {env:Env} {j:Nat} {s:SV},alj d env=false->look env j=some s->arl d s=false
 |[],j,s,_,h=>by simp [look]at h
 |(i,y)::r,j,s,hn,h=>by
  rw [acg]at h;simp only [alj]at hn
  split at hn
  ·cases hn
  ·rename_i hy
   split at h
   ·grind
   ·exact ald hn h
theorem adx {α:Type}{d:Nat}:∀ {l:List (Nat×α)} {i:Nat} {x:α},aho d l=false->look l i=some x->i≠d
 |[],i,x,_,h=>by simp [look]at h
 |(j,y)::r,i,x,hn,h=>by
  rw [acg]at h;simp only [aho]at hn
  split at hn
  ·cases hn
  ·rename_i hy
   split at h
   ·grind [Nat.ne_of_beq_eq_false]
   ·exact adx hn h
theorem adm (h:afn d env L R=false):alj d env=false/\aho d L=false/\aho d R=false/\d≠999:=by
 unfold afn at h
 split at h
 ·cases h
 ·rename_i h0
  split at h
  ·cases h
  ·rename_i h1
   split at h
   ·cases h
   ·rename_i h2
    exact ⟨h1,h2,h,λe=>by subst e;simp at h0⟩
theorem At.notH {bs':Nat->Nat}(hA:At n env bs a)(hm:alj d env=false)(h:∀i,i≠d->bs' i=bs i):At n env bs' a:=
 ⟨hA.size,hA.dfr,λj s hs=>by rw [hA.slot j s hs,as2 (ald hm hs) h]⟩
def oneB:List Value->Bool
 |[]=>true
 | .agg _::_=>false
 | .tuple _::_=>false
 |_::r=>oneB r
theorem ais:∀ {l:List Value},oneB l=true->∀v∈l,v.oneCell'=true
 |[],_,v,h=>by cases h
 |x::r,h,v,hv=>by
  rcases List.mem_cons.1 hv with rfl|hv
  ·cases v<;>simp_all [oneB,Value.oneCell']
  ·exact ais (by cases x<;>simp_all [oneB]) v hv
def setL (L:Locs)(i:Nat)(cs:List Value):Locs:=
 match L with
 |[]=>[]
 |(j,l)::r=>match Nat.beq j i with|true=>(j,⟨l.T,cs⟩)::r|false=>(j,l)::setL r i cs
theorem afp:∀(L:Locs) (i:Nat)(cs:List Value)(j:Nat),look (setL L i cs) j=if i=j then (look L j).map (λl=>⟨l.T,cs⟩)else look L j
 |[],i,cs,j=>by simp [setL,look]
 |(m,l)::r,i,cs,j=>by
  simp only [setL];cases hb:Nat.beq m i with
  |true=>
   have:=Nat.eq_of_beq_eq_true hb;subst this;simp only [acg]
   by_cases h:m=j<;>simp [h]
  |false=>
   have hne:m≠i:=λe=>by subst e;simp at hb
   simp only [acg,afp r i cs j]
   by_cases h:m=j
   ·grind
   ·simp [h]
def ladd (tt:TT)(env:Env)(op:Op):Option Loc:=
 match op with
 | .alloc T=>(match look tt T with
  |some ti=>(match ai5 ti ti.zero with|some cs=>some ⟨T,cs⟩|none=>none)
  |none=>none)
 | .box T x=>(match look tt T with
  |some ti=>(match ev env x with
   |some s=>(match valO s with
    |some v=>(match ai5 ti v with|some cs=>some ⟨T,cs⟩|none=>none)
    |none=>none)
   |none=>none)
  |none=>none)
 |_=>none
def lset (tt:TT)(env:Env)(L:Locs)(op:Op):Option (Nat×List Value):=
 match op with
 | .store T x y=>(match look tt T with
  |some ti=>(match ev env x with
   |some (.p i off)=>(match ev env y with
    |some sv=>(match valO sv with
     |some v=>(match ai5 ti v with
      |some vs=>(match Nat.beq vs.length ti.size with
       |true=>(match oneB vs with
        |true=>(match look L i with
         |some l=>(match afx l.cs off vs with|some cs=>some (i,cs)|none=>none)
         |none=>none)
        |false=>none)
       |false=>none)
      |none=>none)
     |none=>none)
    |none=>none)
   |_=>none)
  |none=>none)
 |_=>none
theorem at7 (w:World)(o:Obj)(h:b<w.heap.size):hp (w.alloc o) b=hp w b:=heap_alloc_old w o b h
theorem Le.lt (h:Le G (hp w)){o:Obj}(hb:G b=some o):b<w.heap.size:=
 (Array.getElem?_eq_some_iff.1 (h b o hb)).1
theorem Le.alloc (h:Le G (hp w))(o:Obj):Le G (hp (w.alloc o)):=λb x hb=>by
 rw [at7 w o (h.lt hb)];exact h b x hb
theorem agm.alloc {M:Nat->Prop}(h:agm M w G b r)(o:Obj):agm M (w.alloc o) G b r:=by refine ⟨h.1,h.2.imp id λ⟨o1,h1,h2,h3,h4,h5,cur,T,hh,rest⟩=>⟨o1,h1,h2,h3,h4,h5,cur,T,?_,rest⟩⟩;rw [heap_alloc_old w o b (Array.getElem?_eq_some_iff.1 hh).1];exact hh
theorem Kp.alloc (h:Kp H w w')(o:Obj):Kp H w (w'.alloc o):=
 h.trans ⟨rfl,rfl,rfl,by simp,λk hk _=>heap_alloc_old w' o k hk⟩
theorem HInv.alloc {C:Cx}{w:World}{G:GH}{bs:Nat->Nat}{L:Locs}{R:Rows}(hI:HInv C w G bs L R)(lab:Nat)(h999:lab≠999)(hL:aho lab L=false)(hR:aho lab R=false)(l:Loc):
  HInv C (w.alloc (.cells l.cs.toArray l.T)) G (λj=>if j=lab then w.heap.size else bs j) ((lab,l)::L) R:=by
 have hB:C.w0.heap.size<=w.heap.size:=hI.keep.size;have hnL:∀ {i:Nat} {x:Loc},look L i=some x->i≠lab:=λh=>adx hL h;have hnR:∀ {i:Nat} {x:Row},look R i=some x->i≠lab:=λh=>adx hR h
 have hlt:∀i,Acts L R i->bs i<w.heap.size:=by
  intro i h;rcases h with ⟨x,hx⟩|⟨r,hr,hc⟩
  ·exact (Array.getElem?_eq_some_iff.1 (hI.loc i x hx).1).1
  ·rcases (hI.row i r hr).2 with ⟨h0,_⟩|⟨_,_,_,_,_,_,cur,T,hh,_⟩
   ·exact absurd h0 hc
   ·exact (Array.getElem?_eq_some_iff.1 hh).1
 have hold:∀i,Acts ((lab,l)::L) R i->i≠lab->Acts L R i:=by
  intro i h hne;rcases h with ⟨x,hx⟩|h
  ·rw [acg,if_neg (Ne.symm hne)]at hx;exact .inl ⟨x,hx⟩
  ·exact .inr h
 refine ⟨hI.keep.alloc _,hI.le.alloc _,?_,?_,?_,λi x r hx hr=>by
  rw [acg,if_neg (Ne.symm (hnR hr))]at hx;exact hI.dis i x r hx hr,λb hb=>by simp only [if_neg (Ne.symm h999)];exact hI.pin b hb,hI.nr⟩
 ·intro i x hx
  rw [acg]at hx
  by_cases he:lab=i
  ·rw [if_pos he]at hx;simp at hx;subst hx;subst he
   simp only [if_true];refine ⟨heap_alloc_new w _,.inl hB,?_⟩;cases hg:G w.heap.size with
   |none=>rfl
   |some o=>exact absurd (hI.le.lt hg) (by omega)
  ·rw [if_neg he]at hx
   simp only [if_neg (Ne.symm he)];obtain ⟨h1,h2,h3⟩:=hI.loc i x hx;exact ⟨by rw [heap_alloc_old w _ _ (Array.getElem?_eq_some_iff.1 h1).1];exact h1,h2,h3⟩
 ·intro i r hr
  simp only [if_neg (hnR hr)];exact (hI.row i r hr).alloc _
 ·intro i j hij hi hj
  by_cases h1:i=lab<;>by_cases h2:j=lab
  ·omega
  ·simp only [h1,if_true,if_neg h2]
   have:=hlt j (hold j hj h2);omega
  ·simp only [h2,if_true,if_neg h1]
   have:=hlt i (hold i hi h1);omega
  ·simp only [if_neg h1,if_neg h2]
   exact hI.inj i j hij (hold i hi h1) (hold j hj h2)
theorem aje (ht:ad6 C.P C.tt)(hA:At C.fn.ntmps env bs a)(h:ladd C.tt env o.op=some l):
  (execOp a.eval o).run C.P w= .ok (.value (.pointer (some ⟨w.heap.size,0,none⟩))) (w.alloc (.cells l.cs.toArray l.T)):=by
 unfold ladd at h;unfold execOp
 split at h
 case h_1 T ho=>
  simp only [ho]
  split at h
  ·rename_i ti hT
   obtain ⟨_,i,hi,hz,_⟩:=ht.get hT
   split at h
   ·rename_i cs hcs
    simp only [Option.some.injEq]at h;subst h;have hc:ti.zero.cells=cs.toArray:=Array.ext' (by simpa using afu hcs);simp [Instr.alloc,zeroValue,typeInfo,hi,hz,newVar,newRow,hc]
   ·cases h
  ·cases h
 case h_2 T x ho=>
  simp only [ho]
  split at h
  ·rename_i ti hT
   split at h
   ·rename_i sv hs
    split at h
    ·rename_i v hv
     split at h
     ·rename_i cs hcs
      simp only [Option.some.injEq]at h;subst h;have hc:v.cells=cs.toArray:=Array.ext' (by simpa using afu hcs);simp [Instr.box,newVar,newRow,ac5 hA hs,ahl hv,hc]
     ·cases h
    ·cases h
   ·cases h
  ·cases h
 ·cases h
theorem Kp.setRow (h:Kp C.H C.w0 w)(hg:C.M g)(cs:Array Value):Kp C.H C.w0 (w.setRow g cs):=
 ⟨h.os,h.tape,h.output,Nat.le_trans h.size (by simp [World.setRow]),λk hk hn=>by
  rw [setRow_other w g k cs (λe=>by subst e;rcases hg with hg|hg<;>first|omega|exact hg hn)];exact h.block k hk hn⟩
theorem Le.setRow (h:Le G (hp w))(hg:G g=none)(cs:Array Value):Le G (hp (w.setRow g cs)):=λb x hb=>by
 have:b≠g:=λe=>by subst e;rw [hg]at hb;cases hb
 show (w.setRow g cs).heap[b]? =_;rw [setRow_other w g b cs this];exact h b x hb
theorem agm.setRow {M:Nat->Prop}(h:agm M w G b r)(hb:r.c≠0->b≠g)(cs:Array Value):agm M (w.setRow g cs) G b r:=by
 refine ⟨h.1,?_⟩;rcases h.2 with h0|⟨o1,h1,h2,h3,h4,h5,cur,T,hh,rest⟩
 ·exact .inl h0
 ·by_cases hc:r.c=0
  ·exact .inl ⟨hc,by omega⟩
  ·exact .inr ⟨o1,h1,h2,h3,h4,h5,cur,T,by rw [setRow_other w g b cs (hb hc)];exact hh,rest⟩
theorem HInv.setLoc (hI:HInv C w G bs L R)(hl:look L i=some l)(cs:List Value):
  HInv C (w.setRow (bs i) cs.toArray) G bs (setL L i cs) R:=by
 obtain ⟨h1,h2,h3⟩:=hI.loc i l hl;have hact:Acts L R i:= .inl ⟨l,hl⟩
 have hsame:∀j,Acts (setL L i cs) R j->Acts L R j:=by
  intro j h;rcases h with ⟨x,hx⟩|h
  ·rw [afp]at hx
   split at hx
   ·grind
   ·exact .inl ⟨x,hx⟩
  ·exact .inr h
 refine ⟨Kp.setRow hI.keep h2 _,Le.setRow hI.le h3 _,?_,?_,λj k hjk hj hk=>hI.inj j k hjk (hsame j hj) (hsame k hk),λj x r hx hr=>by
  rw [afp]at hx
  split at hx
  ·rename_i e;subst e;exact hI.dis i l r hl hr
  ·exact hI.dis j x r hx hr,hI.pin,hI.nr⟩
 ·intro j x hx
  rw [afp]at hx
  by_cases he:i=j
  ·subst he
   rw [if_pos rfl,hl]at hx;simp at hx;subst hx;exact ⟨setRow_heap w _ _ _ _ _ h1,h2,h3⟩
  ·rw [if_neg he]at hx
   obtain ⟨k1,k2,k3⟩:=hI.loc j x hx;exact ⟨by rw [setRow_other w _ _ _ (hI.inj j i (Ne.symm he) (.inl ⟨x,hx⟩) hact)];exact k1,k2,k3⟩
 ·intro j r hr
  have he:j≠i:=λe=>by subst e;exact hI.dis j l r hl hr
  exact (hI.row j r hr).setRow (λhc=>hI.inj j i he (.inr ⟨r,hr,hc⟩) hact) _
theorem aqg (ht:ad6 C.P C.tt)(hA:At C.fn.ntmps env bs a)(hI:HInv C w G bs L R)(h:lset C.tt env L o.op=some (i,cs)):
  ∃w',(execOp a.eval o).run C.P w= .ok .skip w'/\HInv C w' G bs (setL L i cs) R:=by
 unfold lset at h;unfold execOp
 split at h
 case h_1 T x y ho=>
  simp only [ho]
  split at h
  ·rename_i ti hT
   split at h
   ·rename_i i' off hx
    split at h
    ·rename_i sv hy
     split at h
     ·rename_i v hval
      split at h
      ·rename_i vs hvs
       split at h
       ·rename_i hlen
        split at h
        ·rename_i hone
         split at h
         ·rename_i l hl
          split at h
          ·rename_i cs' hsp
           simp only [Option.some.injEq,Prod.mk.injEq]at h;obtain ⟨rfl,rfl⟩:=h;obtain ⟨_,inf,hi,_,hs,_⟩:=ht.get hT;obtain ⟨hb,hb2,hb3⟩:=hI.loc i' l hl;have hc:v.cells.toList=vs:=afu hvs;have hsz:v.cells.size=inf.size:=by grind [Nat.eq_of_beq_eq_true]
           obtain ⟨q1,q2,q3,q4⟩:=agk _ _ _ _ hsp
           have hst:(storeCells ⟨bs i',off,none⟩ vs).run C.P w= .ok () (w.setRow (bs i') cs'.toArray):=by
            by_cases hv:vs=[]
            ·subst hv
             rw [q4 rfl];have:=run_storeCells_at C.P (bs i') 0 l.T [] 0 l.cs.toArray w hb (by simp) (by simp);simp at this;simpa [storeCells]using this
            ·have hle:off+vs.length<=l.cs.length:=q2.resolve_left hv
             have:=run_storeCells_at C.P (bs i') off l.T vs 0 l.cs.toArray w hb (by grind) (ais hone)
             grind
           refine ⟨w.setRow (bs i') cs'.toArray,?_,hI.setLoc hl cs'⟩;have hcp:conc bs (.p i' off)= .pointer (some ⟨bs i',off,none⟩):=rfl;simp [Instr.storeAt,Instr.sureAddr,storeVar,aej hi,hsz,ac5 hA hx,hcp,ac5 hA hy,ahl hval,hc,hst]
          ·cases h
         ·cases h
        ·cases h
       ·cases h
      ·cases h
     ·cases h
    ·cases h
   ·cases h
  ·cases h
 ·cases h
def gd (ops:Array Oper)(env:Env)(o:Oper):Option Bool:=
 match o.guard with
 |none=>some true
 |some (j,want)=>(match getO ops.toList j with
  |some oj=>(match oj.dst with
   |some d=>(match look env d with
    |some .T=>some want
    |some .F=>some (!want)
    |some (.v (.tuple _))=>some false
    |_=>none)
   |none=>none)
  |none=>none)
theorem ad2 {n:Nat}{env:Env}{bs:Nat->Nat}{a:Act}(hA:At n env bs a){ops:Array Oper}{o:Oper}{b:Bool}(h:gd ops env o=some b):
  Region.wanted o (yielded ops a.tmps)=b:=by
 unfold gd at h;unfold Region.wanted
 split at h
 ·grind
 ·rename_i j want hg
  rw [hg];simp only
  split at h
  ·rename_i oj hoj
   rw [adh]at hoj;have hoj':ops[j]? =some oj:=by grind
   split at h
   ·rename_i d hd
    have key:∀sv v,look env d=some sv->conc bs sv=v->v≠undef->a.tmps[d]? =some v:=by
     intro sv v hv hc hne;have:=hA.slot d _ hv;rw [hc,Array.getD_eq_getD_getElem?]at this
     grind
    split at h
    ·rename_i hv
     have:=key _ (.bool true) hv rfl (by simp [undef]);simp only [Option.some.injEq]at h;subst h;simp [yielded,hoj',hd,this]
    ·rename_i hv
     have:=key _ (.bool false) hv rfl (by simp [undef]);simp only [Option.some.injEq]at h;subst h;simp [yielded,hoj',hd,this]
    ·rename_i x hv
     simp only [Option.some.injEq]at h;subst h;have:=hA.slot d _ hv;simp only [conc]at this;rw [Array.getD_eq_getD_getElem?]at this;cases hq:a.tmps[d]? with
     |none=>simp [yielded,hoj',hd,hq]
     |some q=>rw [hq]at this;simp at this;subst this;simp [yielded,hoj',hd,hq]
    ·cases h
   ·cases h
  ·cases h
def akb (id:Nat):List It->Option (List It)
 |[]=>none
 | .blk j::s=>(match Nat.beq j id with|true=>some s|false=>akb id s)
 | .code _::s=>akb id s
 | .iter _::s=>akb id s
 | .ops _ _::s=>akb id s
theorem ahh (C:Cx)(id:Nat):∀(s s':List It),akb id s=some s'->cont C s (.exit id)=cont C s' .normal
 |[],s',h=>by simp [akb]at h
 | .blk j::s,s',h=>by
  simp only [akb]at h
  split at h
  ·rename_i hb
   simp only [Option.some.injEq]at h;subst h;have:=Nat.eq_of_beq_eq_true hb;subst this
   funext a w
   simp [cont,Exit.inBlock]
  ·rename_i hb
   have hne:id≠j:=λe=>by subst e;simp at hb
   funext a w
   simp only [cont,Exit.inBlock,if_neg hne];rw [ahh C id s s' h]
 | .code _::s,s',h=>by simp only [akb]at h;rw [<-ahh C id s s' h];rfl
 | .iter _::s,s',h=>by simp only [akb]at h;rw [<-ahh C id s s' h];rfl
 | .ops _ _::s,s',h=>by simp only [akb]at h;rw [<-ahh C id s s' h];rfl
def aru (tt:TT)(n:Nat)(ops:Array Oper)(o:Oper)(env:Env)(L:Locs)(R:Rows):Option (Env×Locs):=
 match gd ops env o with
 |some true=>(match o.dst with
  |some d=>(match Nat.blt d n with
   |true=>(match al8 tt env L o.op with
    |some sv=>some ((d,sv)::env,L)
    |none=>(match ladd tt env o.op with
     |some l=>(match afn d env L R with
      |false=>some ((d,.p d 0)::env,(d,l)::L)
      |true=>none)
     |none=>none))
   |false=>none)
  |none=>(match lset tt env L o.op with
   |some (i,cs)=>some (env,setL L i cs)
   |none=>none))
 |some false=>(match o.dst with
  |some d=>(match Nat.blt d n with
   |true=>some ((d,.v undef)::env,L)
   |false=>none)
  |none=>some (env,L))
 |none=>none
def avq (tt:TT)(n:Nat)(s:List It)(env:Env)(L:Locs)(R:Rows):Option (List It×Env×Locs):=
 match s with
 | .code c::s=>(match c with
  | .seq x y=>some (.code x:: .code y::s,env,L)
  | .skip=>some (s,env,L)
  | .block id c=>some (.code c:: .blk id::s,env,L)
  | .exit id=>(match akb id s with|some s'=>some (s',env,L)|none=>none)
  | .region _ ops false=>some (.ops ops ops.toList::s,env,L)
  | .cond c x y=>(match ev env c with
   |some .T=>some (.code x::s,env,L)
   |some .F=>some (.code y::s,env,L)
   |_=>none)
  |_=>none)
 | .blk _::s=>some (s,env,L)
 | .ops ops rest::s=>(match rest with
  |[]=>some (s,env,L)
  |o::r=>(match aru tt n ops o env L R with
   |some (env',L')=>some (.ops ops r::s,env',L')
   |none=>none))
 |_=>none
def exec (tt:TT)(n:Nat)(R:Rows):Nat->List It->Env->Locs->List It×Env×Locs
 |0,s,env,L=>(s,env,L)
 |fuel+1,s,env,L=>match avq tt n s env L R with
  |some (s',env',L')=>exec tt n R fuel s' env' L'
  |none=>(s,env,L)
theorem At.put (hA:At n env bs a)(hd:d<n)(s:SV):At n ((d,s)::env) bs (a.put (some d) (conc bs s)):=by
 refine ⟨by simp [Act.put,hA.size],by simp [Act.put,hA.dfr],λe x hx=>?_⟩;rw [acg]at hx
 by_cases he:d=e
 ·subst he
  rw [if_pos rfl]at hx;simp at hx;subst hx;simp [Act.put,hA.size,hd]
 ·rw [if_neg he]at hx
  rw [<-hA.slot e x hx];simp [Act.put,Array.getElem?_setIfInBounds_ne he]
theorem ana (ht:ad6 C.P C.tt){ops:Array Oper}{r:List Oper}{Q:Exit->Act->World->Prop}
  (h:aru C.tt C.fn.ntmps ops o env L R=some (env',L')) (k:∀a w,Sat C env' L' R Γ a w->wpList C.P ops Q r a w):
  ∀a w,Sat C env L R Γ a w->wpList C.P ops Q (o::r) a w:=by
 rintro a w ⟨G,bs,hA,hI,hΓ⟩;unfold aru at h;unfold wpList
 split at h
 ·rename_i hg
  rw [if_pos (ad2 hA hg)];refine .inl ?_;unfold Oper.wp
  split at h
  ·rename_i d hd
   split at h
   ·rename_i hlt
    have hlt':d<C.fn.ntmps:=by grind [Nat.blt_eq]
    split at h
    ·rename_i sv hsv
     simp only [Option.some.injEq,Prod.mk.injEq]at h;obtain ⟨rfl,rfl⟩:=h;rw [ag5 ht hA hI hsv];simp only [Oper.upon,hd];exact k _ _ ⟨G,bs,hA.put hlt' sv,hI,hΓ⟩
    ·split at h
     ·rename_i l hl
      split at h
      ·rename_i hnl
       simp only [Option.some.injEq,Prod.mk.injEq]at h;obtain ⟨rfl,rfl⟩:=h;rw [aje ht hA hl];simp only [Oper.upon,hd];have hI':=hI.alloc d (adm hnl).2.2.2 (adm hnl).2.1 (adm hnl).2.2.1 l;have hA':=(hA.notH (d:=d) (bs':=λj=>if j=d then w.heap.size else bs j) (adm hnl).1 (λi hi=>if_neg hi)).put hlt' (.p d 0);simp only [conc,if_true]at hA';exact k _ _ ⟨G,_,hA',hI',hΓ⟩
      ·cases h
     ·cases h
   ·cases h
  ·rename_i hd
   split at h
   ·rename_i i cs hl
    simp only [Option.some.injEq,Prod.mk.injEq]at h;obtain ⟨rfl,rfl⟩:=h;obtain ⟨w',hr,hI'⟩:=aqg ht hA hI hl;rw [hr];simp only [Oper.upon,hd,Act.put];exact k _ _ ⟨G,bs,hA,hI',hΓ⟩
   ·cases h
 ·rename_i hg
  rw [if_neg (by rw [ad2 hA hg];simp)]
  split at h
  ·rename_i d hd
   split at h
   ·rename_i hlt
    have hlt':d<C.fn.ntmps:=by grind [Nat.blt_eq]
    simp only [Option.some.injEq,Prod.mk.injEq]at h;obtain ⟨rfl,rfl⟩:=h;rw [hd];exact k _ _ ⟨G,bs,hA.put hlt' (.v undef),hI,hΓ⟩
   ·cases h
  ·rename_i hd
   simp only [Option.some.injEq,Prod.mk.injEq]at h;obtain ⟨rfl,rfl⟩:=h;rw [hd];exact k _ _ ⟨G,bs,hA,hI,hΓ⟩
 ·cases h
theorem aop (ht:ad6 C.P C.tt){s s':List It}
  (h:avq C.tt C.fn.ntmps s env L R=some (s',env',L')) (k:WX C s' env' L' R Γ):WX C s env L R Γ:=by
 unfold avq at h;intro a w hS
 split at h
 ·rename_i c s
  show c.wp C.P (cont C s) a w
  split at h
  ·simp only [Option.some.injEq,Prod.mk.injEq]at h
   obtain ⟨rfl,rfl,rfl⟩:=h;exact wp_seq (k a w hS)
  ·simp only [Option.some.injEq,Prod.mk.injEq]at h
   obtain ⟨rfl,rfl,rfl⟩:=h;exact wp_skip (k a w hS)
  ·simp only [Option.some.injEq,Prod.mk.injEq]at h
   obtain ⟨rfl,rfl,rfl⟩:=h;exact wp_block (k a w hS)
  ·rename_i id
   split at h
   ·rename_i s'' hp
    simp only [Option.some.injEq,Prod.mk.injEq]at h;obtain ⟨rfl,rfl,rfl⟩:=h;exact wp_exit (by rw [ahh C id s _ hp];exact k a w hS)
   ·cases h
  ·simp only [Option.some.injEq,Prod.mk.injEq]at h
   obtain ⟨rfl,rfl,rfl⟩:=h;exact wp_region_list (k a w hS)
  ·obtain ⟨G,bs,hA,hI,hΓ⟩:=hS
   split at h
   ·rename_i hc
    simp only [Option.some.injEq,Prod.mk.injEq]at h;obtain ⟨rfl,rfl,rfl⟩:=h;exact wp_cond_true (by rw [ac5 hA hc];rfl) (k a w ⟨G,bs,hA,hI,hΓ⟩)
   ·rename_i hc
    simp only [Option.some.injEq,Prod.mk.injEq]at h;obtain ⟨rfl,rfl,rfl⟩:=h;exact wp_cond_false (by rw [ac5 hA hc];rfl) (k a w ⟨G,bs,hA,hI,hΓ⟩)
   ·cases h
  ·cases h
 ·simp only [Option.some.injEq,Prod.mk.injEq]at h
  obtain ⟨rfl,rfl,rfl⟩:=h;exact k a w hS
 ·rename_i ops rest s
  split at h
  ·simp only [Option.some.injEq,Prod.mk.injEq]at h
   obtain ⟨rfl,rfl,rfl⟩:=h;exact k a w hS
  ·rename_i o r
   split at h
   ·rename_i env'' L'' ho
    simp only [Option.some.injEq,Prod.mk.injEq]at h;obtain ⟨rfl,rfl,rfl⟩:=h;exact ana ht ho k a w hS
   ·cases h
 ·cases h
theorem am1 {C:Cx}(ht:ad6 C.P C.tt){R:Rows}{Γ:Facts}:∀(fuel:Nat) (s:List It) (env:Env) (L:Locs) (s':List It) (env':Env) (L':Locs),
  exec C.tt C.fn.ntmps R fuel s env L=(s',env',L')->WX C s' env' L' R Γ->WX C s env L R Γ
 |0,s,env,L,s',env',L',h,k=>by grind [exec]
 |fuel+1,s,env,L,s',env',L',h,k=>by
  simp only [exec]at h
  split at h
  ·rename_i s1 env1 L1 h1
   exact aop ht h1 (am1 ht fuel _ _ _ _ _ _ h k)
  ·grind
end Go.Stp
namespace Go.Stp
open Go.RowKit (Below)
variable {C : Cx} {s : List It} {env env' : Env} {L L' : Locs} {R R' : Rows} {Γ Γ' : Facts} {P : Program} {g : FuncId} {args : List Operand} {w : World} {H G : GH} {ι α : Type} {Q : Prop} {n m q : Int} {f x y : Operand} {M : Nat → Prop} {fs : List MF} {a : Act} {fn : Func} {c : Code} {Φ : Value → World → Prop} {d T T' : Nat} {bs : Nat → Nat} {ops : Array Oper} {o : Oper} {r : List Oper} {b : BinOp} {ats : Array TypeId} {caps : (Nat → Nat) → List Value} {sf : SV} {svs : List SV}
theorem WX.run {s':List It}(ht:ad6 C.P C.tt)
  (h:exec C.tt C.fn.ntmps R 1000 s env L=(s',env',L')) (k:WX C s' env' L' R Γ):WX C s env L R Γ:=am1 ht 1000 s env L s' env' L' h k
def arb (P:Program)(g:FuncId):Prop:=∃fn,P.funcs[g]? =some fn/\(fn.name== "runtime.NumGoroutine")=false/\fn.body.isSome=true
def Does (P:Program)(g:FuncId)(args:Array Value)(w:World)(H:GH)(Ψ:Value->World->Prop):Prop:=arb P g/\Calls P g args w (Ret w H Ψ)
theorem Does.mono {args:Array Value}{Ψ Ψ':Value->World->Prop}(h:Does P g args w H Ψ)(k:∀v w',Kp H w w'->Ψ v w'->Ψ' v w'):Does P g args w H Ψ':=
 ⟨h.1,h.2.mono λ_ _ ⟨v,e,b,q⟩=>⟨v,e,b,k v _ b q⟩⟩
def Post (w:World)(H:GH){ι:Type}(val:ι->Value)(fs:ι->List MF)(Q:Prop):Value->World->Prop:=λv w'=>
 ∃i h,v=val i/\Q/\Le h (hp w')/\(∀b o,h b=some o->w.heap.size<=b\/H b≠none)/\Sep h (fs i)
theorem Post.imp {val:ι->Value}{fs:ι->List MF}{Q':Prop}{v:Value}{w':World}(h:Post w H val fs Q v w')(k:Q->Q'):Post w H val fs Q' v w':=by obtain ⟨i,h,a,b,c⟩:=h;exact ⟨i,h,a,k b,c⟩
theorem ast {x:Option α}{o:α}(h:x=some o):x≠none:=by rw [h];simp
def AllS (G:GH)(Γ:Facts):Prop:=∀n f,(n,f)∈Γ->f.k= .stb/\f.p G
theorem ac8:AllS G []:=λ_ _ h=>by cases h
theorem ac6 {n:Nat}{f:MF}(hk:f.k= .stb)(h:f.p G)(k:AllS G Γ):AllS G ((n,f)::Γ):=λm g hg=>by
 rcases List.mem_cons.1 hg with hg|hg
 ·grind
 ·exact k m g hg
theorem AllS.lins {G:GH}:∀ {Γ:Facts},AllS G Γ->lins Γ=[]
 |[],_=>rfl
 |(n,f)::Γ,h=>by
  have h1:=h n f (List.mem_cons_self ..);simp only [Stp.lins,h1.1];exact AllS.lins (Γ:=Γ) λm g hg=>h m g (List.mem_cons_of_mem _ hg)
theorem AllS.mono {G':GH}(h:AllS G Γ)(k:Le G G'):AllS G' Γ:=λn f hf=>⟨(h n f hf).1,f.m k (h n f hf).2⟩
theorem AllS.allK (h:AllS G Γ):AllK M G Γ:=
 ⟨G,emp,Le.refl _,acv _,(ade _).symm,(λ_ _ h=>by cases h),λn f hf _=>(h n f hf).2,λn f hf _=>(h n f hf).2,by rw [h.lins];trivial⟩
theorem am2 {n:Nat}{g:MF}:∀ {fs:List MF} {m:Nat} {Γ:Facts},(n,g)∈addL m fs Γ->g∈fs\/(n,g)∈Γ
 |[],_,_,h=> .inr h
 |f::fs,m,Γ,h=>by
  rcases List.mem_cons.1 h with h|h
  ·grind
  ·exact (am2 h).imp (List.mem_cons_of_mem _) id
theorem an2:∀ {fs:List MF}{m:Nat}{Γ:Facts},(∀f∈fs,f.k= .lin)->lins (addL m fs Γ)=fs++lins Γ
 |[],_,_,_=>rfl
 |f::fs,m,Γ,h=>by
  simp only [addL,lins,h f (List.mem_cons_self ..),List.cons_append];rw [an2 λg hg=>h g (List.mem_cons_of_mem _ hg)]
theorem AllS.lent (n:Nat)(h:AllS (cut G H) Γ)(hl:Le H G)(hM:∀b o,H b=some o->M b)(hk:∀f∈fs,f.k= .lin)(hs:Sep H fs):AllK M G (addL n fs Γ):=by
 refine ⟨cut G H,H,agb _ _,hl,ahg _ _,hM,λm g hg hk'=>?_,λm g hg hk'=>?_,?_⟩
 ·rcases am2 hg with hg|hg
  ·grind
  ·exact (h m g hg).2
 ·rcases am2 hg with hg|hg
  ·grind
  ·rw [(h m g hg).1]at hk';cases hk'
 ·rw [an2 hk,h.lins,List.append_nil];exact hs
def MF.bx (b T:Nat)(cs:List Value):MF:=⟨.lin,λh=>h b=some (.cells cs.toArray T (0,0)),λh k=>h _ _ k⟩
def ak3:Nat->List Value->Env
 |_,[]=>[]
 |i,v::r=>(i,.v v)::ak3 (i+1) r
theorem alo:∀(l:List Value) (i d:Nat) (s:SV),look (ak3 i l) d=some s->∃v,s= .v v/\i<=d/\l[d-i]? =some v
 |[],i,d,s,h=>by simp [ak3,look]at h
 |x::r,i,d,s,h=>by
  simp only [ak3]at h;rw [acg]at h
  split at h
  ·grind
  ·obtain ⟨v,h1,h2,h3⟩:=alo r (i+1) d s h
   grind
theorem At.enter {n:Nat}{args:List Value}(hs:Nat.ble args.length n=true)(bs:Nat->Nat)(ha:a.tmps=args.toArray++Array.replicate (n-args.length) undef)(hd:a.defers=[]):At n (ak3 0 args) bs a:=by have hs':args.length<=n:=Nat.le_of_ble_eq_true hs;refine ⟨by rw [ha];simp;omega,hd,λd s h=>?_⟩;obtain ⟨v,rfl,_,hv⟩:=alo args 0 d s h;simp only [Nat.sub_zero]at hv;have hd:d<args.length:=(List.getElem?_eq_some_iff.1 hv).1;rw [ha];simp only [conc,Array.getD_eq_getD_getElem?];rw [Array.getElem?_append_left (by simpa using hd)];simp [hv]
theorem WX.enter {tt : TT}{args : List Value}
  (hf : P.funcs[g]? = some fn) (hb : fn.body = some c) (hn : (fn.name == "runtime.NumGoroutine") = false) (hs : Nat.ble args.length fn.ntmps = true) (h0 : AllS (hp w) Γ)
  (k : WX ⟨P, fn, tt, w, emp, none, Φ⟩ [.code c] (ak3 0 args) [] [] Γ) : Does P g args.toArray w emp Φ := by
 refine ⟨⟨fn, hf, hn, by simp [hb]⟩, calls_of_wp hf hb ?_⟩
 refine k _ w ⟨hp w, λ_ => 0, At.enter hs _ (by simp) rfl, ⟨Kp.refl _ _, Le.refl _, by simp [look], by simp [look], λi j _ hi => ?_, by simp [look], (λb h => by cases h), by simp [look]⟩, h0.allK⟩
 rcases hi with ⟨l, h⟩ | ⟨r, h, _⟩ <;> simp [look] at h
theorem WX.enterM {tt : TT}{args : List Value}(n : Nat)
  (hf : P.funcs[g]? = some fn) (hb : fn.body = some c) (hn : (fn.name == "runtime.NumGoroutine") = false) (hs : Nat.ble args.length fn.ntmps = true) (h0 : AllS (cut (hp w) H) Γ) (hH : Le H (hp w)) (hl : Sep H fs) (hk : ∀ f ∈ fs, f.k = .lin) (hΓ' : addF n fs Γ = some Γ')
  (k : WX ⟨P, fn, tt, w, H, none, Φ⟩ [.code c] (ak3 0 args) [] [] Γ') : Does P g args.toArray w H Φ := by
 refine ⟨⟨fn, hf, hn, by simp [hb]⟩, calls_of_wp hf hb ?_⟩
 rw [akd hΓ'] at k
 refine k _ w ⟨hp w, λ_ => 0, At.enter hs _ (by simp) rfl, ⟨Kp.refl _ _, Le.refl _, by simp [look], by simp [look], λi j _ hi => ?_, by simp [look], (λb h => by cases h), by simp [look]⟩, h0.lent n hH (λb o hb => .inr (ast hb)) hk hl⟩
 rcases hi with ⟨l, h⟩ | ⟨r, h, _⟩ <;> simp [look] at h
theorem WX.enterP {P : Program}{g : FuncId}{fn : Func}{c : Code}{tt : TT}{args : List Value}{w : World}{H : GH}{b T : Nat}{cs : List Value}{Φ : Value -> World -> Prop}{Γ : Facts}{fs : List MF}{Γ' : Facts}(n : Nat)
  (hf : P.funcs[g]? = some fn) (hb : fn.body = some c) (hn : (fn.name == "runtime.NumGoroutine") = false) (hs : Nat.ble (args.length + 1) fn.ntmps = true) (h0 : AllS (cut (hp w) H) Γ) (hH : Le H (hp w)) (hl : Sep H (MF.bx b T cs :: fs)) (hk : ∀ f ∈ fs, f.k = .lin) (hΓ' : addF n fs Γ = some Γ')
  (k : WX ⟨P, fn, tt, w, H, some b, Φ⟩ [.code c] ((0, .p 999 0) :: ak3 1 args) [(999, ⟨T, cs⟩)] [] Γ') : Does P g (Value.pointer (some ⟨b, 0, none⟩) :: args).toArray w H Φ := by
 refine ⟨⟨fn, hf, hn, by simp [hb]⟩, calls_of_wp hf hb ?_⟩
 rw [akd hΓ'] at k
 obtain ⟨h1, h2, a1, a2, a3, a4, a5⟩ := hl
 have hb1 : h1 b = some (.cells cs.toArray T (0, 0)) := a4
 have hMb : H b ≠ none := by rw [a1 b _ hb1]; simp
 have hA := At.enter (n := fn.ntmps) (args := Value.pointer (some ⟨b, 0, none⟩) :: args) hs (λ_ => b) (a := ⟨(Value.pointer (some ⟨b, 0, none⟩) :: args).toArray ++ Array.replicate (fn.ntmps - (args.length + 1)) undef, []⟩) rfl rfl
 have hkeep : AllS (cut (cut (hp w) (λx => if x = b then h1 b else none)) h2) Γ := h0.mono (λx o hx => by
  have hx1 := agb _ _ x o hx
  have hx2 := ahg _ _ x |>.resolve_left (by rw [hx]; simp)
  refine ael (h := h2) (G := cut (hp w) (λx => if x = b then h1 b else none)) (A := λy => if y = x then some o else none) (λy q hy => ?_) (λy => ?_) x o (by simp)
  ·grind [cut]
  ·by_cases hyx : y = x
   ·subst hyx; right
    cases hq : h2 y with
    | none => rfl
    | some q => rw [a2 y q hq] at hx2; cases hx2
   ·left; simp [hyx])
 have hle2 : Le h2 (cut (hp w) (λx => if x = b then h1 b else none)) := ael (a2.trans hH) (λx => by
  by_cases hx : x = b
  ·subst hx; exact .inl ((a3 x).resolve_left (by rw [hb1]; simp))
  ·right; simp [hx])
 refine k _ w ⟨cut (hp w) (λx => if x = b then h1 b else none), λ_ => b, ?_, ⟨Kp.refl _ _, agb _ _, λi l hl => ?_, by simp [look], λi j hij hi hj => ?_, λi l r _ hr => by simp [look] at hr, (λb' h => by cases h; rfl), by simp [look]⟩, hkeep.lent n hle2 (λx o hx => .inr (ast (a2 x o hx))) hk a5⟩
 ·refine ⟨hA.size, rfl, λd s hs => ?_⟩
  rw [acg] at hs
  split at hs
  ·rename_i e; subst e; simp at hs; subst hs; exact hA.slot 0 (.v (.pointer (some ⟨b, 0, none⟩))) rfl
  ·rename_i hne
   refine hA.slot d s ?_
   grind [look, ak3, acg]
 ·rw [acg] at hl
  split at hl
  ·simp at hl; subst hl
   refine ⟨hH b _ (a1 b _ hb1), .inr hMb, ?_⟩
   grind [cut]
  ·simp [look] at hl
 ·grind [Acts, acg, look]
def resV (tt:TT)(env:Env)(L:Locs):List ResultVar->Option (List Value)
 |[]=>some []
 | .tmp t::r=>(match look env t with
  |some sv=>(match valO sv with
   |some v=>(match resV tt env L r with|some q=>some (v::q)|none=>none)
   |none=>none)
  |none=>none)
 | .cell t T::r=>(match look env t with
  |some (.p i off)=>(match look tt T with
   |some ti=>(match look L i with
    |some l=>(match asm ti l.cs off with
     |some v=>(match resV tt env L r with|some q=>some (v::q)|none=>none)
     |none=>none)
    |none=>none)
   |none=>none)
  |_=>none)
def tup:List Value->Value
 |[v]=>v
 |l=> .tuple l.toArray
theorem aq6 (w:World)(x:Addr):(asAddr (.pointer (some x))).run P w= .ok x w:=rfl
theorem ahv {C:Cx}(ht:ad6 C.P C.tt){env:Env}{L:Locs}{R:Rows}{G:GH}{bs:Nat->Nat}{a:Act}{w:World}(hA:At C.fn.ntmps env bs a)(hI:HInv C w G bs L R):
  ∀(rs:List ResultVar) (vs:List Value),resV C.tt env L rs=some vs->
   (rs.mapM (m:=Sem) λ| .tmp t=>pure (a.tmps.getD t undef)| .cell x t=>do loadVar t (<-asAddr (a.tmps.getD x undef))).run C.P w= .ok vs w
 |[],vs,h=>by simp [resV]at h;subst h;simp
 | .tmp t::r,vs,h=>by
  simp only [resV]at h
  split at h
  ·rename_i sv hsv
   split at h
   ·rename_i v hv
    split at h
    ·rename_i q hq
     simp only [Option.some.injEq]at h;subst h;have ih:=ahv ht hA hI r q hq;have hs:=hA.slot t _ hsv;rw [ahl hv]at hs
     simp_all
    ·cases h
   ·cases h
  ·cases h
 | .cell t T::r,vs,h=>by
  simp only [resV]at h
  split at h
  ·rename_i i off hv
   split at h
   ·rename_i ti hT
    split at h
    ·rename_i l hl
     split at h
     ·rename_i v hasm
      split at h
      ·rename_i q hq
       simp only [Option.some.injEq]at h;subst h;have ih:=ahv ht hA hI r q hq;have hs:=hA.slot t _ hv;simp only [conc]at hs;obtain ⟨hb,_⟩:=hI.loc i l hl
       have hrun:=afw (P:=C.P) ht hT (w:=w) (a:=⟨bs i,0,none⟩) (cs:=l.cs) (off:=off) (v:=v) (λj u hj=>by
        rw [Addr.add_lit,cell_of_row w _ _ _ _ _ hb];simpa using hj) hasm
       rw [Addr.add_lit,Nat.zero_add]at hrun;simp only [List.mapM_cons,Sem.run_bind,Sem.run_pure,Result.andThen_ok,ih,hs,aq6,hrun]
      ·cases h
     ·cases h
    ·cases h
   ·cases h
  ·cases h
theorem ai8 {fn:Func}{tmps:Array Value}{P:Program}{w:World}{vs:List Value}
  (h:(fn.results.toList.mapM (m:=Sem) λ| .tmp t=>pure (tmps.getD t undef)| .cell x t=>do loadVar t (<-asAddr (tmps.getD x undef))).run P w= .ok vs w):
  (results fn tmps).run P w= .ok (tup vs) w:=by
 unfold results;rw [Array.mapM_eq_mapM_toList];simp only [Sem.run_bind,Sem.run_map]
 erw [h]
 simp only [Result.andThen_ok,Sem.run_pure]
 match vs with
 |[]=>rfl
 |[v]=>rfl
 |u::v::r=>rfl
theorem WX.ret {C:Cx}{s:List It}{env:Env}{L:Locs}{R:Rows}{Γ:Facts}(ht:ad6 C.P C.tt){vs:List Value}(hv:resV C.tt env L C.fn.results.toList=some vs)
  (k:∀w G bs,HInv C w G bs L R->AllK C.M G Γ->C.Φ (tup vs) w):WX C (.code .ret::s) env L R Γ:=by
 rintro a w ⟨G,bs,hA,hI,hΓ⟩;show Code.ret.wp C.P (cont C s) a w;refine wp_ret ?_
 have key:∀s:List It,bodyPost C.P C.fn (Ret C.w0 C.H C.Φ) .ret a w->cont C s .ret a w:=by
  intro s h
  induction s with
  |nil=>exact h
  |cons x s ih=>cases x<;>exact ih
 exact key s ⟨hA.dfr,tup vs,ai8 (ahv ht hA hI _ _ hv),tup vs,rfl,hI.keep,k w G bs hI hΓ⟩
theorem WX.slot (d:Nat){x y:SV}(h:look env d=some x)(e:∀bs,conc bs x=conc bs y)(k:WX C s ((d,y)::env) L R Γ):WX C s env L R Γ:=by
 rintro a w ⟨G,bs,hA,hI,hΓ⟩;refine k a w ⟨G,bs,⟨hA.size,hA.dfr,λi x' hx=>?_⟩,hI,hΓ⟩;rw [acg]at hx
 split at hx
 ·rename_i he;subst he;simp at hx;subst hx;rw [hA.slot d x h,e]
 ·exact hA.slot i x' hx
theorem WX.cases {C:Cx}{s:List It}{env:Env}{L:Locs}{R:Rows}{Γ:Facts}(d:Nat){b:Bool}(h:look env d=some (.v (.bool b)))
  (kt:b=true->WX C s ((d,.T)::env) L R Γ) (kf:b=false->WX C s ((d,.F)::env) L R Γ):WX C s env L R Γ:=by
 cases b with
 |true=>exact WX.slot (y:= .T) d h (λ_=>rfl) (kt rfl)
 |false=>exact WX.slot (y:= .F) d h (λ_=>rfl) (kf rfl)
def Sub {α:Type}(A B:List (Nat×α)):Prop:=∀i x,look A i=some x->look B i=some x
theorem Sub.nil {B:List (Nat×α)}:Sub [] B:=λi x h=>by simp [look]at h
theorem Sub.cons {A B:List (Nat×α)}{i:Nat}{x:α}(h:look B i=some x)(k:Sub A B):Sub ((i,x)::A) B:=λj y hy=>by
 rw [acg]at hy
 split at hy
 ·grind
 ·exact k j y hy
theorem Sub.refl (A:List (Nat×α)):Sub A A:=λ_ _ h=>h
theorem At.sub {n:Nat}(hA:At n env bs a)(h:Sub env' env):At n env' bs a:=
 ⟨hA.size,hA.dfr,λd s hs=>hA.slot d s (h d s hs)⟩
theorem HInv.sub (hI:HInv C w G bs L R)(hL:Sub L' L)(hR:Sub R' R):HInv C w G bs L' R':=by
 have hact:∀i,Acts L' R' i->Acts L R i:=λi h=>h.imp (λ⟨l,h⟩=>⟨l,hL _ _ h⟩) (λ⟨r,h,c⟩=>⟨r,hR _ _ h,c⟩)
 exact ⟨hI.keep,hI.le,λi l h=>hI.loc i l (hL _ _ h),λi r h=>hI.row i r (hR _ _ h),λi j hij hi hj=>hI.inj i j hij (hact i hi) (hact j hj),
  λi l r h k=>hI.dis i l r (hL _ _ h) (hR _ _ k),hI.pin,λr h=>hI.nr r (hR _ _ h)⟩
theorem Sat.sub (h:Sat C env L R Γ a w)(he:Sub env' env)(hL:Sub L' L)(hR:Sub R' R){ks:List Nat}(hΓ:ag6 ks Γ=some Γ'):Sat C env' L' R' Γ' a w:=by obtain ⟨G,bs,hA,hI,hg⟩:=h;exact ⟨G,bs,hA.sub he,hI.sub hL hR,hg.pick hΓ⟩
theorem WX.sub (he:Sub env' env)(hL:Sub L' L)(hR:Sub R' R)(ks:List Nat)(hΓ:ag6 ks Γ=some Γ')(k:WX C s env' L' R' Γ'):WX C s env L R Γ:=
 λa w h=>k a w (h.sub he hL hR hΓ)
def Looks (C:Cx)(env:Env)(L:Locs)(R:Rows)(G:GH)(o:Oper)(sv:SV):Prop:=
 ∀a w G' bs,Le G G'->At C.fn.ntmps env bs a->HInv C w G' bs L R->(execOp a.eval o).run C.P w= .ok (.value (conc bs sv)) w
theorem WX.peek
  (hg:gd ops env o=some true) (hd:o.dst=some d) (hlt:Nat.blt d C.fn.ntmps=true)
  (k:∀G,AllK C.M G Γ->∃sv,Looks C env L R G o sv/\WX C (.ops ops r::s) ((d,sv)::env) L R Γ):WX C (.ops ops (o::r)::s) env L R Γ:=by
 rintro a w ⟨G,bs,hA,hI,hΓ⟩;obtain ⟨sv,hl,hk⟩:=k G hΓ;show wpList C.P ops (cont C s) (o::r) a w;unfold wpList;rw [if_pos (ad2 hA hg)];refine .inl ?_;unfold Oper.wp;rw [hl a w G bs (Le.refl _) hA hI];simp only [Oper.upon,hd];exact hk _ _ ⟨G,bs,hA.put (by grind [Nat.blt_eq]) sv,hI,hΓ⟩
def I64 (n:Int):Prop:= -9223372036854775808<=n/\n<=9223372036854775807
theorem afg (h:I64 n):i64.wrap n=n:=IntWalk.i64_in _ (by grind [I64])
def agy (b:BinOp)(m n:Int):Option Int:=
 match b with
 | .add=>some (m+n)
 | .sub=>some (m-n)
 | .mul=>some (m*n)
 |_=>none
theorem aeu (ho:o.op= .binOp b T x y T')
  (hx:ev env x=some (.v (.int .i64 m))) (hy:ev env y=some (.v (.int .i64 n))) (hq:agy b m n=some q) (hr:I64 q):Looks C env L R G o (.v (.int .i64 q)):=by
 intro a w G' bs _ hA hI;unfold execOp;simp only [ho,ac5 hA hx,ac5 hA hy,conc];have:=afg hr;cases b<;>simp [agy]at hq<;>subst hq<;>simp [eqGuard,binOp,Op.intArith,this]
theorem aly (ho:o.op= .binOp b T x y T')
  (hx:ev env x=some (.v (.int .i64 m))) (hy:ev env y=some (.v (.int .i64 n))) (hq:agy b m n=some q):Looks C env L R G o (.v (.int .i64 (i64.wrap q))):=by
 intro a w G' bs _ hA hI;unfold execOp;simp only [ho,ac5 hA hx,ac5 hA hy,conc];cases b<;>simp [agy]at hq<;>subst hq<;>simp [eqGuard,binOp,Op.intArith]
theorem WX.wrap
  (hg:gd ops env o=some true) (hd:o.dst=some d) (hlt:Nat.blt d C.fn.ntmps=true) (ho:o.op= .binOp b T x y T')
  (hx:ev env x=some (.v (.int .i64 m))) (hy:ev env y=some (.v (.int .i64 n))) (hq:agy b m n=some q)
  (k:WX C (.ops ops r::s) ((d,.v (.int .i64 (i64.wrap q)))::env) L R Γ):WX C (.ops ops (o::r)::s) env L R Γ:=
 WX.peek hg hd hlt λ_ _=>⟨_,aly ho hx hy hq,k⟩
def evs (env:Env):List Operand->Option (List SV)
 |[]=>some []
 |x::r=>(match ev env x with
  |some s=>(match evs env r with|some q=>some (s::q)|none=>none)
  |none=>none)
theorem aeh {n:Nat}{env:Env}{bs:Nat->Nat}{a:Act}(hA:At n env bs a):∀(l:List Operand) (q:List SV),evs env l=some q->l.map a.eval=q.map (conc bs)
 |[],q,h=>by grind [evs]
 |x::r,q,h=>by
  simp only [evs]at h
  split at h
  ·rename_i s hs
   split at h
   ·rename_i q' hq
    simp only [Option.some.injEq]at h;subst h;simp only [List.map_cons,ac5 hA hs,aeh hA r q' hq]
   ·cases h
  ·cases h
theorem aet {caps : List Value}{vs : List Value}(he : arb P g)
  (ho : o.op = .call { callee := .value f, args := args.toArray, argTypes := ats }) (hf : a.eval f = .func (.func g) #[] caps.toArray) (hv : args.map a.eval = vs) :
  (execOp a.eval o).run P w = .ok (.enter g (vs ++ caps).toArray) w := by
 obtain ⟨fn, hfn, hn, hb⟩ := he
 unfold execOp
 have hn' : ¬ fn.name = "runtime.NumGoroutine" := by simpa using hn
 have hb' : ¬ fn.body = none := λh => by simp [h] at hb
 subst hv
 simp [ho, resolve, hf, Deferred.ofValue, invoke, callFunc, hfn, hn', hb']
theorem HInv.called {C:Cx}{w w':World}{G Hc h:GH}{bs:Nat->Nat}{L:Locs}{R:Rows}(hI:HInv C w G bs L R)(hc:Le Hc G)(hM:∀b o,Hc b=some o->C.M b)(hb:Kp Hc w w')(hle:Le h (hp w'))(hd:∀b o,h b=some o->w.heap.size<=b\/Hc b≠none):
    HInv C w' (join (cut G Hc) h) bs L R/\Dj h (cut G Hc):=by
  have hlt:∀i,i<w.heap.size->Hc i=none->w'.heap[i]? =w.heap[i]? :=hb.block
  have hnone:∀b,b<w.heap.size->G b=none->Hc b=none/\join (cut G Hc) h b=none:=λb hb hg=>by
    have h1:Hc b=none:=by cases hx:Hc b with
      |none=>rfl
      |some o=>rw [hc b o hx]at hg;cases hg
    refine ⟨h1,?_⟩;unfold join;rw [aj7 hg];cases hx:h b with
    |none=>rfl
    |some o=>rcases hd b o hx with h2|h2
             ·omega
             ·grind
  have hkeep:Kp C.H C.w0 w':=⟨hb.os.trans hI.keep.os,hb.tape.trans hI.keep.tape,hb.output.trans hI.keep.output,Nat.le_trans hI.keep.size hb.size,λk hk hn=>by
    have h1:Hc k=none:=by cases hx:Hc k with
      |none=>rfl
      |some o=>rcases hM k o hx with h1|h1
               ·omega
               ·grind
    rw [hlt k (Nat.lt_of_lt_of_le hk hI.keep.size) h1];exact hI.keep.block k hk hn⟩
  refine ⟨⟨hkeep,ae0 (λb o hx=>?_) hle,λi l hl=>?_,λi r hr=>?_,hI.inj,hI.dis,hI.pin,hI.nr⟩,λb=>?_⟩
  ·have h1:=agb _ _ b o hx
   have h2:Hc b=none:=(ahg G Hc b).resolve_left (by rw [hx];simp);show w'.heap[b]? =_;rw [hlt b (hI.le.lt h1) h2];exact hI.le b o h1
  ·obtain ⟨h1,h2,h3⟩:=hI.loc i l hl
   grind
  ·obtain ⟨h1,h2⟩:=hI.row i r hr
   refine ⟨h1,h2.imp id λ⟨o1,k1,k2,k3,k4,k5,cur,T,hh,rest⟩=>?_⟩
   grind
  ·cases hx:h b with
   |none=>exact .inl rfl
   |some o=>
    right;rcases hd b o hx with h2|h2
    ·refine aj7 ?_
     cases hg:G b with
     |none=>rfl
     |some q=>have:=hI.le.lt hg;omega
    ·grind [cut]
theorem WX.callG
  {Ψ:World->Value->World->Prop} (hg:gd ops env o=some true) (ho:o.op= .call {callee:= .value f,args:=args.toArray,argTypes:=ats})
  (hf:ev env f=some sf) (hsf:∀bs,conc bs sf= .func (.func g) #[] (caps bs).toArray) (hargs:evs env args=some svs)
  (hc:∀w G bs,HInv C w G bs L R->AllK C.M (hp w) Γ->Does C.P g (svs.map (conc bs)++caps bs).toArray w emp (Ψ w))
  (k:∀a w w' G bs v,At C.fn.ntmps env bs a->HInv C w G bs L R->AllK C.M G Γ->Kp emp w w'->Ψ w v w'->wpList C.P ops (cont C s) r (a.put o.dst v) w'):
  WX C (.ops ops (o::r)::s) env L R Γ:=by
 rintro a w ⟨G,bs,hA,hI,hΓ⟩;show wpList C.P ops (cont C s) (o::r) a w;unfold wpList;rw [if_pos (ad2 hA hg)];refine .inl ?_;unfold Oper.wp;obtain ⟨he,hcalls⟩:=hc w G bs hI (hΓ.mono hI.le);rw [aet he ho (by rw [ac5 hA hf,hsf]) (aeh hA args svs hargs)];simp only [Oper.upon];refine hcalls.mono λe w' ⟨v,hv,hb,hψ⟩=>?_
 grind
theorem WX.callH {Γ1:Facts}
  {Ψ:World->GH->Value->World->Prop} (ks:List Nat) (hks:af4 ks Γ=some (fs,Γ1)) (hg:gd ops env o=some true) (ho:o.op= .call {callee:= .value f,args:=args.toArray,argTypes:=ats})
  (hf:ev env f=some sf) (hsf:∀bs,conc bs sf= .func (.func g) #[] (caps bs).toArray) (hargs:evs env args=some svs)
  (hc:∀w G bs H,HInv C w G bs L R->Le H (hp w)->Sep H fs->AllK C.M (cut (hp w) H) Γ1->Does C.P g (svs.map (conc bs)++caps bs).toArray w H (Ψ w H))
  (k:∀a w w' G bs H v,At C.fn.ntmps env bs a->HInv C w G bs L R->Le H G->(∀b o,H b=some o->C.M b)->AllK C.M (cut G H) Γ1->Kp H w w'->Ψ w H v w'->wpList C.P ops (cont C s) r (a.put o.dst v) w'):
  WX C (.ops ops (o::r)::s) env L R Γ:=by
 rintro a w ⟨G,bs,hA,hI,hΓ⟩;show wpList C.P ops (cont C s) (o::r) a w;unfold wpList;rw [if_pos (ad2 hA hg)];refine .inl ?_;unfold Oper.wp;obtain ⟨H,q1,q2,q3,q4⟩:=aek hks hΓ;obtain ⟨he,hcalls⟩:=hc w G bs H hI (q1.trans hI.le) q3 (q4.mono (apg hI.le));rw [aet he ho (by rw [ac5 hA hf,hsf]) (aeh hA args svs hargs)];simp only [Oper.upon];refine hcalls.mono λe w' ⟨v,hv,hb,hψ⟩=>?_
 grind
theorem WX.callV
  {c:Value} (hg:gd ops env o=some true) (hd:o.dst=some d) (hlt:Nat.blt d C.fn.ntmps=true) (ho:o.op= .call {callee:= .value f,args:=args.toArray,argTypes:=ats})
  (hf:ev env f=some sf) (hsf:∀bs,conc bs sf= .func (.func g) #[] (caps bs).toArray) (hargs:evs env args=some svs)
  (hc:∀w G bs,HInv C w G bs L R->AllK C.M (hp w) Γ->Does C.P g (svs.map (conc bs)++caps bs).toArray w emp λv _=>v=c/\Q)
  (k:Q->WX C (.ops ops r::s) ((d,.v c)::env) L R Γ):WX C (.ops ops (o::r)::s) env L R Γ:=
 WX.callG (Ψ:=λ_ v _=>v=c/\Q) hg ho hf hsf hargs hc λa w w' G bs v hA hI hΓ hb ⟨hv,hq⟩=>by
  subst hv;rw [hd];exact k hq _ _ ⟨join (cut G emp) emp,bs,hA.put (by simpa [Nat.blt_eq]using hlt) (.v v),(hI.called (acv _) (λ_ _ h=>by cases h) hb (acv _) (λ_ _ h=>by cases h)).1,hΓ.mono (acq (cut G emp) emp)⟩
structure Head (ι:Type) where
 pre:ι->Prop
 m:ι->Nat
 env:ι->Env
 L:ι->Locs
 R:ι->Rows
 Γ:ι->Facts
def Head.I {ι:Type}(H:Head ι)(C:Cx)(n:Nat):Act->World->Prop:=λa w=>∃i,H.pre i/\H.m i<n/\Sat C (H.env i) (H.L i) (H.R i) (H.Γ i) a w
theorem WX.loop {C:Cx}{c:Code}{s:List It}{env:Env}{L:Locs}{R:Rows}{Γ:Facts}{ι:Type}(H:Head ι)(i:ι)(hi:H.pre i)
  (he:Sub (H.env i) env) (hL:Sub (H.L i) L) (hR:Sub (H.R i) R) (ks:List Nat) (hΓ:ag6 ks Γ=some (H.Γ i))
  (k:∀i,H.pre i->WX C (.code c:: .iter (H.I C (H.m i))::s) (H.env i) (H.L i) (H.R i) (H.Γ i)):WX C (.code (.loop c)::s) env L R Γ:=by
 intro a w hS;show (Code.loop c).wp C.P (cont C s) a w;intro b kk cs
 have key:∀n a w,(∃i,H.pre i/\H.m i=n/\Sat C (H.env i) (H.L i) (H.R i) (H.Γ i) a w)->
   ∃e a' w',cont C s e a' w'/\Arrives C.P (lone (b.at a (.code c:: .inLoop c::kk)) cs w) b kk cs e a' w':=by
  intro n
  induction n using Nat.strongRecOn with
  |_ n ih=>
   rintro a w ⟨i,hp,hm,hs⟩;obtain ⟨e,a₁,w₁,hq,harr⟩:=k i hp a w hs b (.inLoop c::kk) cs;cases e with
   |normal=>
    obtain ⟨i',hp',hlt,hs'⟩:=hq;obtain ⟨e₂,a₂,w₂,hq₂,harr₂⟩:=ih (H.m i') (hm▸hlt) a₁ w₁ ⟨i',hp',rfl,hs'⟩;exact ⟨e₂,a₂,w₂,hq₂,.of_steps (Steps.trans harr (.one step_inLoop)) harr₂⟩
   |exit id=>exact ⟨_,a₁,w₁,hq,.pass (x:= .inLoop c) rfl (λ_ _=> .inl (by simp)) harr⟩
   |goto l=>exact ⟨_,a₁,w₁,hq,.pass (x:= .inLoop c) rfl (λ_ _=> .inl (by simp)) harr⟩
   |ret=>exact ⟨_,a₁,w₁,hq,.pass (x:= .inLoop c) rfl (λ_ _=> .inl (by simp)) harr⟩
   |panic ch=>exact ⟨_,a₁,w₁,hq,.pass (x:= .inLoop c) rfl (λ_ _=> .inl (by simp)) harr⟩
   |outgrown=>exact ⟨_,a₁,w₁,hq,.pass (x:= .inLoop c) rfl (λ_ _=> .inl (by simp)) harr⟩
 obtain ⟨e,a',w',hq,harr⟩:=key _ a w ⟨i,hi,rfl,hS.sub he hL hR hΓ⟩;exact ⟨e,a',w',hq,.of_steps (.one step_loop) harr⟩
theorem WX.iter {H:Head ι}{n:Nat}(i:ι)(hi:H.pre i)(hm:H.m i<n)
  (he:Sub (H.env i) env) (hL:Sub (H.L i) L) (hR:Sub (H.R i) R) (ks:List Nat) (hΓ:ag6 ks Γ=some (H.Γ i)):WX C (.iter (H.I C n)::s) env L R Γ:=
 λ_ _ h=>⟨i,hi,hm,h.sub he hL hR hΓ⟩
end Go.Stp
namespace Go.Proofs.YthdfhghdipdknaaGreat
open Go.Stp
def tt : TT := [
 (3, ⟨.int .i64, 1, 8, (.int .i64 (0))⟩),
 (4, ⟨.bool, 1, 1, (.bool false)⟩),
 (9, ⟨.string, 1, 16, (.string ⟨#[]⟩)⟩),
 (49, ⟨.struct #[⟨ "Parts", 47, 0, false, "", "", 0⟩], 1, 24, (.agg #[(.slice none 0 0)])⟩),
 (47, ⟨.slice 9, 1, 24, (.slice none 0 0)⟩),
 (5, ⟨.int .u8, 1, 1, (.int .u8 (0))⟩),
 (22, ⟨.slice 5, 1, 24, (.slice none 0 0)⟩),
 (24, ⟨.slice 102, 1, 24, (.slice none 0 0)⟩),
 (26, ⟨.struct #[⟨ "Size", 3, 0, false, "", "", 0⟩, ⟨ "Links", 24, 1, false, "", "", 8⟩], 2, 32, (.agg #[(.int .i64 (0)), (.slice none 0 0)])⟩),
 (27, ⟨.slice 170, 1, 24, (.slice none 0 0)⟩),
 (28, ⟨.slice 122, 1, 24, (.slice none 0 0)⟩),
 (29, ⟨.slice 49, 1, 24, (.slice none 0 0)⟩),
 (30, ⟨.slice 78, 1, 24, (.slice none 0 0)⟩),
 (32, ⟨.struct #[⟨ "Keys", 27, 0, false, "", "", 0⟩, ⟨ "Rules", 28, 1, false, "", "", 24⟩, ⟨ "Anchors", 29, 2, false, "", "", 48⟩, ⟨ "Certificates", 30, 3, false, "", "", 72⟩], 4, 96, (.agg #[(.slice none 0 0), (.slice none 0 0), (.slice none 0 0), (.slice none 0 0)])⟩),
 (33, ⟨.slice 51, 1, 24, (.slice none 0 0)⟩),
 (34, ⟨.slice 74, 1, 24, (.slice none 0 0)⟩),
 (35, ⟨.slice 3, 1, 24, (.slice none 0 0)⟩),
 (36, ⟨.slice 80, 1, 24, (.slice none 0 0)⟩),
 (37, ⟨.slice 85, 1, 24, (.slice none 0 0)⟩),
 (39, ⟨.struct #[⟨ "Topology", 26, 0, false, "", "", 0⟩, ⟨ "Trust", 32, 2, false, "", "", 32⟩, ⟨ "Producers", 33, 6, false, "", "", 128⟩, ⟨ "Nodes", 34, 7, false, "", "", 152⟩, ⟨ "DownNodes", 3, 8, false, "", "", 176⟩, ⟨ "FailedLinks", 35, 9, false, "", "", 184⟩, ⟨ "InFlight", 36, 10, false, "", "", 208⟩, ⟨ "Consumers", 37, 11, false, "", "", 232⟩, ⟨ "Now", 3, 12, false, "", "", 256⟩, ⟨ "Dropped", 3, 13, false, "", "", 264⟩], 14, 272, (.agg #[(.int .i64 (0)), (.slice none 0 0), (.slice none 0 0), (.slice none 0 0), (.slice none 0 0), (.slice none 0 0), (.slice none 0 0), (.slice none 0 0), (.int .i64 (0)), (.slice none 0 0), (.slice none 0 0), (.slice none 0 0), (.int .i64 (0)), (.int .i64 (0))])⟩),
 (43, ⟨.slice 92, 1, 24, (.slice none 0 0)⟩),
 (51, ⟨.struct #[⟨ "Name", 49, 0, false, "", "", 0⟩, ⟨ "Value", 3, 1, false, "", "", 24⟩], 2, 32, (.agg #[(.slice none 0 0), (.int .i64 (0))])⟩),
 (66, ⟨.slice 172, 1, 24, (.slice none 0 0)⟩),
 (68, ⟨.struct #[⟨ "Capacity", 3, 0, false, "", "", 0⟩, ⟨ "Entries", 66, 1, false, "", "", 8⟩], 2, 32, (.agg #[(.int .i64 (0)), (.slice none 0 0)])⟩),
 (69, ⟨.slice 175, 1, 24, (.slice none 0 0)⟩),
 (70, ⟨.slice 179, 1, 24, (.slice none 0 0)⟩),
 (71, ⟨.slice 136, 1, 24, (.slice none 0 0)⟩),
 (72, ⟨.slice 181, 1, 24, (.slice none 0 0)⟩),
 (74, ⟨.struct #[⟨ "Local", 30, 0, false, "", "", 0⟩, ⟨ "Cache", 68, 1, false, "", "", 24⟩, ⟨ "Pending", 69, 3, false, "", "", 56⟩, ⟨ "Seen", 70, 4, false, "", "", 80⟩, ⟨ "Routes", 71, 5, false, "", "", 104⟩, ⟨ "Measurements", 72, 6, false, "", "", 128⟩, ⟨ "Dropped", 3, 7, false, "", "", 152⟩], 8, 160, (.agg #[(.slice none 0 0), (.int .i64 (0)), (.slice none 0 0), (.slice none 0 0), (.slice none 0 0), (.slice none 0 0), (.slice none 0 0), (.int .i64 (0))])⟩),
 (76, ⟨.struct #[⟨ "Name", 49, 0, false, "", "", 0⟩, ⟨ "Nonce", 3, 1, false, "", "", 24⟩, ⟨ "HopLimit", 3, 2, false, "", "", 32⟩, ⟨ "Lifetime", 3, 3, false, "", "", 40⟩], 4, 48, (.agg #[(.slice none 0 0), (.int .i64 (0)), (.int .i64 (0)), (.int .i64 (0))])⟩),
 (78, ⟨.struct #[⟨ "Name", 49, 0, false, "", "", 0⟩, ⟨ "Content", 22, 1, false, "", "", 24⟩, ⟨ "KeyName", 49, 2, false, "", "", 48⟩, ⟨ "FreshUntil", 3, 3, false, "", "", 72⟩, ⟨ "Signature", 3, 4, false, "", "", 80⟩], 5, 88, (.agg #[(.slice none 0 0), (.slice none 0 0), (.slice none 0 0), (.int .i64 (0)), (.int .i64 (0))])⟩),
 (80, ⟨.struct #[⟨ "To", 3, 0, false, "", "", 0⟩, ⟨ "Face", 3, 1, false, "", "", 8⟩, ⟨ "IsInterest", 4, 2, false, "", "", 16⟩, ⟨ "Interest", 76, 3, false, "", "", 24⟩, ⟨ "Data", 78, 7, false, "", "", 72⟩], 12, 160, (.agg #[(.int .i64 (0)), (.int .i64 (0)), (.bool false), (.slice none 0 0), (.int .i64 (0)), (.int .i64 (0)), (.int .i64 (0)), (.slice none 0 0), (.slice none 0 0), (.slice none 0 0), (.int .i64 (0)), (.int .i64 (0))])⟩),
 (85, ⟨.struct #[⟨ "Node", 3, 0, false, "", "", 0⟩, ⟨ "Index", 3, 1, false, "", "", 8⟩, ⟨ "Name", 49, 2, false, "", "", 16⟩, ⟨ "Attempts", 3, 3, false, "", "", 40⟩, ⟨ "Wait", 3, 4, false, "", "", 48⟩, ⟨ "Satisfied", 4, 5, false, "", "", 56⟩, ⟨ "Data", 78, 6, false, "", "", 64⟩], 11, 152, (.agg #[(.int .i64 (0)), (.int .i64 (0)), (.slice none 0 0), (.int .i64 (0)), (.int .i64 (0)), (.bool false), (.slice none 0 0), (.slice none 0 0), (.slice none 0 0), (.int .i64 (0)), (.int .i64 (0))])⟩),
 (92, ⟨.struct #[⟨ "Origin", 3, 0, false, "", "", 0⟩, ⟨ "Version", 3, 1, false, "", "", 8⟩, ⟨ "Neighbors", 35, 2, false, "", "", 16⟩, ⟨ "Prefixes", 29, 3, false, "", "", 40⟩], 4, 64, (.agg #[(.int .i64 (0)), (.int .i64 (0)), (.slice none 0 0), (.slice none 0 0)])⟩),
 (102, ⟨.struct #[⟨ "A", 3, 0, false, "", "", 0⟩, ⟨ "B", 3, 1, false, "", "", 8⟩], 2, 16, (.agg #[(.int .i64 (0)), (.int .i64 (0))])⟩),
 (112, ⟨.struct #[⟨ "b", 22, 0, false, "", "loop.example/g00507/spec", 0⟩, ⟨ "i", 3, 1, false, "", "loop.example/g00507/spec", 24⟩, ⟨ "h", 3, 2, false, "", "loop.example/g00507/spec", 32⟩], 3, 40, (.agg #[(.slice none 0 0), (.int .i64 (0)), (.int .i64 (0))])⟩),
 (113, ⟨.slice 166, 1, 24, (.slice none 0 0)⟩),
 (120, ⟨.struct #[⟨ "Parts", 47, 0, false, "", "", 0⟩], 1, 24, (.agg #[(.slice none 0 0)])⟩),
 (122, ⟨.struct #[⟨ "DataPattern", 120, 0, false, "", "", 0⟩, ⟨ "KeyPattern", 120, 1, false, "", "", 24⟩], 2, 48, (.agg #[(.slice none 0 0), (.slice none 0 0)])⟩),
 (136, ⟨.struct #[⟨ "Prefix", 49, 0, false, "", "", 0⟩, ⟨ "Face", 3, 1, false, "", "", 24⟩, ⟨ "Cost", 3, 2, false, "", "", 32⟩], 3, 40, (.agg #[(.slice none 0 0), (.int .i64 (0)), (.int .i64 (0))])⟩),
 (166, ⟨.struct #[⟨ "Kind", 3, 0, false, "", "", 0⟩, ⟨ "N", 3, 1, false, "", "", 8⟩, ⟨ "Name", 49, 2, false, "", "", 16⟩, ⟨ "Forged", 80, 3, false, "", "", 40⟩], 15, 200, (.agg #[(.int .i64 (0)), (.int .i64 (0)), (.slice none 0 0), (.int .i64 (0)), (.int .i64 (0)), (.bool false), (.slice none 0 0), (.int .i64 (0)), (.int .i64 (0)), (.int .i64 (0)), (.slice none 0 0), (.slice none 0 0), (.slice none 0 0), (.int .i64 (0)), (.int .i64 (0))])⟩),
 (170, ⟨.struct #[⟨ "Name", 49, 0, false, "", "", 0⟩, ⟨ "Secret", 3, 1, false, "", "", 24⟩], 2, 32, (.agg #[(.slice none 0 0), (.int .i64 (0))])⟩),
 (172, ⟨.struct #[⟨ "Data", 78, 0, false, "", "", 0⟩, ⟨ "LastUsed", 3, 5, false, "", "", 88⟩], 6, 96, (.agg #[(.slice none 0 0), (.slice none 0 0), (.slice none 0 0), (.int .i64 (0)), (.int .i64 (0)), (.int .i64 (0))])⟩),
 (173, ⟨.slice 177, 1, 24, (.slice none 0 0)⟩),
 (175, ⟨.struct #[⟨ "Name", 49, 0, false, "", "", 0⟩, ⟨ "Requesters", 173, 1, false, "", "", 24⟩, ⟨ "LastSent", 3, 2, false, "", "", 48⟩], 3, 56, (.agg #[(.slice none 0 0), (.slice none 0 0), (.int .i64 (0))])⟩),
 (177, ⟨.struct #[⟨ "Face", 3, 0, false, "", "", 0⟩, ⟨ "Nonce", 3, 1, false, "", "", 8⟩, ⟨ "Expiry", 3, 2, false, "", "", 16⟩], 3, 24, (.agg #[(.int .i64 (0)), (.int .i64 (0)), (.int .i64 (0))])⟩),
 (179, ⟨.struct #[⟨ "Name", 49, 0, false, "", "", 0⟩, ⟨ "Nonce", 3, 1, false, "", "", 24⟩], 2, 32, (.agg #[(.slice none 0 0), (.int .i64 (0))])⟩),
 (181, ⟨.struct #[⟨ "Prefix", 49, 0, false, "", "", 0⟩, ⟨ "Face", 3, 1, false, "", "", 24⟩, ⟨ "Failures", 3, 2, false, "", "", 32⟩], 3, 40, (.agg #[(.slice none 0 0), (.int .i64 (0)), (.int .i64 (0))])⟩),
 (189, ⟨.int .u64, 1, 8, (.int .u64 (0))⟩),
 (222, ⟨.int .u32, 1, 4, (.int .u32 (0))⟩),
 (225, ⟨.int .u64, 1, 8, (.int .u64 (0))⟩),
 (247, ⟨.slice 283, 1, 24, (.slice none 0 0)⟩),
 (249, ⟨.struct #[⟨ "Node", 74, 0, false, "", "", 0⟩, ⟨ "Outgoing", 247, 8, false, "", "", 160⟩], 9, 184, (.agg #[(.slice none 0 0), (.int .i64 (0)), (.slice none 0 0), (.slice none 0 0), (.slice none 0 0), (.slice none 0 0), (.slice none 0 0), (.int .i64 (0)), (.slice none 0 0)])⟩),
 (283, ⟨.struct #[⟨ "Face", 3, 0, false, "", "", 0⟩, ⟨ "IsInterest", 4, 1, false, "", "", 8⟩, ⟨ "Interest", 76, 2, false, "", "", 16⟩, ⟨ "Data", 78, 6, false, "", "", 64⟩], 11, 152, (.agg #[(.int .i64 (0)), (.bool false), (.slice none 0 0), (.int .i64 (0)), (.int .i64 (0)), (.int .i64 (0)), (.slice none 0 0), (.slice none 0 0), (.slice none 0 0), (.int .i64 (0)), (.int .i64 (0))])⟩),
 (326, ⟨.slice 331, 1, 24, (.slice none 0 0)⟩),
 (331, ⟨.struct #[⟨ "Letter", 9, 0, false, "", "", 0⟩, ⟨ "Value", 9, 1, false, "", "", 16⟩], 2, 32, (.agg #[(.string ⟨#[]⟩), (.string ⟨#[]⟩)])⟩)]
theorem ttOk:ad6 Tryz.prog tt:=
 ⟨⟨by kernel_rfl,by kernel_rfl⟩,⟨⟨by kernel_rfl,by kernel_rfl⟩,⟨⟨by kernel_rfl,by kernel_rfl⟩,⟨⟨by kernel_rfl,by kernel_rfl⟩,⟨⟨by kernel_rfl,by kernel_rfl⟩,⟨⟨by kernel_rfl,by kernel_rfl⟩,⟨⟨by kernel_rfl,by kernel_rfl⟩,⟨⟨by kernel_rfl,by kernel_rfl⟩,⟨⟨by kernel_rfl,by kernel_rfl⟩,⟨⟨by kernel_rfl,by kernel_rfl⟩,⟨⟨by kernel_rfl,by kernel_rfl⟩,⟨⟨by kernel_rfl,by kernel_rfl⟩,⟨⟨by kernel_rfl,by kernel_rfl⟩,⟨⟨by kernel_rfl,by kernel_rfl⟩,⟨⟨by kernel_rfl,by kernel_rfl⟩,⟨⟨by kernel_rfl,by kernel_rfl⟩,⟨⟨by kernel_rfl,by kernel_rfl⟩,⟨⟨by kernel_rfl,by kernel_rfl⟩,⟨⟨by kernel_rfl,by kernel_rfl⟩,⟨⟨by kernel_rfl,by kernel_rfl⟩,⟨⟨by kernel_rfl,by kernel_rfl⟩,⟨⟨by kernel_rfl,by kernel_rfl⟩,⟨⟨by kernel_rfl,by kernel_rfl⟩,⟨⟨by kernel_rfl,by kernel_rfl⟩,⟨⟨by kernel_rfl,by kernel_rfl⟩,⟨⟨by kernel_rfl,by kernel_rfl⟩,⟨⟨by kernel_rfl,by kernel_rfl⟩,⟨⟨by kernel_rfl,by kernel_rfl⟩,⟨⟨by kernel_rfl,by kernel_rfl⟩,⟨⟨by kernel_rfl,by kernel_rfl⟩,⟨⟨by kernel_rfl,by kernel_rfl⟩,⟨⟨by kernel_rfl,by kernel_rfl⟩,⟨⟨by kernel_rfl,by kernel_rfl⟩,⟨⟨by kernel_rfl,by kernel_rfl⟩,⟨⟨by kernel_rfl,by kernel_rfl⟩,⟨⟨by kernel_rfl,by kernel_rfl⟩,⟨⟨by kernel_rfl,by kernel_rfl⟩,⟨⟨by kernel_rfl,by kernel_rfl⟩,⟨⟨by kernel_rfl,by kernel_rfl⟩,⟨⟨by kernel_rfl,by kernel_rfl⟩,⟨⟨by kernel_rfl,by kernel_rfl⟩,⟨⟨by kernel_rfl,by kernel_rfl⟩,⟨⟨by kernel_rfl,by kernel_rfl⟩,⟨⟨by kernel_rfl,by kernel_rfl⟩,⟨⟨by kernel_rfl,by kernel_rfl⟩,⟨⟨by kernel_rfl,by kernel_rfl⟩,⟨⟨by kernel_rfl,by kernel_rfl⟩,⟨⟨by kernel_rfl,by kernel_rfl⟩,⟨⟨by kernel_rfl,by kernel_rfl⟩,⟨⟨by kernel_rfl,by kernel_rfl⟩,⟨⟨by kernel_rfl,by kernel_rfl⟩,⟨⟨by kernel_rfl,by kernel_rfl⟩,⟨⟨by kernel_rfl,by kernel_rfl⟩,⟨⟨by kernel_rfl,by kernel_rfl⟩,⟨⟨by kernel_rfl,by kernel_rfl⟩,⟨⟨by kernel_rfl,by kernel_rfl⟩,trivial⟩⟩⟩⟩⟩⟩⟩⟩⟩⟩⟩⟩⟩⟩⟩⟩⟩⟩⟩⟩⟩⟩⟩⟩⟩⟩⟩⟩⟩⟩⟩⟩⟩⟩⟩⟩⟩⟩⟩⟩⟩⟩⟩⟩⟩⟩⟩⟩⟩⟩⟩⟩⟩⟩⟩⟩
theorem mixed:Tryz.prog.follows .mixedOrders=true:=by kernel_rfl
end Go.Proofs.YthdfhghdipdknaaGreat
namespace Go.Stp
variable {n c T i kk d off : Nat} {m : Int} {G G' h : GH} {f : MF} {fs A B : List MF} {xs : List Value} {p : Option Addr} {o : Oper} {kd : Kd} {w : World} {v : Value} {C : Cx} {env : Env} {L : Locs} {R : Rows} {x y : Operand} {ad : Addr} {ops : Array Oper} {r : List Oper} {s : List It} {Γ : Facts} {ti : TI} {ι : Type} {Q : Prop}
abbrev Str:=ByteArray
def bd (n:Nat):Nat:=match Nat.ble n 9 with|true=>1048576*4^n|false=>9223372036854775807
theorem als (h:n<=9):bd n=1048576*4^n:=by unfold bd;rw [Nat.ble_eq_true_of_le h]
theorem arm {n:Nat}(h:¬n<=9):bd n=9223372036854775807:=by
 unfold bd;cases hb:Nat.ble n 9 with
 |true=>exact absurd (Nat.le_of_ble_eq_true hb) h
 |false=>rfl
theorem asl (h:n<=9):4^n<=262144:=Nat.le_trans (Nat.pow_le_pow_right (by omega) h) (by decide)
theorem ao1 (n:Nat):bd n<=9223372036854775807:=by grind [als,asl,arm]
theorem aj4 (h:n<=9):bd n<=274877906944:=by grind [als,asl]
theorem adi (n:Nat):1048576<=bd n:=by grind [als,Nat.pow_pos,arm]
theorem adk (h:n+1<=9):bd (n+1)=4*bd n:=by grind [als,Nat.pow_succ]
theorem al2 {m:Nat}(h:n<=m):bd n<=bd m:=by
 by_cases hm:m<=9
 ·rw [als hm,als (by omega)];exact Nat.mul_le_mul_left _ (Nat.pow_le_pow_right (by omega) h)
 ·rw [arm hm];exact ao1 n
theorem bd_0:bd 0=1048576:=rfl
class GoT (α:Type) where
 X:Type
 k:Nat
 ok:Nat->α->Prop
 sh:α->X->List Value
 fa:Kd->α->X->List MF
 oa:α->X->List MF
 pos:0<k
 len:∀a x,(sh a x).length=k
 one:∀a x,∀v∈sh a x,v.oneCell'=true
 fak:∀ {kd a x},∀f∈fa kd a x,f.k=kd
 oak:∀ {a x},∀f∈oa a x,f.k= .lin
 ow_rd:∀ {h:GH} {kd:Kd} {a:α} {x:X},Sep h (oa a x)->All h (fa kd a x)
 kdp:∀ {h:GH} {kd kd':Kd} {a:α} {x:X},All h (fa kd a x)->All h (fa kd' a x)
 okm:∀ {n m:Nat} {a:α},n<=m->ok n a->ok m a
theorem All.nil:All G []:=λf h=>by cases h
theorem All.cons (h:f.p G)(k:All G fs):All G (f::fs):=λg hg=>by
 rcases List.mem_cons.1 hg with rfl|hg
 ·exact h
 ·exact k g hg
theorem All.append (h:All G A)(k:All G B):All G (A++B):=λf hf=>(List.mem_append.1 hf).elim (h f) (k f)
theorem All.left (h:All G (A++B)):All G A:=λf hf=>h f (List.mem_append_left _ hf)
theorem All.right (h:All G (A++B)):All G B:=λf hf=>h f (List.mem_append_right _ hf)
open GoT (X k ok sh fa oa)
section
variable {α : Type} [GoT α]
def RdL (G:GH):List Value->List α->Prop
 |xs,[]=>xs=[]
 |xs,a::l=>∃(x:X α) (ys:List Value),xs=sh a x++ys/\All G (fa .der a x)/\RdL G ys l
def OwL (h:GH):List Value->List α->Prop
 |xs,[]=>xs=[]
 |xs,a::l=>∃(x:X α) (ys:List Value) (h1 h2:GH),xs=sh a x++ys/\Le h1 h/\Le h2 h/\Dj h1 h2/\Sep h1 (oa a x)/\OwL h2 ys l
def aia (G:GH)(p:Option Addr)(xs:List Value):Prop:=∀j u,xs[j]? =some u->∃a,p=some a/\gcell G (a.add j)=some u
def RdSl (G:GH)(p:Option Addr)(c:Nat)(l:List α):Prop:=
 l.length<=c/\l.length<=9223372036854775807/\∃xs,aia G p xs/\RdL G xs l
def OwSl (h:GH)(p:Option Addr)(c:Nat)(l:List α):Prop:=
 (c=0/\l=[])\/∃(b o T:Nat) (cur:Array Value) (h':GH),p=some ⟨b,o,none⟩/\h b=some (.cells cur T (0,0))/\Le h' h/\h' b=none/\l.length<=c/\c<=maxLen/\o+c*k α<=cur.size/\OwL h' ((cur.toList.drop o).take (l.length*k α)) l
theorem RdL.len {G:GH}:∀ {xs:List Value} {l:List α},RdL G xs l->xs.length=l.length*k α
 |xs,[],h=>by simp [RdL]at h;subst h;simp
 |xs,a::l,⟨x,ys,h1,_,h3⟩=>by subst h1;rw [List.length_append,GoT.len,h3.len,List.length_cons,Nat.add_mul];omega
theorem RdL.mono {G G':GH}(h:Le G G'):∀ {xs:List Value} {l:List α},RdL G xs l->RdL G' xs l
 |_,[],k=>k
 |_,_::_,⟨x,ys,h1,h2,h3⟩=>⟨x,ys,h1,h2.mono h,h3.mono h⟩
theorem OwL.mono {G G':GH}(h:Le G G'):∀ {xs:List Value} {l:List α},OwL G xs l->OwL G' xs l
 |_,[],k=>k
 |_,_::_,⟨x,ys,h1,h2,e,a,b,c,d,k⟩=>⟨x,ys,h1,h2,e,a.trans h,b.trans h,c,d,k⟩
theorem OwL.rd:∀ {G:GH}{xs:List Value}{l:List α},OwL G xs l->RdL G xs l
 |_,_,[],k=>k
 |_,_,_::_,⟨x,ys,h1,h2,e,a,b,_,d,k⟩=>⟨x,ys,e,(GoT.ow_rd d).mono a,k.rd.mono b⟩
theorem OwL.len {l:List α}(h:OwL G xs l):xs.length=l.length*k α:=h.rd.len
theorem aia.mono (h:Le G G')(hc:aia G p xs):aia G' p xs:=λj u hu=>by
 obtain ⟨a,ha,hg⟩:=hc j u hu;exact ⟨a,ha,ah1 h hg⟩
theorem RdSl.mono (h:Le G G'){l:List α}(hr:RdSl G p c l):RdSl G' p c l:=by obtain ⟨h1,h2,xs,h4,h5⟩:=hr;exact ⟨h1,h2,xs,h4.mono h,h5.mono h⟩
theorem OwSl.mono (h:Le G G'){l:List α}(hr:OwSl G p c l):OwSl G' p c l:=by refine hr.imp id ?_;rintro ⟨b,o,T,cur,h',k1,k2,k3,k⟩;exact ⟨b,o,T,cur,h',k1,h _ _ k2,k3.trans h,k⟩
theorem al0 {g o:Nat}{cur:Array Value}{fr:Nat×Nat}(h:G g=some (.cells cur T fr))(n:Nat):aia G (some ⟨g,o,none⟩) ((cur.toList.drop o).take n):=λj u hu=>by
 refine ⟨_,rfl,?_⟩;rw [List.getElem?_take]at hu
 split at hu
 ·rw [Addr.add_lit];grind [gcell]
 ·cases hu
theorem OwSl.rd {l:List α}(hr:OwSl G p c l):RdSl G p c l:=by
 obtain ⟨h3,h4⟩|⟨b,o,T,cur,h',k1,k2,k3,k4,k5,k6,k7,k8⟩:=hr
 ·subst h4;exact ⟨by simp,by simp,[],λj u h=>by simp at h,rfl⟩
 ·subst k1;exact ⟨k5,by simp only [maxLen]at k6;omega,_,al0 k2 _,k8.rd.mono k3⟩
end
def MF.rs {α:Type}[GoT α](kd:Kd)(p:Option Addr)(c:Nat)(l:List α):MF:=⟨kd,λG=>RdSl G p c l,λh k=>k.mono h⟩
def MF.os {α:Type}[GoT α](p:Option Addr)(c:Nat)(l:List α):MF:=⟨.lin,λG=>OwSl G p c l,λh k=>k.mono h⟩
def MF.ol {α:Type}[GoT α](xs:List Value)(l:List α):MF:=⟨.lin,λG=>OwL G xs l,λh k=>k.mono h⟩
def MF.rl {α:Type}[GoT α](kd:Kd)(xs:List Value)(l:List α):MF:=⟨kd,λG=>RdL G xs l,λh k=>k.mono h⟩
instance:GoT Int where
 X:=Unit
 k:=1
 ok _ n:=I64 n
 sh n _:=[.int .i64 n]
 fa _ _ _:=[]
 oa _ _:=[]
 pos:=by omega
 len _ _:=rfl
 one _ _ v h:=by simp at h;subst h;rfl
 fak f h:=by cases h
 oak f h:=by cases h
 ow_rd _:=All.nil
 kdp _:=All.nil
 okm {n m a} h k:=by first|exact k|exact Nat.le_trans k (al2 h)
instance:GoT Bool where
 X:=Unit
 k:=1
 ok _ _:=True
 sh n _:=[.bool n]
 fa _ _ _:=[]
 oa _ _:=[]
 pos:=by omega
 len _ _:=rfl
 one _ _ v h:=by simp at h;subst h;rfl
 fak f h:=by cases h
 oak f h:=by cases h
 ow_rd _:=All.nil
 kdp _:=All.nil
 okm {n m a} h k:=by first|exact k|exact Nat.le_trans k (al2 h)
instance:GoT UInt8 where
 X:=Unit
 k:=1
 ok _ _:=True
 sh n _:=[.int .u8 n.toNat]
 fa _ _ _:=[]
 oa _ _:=[]
 pos:=by omega
 len _ _:=rfl
 one _ _ v h:=by simp at h;subst h;rfl
 fak f h:=by cases h
 oak f h:=by cases h
 ow_rd _:=All.nil
 kdp _:=All.nil
 okm {n m a} h k:=by first|exact k|exact Nat.le_trans k (al2 h)
instance:GoT ByteArray where
 X:=Unit
 k:=1
 ok n s:=s.size<=bd n
 sh n _:=[.string n]
 fa _ _ _:=[]
 oa _ _:=[]
 pos:=by omega
 len _ _:=rfl
 one _ _ v h:=by simp at h;subst h;rfl
 fak f h:=by cases h
 oak f h:=by cases h
 ow_rd _:=All.nil
 kdp _:=All.nil
 okm {n m a} h k:=by first|exact k|exact Nat.le_trans k (al2 h)
theorem ag1 (k:Sep h [f]):f.p h:=by obtain ⟨h1,h2,a,_,_,d,_⟩:=k;exact f.m a d
theorem ae6 (k:f.p h):Sep h [f]:=⟨h,emp,Le.refl _,acv _,(ade _).symm,k,trivial⟩
instance {α:Type} [GoT α]:GoT (List α) where
 X:=Option Addr×Nat
 k:=1
 ok n l:=l.length<=bd n/\∀a∈l,ok n a
 sh l x:=[.slice x.1 l.length x.2]
 fa kd l x:=[MF.rs kd x.1 x.2 l]
 oa l x:=[MF.os x.1 x.2 l]
 pos:=by omega
 len _ _:=rfl
 one _ _ v h:=by simp at h;subst h;rfl
 fak f h:=by cases List.mem_singleton.1 h;rfl
 oak f h:=by cases List.mem_singleton.1 h;rfl
 ow_rd h:=All.cons (OwSl.rd (ag1 h)) All.nil
 kdp h:=All.cons (h _ (List.mem_singleton.2 rfl):RdSl _ _ _ _) All.nil
 okm h k:=⟨Nat.le_trans k.1 (al2 h),λa ha=>GoT.okm h (k.2 a ha)⟩
instance {α β:Type} [GoT α] [GoT β]:GoT (α×β) where
 X:=X α×X β
 k:=k α+k β
 ok n a:=ok n a.1/\ok n a.2
 sh a x:=sh a.1 x.1++sh a.2 x.2
 fa kd a x:=fa kd a.1 x.1++fa kd a.2 x.2
 oa a x:=oa a.1 x.1++oa a.2 x.2
 pos:=by have:=GoT.pos (α:=α);omega
 len a x:=by simp [GoT.len]
 one a x v h:=(List.mem_append.1 h).elim (GoT.one _ _ v) (GoT.one _ _ v)
 fak f h:=(List.mem_append.1 h).elim (GoT.fak f) (GoT.fak f)
 oak f h:=(List.mem_append.1 h).elim (GoT.oak f) (GoT.oak f)
 ow_rd h:=by
  obtain ⟨h1,h2,a,b,_,d,e⟩:=h.append;exact All.append ((GoT.ow_rd d).mono a) ((GoT.ow_rd e).mono b)
 kdp h:=All.append (GoT.kdp h.left) (GoT.kdp h.right)
 okm h k:=⟨GoT.okm h k.1,GoT.okm h k.2⟩
@[reducible] def GoT.via {α β : Type} [GoT β] (e : α → β) : GoT α where
 X := X β
 k := k β
 ok n a := ok n (e a)
 sh a := sh (e a)
 fa kd a := fa kd (e a)
 oa a := oa (e a)
 pos := GoT.pos
 len a := GoT.len (e a)
 one a := GoT.one (e a)
 fak := GoT.fak
 oak := GoT.oak
 ow_rd h := GoT.ow_rd h
 kdp h := GoT.kdp h
 okm h k := GoT.okm h k
def kdL:Kd->Bool
 | .lin=>true
 | .stb=>false
 | .der=>false
theorem at3 (h:kdL kd=false):kd≠ .lin:=λe=>by subst e;cases h
section
variable {α : Type} [GoT α]
theorem RdL.get {G:GH}:∀ {xs:List Value} {l:List α} {i:Nat} {a:α},RdL G xs l->l[i]? =some a->∃x:X α,All G (fa .der a x)/\∀j u,(sh a x)[j]? =some u->xs[i*k α+j]? =some u
 |xs,b::l,0,a,⟨x,ys,h1,h2,_⟩,h=>by
  simp at h;subst h;subst h1;refine ⟨x,h2,λj u hj=>?_⟩;simp only [Nat.zero_mul,Nat.zero_add];rw [List.getElem?_append_left (List.getElem?_eq_some_iff.1 hj).1];exact hj
 |xs,b::l,i+1,a,⟨x,ys,h1,_,h3⟩,h=>by
  obtain ⟨x',h4,h5⟩:=h3.get (i:=i) (a:=a) (by simpa using h);refine ⟨x',h4,λj u hj=>?_⟩;subst h1;rw [List.getElem?_append_right (by rw [GoT.len,Nat.add_mul];omega),GoT.len];have:=h5 j u hj
  rwa [show (i+1)*k α+j-k α=i*k α+j by rw [Nat.add_mul];omega]
 |xs,[],i,a,_,h=>by simp at h
theorem RdSl.get {l:List α}{a:α}(h:RdSl G p c l)(hi:l[i]? =some a):
  ∃(x:X α) (ad:Addr),p=some ad/\All G (fa .der a x)/\∀j u,(sh a x)[j]? =some u->gcell G ((ad.add (i*k α)).add j)=some u:=by
 obtain ⟨_,_,xs,h4,h5⟩:=h;obtain ⟨x,h6,h7⟩:=h5.get hi
 have h0:∃u,(sh a x)[0]? =some u:=by
  have:=GoT.len a x;have:=GoT.pos (α:=α);exact ⟨_,List.getElem?_eq_getElem (by omega)⟩
 obtain ⟨u,hu⟩:=h0;obtain ⟨ad,had,_⟩:=h4 _ _ (h7 0 u hu);refine ⟨x,ad,had,h6,λj u hj=>?_⟩;obtain ⟨ad',had',hg⟩:=h4 _ _ (h7 j u hj);rw [had]at had';simp at had';subst had';rw [aed];exact hg
theorem AllK.stbs {M:Nat->Prop}{G:GH}{Γ:Facts}{S h:GH}(k:Holds M G Γ S h):∀ {fs:List MF} {n:Nat} {Γ':Facts},addF n fs Γ=some Γ'->(∀f∈fs,f.k= .stb)->All S fs->Holds M G Γ' S h
 |[],n,Γ',e,_,_=>by grind [addF]
 |f::fs,n,Γ',e,hk,ha=>by
  simp only [addF]at e
  split at e
  ·rename_i q hq
   simp only [Option.some.injEq]at e;subst e;have r:=AllK.stbs k hq (λg hg=>hk g (List.mem_cons_of_mem _ hg)) (λg hg=>ha g (List.mem_cons_of_mem _ hg));have hf:=hk f (List.mem_cons_self ..);refine ⟨r.sle,r.hle,r.dj,r.own,λm g hg hk'=>?_,λm g hg hk'=>?_,?_⟩
   ·rcases List.mem_cons.1 hg with hg|hg
    ·cases hg;exact ha f (List.mem_cons_self ..)
    ·exact r.stb m g hg hk'
   ·rcases List.mem_cons.1 hg with hg|hg
    ·grind
    ·exact r.der m g hg hk'
   ·simp only [lins,hf];exact r.lin
  ·cases e
theorem AllK.elem {M:Nat->Prop}{G:GH}{Γ:Facts}(hΓ:AllK M G Γ){ℓ:Nat}{kd:Kd}{p:Option Addr}{c:Nat}{l:List α}(hℓ:look Γ ℓ=some (MF.rs kd p c l))(hkd:kd≠ .lin){i:Nat}{a:α}(hi:l[i]? =some a):
  ∃(x:X α) (ad:Addr),p=some ad/\(∀j u,(sh a x)[j]? =some u->gcell G ((ad.add (i*k α)).add j)=some u)/\∀n Γ',addF n (fa kd a x) Γ=some Γ'->AllK M G Γ':=by
 cases kd with
 |lin=>exact absurd rfl hkd
 |stb=>
  obtain ⟨S,h,k⟩:=hΓ;obtain ⟨x,ad,h1,h2,h3⟩:=RdSl.get (k.stb ℓ _ (aj6 hℓ) rfl:RdSl S p c l) hi;exact ⟨x,ad,h1,λj u hj=>ah1 k.sle (h3 j u hj),λn Γ' e=>⟨S,h,AllK.stbs k e (λf hf=>GoT.fak f hf) (GoT.kdp h2)⟩⟩
 |der=>
  obtain ⟨x,ad,h1,h2,h3⟩:=RdSl.get (hΓ.get ℓ hℓ:RdSl G p c l) hi;exact ⟨x,ad,h1,h3,λn Γ' e=>AllK.ders e (λf hf=>GoT.fak f hf) h2 hΓ⟩
end
def ahc (tt:TT)(T:Nat):Option Nat:=
 match look tt T with
 |some ti=>(match ti.desc with
  | .slice e=>(match look tt e with|some te=>some te.size|none=>none)
  |_=>none)
 |none=>none
theorem aoa {P:Program}{tt:TT}(ht:ad6 P tt){k:Nat}(h:ahc tt T=some k)(w:World)(a:Addr)(n c i:Nat)(hi:i<n):
  (Instr.indexAt T (.slice (some a) n c) (.int .i64 i)).run P w= .ok (.pointer (some (a.add (i*k)))) w:=by
 unfold ahc at h
 split at h
 ·rename_i ti hT
  split at h
  ·rename_i e hd
   split at h
   ·rename_i te hE
    simp only [Option.some.injEq]at h;subst h;obtain ⟨hu,_⟩:=ht.get hT;obtain ⟨_,inf,hinf,_,hs,_⟩:=ht.get hE;rw [hd]at hu;simp [Instr.indexAt,asIntOf,run_underlying hu,hi,aej hinf,hs]
   ·cases h
  ·cases h
 ·cases h
theorem Le.cell (h:Le G (hp w)){a:Addr}(hc:gcell G a=some v):w.cell? a=some v:=ah1 h hc
theorem aja (ht:ad6 C.P C.tt)(ho:o.op= .indexAddr T x y)
  (hx:ev env x=some (.v (.slice (some ad) n c))) (hy:ev env y=some (.v (.int .i64 m))) (hk:ahc C.tt T=some kk) (hm:m=(i:Int)) (hi:i<n):Looks C env L R G o (.e (some ad) i kk 0):=by
 intro a w G' bs _ hA hI;unfold execOp;subst hm;simp only [ho,ac5 hA hx,ac5 hA hy,conc,Sem.run_bind,aoa ht hk w ad n c i hi,Result.andThen_ok,Sem.run_pure,Addr.add_zero']
theorem WX.idx {α:Type}[GoT α]{l:List α}(ℓ i:Nat)(ht:ad6 C.P C.tt)
  (hg:gd ops env o=some true) (hd:o.dst=some d) (hlt:Nat.blt d C.fn.ntmps=true) (ho:o.op= .indexAddr T x y)
  (hx:ev env x=some (.v (.slice p n c))) (hy:ev env y=some (.v (.int .i64 m))) (hk:ahc C.tt T=some kk) (hℓ:look Γ ℓ=some (MF.rs kd p c l)) (hn:n=l.length) (hm:m=(i:Int)) (hi:i<l.length)
  (k:∀ad,p=some ad->WX C (.ops ops r::s) ((d,.e (some ad) i kk 0)::env) L R Γ):WX C (.ops ops (o::r)::s) env L R Γ:=
 WX.peek hg hd hlt λG hΓ=>by
  obtain ⟨x',ad,rfl,_⟩:=RdSl.get (i:=i) (hΓ.get ℓ hℓ:RdSl G p c l) (List.getElem?_eq_getElem hi)
  grind [aja]
theorem aii {cs:List Value}(ht:ad6 C.P C.tt)(ho:o.op= .load T x)
  (hx:ev env x=some (.e (some ad) i kk off)) (hT:look C.tt T=some ti) (hc:∀j u,cs[j]? =some u->gcell G ((ad.add (i*kk)).add j)=some u) (hv:asm ti cs off=some v):Looks C env L R G o (.v v):=by
 intro a w G' bs hle hA hI;unfold execOp;have hrun:=afw (P:=C.P) ht hT (w:=w) (a:=ad.add (i*kk)) (cs:=cs) (off:=off) (v:=v) (λj u hj=>hI.le.cell (ah1 hle (hc j u hj))) hv;simp only [ho,ac5 hA hx,conc,Instr.loadAt,Instr.sureAddr,Sem.run_bind,Sem.run_pure,Result.andThen_ok,hrun]
theorem WX.ldE {α:Type}[GoT α]{l:List α}(ℓ n:Nat)(a:α){val:X α->Value}{Γ':X α->Facts}(ht:ad6 C.P C.tt)
  (hg:gd ops env o=some true) (hd:o.dst=some d) (hlt:Nat.blt d C.fn.ntmps=true) (ho:o.op= .load T x)
  (hx:ev env x=some (.e (some ad) i (k α) off)) (hT:look C.tt T=some ti) (hℓ:look Γ ℓ=some (MF.rs kd (some ad) c l)) (hkd:kdL kd=false) (ha:l[i]? =some a)
  (hv:∀x,asm ti (sh a x) off=some (val x)) (hf:∀x,addF n (fa kd a x) Γ=some (Γ' x))
  (k:∀x,WX C (.ops ops r::s) ((d,.v (val x))::env) L R (Γ' x)):WX C (.ops ops (o::r)::s) env L R Γ:=by
 rintro a' w ⟨G,bs,hA,hI,hΓ⟩;obtain ⟨x',ad',had,hc,hΓ'⟩:=hΓ.elem hℓ (at3 hkd) ha;simp at had;subst had;have hl:=aii (L:=L) (R:=R) ht ho hx hT hc (hv x');show wpList C.P ops (cont C s) (o::r) a' w;unfold wpList;rw [if_pos (ad2 hA hg)];refine .inl ?_;unfold Oper.wp;rw [hl a' w G bs (Le.refl _) hA hI];simp only [Oper.upon,hd];exact k x' _ _ ⟨G,bs,hA.put (by grind [Nat.blt_eq]) _,hI,hΓ' n _ (hf x')⟩
def al6:List Value->Option (List Value)
 |[]=>some []
 |x::r=>(match al6 r with|some q=>some (x::q)|none=>none)
theorem ah3:∀ {l q:List Value},al6 l=some q->q=l
 |[],q,h=>by grind [al6]
 |x::r,q,h=>by
  simp only [al6]at h
  split at h
  ·rename_i q' hq;simp at h;rw [<-h,ah3 hq]
  ·cases h
def afb:Value->Option Value
 | .agg cs=>(match al6 cs.toList with|some q=>some (.agg ⟨q⟩)|none=>none)
 | .tuple cs=>(match normT cs.toList with|some q=>some (.tuple ⟨q⟩)|none=>none)
 |v=>some v
where
 normT : List Value → Option (List Value)
  | [] => some []
  | .agg cs :: r => (match al6 cs.toList with
   | some q => (match normT r with | some t => some (.agg ⟨q⟩ :: t) | none => none)
   | none => none)
  | v :: r => (match normT r with | some t => some (v :: t) | none => none)
theorem ak1:∀ {l q:List Value},afb.normT l=some q->q=l
 |[],q,h=>by simp [afb.normT]at h;exact h
 |v::r,q,h=>by
  cases v<;>simp only [afb.normT]at h<;>(repeat' split at h)<;>first|(cases h;done)|(simp at h;subst h;rename_i h1 _ _ h2;rw [ah3 h1,ak1 h2];done)|(simp at h;subst h;rename_i h1 h2;rw [ah3 h1,ak1 h2];done)|(simp at h;subst h;rename_i h1;rw [ak1 h1];done)
theorem afi {q:Value}(h:afb v=some q):q=v:=by cases v<;>simp only [afb]at h<;>(repeat' split at h)<;>first|(cases h;done)|(simp at h;exact h.symm)|(simp at h;subst h;rename_i h1;rw [ah3 h1];done)|(simp at h;subst h;rename_i h1;rw [ak1 h1];done)
theorem apk (n:Nat)(Γ:Facts):∀(A B:List MF) (m:Nat),addL m (A++B) Γ=addL m A (addL (m+A.length) B Γ)
 |[],B,m=>by simp [addL]
 |f::A,B,m=>by simp only [List.cons_append,addL,apk n Γ A B (m+1),List.length_cons];grind
theorem anj:∀(fs:List MF) (n:Nat) (Γ:Facts),addF n fs Γ=some (addL n fs Γ)
 |[],n,Γ=>rfl
 |f::fs,n,Γ=>by simp [addF,anj fs (n+1) Γ,addL]
theorem AllK.after {M:Nat->Prop}{Γ':Facts}{gs ds:List MF}(hΓ:AllK M G Γ)(hd:Dj h G)(hM:∀b o,h b=some o->M b)(hs:Sep h gs)(hk:∀f∈ds,f.k= .der)(hds:All h ds)(e:addF n (ds++gs) Γ=some Γ'):AllK M (join G h) Γ':=by rw [akd e,apk n];exact AllK.ders (anj _ _ _) hk (hds.mono (ad3 hd.symm)) (AllK.newSep (n+ds.length) hΓ hd hM hs)
theorem WX.callF {f:Operand}{args:List Operand}{ats:Array TypeId}{g:FuncId}{sf:SV}{svs:List SV}{caps:(Nat->Nat)->List Value}{val val':ι->Value}{gs ds:ι->List MF}{Γ':ι->Facts}(n:Nat)(hds:∀i h,Sep h (gs i)->All h (ds i))(hdk:∀i,∀f∈ds i,f.k= .der)(hg:gd ops env o=some true)(hd:o.dst=some d)(hlt:Nat.blt d C.fn.ntmps=true)(ho:o.op= .call {callee:= .value f,args:=args.toArray,argTypes:=ats})
  (hf:ev env f=some sf) (hsf:∀bs,conc bs sf= .func (.func g) #[] (caps bs).toArray) (hargs:evs env args=some svs)
  (hc:∀w G bs,HInv C w G bs L R->AllK C.M (hp w) Γ->Does C.P g (svs.map (conc bs)++caps bs).toArray w emp (Post w emp val gs Q))
  (hv:∀i,afb (val i)=some (val' i)) (hΓ':∀i,addF n (ds i++gs i) Γ=some (Γ' i))
  (k:∀i,Q->WX C (.ops ops r::s) ((d,.v (val' i))::env) L R (Γ' i)):WX C (.ops ops (o::r)::s) env L R Γ:=
 WX.callG (Ψ:=λw v w'=>Post w emp val gs Q v w') hg ho hf hsf hargs hc λa' w w' G bs v hA hI hΓ hb hv'=>by
  obtain ⟨i,h,rfl,hq,hle,hdom,hs⟩:=hv';rw [hd,<-afi (hv i)];obtain ⟨hI',hdj⟩:=hI.called (acv _) (λ_ _ h=>by cases h) hb hle hdom;exact k i hq _ _ ⟨join G h,bs,hA.put (by simpa [Nat.blt_eq]using hlt) (.v _),hI',hΓ.after hdj (λb o hb'=> .inl ((hdom b o hb').elim (Nat.le_trans hI.keep.size) (λh=>absurd rfl h))) hs (hdk i) (hds i h hs) (hΓ' i)⟩
theorem WX.callM {C:Cx}{ops:Array Oper}{o:Oper}{r:List Oper}{s:List It}{env:Env}{L:Locs}{R:Rows}{Γ Γ1:Facts}{f:Operand}{args:List Operand}{ats:Array TypeId}{g:FuncId}{sf:SV}{svs:List SV}{caps:(Nat->Nat)->List Value}{fs:List MF}
  {ι:Type} {val val':ι->Value} {gs ds:ι->List MF} {Q:Prop} {d:Nat} {Γ':ι->Facts} (ks:List Nat) (n:Nat) (hks:af4 ks Γ=some (fs,Γ1)) (hds:∀i h,Sep h (gs i)->All h (ds i)) (hdk:∀i,∀f∈ds i,f.k= .der) (hg:gd ops env o=some true) (hd:o.dst=some d) (hlt:Nat.blt d C.fn.ntmps=true) (ho:o.op= .call {callee:= .value f,args:=args.toArray,argTypes:=ats})
  (hf:ev env f=some sf) (hsf:∀bs,conc bs sf= .func (.func g) #[] (caps bs).toArray) (hargs:evs env args=some svs)
  (hc:∀w G bs H,HInv C w G bs L R->Le H (hp w)->Sep H fs->AllK C.M (cut (hp w) H) Γ1->Does C.P g (svs.map (conc bs)++caps bs).toArray w H (Post w H val gs Q))
  (hv:∀i,afb (val i)=some (val' i)) (hΓ':∀i,addF n (ds i++gs i) Γ1=some (Γ' i))
  (k:∀i,Q->WX C (.ops ops r::s) ((d,.v (val' i))::env) L R (Γ' i)):WX C (.ops ops (o::r)::s) env L R Γ:=
 WX.callH (Ψ:=λw H v w'=>Post w H val gs Q v w') ks hks hg ho hf hsf hargs hc λa' w w' G bs H v hA hI hHG hHM hΓ hb hv'=>by
  obtain ⟨i,h,rfl,hq,hle,hdom,hs⟩:=hv';rw [hd,<-afi (hv i)];obtain ⟨hI',hdj⟩:=hI.called hHG hHM hb hle hdom;refine k i hq _ _ ⟨join (cut G H) h,bs,hA.put (by grind [Nat.blt_eq]) (.v _),hI',hΓ.after hdj (λb o hb'=>?_) hs (hdk i) (hds i h hs) (hΓ' i)⟩;rcases hdom b o hb' with h1|h1
  ·exact .inl (Nat.le_trans hI.keep.size h1)
  ·cases hx:H b with
   |none=>exact absurd hx h1
   |some q=>exact hHM b q hx
theorem Post.of {bs:Nat->Nat}{Γ1:Facts}{val:ι->Value}{gs:ι->List MF}(ks:List Nat)(i:ι)(hI:HInv C w G bs L R)(hΓ:AllK C.M G Γ)(hk:af4 ks Γ=some (fs,Γ1))(hv:v=val i)(hf:gs i=fs)(hq:Q):Post C.w0 C.H val gs Q v w:=by obtain ⟨H,q1,q2,q3,q4⟩:=aek hk hΓ;exact ⟨i,H,hv,hq,q1.trans hI.le,q2,by grind⟩
end Go.Stp
namespace Go.Stp
open GoT (X k ok sh fa oa)
variable {ρ T tx kk by_ : Nat} {env : Env} {bs : Nat → Nat} {C : Cx} {w : World} {G : GH} {L : Locs} {R R' : Rows} {b : Bool} {z : Value} {s : List It} {Γ Γ1 : Facts} {row : Row} {ι : Type} {fs : List MF} {p : Prop}
def ajx (ρ:Nat):List (Nat×Nat)->Bool
 |[]=>true
 |(i,_)::r=>(match Nat.beq i ρ with|true=>false|false=>ajx ρ r)
def amx (ρ:Nat):SV->Bool
 | .p i _=>(match Nat.beq i ρ with|true=>false|false=>true)
 | .f _ caps=>ajx ρ caps
 |_=>true
def af6 (ρ:Nat):Env->Bool
 |[]=>true
 |(_,s)::r=>(match amx ρ s with|true=>af6 ρ r|false=>false)
theorem aj3 {ρ:Nat}:∀ {l:List (Nat×Nat)},ajx ρ l=true->∀c∈l,c.1≠ρ
 |(i,o)::r,h,c,hc=>by
  simp only [ajx]at h
  split at h
  ·cases h
  ·rename_i hb
   rcases List.mem_cons.1 hc with rfl|hc
   ·intro e;simp at e;subst e;simp at hb
   ·exact aj3 h c hc
theorem asi {bs bs':Nat->Nat}{ρ:Nat}(h:∀i,i≠ρ->bs' i=bs i){s:SV}(hs:amx ρ s=true):conc bs' s=conc bs s:=by
 cases s with
 |p i off=>
  simp only [amx]at hs
  split at hs
  ·cases hs
  ·rename_i hb;simp only [conc];rw [h i (λe=>by subst e;simp at hb)]
 |f g caps=>
  simp only [amx]at hs;simp only [conc];congr 2;exact List.map_congr_left λc hc=>by grind [aj3]
 |_=>rfl
theorem ajq {ρ:Nat}:∀ {env:Env},af6 ρ env=true->∀ {d:Nat} {s:SV},look env d=some s->amx ρ s=true
 |[],_,d,s,h=>by simp [look]at h
 |(j,y)::r,h,d,s,hl=>by
  simp only [af6]at h
  split at h
  ·rename_i hy
   rw [acg]at hl
   split at hl
   ·grind
   ·exact ajq h hl
  ·cases h
theorem At.free {n:Nat}{bs':Nat->Nat}{a:Act}(hA:At n env bs a)(hf:af6 ρ env=true)(h:∀i,i≠ρ->bs' i=bs i):At n env bs' a:=
 ⟨hA.size,hA.dfr,λd s hs=>by rw [hA.slot d s hs,asi h (ajq hf hs)]⟩
def setR (R:Rows)(i:Nat)(x:Row):Rows:=
 match R with
 |[]=>[]
 |(j,l)::r=>match Nat.beq j i with|true=>(j,x)::r|false=>(j,l)::setR r i x
theorem ahe:∀(R:Rows) (i:Nat)(x:Row)(j:Nat),look (setR R i x) j=if i=j then (look R j).map (λ_=>x)else look R j
 |[],i,x,j=>by simp [setR,look]
 |(m,l)::r,i,x,j=>by
  simp only [setR];cases hb:Nat.beq m i with
  |true=>
   have:=Nat.eq_of_beq_eq_true hb;subst this;simp only [acg]
   by_cases h:m=j<;>simp [h]
  |false=>
   have hne:m≠i:=λe=>by subst e;simp at hb
   simp only [acg,ahe r i x j]
   by_cases h:m=j
   ·grind
   ·simp [h]
def ah4 (R:Rows)(i:Nat)(x:Row):Option Rows:=
 match R with
 |[]=>some []
 |(j,l)::r=>match Nat.beq j i with
  |true=>some ((j,x)::r)
  |false=>(match ah4 r i x with|some q=>some ((j,l)::q)|none=>none)
theorem ag3:∀ {R:Rows}{i:Nat}{x:Row}{R':Rows},ah4 R i x=some R'->R'=setR R i x
 |[],i,x,R',h=>by simp [ah4]at h;subst h;rfl
 |(j,l)::r,i,x,R',h=>by
  simp only [ah4]at h;simp only [setR]
  split at h
  ·grind
  ·split at h
   ·rename_i q hq;simp at h;subst h;rw [ag3 hq]
   ·cases h
def am7 (R:Rows)(i:Nat):Option Rows:=
 match R with
 |[]=>some []
 |(j,l)::r=>match Nat.beq j i with
  |true=>am7 r i
  |false=>(match am7 r i with|some q=>some ((j,l)::q)|none=>none)
theorem aj9:∀ {R:Rows}{i:Nat}{R':Rows},am7 R i=some R'->Sub R' R/\∀x,look R' i≠some x
 |[],i,R',h=>by grind [am7,Sub.refl,look]
 |(j,l)::r,i,R',h=>by
  simp only [am7]at h
  split at h
  ·rename_i hb
   have hji:=Nat.eq_of_beq_eq_true hb;obtain ⟨h1,h2⟩:=aj9 h;refine ⟨λa x hx=>?_,h2⟩;rw [acg]
   split
   ·grind
   ·exact h1 a x hx
  ·rename_i hb
   have hne:j≠i:=λe=>by subst e;simp at hb
   split at h
   ·rename_i q hq
    simp at h;subst h;obtain ⟨h1,h2⟩:=aj9 hq;refine ⟨λa x hx=>?_,λx hx=>?_⟩
    ·rw [acg]at hx ⊢
     split at hx
     ·grind
     ·rename_i e;rw [if_neg e];exact h1 a x hx
    ·grind [acg]
   ·cases h
structure Only (w w':World) (b:Nat) (act:Prop):Prop where
 os:w'.os=w.os
 tape:w'.tape=w.tape
 output:w'.output=w.output
 size:w.heap.size<=w'.heap.size
 block:∀j,j<w.heap.size->(act->j≠b)->w'.heap[j]? =w.heap[j]?
theorem HInv.lt (hI:HInv C w G bs L R){i:Nat}(h:Acts L R i):bs i<w.heap.size:=by
 rcases h with ⟨x,hx⟩|⟨r,hr,hc⟩
 ·exact (Array.getElem?_eq_some_iff.1 (hI.loc i x hx).1).1
 ·rcases (hI.row i r hr).2 with ⟨h0,_⟩|⟨_,_,_,_,_,_,cur,T,hh,_⟩
  ·grind
  ·grind
theorem HInv.upd {w':World}(hI:HInv C w G bs L R){b':Nat}(h999:ρ≠999){r':Row}(act:Prop)(hact:act->Acts L R ρ/\C.M (bs ρ)/\G (bs ρ)=none)
  (ho:Only w w' (bs ρ) act) (hnew:b'=bs ρ/\act\/w.heap.size<=b'\/r'.c=0) (hlook:∀j,look R' j=if ρ=j then some r' else look R j) (hL:∀l,look L ρ≠some l) (hr:agm C.M w' G b' r'):
  HInv C w' G (λj=>if j=ρ then b' else bs j) L R':=by
 have hB:=hI.keep.size;refine ⟨⟨ho.os.trans hI.keep.os,ho.tape.trans hI.keep.tape,ho.output.trans hI.keep.output,Nat.le_trans hB ho.size,λj hj hn=>?_⟩,λb o hb=>?_,λi l hl=>?_,λi r hri=>?_,λi j hij hi hj=>?_,λi l r hl hri=>?_,λb hb=>by simp only [if_neg (Ne.symm h999)];exact hI.pin b hb,λr hr'=>by rw [hlook,if_neg h999]at hr';exact hI.nr r hr'⟩
 ·rw [ho.block j (by omega) (λa e=>by subst e;rcases (hact a).2.1 with h|h<;>first|omega|exact h hn)];exact hI.keep.block j hj hn
 ·show w'.heap[b]? =_
  rw [ho.block b (hI.le.lt hb) (λa e=>by grind)];exact hI.le b o hb
 ·have hne:i≠ρ:=λe=>by subst e;exact hL l hl
  obtain ⟨h1,h2,h3⟩:=hI.loc i l hl;simp only [if_neg hne];exact ⟨by rw [ho.block _ (Array.getElem?_eq_some_iff.1 h1).1 (λa=>hI.inj i ρ hne (.inl ⟨l,hl⟩) (hact a).1)];exact h1,h2,h3⟩
 ·rw [hlook]at hri
  by_cases he:ρ=i
  ·grind
  ·rw [if_neg he]at hri
   simp only [if_neg (Ne.symm he)];obtain ⟨h1,h2⟩:=hI.row i r hri;refine ⟨h1,?_⟩;rcases h2 with h2|⟨o1,k1,k2,k3,k4,k5,cur,T,hh,rest⟩
   ·exact .inl h2
   ·by_cases hc:r.c=0
    ·grind
    ·exact .inr ⟨o1,k1,k2,k3,k4,k5,cur,T,by rw [ho.block _ (Array.getElem?_eq_some_iff.1 hh).1 (λa=>hI.inj i ρ (Ne.symm he) (.inr ⟨r,hri,hc⟩) (hact a).1)];exact hh,rest⟩
 ·have hold:∀i,i≠ρ->Acts L R' i->Acts L R i:=by
   intro i hne h;rcases h with h|⟨r,hr',hc⟩
   ·exact .inl h
   ·rw [hlook,if_neg (Ne.symm hne)]at hr';exact .inr ⟨r,hr',hc⟩
  have hpos:Acts L R' ρ->r'.c≠0:=by
   intro h;rcases h with ⟨l,hl⟩|⟨r,hr',hc⟩
   ·grind
   ·grind
  have key:∀i,i≠ρ->Acts L R' i->Acts L R' ρ->bs i≠b':=by
   intro i hne h hρ;have hi':=hold i hne h;rcases hnew with ⟨rfl,a⟩|hn|hn
   ·exact hI.inj i ρ hne hi' (hact a).1
   ·have:=hI.lt hi';omega
   ·grind
  by_cases h1:i=ρ<;>by_cases h2:j=ρ
  ·omega
  ·grind
  ·grind
  ·simp only [if_neg h1,if_neg h2];exact hI.inj i j hij (hold i h1 hi) (hold j h2 hj)
 ·by_cases he:ρ=i
  ·grind
  ·rw [hlook,if_neg he]at hri;exact hI.dis i l r hl hri
theorem apt (w:World)(o:Obj)(b:Nat)(act:Prop):Only w (w.alloc o) b act:=⟨rfl,rfl,rfl,by simp,λj hj _=>heap_alloc_old w o j hj⟩
theorem aj5 (w:World)(b:Nat)(act:Prop):Only w w b act:=⟨rfl,rfl,rfl,Nat.le_refl _,λ_ _ _=>rfl⟩
theorem Le.new {G:GH}{w:World}(h:Le G (hp w)):G w.heap.size=none:=by
 cases hg:G w.heap.size with
 |none=>rfl
 |some o=>exact absurd (h.lt hg) (by omega)
theorem agn {P:Program}{tt:TT}(ht:ad6 P tt){E:Nat}{ti te:TI}(hT:look tt T=some ti)(hd:ti.desc= .slice E)(hE:look tt E=some te)(hpos:0<te.size)
  {M:Nat->Prop} {b:Nat} {r:Row} (hr:agm M w G b r) (hk:r.k=te.size) (hBw:M w.heap.size) (hG:Le G (hp w)) {ty:Nat} {x:Value} {m:Nat} {news:List Value} (hs:Src P te.size tx x m news w)
  (h63:r.n+m<=maxLen) (hby:(r.n+m)*te.bytes<=140737488355328) (hz:te.zero.cells.size=te.size):
  ∃p' c' w' b',(Builtin.append_ #[T,tx] ty #[.slice r.p r.n r.c,x]).run P w= .ok (.slice p' (r.n+m) c') w'/\agm M w' G b' ⟨r.k,p',r.n+m,c',r.xs++news⟩/\Only w w' b (r.c≠0)/\(b'=b/\r.c≠0\/w.heap.size<=b'\/c'=0):=by
 obtain ⟨hu,_⟩:=ht.get hT;obtain ⟨_,i,hi,hz0,hsz,hbz⟩:=ht.get hE;rw [hd]at hu;have hsi:i.size=te.size:=hsz;have hlen:(r.xs++news).length=(r.n+m)*r.k:=by rw [List.length_append,hr.1,hs.newsLen,hk,Nat.add_mul]
 have hs':Src P i.size tx x m news w:=hsi▸hs;have hsm:r.n+m<=9223372036854775807:=by simp only [maxLen]at h63;omega
 have grown:∀(base:Option Addr) (sLen sCap:Nat) (olds:List Value),sLen=r.n->sCap<sLen+m->olds=r.xs->(Builtin.firstCells i.size sLen (.slice base sLen sCap)).run P w.drew= .ok olds.toArray w.drew->
   ∃p' c' w' b',(Builtin.append_ #[T,tx] ty #[.slice base sLen sCap,x]).run P w= .ok (.slice p' (r.n+m) c') w'/\agm M w' G b' ⟨r.k,p',r.n+m,c',r.xs++news⟩/\Only w w' b (r.c≠0)/\(b'=b/\r.c≠0\/w.heap.size<=b'\/c'=0):=by
  intro base sLen sCap olds h1 h2 h3 h4;subst h1;subst h3;have hrun:=run_append_grow_src (P:=P) w T tx ty E i te.zero hu hi hz0 base r.n sCap r.xs h4 x m news hs' h2 (by omega) (growslice_fits (by omega) (by rw [hbz];exact hby));refine ⟨_,_,_,w.heap.size,hrun,⟨hlen,.inr ⟨0,rfl,hBw,hG.new,grownCap_ge _ _ _ _,grownCap_le_maxLen w _ _ _ h63,_,E,heap_alloc_new w.drew _,?_,?_⟩⟩,⟨rfl,rfl,rfl,by simp,λj hj _=>heap_alloc_old w.drew _ j hj⟩,.inr (.inl (Nat.le_refl _))⟩
  ·have hge:=grownCap_ge w (r.n+m) sCap E
   simp only [Array.size_append,List.size_toArray,size_zeroCells,hz,hlen,hk,<-Nat.add_mul,Nat.zero_add];exact Nat.mul_le_mul_right _ (by omega)
  ·simp only [Array.toList_append,<-hlen,List.drop_zero]
   exact List.take_left
 rcases hr.2 with ⟨hc,hn⟩|⟨o1,hp,hB,hGb,hnc,hcm,cur,T',hh,hcs,htk⟩
 ·have hx:r.xs=[]:=List.eq_nil_of_length_eq_zero (by rw [hr.1,hn];simp)
  by_cases hm:m=0
  ·subst hm
   have hnews:news=[]:=List.eq_nil_of_length_eq_zero (by rw [hs.newsLen];simp);subst hnews;refine ⟨r.p,0,w,b,?_,⟨by simp [hx,hn],.inl ⟨rfl,by simp [hn]⟩⟩,aj5 w b _,.inr (.inr rfl)⟩
   rcases hs.kind with ⟨e',hk'⟩|hk'<;>cases hpp:r.p<;>
    simp [Builtin.append_,run_underlying hu,run_underlying hk',sizeOf,typeInfo,hi,hs'.len,hs'.cells,hn,hc,storeCells]
  ·have:=grown r.p 0 0 [] hn.symm (by omega) hx.symm (by cases hpp:r.p<;>simp [Builtin.firstCells,loadCells,loadCellsFrom])
   rw [hn,hc];rw [hn,hc]at this;exact this
 ·by_cases hroom:r.n+m<=r.c
  ·have hfit:o1+r.n*te.size+news.length<=cur.size:=by have:(r.n+m)*te.size<=r.c*te.size:=Nat.mul_le_mul_right _ hroom;rw [hk]at hcs;rw [hs.newsLen];rw [Nat.add_mul]at this;omega
   have hst:=run_storeCells_at P b (o1+r.n*te.size) T' news 0 cur w hh (by simpa using hfit) hs.one;simp only [Nat.add_zero]at hst
   by_cases hc0:r.c=0
   ·have hn0:r.n=0:=by omega
    have hm0:m=0:=by omega
    subst hm0;have hnews:news=[]:=List.eq_nil_of_length_eq_zero (by rw [hs.newsLen];simp);subst hnews;have hx:r.xs=[]:=List.eq_nil_of_length_eq_zero (by rw [hr.1,hn0];simp);refine ⟨r.p,0,w,b,?_,⟨by simp [hx,hn0],.inl ⟨rfl,by simp [hn0]⟩⟩,aj5 w b _,.inr (.inr rfl)⟩
    rcases hs.kind with ⟨e',hk'⟩|hk'<;>
     simp [Builtin.append_,run_underlying hu,run_underlying hk',sizeOf,typeInfo,hi,hs'.len,hs'.cells,hn0,hc0,hp,storeCells]
   ·refine ⟨r.p,r.c,w.setRow b (cur.toList.take (o1+r.n*te.size)++news++cur.toList.drop (o1+r.n*te.size+news.length)).toArray,b,?_,⟨hlen,.inr ⟨o1,hp,hB,hGb,hroom,hcm,_,T',setRow_heap w b cur _ T' _ hh,?_,?_⟩⟩,⟨rfl,rfl,rfl,by simp [World.setRow],λj hj hne=>setRow_other w b j _ (hne hc0)⟩,.inl ⟨rfl,hc0⟩⟩
    ·rcases hs.kind with ⟨e',hk'⟩|hk'<;>
      simp [Builtin.append_,run_underlying hu,run_underlying hk',sizeOf,typeInfo,hi,hs.len,hs.cells,hroom,hp,hsi,Addr.add_lit,hst]
    ·simp only [List.size_toArray,List.length_append,List.length_take,List.length_drop,Array.length_toList]
     omega
    ·rw [hk]at htk
     have h1:(cur.toList.take (o1+r.n*te.size)++news++cur.toList.drop (o1+r.n*te.size+news.length)).drop o1=r.xs++(news++cur.toList.drop (o1+r.n*te.size+news.length)):=by
      rw [List.append_assoc,List.drop_append_of_le_length (by simp;omega),<-htk,List.drop_take];congr 2;omega
     simp only [h1,<-List.append_assoc];rw [<-hlen];exact List.take_left
  ·rw [hp]
   refine grown (some ⟨b,o1,none⟩) r.n r.c r.xs rfl (by omega) rfl ?_
   have:=run_firstCells_some (P:=P) w.drew i.size r.n ⟨b,o1,none⟩ r.n r.c r.xs (by rw [hr.1,hk,hsi]) (λj u hj=>by
    rw [Addr.add_lit];show w.cell? _=_;rw [cell_of_row w b _ cur T' _ hh];rw [<-htk,List.getElem?_take,List.getElem?_drop]at hj
    split at hj
    ·simpa using hj
    ·cases hj)
   exact this
def appO (tt:TT)(T:Nat):Option (Nat×Nat×Value):=
 match look tt T with
 |some ti=>(match ti.desc with
  | .slice e=>(match look tt e with
   |some ⟨_,sE,bE,zE⟩=>(match sE with
    |0=>none
    |n+1=>some (n+1,bE,zE))
   |none=>none)
  |_=>none)
 |none=>none
theorem afh {tt:TT}(h:appO tt T=some (kk,by_,z)):∃ti e te,look tt T=some ti/\ti.desc= .slice e/\look tt e=some te/\te.size=kk/\te.bytes=by_/\te.zero=z/\0<te.size:=by
 unfold appO at h
 grind
theorem WX.appX {ops:Array Oper}{o:Oper}{r:List Oper}{d:Nat}{x y:Operand}{sv:SV}(ρ m:Nat)(news:ι->List Value)(Γ':ι->Facts)(ht:ad6 C.P C.tt)
    (hg:gd ops env o=some true) (hd:o.dst=some d) (hlt:Nat.blt d C.fn.ntmps=true) (ho:o.op= .call {callee:= .builtin .append,args:= #[x,y],argTypes:= #[T,tx]})
    (hx:ev env x=some (.v (.slice row.p row.n row.c))) (hy:ev env y=some sv) (hap:appO C.tt T=some (kk,by_,z)) (hz:z.cells.size=kk) (hρ:look R ρ=some row) (hkk:row.k=kk) (hfree:af6 ρ env=true)
    (hsrc:∀w G bs,HInv C w G bs L R->AllK C.M G Γ->∃i,Src C.P kk tx (conc bs sv) m (news i) w/\AllK C.M G (Γ' i))
    (hroom:(row.n+m)*by_<=140737488355328) (hmax:row.n+m<=maxLen)
    (k:∀i p' c',WX C (.ops ops r::s) ((d,.v (.slice p' (row.n+m) c'))::env) L (setR R ρ ⟨row.k,p',row.n+m,c',row.xs++news i⟩) (Γ' i)):WX C (.ops ops (o::r)::s) env L R Γ:=by
  rintro a w ⟨G,bs,hA,hI,hΓ⟩;show wpList C.P ops (cont C s) (o::r) a w;unfold wpList;rw [if_pos (ad2 hA hg)];refine .inl ?_;unfold Oper.wp;obtain ⟨i,hs,hΓ'⟩:=hsrc w G bs hI hΓ;obtain ⟨ti,e,te,hT,hde,hE,rfl,rfl,rfl,hpos⟩:=afh hap;obtain ⟨p',c',w',b',hrun,hrow,honly,hnew⟩:=agn (ty:=o.type) ht hT hde hE hpos (hI.row ρ row hρ) hkk (.inl hI.keep.size) hI.le hs hmax hroom hz
  have hexec:(execOp a.eval o).run C.P w= .ok (.value (.slice p' (row.n+m) c')) w':=by
    unfold execOp;simp only [ho,resolve,invoke,builtin,Sem.run_bind,Sem.run_pure,Result.andThen_ok,List.map_toArray,List.map_cons,List.map_nil,ac5 hA hx,ac5 hA hy,aif,hrun]
  rw [hexec];simp only [Oper.upon,hd];have hLρ:∀l,look L ρ≠some l:=λl hl=>hI.dis ρ l row hl hρ;have h999:ρ≠999:=λe=>by subst e;exact hI.nr row hρ
  have hI':=hI.upd (ρ:=ρ) h999 (R':=setR R ρ ⟨row.k,p',row.n+m,c',row.xs++news i⟩) (row.c≠0)
    (fun hc=>⟨.inr ⟨row,hρ,hc⟩,by
      rcases (hI.row ρ row hρ).2 with ⟨h0,_⟩|⟨_,_,h1,h2,_⟩
      ·grind
      ·exact ⟨h1,h2⟩⟩) honly hnew (fun j=>by rw [ahe];split
                                             ·grind
                                             ·rfl) hLρ hrow
  refine k i p' c' _ _ ⟨G,_,?_,hI',hΓ'⟩;have:=(hA.free (bs':=λj=>if j=ρ then b' else bs j) hfree (λj hj=>if_neg hj)).put (d:=d) (by grind [Nat.blt_eq]) (.v (.slice p' (row.n+m) c'));exact this
theorem WX.appR {C:Cx}{ops:Array Oper}{o:Oper}{r:List Oper}{s:List It}{env:Env}{L:Locs}{R:Rows}{Γ:Facts}{d:Nat}{x y:Operand}{T kk by_:Nat}{z:Value}{row src:Row}(ρ σ:Nat){R':Option Addr->Nat->Rows}(ht:ad6 C.P C.tt)
  (hg:gd ops env o=some true) (hd:o.dst=some d) (hlt:Nat.blt d C.fn.ntmps=true) (ho:o.op= .call {callee:= .builtin .append,args:= #[x,y],argTypes:= #[T,T]})
  (hx:ev env x=some (.v (.slice row.p row.n row.c))) (hy:ev env y=some (.v (.slice src.p src.n src.c))) (hap:appO C.tt T=some (kk,by_,z)) (hz:z.cells.size=kk) (hρ:look R ρ=some row) (hσ:look R σ=some src) (hkk:row.k=kk) (hks:src.k=kk) (hfree:af6 ρ env=true)
  (hone:∀u∈src.xs,u.oneCell'=true) (hroom:(row.n+src.n)*by_<=140737488355328) (hmax:row.n+src.n<=maxLen)
  (hR:∀p' c',ah4 R ρ ⟨row.k,p',row.n+src.n,c',row.xs++src.xs⟩=some (R' p' c'))
  (k:∀p' c',WX C (.ops ops r::s) ((d,.v (.slice p' (row.n+src.n) c'))::env) L (R' p' c') Γ):WX C (.ops ops (o::r)::s) env L R Γ:=by
 refine WX.appX (ι:=Unit) ρ src.n (λ_=>src.xs) (λ_=>Γ) ht hg hd hlt ho hx hy hap hz hρ hkk hfree (λw G bs hI hΓ=>⟨(),?_,hΓ⟩) hroom hmax (λ_ p' c'=>by grind [ag3]);obtain ⟨ti,e,te,hT,hde,hE,rfl,_⟩:=afh hap;obtain ⟨hu,_⟩:=ht.get hT;rw [hde]at hu;obtain ⟨h1,h2⟩:=hI.row σ src hσ;rcases h2 with ⟨hc,hn⟩|⟨o1,hp,_,_,_,_,cur,T',hh,_,htk⟩
 ·have hx0:src.xs=[]:=List.eq_nil_of_length_eq_zero (by grind)
  rw [hx0,hn,hc];simp only [conc];cases hpp:src.p with
  |none=>exact Src.ofNil w hu 0
  |some ad=>exact Src.ofSlice w hu ad 0 0 [] (by simp) (λj u h=>by simp at h) (λu h=>by cases h)
 ·simp only [conc,hp]
  refine Src.ofSlice w hu _ src.n src.c src.xs (by rw [h1,hks]) (λj u hj=>?_) hone;rw [Addr.add_lit,cell_of_row w _ _ cur T' _ hh]
  grind
theorem RdL.one {α:Type}[GoT α]{G:GH}:∀ {xs:List Value} {l:List α},RdL G xs l->∀u∈xs,u.oneCell'=true
 |xs,[],h,u,hu=>by simp [RdL]at h;subst h;cases hu
 |xs,a::l,⟨x,ys,h1,_,h3⟩,u,hu=>by
  subst h1;rcases List.mem_append.1 hu with hu|hu
  ·exact GoT.one _ _ u hu
  ·exact h3.one u hu
theorem WX.appG {C:Cx}{ops:Array Oper}{o:Oper}{r:List Oper}{s:List It}{env:Env}{L:Locs}{R:Rows}{Γ:Facts}{d:Nat}{x y:Operand}{T by_ q c:Nat}{z:Value}{row:Row}{α:Type}[GoT α]{kd:Kd}{p:Option Addr}{l:List α}(ρ ℓ n:Nat){R':List Value->Option Addr->Nat->Rows}(ht:ad6 C.P C.tt)
  (hg:gd ops env o=some true) (hd:o.dst=some d) (hlt:Nat.blt d C.fn.ntmps=true) (ho:o.op= .call {callee:= .builtin .append,args:= #[x,y],argTypes:= #[T,T]})
  (hx:ev env x=some (.v (.slice row.p row.n row.c))) (hy:ev env y=some (.v (.slice p q c))) (hq:q=l.length) (hap:appO C.tt T=some (GoT.k α,by_,z)) (hz:z.cells.size=GoT.k α) (hρ:look R ρ=some row) (hkk:row.k=GoT.k α) (hfree:af6 ρ env=true)
  (hℓ:look Γ ℓ=some (MF.rs kd p c l)) (hroom:(row.n+l.length)*by_<=140737488355328) (hmax:row.n+l.length<=maxLen)
  (hR:∀xs p' c',ah4 R ρ ⟨row.k,p',row.n+l.length,c',row.xs++xs⟩=some (R' xs p' c'))
  (k:∀xs p' c',WX C (.ops ops r::s) ((d,.v (.slice p' (row.n+l.length) c'))::env) L (R' xs p' c') ((n,MF.rl .der xs l)::Γ)):WX C (.ops ops (o::r)::s) env L R Γ:=by
 subst hq;refine WX.appX (ι:=List Value) ρ l.length (λxs=>xs) (λxs=>(n,MF.rl .der xs l)::Γ) ht hg hd hlt ho hx hy hap hz hρ hkk hfree (λw G bs hI hΓ=>?_) hroom hmax (λxs p' c'=>by grind [ag3]);obtain ⟨ti,e,te,hT,hde,hE,hks,_⟩:=afh hap;obtain ⟨hu,_⟩:=ht.get hT;rw [hde]at hu;obtain ⟨h1,h2,xs,h4,h5⟩:=(hΓ.get ℓ hℓ:RdSl G p c l);refine ⟨xs,?_,hΓ.der n _ rfl h5⟩;simp only [conc];cases hl:l with
 |nil=>
  subst hl;have hxs:xs=[]:=h5;subst hxs;cases hp:p with
  |none=>exact Src.ofNil w hu c
  |some ad=>exact Src.ofSlice w hu ad 0 c [] (by simp) (λj u h=>by simp at h) (λu h=>by cases h)
 |cons a l'=>
  have hlen:=h5.len;have hpos:=GoT.pos (α:=α);obtain ⟨u,hu0⟩:∃u,xs[0]? =some u:=⟨_,List.getElem?_eq_getElem (by simp_all)⟩;obtain ⟨ad,had,_⟩:=h4 0 u hu0;subst had;rw [<-hl]
  exact Src.ofSlice w hu ad l.length c xs hlen (λj u hj=>by
   obtain ⟨ad',h',hg'⟩:=h4 j u hj;simp at h';subst h';exact hI.le.cell hg') h5.one
theorem WX.der (n:Nat)(f:MF)(hk:f.k= .der)(h:∀G,AllK C.M G Γ->f.p G)(k:WX C s env L R ((n,f)::Γ)):WX C s env L R Γ:=by rintro a w ⟨G,bs,hA,hI,hΓ⟩;exact k a w ⟨G,bs,hA,hI,hΓ.der n f hk (h G hΓ)⟩
theorem WX.stb {g:MF}(n:Nat)(f:MF)(hk:f.k= .stb)(i:Nat)(hi:look Γ i=some g)(hg:g.k= .stb)(h:∀G,g.p G->f.p G)(k:WX C s env L R ((n,f)::Γ)):WX C s env L R Γ:=by rintro a w ⟨G,bs,hA,hI,hΓ⟩;exact k a w ⟨G,bs,hA,hI,hΓ.stbOf n f hk i hi hg h⟩
theorem WX.know {Q:Prop}(h:∀G,AllK C.M G Γ->Q)(k:Q->WX C s env L R Γ):WX C s env L R Γ:=by rintro a w ⟨G,bs,hA,hI,hΓ⟩;exact k (h G hΓ) a w ⟨G,bs,hA,hI,hΓ⟩
theorem ap3 {G H:GH}(h:Le H G):join (cut G H) H=G:=by
 funext b
 unfold join cut;cases hx:H b with
 |none=>cases G b<;>rfl
 |some o=>rw [h b o hx]
theorem WX.shift {gs:ι->List MF}{Q:ι->Prop}{Γ':ι->Facts}(ks:List Nat)(n:Nat)(hks:af4 ks Γ=some (fs,Γ1))(h:∀h,Sep h fs->∃i,Q i/\Sep h (gs i))(hΓ':∀i,addF n (gs i) Γ1=some (Γ' i))
  (k:∀i,Q i->WX C s env L R (Γ' i)):WX C s env L R Γ:=by
 rintro a w ⟨G,bs,hA,hI,hΓ⟩;obtain ⟨H,q1,q2,q3,q4⟩:=aek hks hΓ;obtain ⟨i,hq,hs⟩:=h H q3;refine k i hq a w ⟨G,bs,hA,hI,?_⟩;have:=AllK.newSep n q4 (ahg G H).symm q2 hs
 grind [ap3,akd]
theorem WX.turn {gs:List MF}{Γ':Facts}(ks:List Nat)(n:Nat)(hks:af4 ks Γ=some (fs,Γ1))(h:∀h,Sep h fs->Sep h gs)(hΓ':addF n gs Γ1=some Γ')
  (k:WX C s env L R Γ'):WX C s env L R Γ:=
 WX.shift (ι:=Unit) (gs:=λ_=>gs) (Q:=λ_=>True) (Γ':=λ_=>Γ') ks n hks (λH hs=>⟨(),trivial,h H hs⟩) (λ_=>hΓ') (λ_ _=>k)
section
variable {α : Type} [GoT α]
theorem OwL.snoc {a:α}{x:X α}{ha:GH}(hs:Sep ha (oa a x)):∀ {h h':GH} {xs:List Value} {l:List α},OwL h xs l->Le h h'->Le ha h'->Dj h ha->OwL h' (xs++sh a x) (l++[a])
 |h,h',xs,[],e,h1,h2,h3=>by
  have:xs=[]:=e;subst this;exact ⟨x,[],ha,emp,by simp,h2,acv _,(ade _).symm,hs,rfl⟩
 |h,h',xs,b::l,⟨y,ys,q1,q2,e,r1,r2,r3,r4,r5⟩,h1,h2,h3=>
  ⟨y,ys++sh a x,q1,join q2 ha,by rw [e,List.append_assoc],r1.trans h1,ae0 (r2.trans h1) h2,(afc r3.symm ((h3.mono r1 (Le.refl _)).symm)).symm,r4,
   OwL.snoc hs r5 (acq _ _) (ad3 (h3.mono r2 (Le.refl _))) (h3.mono r2 (Le.refl _))⟩
theorem OwL.append {m:List α}{ys:List Value}{ha:GH}(hs:OwL ha ys m):∀ {h h':GH} {xs:List Value} {l:List α},OwL h xs l->Le h h'->Le ha h'->Dj h ha->OwL h' (xs++ys) (l++m)
 |h,h',xs,[],e,h1,h2,h3=>by
  have:xs=[]:=e;subst this;simpa using hs.mono h2
 |h,h',xs,b::l,⟨y,zs,q1,q2,e,r1,r2,r3,r4,r5⟩,h1,h2,h3=>
  ⟨y,zs++ys,q1,join q2 ha,by rw [e,List.append_assoc],r1.trans h1,ae0 (r2.trans h1) h2,(afc r3.symm ((h3.mono r1 (Le.refl _)).symm)).symm,r4,
   OwL.append hs r5 (acq _ _) (ad3 (h3.mono r2 (Le.refl _))) (h3.mono r2 (Le.refl _))⟩
theorem OwL.split:∀ {h:GH}{xs:List Value}{l m:List α},OwL h xs (l++m)->∃h1 h2,Le h1 h/\Le h2 h/\Dj h1 h2/\OwL h1 (xs.take (l.length*k α)) l/\OwL h2 (xs.drop (l.length*k α)) m
 |h,xs,[],m,e=>⟨emp,h,acv _,Le.refl _,ade _,by simp [OwL],by simpa using e⟩
 |h,xs,a::l,m,⟨x,ys,q1,q2,e,r1,r2,r3,r4,r5⟩=>by
  obtain ⟨h1,h2,t1,t2,t3,t4,t5⟩:=OwL.split r5;have hl:(a::l).length*k α=(sh a x).length+l.length*k α:=by rw [GoT.len,List.length_cons,Nat.add_mul];omega
  refine ⟨join q1 h1,h2,ae0 r1 (t1.trans r2),t2.trans r2,afc (r3.mono (Le.refl _) t2) t3,⟨x,ys.take (l.length*k α),q1,h1,?_,acq _ _,ad3 (r3.mono (Le.refl _) t1),r3.mono (Le.refl _) t1,r4,t4⟩,?_⟩
  ·grind
  ·rw [e,hl,List.drop_length_add_append];exact t5
theorem RdL.snoc {G:GH}{a:α}{x:X α}(ha:All G (fa .der a x)):∀ {xs:List Value} {l:List α},RdL G xs l->RdL G (xs++sh a x) (l++[a])
 |xs,[],h=>by
  have:xs=[]:=h;subst this;exact ⟨x,[],by simp,ha,rfl⟩
 |xs,b::l,⟨y,ys,h1,h3,h4⟩=>⟨y,ys++sh a x,by rw [h1,List.append_assoc],h3,h4.snoc ha⟩
theorem RdL.append {G:GH}{ys:List Value}{m:List α}(hm:RdL G ys m):∀ {xs:List Value} {l:List α},RdL G xs l->RdL G (xs++ys) (l++m)
 |xs,[],h=>by
  have:xs=[]:=h
  grind
 |xs,b::l,⟨y,zs,h1,h3,h4⟩=>⟨y,zs++ys,by rw [h1,List.append_assoc],h3,RdL.append hm h4⟩
end
class Flat (α:Type) [GoT α]:Prop where
 f:∀(a:α) (x:X α),fa .der a x=[]
 o:∀(a:α) (x:X α),oa a x=[]
instance:Flat Int:=⟨λ_ _=>rfl,λ_ _=>rfl⟩
instance:Flat Bool:=⟨λ_ _=>rfl,λ_ _=>rfl⟩
instance:Flat UInt8:=⟨λ_ _=>rfl,λ_ _=>rfl⟩
instance:Flat ByteArray:=⟨λ_ _=>rfl,λ_ _=>rfl⟩
instance {α β:Type} [GoT α] [GoT β] [Flat α] [Flat β]:Flat (α×β):=⟨λa x=>by show fa .der a.1 x.1++fa .der a.2 x.2=[];rw [Flat.f,Flat.f];rfl,λa x=>by show oa a.1 x.1++oa a.2 x.2=[];rw [Flat.o,Flat.o];rfl⟩
theorem RdL.flat {α:Type}[GoT α][Flat α]{G:GH}:∀ {xs:List Value} {l:List α},RdL G xs l->∀h,OwL h xs l
 |xs,[],e,h=>e
 |xs,a::l,⟨x,ys,e,_,r⟩,h=>⟨x,ys,emp,h,e,acv _,Le.refl _,ade _,by rw [Flat.o];trivial,r.flat h⟩
theorem HInv.give (hI:HInv C w G bs L R)(hρ:look R ρ=some row)(hc0:row.c≠0)(hR:am7 R ρ=some R'):HInv C w (join G (λb=>if b=bs ρ then hp w b else none)) bs L R':=by
 obtain ⟨hsub,hgone⟩:=aj9 hR;have hact:Acts L R ρ:= .inr ⟨row,hρ,hc0⟩;have hb:∀b,b≠bs ρ->G b=none->join G (λb=>if b=bs ρ then hp w b else none) b=none:=λb hne hg=>by grind [join]
 refine ⟨hI.keep,ae0 hI.le (λb o hb=>?_),λi l hl=>?_,λi r hr=>?_,λi j hij hi hj=>?_,λi l r hl hr=>hI.dis i l r hl (hsub _ _ hr),hI.pin,λr hr=>hI.nr r (hsub _ _ hr)⟩
 ·grind
 ·obtain ⟨k1,k2,k3⟩:=hI.loc i l hl
  have hne:i≠ρ:=λe=>by subst e;exact hI.dis i l row hl hρ
  exact ⟨k1,k2,hb _ (hI.inj i ρ hne (.inl ⟨l,hl⟩) hact) k3⟩
 ·have hne:i≠ρ:=λe=>by subst e;exact hgone r hr
  obtain ⟨k1,k2⟩:=hI.row i r (hsub _ _ hr);refine ⟨k1,?_⟩;rcases k2 with k2|⟨o1,q1,q2,q3,q⟩
  ·exact .inl k2
  ·by_cases hrc:r.c=0
   ·grind
   ·exact .inr ⟨o1,q1,q2,hb _ (hI.inj i ρ hne (.inr ⟨r,hsub _ _ hr,hrc⟩) hact) q3,q⟩
 ·exact hI.inj i j hij (hi.imp id λ⟨r,hr,hc⟩=>⟨r,hsub _ _ hr,hc⟩) (hj.imp id λ⟨r,hr,hc⟩=>⟨r,hsub _ _ hr,hc⟩)
theorem WX.seal {C:Cx}{s:List It}{env:Env}{L:Locs}{R R':Rows}{Γ Γ1:Facts}{α:Type}[GoT α]{row:Row}{l:List α}(ρ ℓ n:Nat)(hρ:look R ρ=some row)(hk:row.k=GoT.k α)(hn:row.n=l.length)
  (hℓ:af4 [ℓ] Γ=some ([MF.ol row.xs l],Γ1)) (hR:am7 R ρ=some R')
  (k:WX C s env L R' ((n,MF.rs .der row.p row.c l)::(n+1,MF.os row.p row.c l)::Γ1)):WX C s env L R Γ:=by
 rintro a w ⟨G,bs,hA,hI,hΓ⟩;obtain ⟨hsub,hgone⟩:=aj9 hR;obtain ⟨H,q1,q2,q3,q4⟩:=aek hℓ hΓ;have hol:OwL H row.xs l:=ag1 q3;obtain ⟨h1,h2⟩:=hI.row ρ row hρ
 have triv:row.c=0->row.n=0->WX C s env L R' ((n,MF.rs .der row.p row.c l)::(n+1,MF.os row.p row.c l)::Γ1)->cont C s .normal a w:=λhc hn0 k=>by
  have hl:l=[]:=List.eq_nil_of_length_eq_zero (by omega);have ho:OwSl emp row.p row.c l:= .inl ⟨hc,hl⟩;refine k a w ⟨G,bs,hA,hI.sub (Sub.refl _) hsub,?_⟩;have:=(q4.mono (agb G H)).new (n+1) (MF.os row.p row.c l) (h:=emp) (Le.refl _) (acv _) (λ_=>ade _) (λ_ _ _ h=>by cases h) ho;exact this.der n _ rfl ((this.get (n+1) (by rw [acg,if_pos rfl]):OwSl G row.p row.c l).rd)
 rcases h2 with ⟨hc,hn0⟩|⟨o1,hpp,hB,hGb,hnc,hcm,cur,T,hh,hcs,htk⟩
 ·grind
 ·by_cases hc0:row.c=0
  ·grind
  ·have hI':=hI.give hρ hc0 hR
   refine k a w ⟨_,bs,hA,hI',?_⟩
   have hHb:H (bs ρ)=none:=by
    cases hx:H (bs ρ)with
    |none=>rfl
    |some q=>rw [q1 _ _ hx]at hGb;cases hGb
   have ho:OwSl (join H (λb=>if b=bs ρ then hp w b else none)) row.p row.c l:=by
    refine .inr ⟨bs ρ,o1,T,cur,H,hpp,?_,acq _ _,hHb,by omega,hcm,by rw [<-hk];exact hcs,?_⟩
    ·unfold join;rw [hHb];simp only [if_true];exact hh
    ·grind
   have hdj:Dj (join H (λb=>if b=bs ρ then hp w b else none)) (cut G H):=afc (ahg G H).symm (λb=>by
    by_cases he:b=bs ρ
    ·grind [aj7]
    ·left;simp [he])
   have hle:Le (join H (λb=>if b=bs ρ then hp w b else none)) (join G (λb=>if b=bs ρ then hp w b else none)):=ae0 (q1.trans (acq _ _)) (λb o hb=>by
    by_cases he:b=bs ρ
    ·grind [join]
    ·simp [he]at hb)
   have:=q4.new (n+1) (MF.os row.p row.c l) (h:=join H (λb=>if b=bs ρ then hp w b else none)) ((agb G H).trans (acq _ _)) hle (λ_=>hdj) (λ_ b o hb=>by
    rcases ani hb with hb|hb
    ·grind
    ·by_cases he:b=bs ρ
     ·grind
     ·simp [he]at hb) ho
   exact this.der n _ rfl ((this.get (n+1) (by rw [acg,if_pos rfl]):OwSl _ row.p row.c l).rd)
theorem WX.opn {α:Type}[GoT α]{p:Option Addr}{c:Nat}{l:List α}(ρ ℓ n:Nat)(hkk:kk=GoT.k α)(hℓ:af4 [ℓ] Γ=some ([MF.os p c l],Γ1))(hnl:afn ρ env L R=false)
  (k:∀xs,xs.length=l.length*kk->WX C s env L ((ρ,⟨kk,p,l.length,c,xs⟩)::R) ((n,MF.ol xs l)::Γ1)):WX C s env L R Γ:=by
 rintro a w ⟨G,bs,hA,hI,hΓ⟩;subst hkk;obtain ⟨H,q1,q2,q3,q4⟩:=aek hℓ hΓ;obtain ⟨l1,l2,l3,l4⟩:=adm hnl;rcases (ag1 q3:OwSl H p c l)with ⟨hc,hl⟩|⟨b,o1,T,cur,h',k1,k2,k3,k4,k5,k6,k7,k8⟩
 ·subst hl
  refine k [] (by simp) a w ⟨G,λj=>if j=ρ then 0 else bs j,hA.notH l1 (λi hi=>if_neg hi),?_,?_⟩
  ·exact hI.upd (ρ:=ρ) (b':=0) (r':=⟨GoT.k α,p,0,c,[]⟩) l4 False (λh=>h.elim) (aj5 w _ _) (.inr (.inr hc)) (λj=>acg _ _ _ _) (λl h=>adx l2 h rfl) ⟨by simp,.inl ⟨hc,rfl⟩⟩
  ·exact (q4.mono (agb G H)).new n _ (h:=emp) (Le.refl _) (acv _) (λ_=>ade _) (λ_ _ _ h=>by cases h) (rfl:([]:List Value)=[])
 ·have hlen:=k8.len
  have hbG:G b=some (.cells cur T (0,0)):=q1 b _ k2;have hbw:=hI.le b _ hbG;have hcb:cut G (λx=>if x=b then some (.cells cur T (0,0))else none) b=none:=by unfold cut;simp
  refine k _ hlen a w ⟨cut G (λx=>if x=b then some (.cells cur T (0,0))else none),λj=>if j=ρ then b else bs j,hA.notH l1 (λi hi=>if_neg hi),?_,?_⟩
  ·have hne:∀i,Acts L R i->bs i≠b:=λi hi e=>by
    rcases hi with ⟨x,hx⟩|⟨r,hr,hc⟩
    ·have:=(hI.loc i x hx).2.2;grind
    ·rcases (hI.row i r hr).2 with ⟨h0,_⟩|⟨_,_,_,h3,_⟩
     ·exact hc h0
     ·grind
   have hnL:∀ {i:Nat} {x:Loc},look L i=some x->i≠ρ:=λh=>adx l2 h;have hnR:∀ {i:Nat} {x:Row},look R i=some x->i≠ρ:=λh=>adx l3 h;refine ⟨hI.keep,(agb _ _).trans hI.le,λi l hl=>?_,λi r hr=>?_,λi j hij hi hj=>?_,λi l r hl hr=>?_,λb' hb'=>by simp only [if_neg (Ne.symm l4)];exact hI.pin b' hb',λr hr=>by rw [acg,if_neg l4]at hr;exact hI.nr r hr⟩
   ·obtain ⟨t1,t2,t3⟩:=hI.loc i l hl
    grind [aj7]
   ·rw [acg]at hr
    by_cases he:ρ=i
    ·subst he;rw [if_pos rfl]at hr;simp at hr;subst hr
     simp only [if_true];exact ⟨hlen,.inr ⟨o1,k1,q2 b _ k2,hcb,k5,k6,cur,T,hbw,k7,rfl⟩⟩
    ·rw [if_neg he]at hr
     simp only [if_neg (Ne.symm he)];obtain ⟨t1,t2⟩:=hI.row i r hr;exact ⟨t1,t2.imp id λ⟨o2,u1,u2,u3,u⟩=>⟨o2,u1,u2,aj7 u3,u⟩⟩
   ·have hold:∀i,i≠ρ->Acts L ((ρ,(⟨GoT.k α,p,l.length,c,(cur.toList.drop o1).take (l.length*GoT.k α)⟩:Row))::R) i->Acts L R i:=λi hne h=>h.imp id λ⟨r,hr,hc⟩=>by grind [acg]
    by_cases e1:i=ρ<;>by_cases e2:j=ρ
    ·omega
    ·grind
    ·grind
    ·simp only [if_neg e1,if_neg e2];exact hI.inj i j hij (hold i e1 hi) (hold j e2 hj)
   ·rw [acg]at hr
    split at hr
    ·grind
    ·exact hI.dis i l r hl hr
  ·have hle:Le (cut G H) (cut G (λx=>if x=b then some (.cells cur T (0,0))else none)):=ael (agb _ _) (λx=>by
    by_cases hx:x=b
    ·subst hx;left;unfold cut;rw [k2]
    ·right;simp [hx])
   exact q4.new n (MF.ol _ l) (h:=h') hle (ael (k3.trans q1) (λx=>by
    by_cases hx:x=b
    ·grind
    ·right;simp [hx])) (λ_=>((ahg G H).symm).mono k3 (Le.refl _)) (λ_ x o hx=>q2 x o (k3 x o hx)) k8
namespace B
theorem nt (h:(!b)=true):b=false:=by simpa using h
theorem nf (h:(!b)=false):b=true:=by simpa using h
theorem dt [Decidable p](h:decide p=true):p:=of_decide_eq_true h
theorem df [Decidable p](h:decide p=false):¬p:=of_decide_eq_false h
theorem et {α:Type}[BEq α][LawfulBEq α]{a b:α}(h:(a==b)=true):a=b:=eq_of_beq h
theorem ef {α:Type}[BEq α][LawfulBEq α]{a b:α}(h:(a==b)=false):¬a=b:=ne_of_beq_false h
theorem nt' {α:Type}[BEq α][LawfulBEq α]{a b:α}(h:(a !=b)=true):¬a=b:=by simpa using h
theorem nf' {α:Type}[BEq α][LawfulBEq α]{a b:α}(h:(a !=b)=false):a=b:=by simpa using h
end B
theorem ah8 {α:Type}[GoT α](G:GH)(p:Option Addr)(c:Nat):RdSl G p c ([]:List α):=⟨by simp,by simp,[],λj u h=>by simp at h,rfl⟩
theorem at9 {α:Type}[GoT α](G:GH)(p:Option Addr):OwSl G p 0 ([]:List α):= .inl ⟨rfl,rfl⟩
end Go.Stp
namespace Go.Stp
open GoT (X k ok sh fa oa)
variable {P : Program} {T e kk by_ n len d i off : Nat} {z cs vs xs : List Value} {env : Env} {bs : Nat → Nat} {a : Act} {parts : Array (Nat × Operand)} {C : Cx} {w : World} {G h : GH} {L : Locs} {R : Rows} {ops : Array Oper} {o : Oper} {r : List Oper} {s : List It} {Γ : Facts} {x y : Operand} {row : Row} {ti : TI} {ad : Addr}
def zrep:Nat->List Value->List Value
 |0,_=>[]
 |n+1,z=>zrep n z++z
theorem amb (z:List Value):∀n,(zrep n z).length=n*z.length
 |0=>by simp [zrep]
 |n+1=>by simp only [zrep,List.length_append,amb z n,Nat.add_mul];omega
theorem agu (z:Array Value)(hz:0<z.size):∀n,((Array.range (n*z.size)).map (λi=>z[i%z.size]!)).toList=zrep n z.toList
 |0=>by simp [zrep]
 |n+1=>by
  have ih:=agu z hz n;simp only [Array.toList_map,Array.toList_range]at ih ⊢;rw [Nat.add_mul,Nat.one_mul,List.range_add,List.map_append,ih,zrep];congr 1;rw [List.map_map];apply List.ext_getElem?;intro j
  by_cases hj:j<z.size
  ·simp [hj,Nat.mod_eq_of_lt hj]
  ·grind
def elO (tt:TT)(T:Nat):Option (Nat×Nat×Nat×List Value):=
 match look tt T with
 |some ti=>(match ti.desc with
  | .slice e=>(match look tt e with
   |some ⟨dE,sE,bE,zE⟩=>(match sE with
    |0=>none
    |n+1=>(match ai5 ⟨dE,n+1,bE,zE⟩ zE with
     |some z=>(match Nat.beq z.length (n+1)with
      |true=>some (e,n+1,bE,z)
      |false=>none)
     |none=>none))
   |none=>none)
  |_=>none)
 |none=>none
theorem aiw {tt:TT}(ht:ad6 P tt)(h:elO tt T=some (e,kk,by_,z)):
  P.underlying T=some (.slice e)/\∃i v te,look tt e=some te/\te.size=kk/\P.info? e=some i/\i.zero=some v/\i.size=kk/\i.bytes=by_/\v.cells.toList=z/\z.length=kk/\0<kk:=by
 unfold elO at h
 split at h
 ·rename_i ti hT
  split at h
  ·rename_i e' hd
   split at h
   ·rename_i dE sE bE zE hE
    split at h
    ·cases h
    ·rename_i n
     split at h
     ·rename_i z' hz
      split at h
      ·rename_i hb
       simp only [Option.some.injEq,Prod.mk.injEq]at h;obtain ⟨rfl,rfl,rfl,rfl⟩:=h;obtain ⟨hu,_⟩:=ht.get hT;obtain ⟨_,i,hi,h0,hs,hby⟩:=ht.get hE;exact ⟨by rw [hu,hd],i,zE,_,hE,rfl,hi,h0,hs,hby,afu hz,Nat.eq_of_beq_eq_true hb,by omega⟩
      ·cases h
     ·cases h
   ·cases h
  ·cases h
 ·cases h
def anr:Nat->List Value->Option (List Value)
 |0,_=>some []
 |n+1,z=>(match anr n z with|some q=>catO q z|none=>none)
where
 catO : List Value → List Value → Option (List Value)
  | [], b => some b
  | x :: a, b => (match catO a b with | some q => some (x :: q) | none => none)
theorem aqu:∀ {a b q:List Value},anr.catO a b=some q->q=a++b
 |[],b,q,h=>by simp [anr.catO]at h;exact h.symm
 |x::a,b,q,h=>by
  simp only [anr.catO]at h
  split at h
  ·rename_i q' hq;simp at h;rw [<-h,aqu hq];rfl
  ·cases h
theorem amc:∀ {n:Nat}{z q:List Value},anr n z=some q->q=zrep n z
 |0,z,q,h=>by simp [anr]at h;subst h;rfl
 |n+1,z,q,h=>by
  simp only [anr]at h
  split at h
  ·rename_i q' hq;rw [aqu h,amc hq];rfl
  ·cases h
def bldO (tt:TT)(env:Env)(T len:Nat)(parts:List (Nat×Operand)):Option (Nat×List Value):=
 match elO tt T with
 |some (e,kk,_,z)=>(match Nat.ble (len*kk) 16777216 with
  |true=>(match anr len z with
   |some q=>(match amj tt env (λi=>some (i*kk,e)) q parts with
    |some cs=>some (kk,cs)
    |none=>none)
   |none=>none)
  |false=>none)
 |none=>none
theorem anb {tt:TT}{env:Env}{place:Nat->Option (Nat×Nat)}:∀ {parts:List (Nat×Operand)} {cs r:List Value},amj tt env place cs parts=some r->r.length=cs.length
 |[],cs,r,h=>by grind [amj]
 |(i,x)::rest,cs,r,h=>by
  simp only [amj]at h
  (repeat' split at h)<;>first|cases h|(rename_i hsp;have:=anb h;rw [this];exact (agk _ _ _ _ hsp).1)
theorem av3 {tt:TT}(ht:ad6 P tt)(hA:At n env bs a)(h:bldO tt env T len parts.toList=some (kk,cs))(w:World):
  ∃e,(Instr.buildSlice T len (parts.map λx=>(x.1,a.eval x.2))).run P w= .ok (.slice (some ⟨w.heap.size,0,none⟩) len len) (w.alloc (.cells cs.toArray e))/\cs.length=len*kk/\0<kk:=by
 unfold bldO at h
 split at h
 ·rename_i e kk' by_ z hel
  split at h
  ·rename_i hle
   split at h
   ·rename_i q hq
    split at h
    ·rename_i cs' hcs
     simp only [Option.some.injEq,Prod.mk.injEq]at h;obtain ⟨rfl,rfl⟩:=h;obtain ⟨hu,i,v,te,hE,hte,hi,h0,hs,_,hv,hzl,hpos⟩:=aiw ht hel;have hq':=amc hq;have hle':len*kk'<=16777216:=Nat.le_of_ble_eq_true hle
     have hfill:=ah5 ht hA (place:=λi=>some (i*kk',e)) (place':=λi=>some (i*kk',kk')) (λj off T' ti' h1 h2=>by
      simp only [Option.some.injEq,Prod.mk.injEq]at h1;obtain ⟨rfl,rfl⟩:=h1;rw [hE]at h2;simp at h2;subst h2;rw [hte]) _ _ _ hcs
     have hlen:cs'.length=len*kk':=by grind [anb,amb]
     refine ⟨e,?_,hlen,hpos⟩;have hvs:v.cells.size=kk':=by grind
     have hz:(if len*i.size=0 then #[]else v.cells)=(if len*kk'=0 then #[]else v.cells):=by rw [hs]
     by_cases hl0:len=0
     ·subst hl0
      have:q=[]:=by rw [hq'];rfl
      subst this;have hf':Instr.fill (λi=>some (i*kk',kk')) #[] (List.map (λx=>(x.1,a.eval x.2)) parts.toList)=some cs'.toArray:=hfill;simp [Instr.buildSlice,run_underlying hu,sizeOf,typeInfo,hi,newRow,hs,Array.range_zero',hf']
     ·have hne:¬(len*kk'=0):=by grind [Nat.mul_eq_zero.1]
      have hr:=agu v.cells (by omega) len;rw [hvs,hv,<-hq']at hr;have hq2:(Array.range (len*kk')).map (λi=>v.cells[i%v.cells.size]!)=q.toArray:=Array.ext' (by grind);have hsm:¬(16777216<len*kk'):=by omega
      have hf':Instr.fill (λi=>some (i*kk',kk')) ((Array.range (len*kk')).map (λi=>v.cells[i%v.cells.size]!)) (List.map (λx=>(x.1,a.eval x.2)) parts.toList)=some cs'.toArray:=by grind
      simp only [Instr.buildSlice,Sem.run_bind,run_underlying hu,Result.andThen_ok,aej hi,hs,newRow];simp [hsm,hne,zeroValue,typeInfo,hi,h0,hf']
    ·cases h
   ·cases h
  ·cases h
 ·cases h
theorem HInv.newRow (hA:At C.fn.ntmps env bs a)(hI:HInv C w G bs L R)(hd:d<C.fn.ntmps)(hcs:cs.length=n*kk)(hn:n<=maxLen)(hnl:afn d env L R=false):
  ∃bs',At C.fn.ntmps ((d,.v (.slice (some ⟨w.heap.size,0,none⟩) n n))::env) bs' (a.put (some d) (.slice (some ⟨w.heap.size,0,none⟩) n n))/\
   HInv C (w.alloc (.cells cs.toArray e)) G bs' L ((d,⟨kk,some ⟨w.heap.size,0,none⟩,n,n,cs⟩)::R):=by
 refine ⟨λj=>if j=d then w.heap.size else bs j,?_,?_⟩
 ·exact (hA.notH (d:=d) (adm hnl).1 (λi hi=>if_neg hi)).put hd (.v _)
 ·refine hI.upd (ρ:=d) (adm hnl).2.2.2 False (λh=>h.elim) (apt w _ _ _) (.inr (.inl (Nat.le_refl _))) (λj=>acg _ _ _ _) (λl h=>adx (adm hnl).2.1 h rfl) ⟨hcs,.inr ⟨0,rfl,.inl hI.keep.size,hI.le.new,Nat.le_refl _,hn,cs.toArray,e,heap_alloc_new w _,by grind⟩⟩
theorem WX.bld (ht:ad6 C.P C.tt)
  (hg:gd ops env o=some true) (hd:o.dst=some d) (hlt:Nat.blt d C.fn.ntmps=true) (ho:o.op= .buildSlice T len parts) (hb:bldO C.tt env T len parts.toList=some (kk,cs)) (hlen:Nat.ble len 16777216=true) (hnl:afn d env L R=false)
  (k:∀p,WX C (.ops ops r::s) ((d,.v (.slice p len len))::env) L ((d,⟨kk,p,len,len,cs⟩)::R) Γ):WX C (.ops ops (o::r)::s) env L R Γ:=by
 rintro a w ⟨G,bs,hA,hI,hΓ⟩;show wpList C.P ops (cont C s) (o::r) a w;unfold wpList;rw [if_pos (ad2 hA hg)];refine .inl ?_;unfold Oper.wp;obtain ⟨e,hrun,hcs,_⟩:=av3 ht hA hb w
 have hexec:(execOp a.eval o).run C.P w= .ok (.value (.slice (some ⟨w.heap.size,0,none⟩) len len)) (w.alloc (.cells cs.toArray e)):=by
  unfold execOp
  simp_all
 rw [hexec];simp only [Oper.upon,hd];obtain ⟨bs',hA',hI'⟩:=hI.newRow hA (d:=d) (by simpa [Nat.blt_eq]using hlt) (e:=e) hcs (by have:=Nat.le_of_ble_eq_true hlen;simp only [maxLen];omega) hnl;exact k _ _ _ ⟨G,bs',hA',hI',hΓ⟩
theorem WX.mkS {q:Int}(m:Nat)(ht:ad6 C.P C.tt)
  (hg:gd ops env o=some true) (hd:o.dst=some d) (hlt:Nat.blt d C.fn.ntmps=true) (ho:o.op= .makeSlice T x x) (hx:ev env x=some (.v (.int .i64 q))) (hq:q=(m:Int)) (hel:elO C.tt T=some (e,kk,by_,z)) (hroom:m*by_<=281474976710656) (hmax:m<=140737488355328) (hnl:afn d env L R=false)
  (k:∀p,WX C (.ops ops r::s) ((d,.v (.slice p m m))::env) L ((d,⟨kk,p,m,m,zrep m z⟩)::R) Γ):WX C (.ops ops (o::r)::s) env L R Γ:=by
 subst hq;rintro a w ⟨G,bs,hA,hI,hΓ⟩;show wpList C.P ops (cont C s) (o::r) a w;unfold wpList;rw [if_pos (ad2 hA hg)];refine .inl ?_;unfold Oper.wp;obtain ⟨hu,i,v,te,hE,hte,hi,h0,hs,hby,hv,hzl,hpos⟩:=aiw ht hel;have hvs:v.cells.size=kk:=by grind
 have hr:=agu v.cells (by omega) m;rw [hvs,hv]at hr;have hbig:(i.bytes:Int)*(m:Int)<=281474976710656:=by grind
 have hrun:(Instr.makeSlice T (.int .i64 m) (.int .i64 m)).run C.P w= .ok (.slice (some ⟨w.heap.size,0,none⟩) m m) (w.alloc (.cells (zrep m z).toArray e)):=by
  have hr2:=run_make (P:=C.P) w T e i v hu hi h0 .i64 .i64 m m (by omega) (Int.le_refl _) hbig (by omega);rw [hr2];have:madeCells v.cells (m*i.size)=(zrep m z).toArray:=Array.ext' (by rw [hs];simpa [madeCells,hvs]using hr);simp [this]
 have hexec:(execOp a.eval o).run C.P w= .ok (.value (.slice (some ⟨w.heap.size,0,none⟩) m m)) (w.alloc (.cells (zrep m z).toArray e)):=by
  unfold execOp;simp only [ho,ac5 hA hx,aif,Sem.run_bind,hrun,Result.andThen_ok,Sem.run_pure]
 rw [hexec];simp only [Oper.upon,hd];obtain ⟨bs',hA',hI'⟩:=hI.newRow hA (d:=d) (by simpa [Nat.blt_eq]using hlt) (e:=e) (cs:=zrep m z) (kk:=kk) (n:=m) (by grind) (by simp only [maxLen];omega) hnl;exact k _ _ _ ⟨G,bs',hA',hI',hΓ⟩
theorem agm.some {M:Nat->Prop}{b:Nat}{r:Row}(h:agm M w G b r)(hn:0<r.n):∃o1,r.p=Option.some ⟨b,o1,none⟩/\r.c≠0/\∃cur T,w.heap[b]? =Option.some (.cells cur T (0,0))/\o1+r.c*r.k<=cur.size/\(cur.toList.drop o1).take (r.n*r.k)=r.xs/\r.n<=r.c:=by
 rcases h.2 with ⟨_,h0⟩|⟨o1,h1,_,_,h4,_,cur,T,h6,h7,h8⟩
 ·omega
 ·exact ⟨o1,h1,by omega,cur,T,h6,h7,h8,h4⟩
theorem WX.idxR {m:Int}(ρ i:Nat)(ht:ad6 C.P C.tt)
  (hg:gd ops env o=some true) (hd:o.dst=some d) (hlt:Nat.blt d C.fn.ntmps=true) (ho:o.op= .indexAddr T x y)
  (hx:ev env x=some (.v (.slice row.p row.n row.c))) (hy:ev env y=some (.v (.int .i64 m))) (hk:ahc C.tt T=some kk) (hρ:look R ρ=some row) (hm:m=(i:Int)) (hi:i<row.n)
  (k:∀ad,row.p=some ad->WX C (.ops ops r::s) ((d,.e (some ad) i kk 0)::env) L R Γ):WX C (.ops ops (o::r)::s) env L R Γ:=by
 rintro a w ⟨G,bs,hA,hI,hΓ⟩;obtain ⟨o1,hp,_⟩:=(hI.row ρ row hρ).some (by omega);rw [hp]at hx;have hl:=aja (L:=L) (R:=R) (G:=G) ht ho hx hy hk hm hi;show wpList C.P ops (cont C s) (o::r) a w;unfold wpList;rw [if_pos (ad2 hA hg)];refine .inl ?_;unfold Oper.wp;rw [hl a w G bs (Le.refl _) hA hI];simp only [Oper.upon,hd];exact k _ hp _ _ ⟨G,bs,hA.put (by grind [Nat.blt_eq]) _,hI,hΓ⟩
theorem akn {α:Type}(l vs:List α)(o1 o n:Nat)(h:o+vs.length<=n)(hn:o1+n<=l.length):((l.take (o1+o)++vs++l.drop (o1+o+vs.length)).drop o1).take n=((l.drop o1).take n).take o++vs++((l.drop o1).take n).drop (o+vs.length):=by
 have h0:(l.take (o1+o)++vs++l.drop (o1+o+vs.length)).drop o1=(l.drop o1).take o++vs++(l.drop o1).drop (o+vs.length):=by grind [List.append_assoc,List.drop_take,List.drop_drop]
 rw [h0];have h1:((l.drop o1).take o++vs).length=o+vs.length:=by simp;omega
 rw [List.take_append,h1,List.take_of_length_le (by omega),List.take_take,Nat.min_eq_left (by omega),List.drop_take]
theorem WX.stR {R':Rows}{sv:SV}{v:Value}(ρ:Nat)(ht:ad6 C.P C.tt)
  (hg:gd ops env o=some true) (hd:o.dst=none) (ho:o.op= .store T x y)
  (hx:ev env x=some (.e (some ad) i kk off)) (hy:ev env y=some sv) (hv:valO sv=some v) (hT:look C.tt T=some ti) (hvs:ai5 ti v=some vs) (hlen:Nat.beq vs.length ti.size=true) (hone:oneB vs=true)
  (hρ:look R ρ=some row) (hp:row.p=some ad) (hk:row.k=kk) (hi:i<row.n) (hfit:Nat.ble (off+vs.length) kk=true) (hfree:af6 ρ env=true)
  (hR:ah4 R ρ ⟨row.k,row.p,row.n,row.c,row.xs.take (i*kk+off)++vs++row.xs.drop (i*kk+off+vs.length)⟩=some R')
  (k:WX C (.ops ops r::s) env L R' Γ):WX C (.ops ops (o::r)::s) env L R Γ:=by
 rintro a w ⟨G,bs,hA,hI,hΓ⟩;have hrow:=hI.row ρ row hρ;obtain ⟨o1,hp',hc0,cur,T',hh,hcs,htk,hnc⟩:=hrow.some (by omega);rw [hp]at hp';simp at hp';subst hp';subst hk;have hfit':=Nat.le_of_ble_eq_true hfit
 have hb:i*row.k+off+vs.length<=row.n*row.k:=by
  have:(i+1)*row.k<=row.n*row.k:=Nat.mul_le_mul_right _ (by omega)
  grind
 have hnk:o1+row.n*row.k<=cur.size:=by have:row.n*row.k<=row.c*row.k:=Nat.mul_le_mul_right _ hnc;omega
 obtain ⟨_,inf,hinf,_,hs,_⟩:=ht.get hT;have hcells:v.cells.toList=vs:=afu hvs;have hsz:v.cells.size=inf.size:=by grind [Nat.eq_of_beq_eq_true]
 have hst:=run_storeCells_at C.P (bs ρ) (o1+(i*row.k+off)) T' vs 0 cur w hh (by simp;omega) (ais hone);simp only [Nat.add_zero]at hst
 have haddr:conc bs (.e (some ⟨bs ρ,o1,none⟩) i row.k off)= .pointer (some ⟨bs ρ,o1+(i*row.k+off),none⟩):=by
  simp only [conc,Addr.add_lit,Nat.add_assoc]
 have hexec:(execOp a.eval o).run C.P w= .ok .skip (w.setRow (bs ρ) (cur.toList.take (o1+(i*row.k+off))++vs++cur.toList.drop (o1+(i*row.k+off)+vs.length)).toArray):=by
  unfold execOp;simp [ho,Instr.storeAt,Instr.sureAddr,storeVar,aej hinf,hsz,ac5 hA hx,haddr,ac5 hA hy,ahl hv,hcells,hst]
 show wpList C.P ops (cont C s) (o::r) a w;unfold wpList;rw [if_pos (ad2 hA hg)];refine .inl ?_;unfold Oper.wp;rw [hexec];simp only [Oper.upon,hd,Act.put];rw [ag3 hR]at k;have hLρ:∀l,look L ρ≠some l:=λl hl=>hI.dis ρ l row hl hρ
 obtain ⟨hBb,hGb,hcm⟩:C.M (bs ρ)/\G (bs ρ)=none/\row.c<=maxLen:=by
  rcases hrow.2 with ⟨h0,_⟩|⟨_,_,h1,h2,_,h5,_⟩
  ·grind
  ·grind
 have hlook:∀j,look (setR R ρ ⟨row.k,row.p,row.n,row.c,row.xs.take (i*row.k+off)++vs++row.xs.drop (i*row.k+off+vs.length)⟩) j=if ρ=j then some ⟨row.k,row.p,row.n,row.c,row.xs.take (i*row.k+off)++vs++row.xs.drop (i*row.k+off+vs.length)⟩else look R j:=by grind [ahe]
 have hrow':agm C.M (w.setRow (bs ρ) (cur.toList.take (o1+(i*row.k+off))++vs++cur.toList.drop (o1+(i*row.k+off)+vs.length)).toArray) G (bs ρ) ⟨row.k,row.p,row.n,row.c,row.xs.take (i*row.k+off)++vs++row.xs.drop (i*row.k+off+vs.length)⟩:=by
  refine ⟨?_,.inr ⟨o1,hp,hBb,hGb,hnc,hcm,_,T',setRow_heap w _ cur _ T' _ hh,?_,?_⟩⟩
  ·grind
  ·grind
  ·rw [<-htk]
   exact akn cur.toList vs o1 (i*row.k+off) (row.n*row.k) hb (by grind)
 have honly:Only w (w.setRow (bs ρ) (cur.toList.take (o1+(i*row.k+off))++vs++cur.toList.drop (o1+(i*row.k+off)+vs.length)).toArray) (bs ρ) (row.c≠0):=
  ⟨rfl,rfl,rfl,by simp [World.setRow],λj hj hne=>setRow_other w _ j _ (hne hc0)⟩
 have h999:ρ≠999:=λe=>by subst e;exact hI.nr row hρ
 have hI':=hI.upd (ρ:=ρ) (b':=bs ρ) h999 (row.c≠0) (λ_=>⟨.inr ⟨row,hρ,hc0⟩,hBb,hGb⟩) honly (.inl ⟨rfl,hc0⟩) hlook hLρ hrow';have hbs:(λj=>if j=ρ then bs ρ else bs j)=bs:=by grind
 rw [hbs]at hI';exact k _ _ ⟨G,bs,hA,hI',hΓ⟩
theorem WX.ldR {α:Type}[GoT α]{l:List α}(ρ n:Nat)(a:α){val:X α->Value}{Γ':X α->Facts}(ht:ad6 C.P C.tt)
  (hg:gd ops env o=some true) (hd:o.dst=some d) (hlt:Nat.blt d C.fn.ntmps=true) (ho:o.op= .load T x)
  (hx:ev env x=some (.e (some ad) i (k α) off)) (hT:look C.tt T=some ti) (hρ:look R ρ=some row) (hp:row.p=some ad) (hk:row.k=k α) (hn:i<row.n) (hrd:∀G,AllK C.M G Γ->RdL G row.xs l) (ha:l[i]? =some a)
  (hv:∀x,asm ti (sh a x) off=some (val x)) (hf:∀x,addF n (fa .der a x) Γ=some (Γ' x))
  (k:∀x,(∀j u,(sh a x)[j]? =some u->row.xs[i*k α+j]? =some u)->WX C (.ops ops r::s) ((d,.v (val x))::env) L R (Γ' x)):WX C (.ops ops (o::r)::s) env L R Γ:=by
 rintro a' w ⟨G,bs,hA,hI,hΓ⟩;obtain ⟨x',h6,h7⟩:=(hrd G hΓ).get ha;have hrow:=hI.row ρ row hρ;obtain ⟨o1,hp',hc0,cur,T',hh,hcs,htk,hnc⟩:=hrow.some (by omega);rw [hp]at hp';simp at hp';subst hp'
 have hc:∀j u,(sh a x')[j]? =some u->w.cell? (((⟨bs ρ,o1,none⟩:Addr).add (i*GoT.k α)).add j)=some u:=λj u hj=>by
  have h8:=h7 j u hj;rw [<-htk,List.getElem?_take,List.getElem?_drop]at h8;rw [aed,Addr.add_lit,cell_of_row w _ _ cur T' _ hh]
  grind
 have hl:(execOp a'.eval o).run C.P w= .ok (.value (val x')) w:=by
  unfold execOp;have hrun:=afw (P:=C.P) ht hT (w:=w) (a:=(⟨bs ρ,o1,none⟩:Addr).add (i*GoT.k α)) (cs:=sh a x') (off:=off) (v:=val x') hc (hv x');simp only [ho,ac5 hA hx,conc,Instr.loadAt,Instr.sureAddr,Sem.run_bind,Sem.run_pure,Result.andThen_ok,hrun]
 show wpList C.P ops (cont C s) (o::r) a' w;unfold wpList;rw [if_pos (ad2 hA hg)];refine .inl ?_;unfold Oper.wp;rw [hl];simp only [Oper.upon,hd];exact k x' h7 _ _ ⟨G,bs,hA.put (by simpa [Nat.blt_eq]using hlt) (.v (val x')),hI,AllK.ders (hf x') (λf hf=>GoT.fak f hf) h6 hΓ⟩
def OwH {α:Type}[GoT α](h:GH)(xs:List Value)(l:List α)(i:Nat):Prop:=
 ∃h1 h2,Le h1 h/\Le h2 h/\Dj h1 h2/\OwL h1 (xs.take (i*GoT.k α)) (l.take i)/\OwL h2 (xs.drop ((i+1)*GoT.k α)) (l.drop (i+1))
def MF.oh {α:Type}[GoT α](xs:List Value)(l:List α)(i:Nat):MF:=⟨.lin,λG=>OwH G xs l i,λh ⟨h1,h2,a,b,c⟩=>⟨h1,h2,a.trans h,b.trans h,c⟩⟩
section
variable {α : Type} [GoT α]
theorem OwL.openE {l:List α}{e:α}(ho:OwL h xs l)(hi:l[i]? =some e):
  ∃x:X α,(xs=xs.take (i*k α)++sh e x++xs.drop ((i+1)*k α)/\(xs.take (i*k α)).length=i*k α)/\Sep h (oa e x++[MF.oh xs l i]):=by
 obtain ⟨hlt,rfl⟩:=List.getElem?_eq_some_iff.1 hi;have hsp:l=l.take i++(l[i]::l.drop (i+1)):=by simp_all
 have hlen:=ho.len;rw [hsp]at ho;obtain ⟨h1,h2,a1,a2,a3,a4,a5⟩:=ho.split;have hti:(l.take i).length=i:=by simp;omega
 rw [hti]at a4 a5;obtain ⟨x,ys,q1,q2,e1,r1,r2,r3,r4,r5⟩:=a5;have hk1:(i+1)*k α<=l.length*k α:=Nat.mul_le_mul_right _ hlt;have hk2:(i+1)*k α=i*k α+k α:=by grind
 have hys:ys=xs.drop ((i+1)*k α):=by
  rw [hk2,<-List.drop_drop,e1,<-GoT.len l[i] x,List.drop_left]
 refine ⟨x,⟨?_,by simp;omega⟩,Sep.both (r1.trans a2) (ae0 a1 (r2.trans a2)) ((afc (a3.mono (Le.refl _) r1) r3.symm).symm) r4 (ae6 ⟨h1,q2,acq _ _,ad3 (a3.mono (Le.refl _) r2),a3.mono (Le.refl _) r2,a4,by grind⟩)⟩
 grind [List.append_assoc,List.take_append_drop]
theorem OwL.closeE {l:List α}{e:α}{x:X α}(hi:i<l.length)(hs:Sep h (oa e x++[MF.oh xs l i])):OwL h (xs.take (i*k α)++sh e x++xs.drop ((i+1)*k α)) (l.set i e):=by
 obtain ⟨h1,h2,a1,a2,a3,a4,a5⟩:=hs.append;obtain ⟨q1,q2,r1,r2,r3,r4,r5⟩:=(ag1 a5:OwH h2 xs l i);have:l.set i e=l.take i++[e]++l.drop (i+1):=by grind [List.set_eq_take_append_cons_drop]
 rw [this];refine OwL.append r5 (h:=join q1 h1) (OwL.snoc a4 r4 (acq _ _) (ad3 ((a3.mono (Le.refl _) r1).symm)) ((a3.mono (Le.refl _) r1).symm)) (ae0 (r1.trans a2) a1) (r2.trans a2) (afc r3 (a3.mono (Le.refl _) r2))
theorem anf {β:Type}(A S B vs:List β)(off:Nat)(h:off+vs.length<=S.length):(A++S++B).take (A.length+off)++vs++(A++S++B).drop (A.length+off+vs.length)=A++(S.take off++vs++S.drop (off+vs.length))++B:=by
 have h1:(A++S++B).take (A.length+off)=A++S.take off:=by grind [List.append_assoc,List.take_length_add_append]
 have h2:(A++S++B).drop (A.length+off+vs.length)=S.drop (off+vs.length)++B:=by
  rw [List.append_assoc,Nat.add_assoc,List.drop_length_add_append,List.drop_append_of_le_length (by omega)]
 grind
theorem OwL.set {l:List α}{e e':α}(ho:OwL h xs l)(hi:l[i]? =some e)(hs:∀x:X α,(sh e x).take off++vs++(sh e x).drop (off+vs.length)=sh e' x)(hf:off+vs.length<=k α)(hoa:∀x:X α,oa e' x=oa e x):
  OwL h (xs.take (i*k α+off)++vs++xs.drop (i*k α+off+vs.length)) (l.set i e'):=by
 obtain ⟨x,⟨hx,hl⟩,hsep⟩:=ho.openE hi;have:=OwL.closeE (e:=e') (x:=x) (List.getElem?_eq_some_iff.1 hi).1 (by rw [hoa];exact hsep);rw [<-hs]at this;have h2:=anf (xs.take (i*k α)) (sh e x) (xs.drop ((i+1)*k α)) vs off (by rw [GoT.len];exact hf);rw [<-hx,hl]at h2;rw [h2];exact this
end
end Go.Stp
namespace Go.Stp
open GoT (X k ok sh fa oa)
variable {j i fuel d c T : Nat} {listed : Array Bool} {C : Cx} {bs : Nat → Nat} {L : Locs} {R : Rows} {s st : List It} {env : Env} {Γ Γ0 : Facts} {o : Oper} {G0 : GH} {f x : Operand} {args : List Operand} {ats : Array TypeId} {g : FuncId} {sf : SV} {svs : List SV} {caps : (Nat → Nat) → List Value} {α : Type} {kd : Kd}
section
variable {P : Program} {ops : Array Oper} {Q : Exit → Act → World → Prop} {S : World → Prop} {tl : List Nat}
def aur (ops:Array Oper)(j k:Nat):Bool:=
 match ops[j]? with
 |some oj=>oj.after.any λe=>Region.binds .any e&&e.on==k
 |none=>false
def ancL (ops:Array Oper):Nat->List Nat->List Nat
 |0,acc=>acc
 |k+1,acc=>(match acc.any (λm=>aur ops m k)with|true=>ancL ops k (k::acc)|false=>ancL ops k acc)
def waits (ops:Array Oper)(j i:Nat):Bool:=(ancL ops j [j]).contains i
def Closed (ops:Array Oper)(listed:Array Bool):Prop:=∀j o,ops[j]? =some o->listed.getD j false=true->∀e∈o.after,Region.binds .any e=true->listed.getD e.on false=true
theorem aq2 {k:Nat}(h:aur ops j k=true):∃o,ops[j]? =some o/\∃e∈o.after,Region.binds .any e=true/\e.on=k:=by
 unfold aur at h
 grind
theorem akg {listed:Array Bool}{j:Nat}(hc:Closed ops listed)(hr:j∈Region.ready .any ops listed):∀(k:Nat) (acc:List Nat),(∀m∈acc,m=j\/listed.getD m false=true)->∀m∈ancL ops k acc,m=j\/listed.getD m false=true
 |0,acc,h=>h
 |k+1,acc,h=>by
  unfold ancL
  split
  ·rename_i ha
   obtain ⟨m,hm,he⟩:=List.any_eq_true.1 ha;obtain ⟨o,ho,e,hE,hb,hk⟩:=aq2 he;refine akg hc hr k (k::acc) λx hx=>?_;rcases List.mem_cons.1 hx with rfl|hx
   ·right
    rcases h m hm with rfl|hl
    ·obtain ⟨_,o',ho',hall⟩:=mem_ready.1 hr
     grind
    ·rw [<-hk];exact hc m o ho hl e hE hb
   ·exact h x hx
  ·exact akg hc hr k acc h
theorem aq8 (hc:Closed ops listed)(hw:waits ops j i=true)(hij:j≠i)(hi:listed.getD i true=false)(hr:j∈Region.ready .any ops listed):False:=by grind [ancL,waits,akg,Nat.lt_or_ge,Array.getElem?_eq_none]
theorem Closed.set (hc:Closed ops listed)(hr:i∈Region.ready .any ops listed):Closed ops (listed.setIfInBounds i true):=by
 intro j o ho hl e he hb
 by_cases hji:j=i
 ·subst hji
  obtain ⟨_,o',ho',hall⟩:=mem_ready.1 hr;rw [ho]at ho';cases ho';exact getD_set_true (hall e he hb)
 ·rw [getD_set_ne false (Ne.symm hji)]at hl
  exact getD_set_true (hc j o ho hl e he hb)
theorem ajp (ops:Array Oper):Closed ops (Array.replicate ops.size false):=by intro j o ho hl;have:j<ops.size:=(Array.getElem?_eq_some_iff.1 ho).1;simp [this]at hl
def aee (P:Program)(ops:Array Oper)(Q:Exit->Act->World->Prop)(S:World->Prop)(tl:List Nat):Nat->Array Bool->Act->World->Prop
 |0,listed,a,w=>Region.ready .any ops listed=[]/\Q .normal a w
 |fuel+1,listed,a,w=>
  (Region.ready .any ops listed=[]->Q .normal a w)/\
  ∀i∈Region.ready .any ops listed,wpOp P ops Q i (λa' w'=>(tl.contains i=false->S w->S w')/\aee P ops Q S tl fuel (listed.setIfInBounds i true) a' w') a w
theorem ajb:∀(fuel:Nat) (listed:Array Bool)(a:Act)(w:World),aee P ops Q S tl fuel listed a w->wpAny P .any ops Q fuel listed a w
 |0,_,_,_,h=>h
 |fuel+1,_,_,_,h=>⟨h.1,λi hi=>wpOp_mono (λa' w' h'=>ajb fuel _ a' w' h'.2) (h.2 i hi)⟩
theorem aui {oj:Oper}(hiun:listed.getD i true=false)(hall:∀e∈oj.after,Region.binds .any e=true->listed.getD e.on false=true):∀e∈oj.after,Region.binds .any e=true->e.on≠i:=λe he hb heq=>by grind
theorem ajs {i:Nat}{oi:Oper}{v:Value}(hi:ops[i]? =some oi)(hit:tl.contains i=false)(hsel:∀(j:Nat) (o:Oper) cs b,ops[j]? =some o->o.op≠ .select cs b)
  (hQ:∀c a w,Q (.panic c) (a.put oi.dst v) w->Q (.panic c) a w):
  ∀(fuel:Nat) (listed:Array Bool) (a:Act) (w:World),Closed ops listed->(∀j∈tl,listed.getD j true=false->waits ops j i=true)->
   (∀j oj,ops[j]? =some oj->j≠i->listed.getD j true=false->(∀e∈oj.after,Region.binds .any e=true->e.on≠i)->oi.apart ops oj=true)->
   i∈Region.ready .any ops listed->YieldsIf P ops S oi v a->S w->
   aee P ops Q S tl fuel (listed.setIfInBounds i true) (a.put oi.dst v) w->aee P ops Q S tl (fuel+1) listed a w:=by
 intro fuel
 induction fuel with
 |zero=>
  intro listed a w _ _ _ hr hy hS H;refine ⟨λh=>(by grind),λj hj=>?_⟩
  by_cases hji:j=i
  ·subst hji;exact hy.wpOp hi hS ⟨λ_ h=>h,H⟩
  ·have:=ready_mono hj hji
   rw [H.1]at this;cases this
 |succ fuel ih=>
  intro listed a w hc hw hfree hr hy hS H;refine ⟨λh=>(by grind),λj hj=>?_⟩
  by_cases hji:j=i
  ·subst hji;exact hy.wpOp hi hS ⟨λ_ h=>h,H⟩
  ·have h1:=H.2 j (ready_mono hj hji)
   obtain ⟨hjun,oj,hoj,hall⟩:=mem_ready.1 hj;have hiun:=(mem_ready.1 hr).1;have hnot:=aui (i:=i) hiun hall;have hjt:tl.contains j=false:=by grind [aq8]
   have h2:=wpOp_putIf hoj (hfree j oj hoj hji hjun hnot) (λcs b=>hsel i oi cs b hi) (λcs b=>hsel j oj cs b hoj) hQ hy
    (K:=λa' w'=>S w'/\aee P ops Q S tl fuel ((listed.setIfInBounds j true).setIfInBounds i true) a' w') (by
     refine wpOp_mono (λa' w' h3=>?_) h1;rw [Array.setIfInBounds_comm _ _ hji];exact ⟨h3.1 hjt hS,h3.2⟩)
   have hun:∀k,(listed.setIfInBounds j true).getD k true=false->listed.getD k true=false:=λk hk=>by
    by_cases hjk:j=k
    ·grind
    ·rw [getD_set_ne true hjk]at hk;exact hk
   exact wpOp_mono (λa' w' h3=>⟨λ_ _=>h3.2.1,ih (listed.setIfInBounds j true) a' w' (hc.set hj) (λk hk hkn=>hw k hk (hun k hkn)) (λk ok hk hki hkn hno=>hfree k ok hk hki (hun k hkn) hno) (ready_mono hr (Ne.symm hji)) h3.1 h3.2.1 h3.2.2⟩) h2
theorem afs {i:Nat}{oi:Oper}{v:Value}(hi:ops[i]? =some oi)(hsel:∀(j:Nat) (o:Oper) cs b,ops[j]? =some o->o.op≠ .select cs b)
  (hQ:∀c a w,Q (.panic c) (a.put oi.dst v) w->Q (.panic c) a w):
  ∀(fuel:Nat) (listed:Array Bool) (a:Act) (w:World),
   (∀j oj,ops[j]? =some oj->j≠i->listed.getD j true=false->(∀e∈oj.after,Region.binds .any e=true->e.on≠i)->oi.apart ops oj=true)->
   i∈Region.ready .any ops listed->YieldsIf P ops (λ_=>True) oi v a->
   aee P ops Q S tl fuel (listed.setIfInBounds i true) (a.put oi.dst v) w->aee P ops Q S tl (fuel+1) listed a w:=by
 intro fuel
 induction fuel with
 |zero=>
  intro listed a w _ hr hy H;refine ⟨λh=>(by grind),λj hj=>?_⟩
  by_cases hji:j=i
  ·subst hji;exact hy.wpOp hi trivial ⟨λ_ h=>h,H⟩
  ·have:=ready_mono hj hji
   rw [H.1]at this;cases this
 |succ fuel ih=>
  intro listed a w hfree hr hy H;refine ⟨λh=>(by grind),λj hj=>?_⟩
  by_cases hji:j=i
  ·subst hji;exact hy.wpOp hi trivial ⟨λ_ h=>h,H⟩
  ·have h1:=H.2 j (ready_mono hj hji)
   obtain ⟨hjun,oj,hoj,hall⟩:=mem_ready.1 hj;have hiun:=(mem_ready.1 hr).1;have hnot:=aui (i:=i) hiun hall
   have h2:=wpOp_putIf hoj (hfree j oj hoj hji hjun hnot) (λcs b=>hsel i oi cs b hi) (λcs b=>hsel j oj cs b hoj) hQ hy
    (K:=λa' w'=>(tl.contains j=false->S w->S w')/\aee P ops Q S tl fuel ((listed.setIfInBounds j true).setIfInBounds i true) a' w') (by
     refine wpOp_mono (λa' w' h3=>?_) h1;rw [Array.setIfInBounds_comm _ _ hji];exact h3)
   have hun:∀k,(listed.setIfInBounds j true).getD k true=false->listed.getD k true=false:=λk hk=>by
    by_cases hjk:j=k
    ·grind
    ·rw [getD_set_ne true hjk]at hk;exact hk
   exact wpOp_mono (λa' w' h3=>⟨h3.2.1,ih (listed.setIfInBounds j true) a' w' (λk ok hk hki hkn hno=>hfree k ok hk hki (hun k hkn) hno) (ready_mono hr (Ne.symm hji)) h3.1 h3.2.2⟩) h2
def ake (ops:List Oper):List Nat->Option (List Oper)
 |[]=>some []
 |i::r=>(match getO ops i with
  |some o=>(match ake ops r with|some q=>some (o::q)|none=>none)
  |none=>none)
def seqL (ops:Array Oper)(tl:List Nat):List Nat->Array Bool->Bool
 |[],listed=>(Region.ready .any ops listed).isEmpty
 |k::r,listed=>decide (Region.ready .any ops listed=[k])&&tl.contains k&&seqL ops tl r (listed.setIfInBounds k true)
theorem aj1:∀(is:List Nat) (l:List Oper) (listed:Array Bool) (a:Act) (w:World),ake ops.toList is=some l->seqL ops tl is listed=true->wpList P ops Q l a w->aee P ops Q S tl is.length listed a w
 |[],l,_,_,_,hl,hB,h=>by simp [ake]at hl;subst hl;exact ⟨by simpa [seqL]using hB,h⟩
 |k::is,l,listed,a,w,hl,hB,h=>by
  simp only [ake]at hl
  split at hl
  ·rename_i o ho
   split at hl
   ·rename_i q hq
    simp at hl;subst hl;rw [adh]at ho;have h0:ops[k]? =some o:=by simpa using ho
    simp only [seqL,Bool.and_eq_true,decide_eq_true_eq]at hB;refine ⟨λh1=>(by grind),λi hi=>?_⟩;rw [hB.1.1]at hi;have hik:i=k:=by simpa using hi
    subst hik;have hw:wpOp P ops Q i (wpList P ops Q q) a w:=by unfold wpOp;simp only [h0];exact h
    exact wpOp_mono (λa' w' h'=>⟨λh=>(by grind),aj1 is q _ a' w' hq hB.2 h'⟩) hw
   ·cases hl
  ·cases hl
end
def SB (C:Cx)(bs:Nat->Nat)(G0:GH)(L:Locs)(R:Rows):World->Prop:=λw=>∃G,Le G0 G/\HInv C w G bs L R
def DX (C:Cx)(ops:Array Oper)(tl:List Nat)(s:List It)(bs:Nat->Nat)(G0:GH)(fuel:Nat)(listed:Array Bool)(env:Env)(L:Locs)(R:Rows)(Γ:Facts):Prop:=
 Closed ops listed->∀a w G,Le G0 G->SatB C env L R Γ G bs a w->aee C.P ops (cont C s) (SB C bs G0 L R) tl fuel listed a w
theorem afv (C:Cx)(s:List It)(c:List PanicEntry)(a:Act)(w:World):cont C s (.panic c) a w->False:=by
 induction s with
 |nil=>rintro ⟨_,v,h,_⟩;cases h
 |cons x s ih=>cases x<;>exact ih
theorem HInv.drew {w:World}{G:GH}(h:HInv C w G bs L R):HInv C {w with drawn:=w.drawn+1} G bs L R:=
 ⟨⟨h.keep.os,h.keep.tape,h.keep.output,h.keep.size,h.keep.block⟩,h.le,h.loc,h.row,h.inj,h.dis,h.pin,h.nr⟩
theorem WX.draw {id:Nat}{ops:Array Oper}(tl:List Nat)(hm:C.P.follows .mixedOrders=true)
  (k:∀bs G0,AllK C.M G0 Γ->DX C ops tl s bs G0 ops.size (Array.replicate ops.size false) env L R Γ):WX C (.code (.region id ops true)::s) env L R Γ:=by
 rintro a w ⟨G,bs,hA,hI,hΓ⟩;show (Code.region id ops true).wp C.P (cont C s) a w;exact wp_region_any hm (ajb _ _ _ _ (k bs G hΓ (ajp ops) a _ G (Le.refl _) ⟨hA,hI.drew,hΓ⟩))
def mayP (ops:Array Oper)(listed:Array Bool)(i:Nat):Bool:=
 Region.noSelect ops&&Region.free .any ops listed i&& (Region.ready .any ops listed).contains i
def mayB (ops:Array Oper)(tl:List Nat)(listed:Array Bool)(i:Nat):Bool:=
 mayP ops listed i&& !tl.contains i&&tl.all (λj=>listed.getD j true||waits ops j i)
theorem DX.take {C:Cx}{ops:Array Oper}{tl:List Nat}{s:List It}{bs:Nat->Nat}{G0:GH}{fuel:Nat}{listed:Array Bool}{env:Env}{L:Locs}{R:Rows}{Γ:Facts}{i d:Nat}{o:Oper}{sv:SV}{b:Bool}(hb:mayB ops tl listed i=true)(hi:ops[i]? =some o)(hd:o.dst=some d)(hlt:d<C.fn.ntmps)
  (hg:gd ops env o=some b) (hl:b=true->Looks C env L R G0 o sv) (hu:b=false->sv= .v undef)
  (k:DX C ops tl s bs G0 fuel (listed.setIfInBounds i true) ((d,sv)::env) L R Γ):DX C ops tl s bs G0 (fuel+1) listed env L R Γ:=by
 intro hcl a w G hle ⟨hA,hI,hΓ⟩;simp only [mayB,mayP,Bool.and_eq_true,Bool.not_eq_true',List.all_eq_true,Bool.or_eq_true]at hb;obtain ⟨⟨⟨⟨h1,h4⟩,h5⟩,h3⟩,h6⟩:=hb;have hr:i∈Region.ready .any ops listed:=by simpa using h5
 refine ajs hi h3 (Region.noSelect_spec h1) (λc a w h=>(afv C s c _ _ h).elim) fuel listed a w hcl (λj hj hun=>(h6 j hj).resolve_left (by rw [hun];simp)) (Region.free_spec hi h4) hr (v:=conc bs sv) ?_ ⟨G,hle,hI⟩ ?_
 ·cases b with
  |true=>exact .inl ⟨ad2 hA hg,λw' ⟨G',hle',hI'⟩=>hl rfl a w' G' bs hle' hA hI'⟩
  |false=>exact .inr ⟨ad2 hA hg,by rw [hu rfl];rfl⟩
 ·rw [hd]
  exact k (hcl.set hr) _ _ G hle ⟨hA.put hlt sv,hI,hΓ⟩
theorem DX.takeP {C:Cx}{ops:Array Oper}{tl:List Nat}{s:List It}{bs:Nat->Nat}{G0:GH}{fuel:Nat}{listed:Array Bool}{env:Env}{L:Locs}{R:Rows}{Γ:Facts}{i d:Nat}{o:Oper}{sv:SV}{b:Bool}(hb:mayP ops listed i=true)(hi:ops[i]? =some o)(hd:o.dst=some d)(hlt:d<C.fn.ntmps)
  (hg:gd ops env o=some b) (hl:b=true->∀a w bs,At C.fn.ntmps env bs a->(execOp a.eval o).run C.P w= .ok (.value (conc bs sv)) w) (hu:b=false->sv= .v undef)
  (k:DX C ops tl s bs G0 fuel (listed.setIfInBounds i true) ((d,sv)::env) L R Γ):DX C ops tl s bs G0 (fuel+1) listed env L R Γ:=by
 intro hcl a w G hle ⟨hA,hI,hΓ⟩;simp only [mayP,Bool.and_eq_true]at hb;obtain ⟨⟨h1,h4⟩,h5⟩:=hb;have hr:i∈Region.ready .any ops listed:=by simpa using h5
 refine afs hi (Region.noSelect_spec h1) (λc a w h=>(afv C s c _ _ h).elim) fuel listed a w (Region.free_spec hi h4) hr (v:=conc bs sv) ?_ ?_
 ·cases b with
  |true=>exact .inl ⟨ad2 hA hg,λw' _=>hl rfl a w' bs hA⟩
  |false=>exact .inr ⟨ad2 hA hg,by rw [hu rfl];rfl⟩
 ·rw [hd]
  exact k (hcl.set hr) _ _ G hle ⟨hA.put hlt sv,hI,hΓ⟩
theorem aha (ht:ad6 C.P C.tt){a:Act}(w:World)(hA:At C.fn.ntmps env bs a){sv:SV}(h:al8 C.tt env [] o.op=some sv):(execOp a.eval o).run C.P w= .ok (.value (conc bs sv)) w:=
 ag5 (C:=⟨C.P,C.fn,C.tt,w,emp,none,λ_ _=>True⟩) (L:=[]) (R:=[]) (G:=emp) ht hA ⟨Kp.refl _ _,acv _,by simp [look],by simp [look],λi j _ hi=>by rcases hi with ⟨l,h⟩|⟨r,h,_⟩<;>simp [look]at h,by simp [look],(λb h=>by cases h),by simp [look]⟩ h
def ai3 (ops:Array Oper)(tl:List Nat):Array Bool->List (Nat×Bool)->Bool
 |_,[]=>true
 |listed,(i,p)::r=>(match p with|true=>mayP ops listed i|false=>mayB ops tl listed i)&&ai3 ops tl (listed.setIfInBounds i true) r
def aln:Array Bool->List (Nat×Bool)->Array Bool
 |l,[]=>l
 |l,(i,_)::r=>aln (l.setIfInBounds i true) r
def ag8 (tt:TT)(m:Nat)(ops:Array Oper)(L:Locs):Env->List (Nat×Bool)->Option Env
 |env,[]=>some env
 |env,(i,p)::r=>(match getO ops.toList i with
  |some o=>(match o.dst with
   |some d=>(match Nat.blt d m with
    |true=>(match gd ops env o with
     |some true=>(match al8 tt env (match p with|true=>[]|false=>L) o.op with
      |some sv=>ag8 tt m ops L ((d,sv)::env) r
      |none=>none)
     |some false=>ag8 tt m ops L ((d,.v undef)::env) r
     |none=>none)
    |false=>none)
   |none=>none)
  |none=>none)
theorem DX.takes {C:Cx}{ops:Array Oper}{tl:List Nat}{s:List It}{bs:Nat->Nat}{G0:GH}{L:Locs}{R:Rows}{Γ:Facts}(ht:ad6 C.P C.tt):∀(is:List (Nat×Bool)) {fuel:Nat} {listed:Array Bool} {env env':Env},ai3 ops tl listed is=true->
  ag8 C.tt C.fn.ntmps ops L env is=some env'->DX C ops tl s bs G0 fuel (aln listed is) env' L R Γ->DX C ops tl s bs G0 (fuel+is.length) listed env L R Γ
 |[],_,_,_,_,_,h,k=>by simp [ag8]at h;subst h;exact k
 |(i,p)::r,fuel,listed,env,env',hb,h,k=>by
  simp only [ai3,Bool.and_eq_true]at hb;simp only [ag8]at h
  split at h
  ·rename_i o ho
   rw [adh]at ho;have ho':ops[i]? =some o:=by simpa using ho
   split at h
   ·rename_i d hd
    split at h
    ·rename_i hlt
     have hlt':d<C.fn.ntmps:=by grind [Nat.blt_eq]
     split at h
     ·rename_i hg
      split at h
      ·rename_i sv hsv
       cases p with
       |true=>exact DX.takeP hb.1 ho' hd hlt' hg (λ_ a w bs' hA=>aha ht w hA hsv) (λh=>by cases h) (DX.takes ht r hb.2 h k)
       |false=>exact DX.take hb.1 ho' hd hlt' hg (λ_ a w G' bs' hle hA hI=>ag5 ht hA hI hsv) (λh=>by cases h) (DX.takes ht r hb.2 h k)
      ·cases h
     ·rename_i hg
      cases p with
      |true=>exact DX.takeP hb.1 ho' hd hlt' hg (λh=>by cases h) (λ_=>rfl) (DX.takes ht r hb.2 h k)
      |false=>exact DX.take hb.1 ho' hd hlt' hg (λh=>by cases h) (λ_=>rfl) (DX.takes ht r hb.2 h k)
     ·cases h
    ·cases h
   ·cases h
  ·cases h
theorem DX.tail {ops:Array Oper}{tl:List Nat}{rest:List Oper}(is:List Nat)(hr:ake ops.toList is=some rest)(hf:fuel=is.length)(hs:seqL ops tl is listed=true)
  (k:WX C (.ops ops rest::s) env L R Γ):DX C ops tl s bs G0 fuel listed env L R Γ:=by
 intro _ a w G _ hS;subst hf;exact aj1 is rest listed a w hr hs (k a w ⟨G,bs,hS⟩)
theorem DX.callG {ops:Array Oper}{tl:List Nat}(i:Nat)
  {Ψ:World->Value->World->Prop} (hit:tl.contains i=false) (hr:Region.ready .any ops listed=[i]) (hi:getO ops.toList i=some o) (hg:gd ops env o=some true) (hd:o.dst=some d) (ho:o.op= .call {callee:= .value f,args:=args.toArray,argTypes:=ats})
  (hf:ev env f=some sf) (hsf:∀bs,conc bs sf= .func (.func g) #[] (caps bs).toArray) (hargs:evs env args=some svs)
  (hc:∀w G bs,HInv C w G bs L R->AllK C.M (hp w) Γ->Does C.P g (svs.map (conc bs)++caps bs).toArray w emp (Ψ w))
  (k:∀a w w' G v,Le G0 G->At C.fn.ntmps env bs a->HInv C w G bs L R->AllK C.M G Γ->Kp emp w w'->Ψ w v w'->SB C bs G0 L R w'/\(Closed ops (listed.setIfInBounds i true)->aee C.P ops (cont C st) (SB C bs G0 L R) tl fuel (listed.setIfInBounds i true) (a.put (some d) v) w')):DX C ops tl st bs G0 (fuel+1) listed env L R Γ:=by
 intro hcl a w G hle ⟨hA,hI,hΓ⟩;rw [adh]at hi;have hi':ops[i]? =some o:=by simpa using hi
 refine ⟨λh=>(by grind),λj hj=>?_⟩;have hcl':=hcl.set hj;rw [hr]at hj;obtain rfl:j=i:=by simpa using hj
 unfold wpOp;simp only [hi'];rw [if_pos (ad2 hA hg)];refine .inl ?_;unfold Oper.wp;obtain ⟨he,hcalls⟩:=hc w G bs hI (hΓ.mono hI.le);rw [aet he ho (by rw [ac5 hA hf,hsf]) (aeh hA args svs hargs)];simp only [Oper.upon];refine hcalls.mono λe w' ⟨v,hv,hb,hψ⟩=>?_
 grind
theorem DX.callV {ops:Array Oper}{tl:List Nat}(i:Nat)
  {c:Value} {Q:Prop} (hit:tl.contains i=false) (hr:Region.ready .any ops listed=[i]) (hi:getO ops.toList i=some o) (hg:gd ops env o=some true) (hd:o.dst=some d) (hlt:Nat.blt d C.fn.ntmps=true) (ho:o.op= .call {callee:= .value f,args:=args.toArray,argTypes:=ats})
  (hf:ev env f=some sf) (hsf:∀bs,conc bs sf= .func (.func g) #[] (caps bs).toArray) (hargs:evs env args=some svs)
  (hc:∀w G bs,HInv C w G bs L R->AllK C.M (hp w) Γ->Does C.P g (svs.map (conc bs)++caps bs).toArray w emp λv _=>v=c/\Q)
  (k:Q->DX C ops tl st bs G0 fuel (listed.setIfInBounds i true) ((d,.v c)::env) L R Γ):DX C ops tl st bs G0 (fuel+1) listed env L R Γ:=
 DX.callG (Ψ:=λ_ v _=>v=c/\Q) i hit hr hi hg hd ho hf hsf hargs hc λa w w' G v hle hA hI hΓ hb ⟨hv,hq⟩=>by
  subst hv;have hI':=(hI.called (acv _) (λ_ _ h=>by cases h) hb (acv _) (λ_ _ h=>by cases h)).1;have hle':Le G0 (join (cut G emp) emp):=hle.trans (acq (cut G emp) emp);exact ⟨⟨_,hle',hI'⟩,λhcl=>k hq hcl _ _ _ hle' ⟨hA.put (by simpa [Nat.blt_eq]using hlt) (.v v),hI',hΓ.mono (acq (cut G emp) emp)⟩⟩
theorem DX.callF {ops:Array Oper}{tl:List Nat}(i m:Nat)
  {ι:Type} {val val':ι->Value} {gs ds:ι->List MF} {Q:Prop} {Γ':ι->Facts} (hds:∀i h,Sep h (gs i)->All h (ds i)) (hdk:∀i,∀f∈ds i,f.k= .der) (hit:tl.contains i=false) (hr:Region.ready .any ops listed=[i]) (hi:getO ops.toList i=some o) (hg:gd ops env o=some true) (hd:o.dst=some d) (hlt:Nat.blt d C.fn.ntmps=true) (ho:o.op= .call {callee:= .value f,args:=args.toArray,argTypes:=ats})
  (hf:ev env f=some sf) (hsf:∀bs,conc bs sf= .func (.func g) #[] (caps bs).toArray) (hargs:evs env args=some svs)
  (hc:∀w G bs,HInv C w G bs L R->AllK C.M (hp w) Γ->Does C.P g (svs.map (conc bs)++caps bs).toArray w emp (Post w emp val gs Q))
  (hv:∀i,afb (val i)=some (val' i)) (hΓ':∀i,addF m (ds i++gs i) Γ=some (Γ' i))
  (k:∀j,Q->DX C ops tl st bs G0 fuel (listed.setIfInBounds i true) ((d,.v (val' j))::env) L R (Γ' j)):DX C ops tl st bs G0 (fuel+1) listed env L R Γ:=
 DX.callG (Ψ:=λw v w'=>Post w emp val gs Q v w') i hit hr hi hg hd ho hf hsf hargs hc λa w w' G v hle hA hI hΓ hb hv'=>by
  obtain ⟨j,h,rfl,hq,hle1,hdom,hs⟩:=hv';rw [<-afi (hv j)];obtain ⟨hI',hdj⟩:=hI.called (acv _) (λ_ _ h=>by cases h) hb hle1 hdom;have hle':Le G0 (join (cut G emp) h):=hle.trans (acq (cut G emp) h);exact ⟨⟨_,hle',hI'⟩,λhcl=>k j hq hcl _ _ _ hle' ⟨hA.put (by simpa [Nat.blt_eq]using hlt) (.v _),hI',hΓ.after hdj (λb o hb'=> .inl ((hdom b o hb').elim (Nat.le_trans hI.keep.size) (λh=>absurd rfl h))) hs (hdk j) (hds j h hs) (hΓ' j)⟩⟩
theorem DX.idx {ops:Array Oper}{tl:List Nat}[GoT α]{y:Operand}{kk q:Nat}{m:Int}{p:Option Addr}{l:List α}(i ℓ j:Nat)(ht:ad6 C.P C.tt)(h0:AllK C.M G0 Γ0)
  (hb:mayB ops tl listed i=true) (hi:getO ops.toList i=some o) (hg:gd ops env o=some true) (hd:o.dst=some d) (hlt:Nat.blt d C.fn.ntmps=true) (ho:o.op= .indexAddr T x y)
  (hx:ev env x=some (.v (.slice p q c))) (hy:ev env y=some (.v (.int .i64 m))) (hk:ahc C.tt T=some kk) (hℓ:look Γ0 ℓ=some (MF.rs kd p c l)) (hq:q=l.length) (hm:m=(j:Int)) (hj:j<l.length)
  (k:∀ad,p=some ad->DX C ops tl s bs G0 fuel (listed.setIfInBounds i true) ((d,.e (some ad) j kk 0)::env) L R Γ):DX C ops tl s bs G0 (fuel+1) listed env L R Γ:=by
 obtain ⟨x',ad,rfl,_⟩:=RdSl.get (i:=j) (h0.get ℓ hℓ:RdSl G0 p c l) (List.getElem?_eq_getElem hj);rw [adh]at hi;exact DX.take hb (by simpa using hi) hd (by simpa [Nat.blt_eq]using hlt) hg (λ_=>aja ht ho hx hy hk hm (by omega)) (λh=>by cases h) (k ad rfl)
theorem DX.ldE {ops:Array Oper}{tl:List Nat}[GoT α]{off:Nat}{ti:TI}{ad:Addr}{l:List α}(i ℓ m:Nat)(a:α){val:X α->Value}{Γ':X α->Facts}(ht:ad6 C.P C.tt)(h0:AllK C.M G0 Γ0)
  (hb:mayB ops tl listed i=true) (hi:getO ops.toList i=some o) (hg:gd ops env o=some true) (hd:o.dst=some d) (hlt:Nat.blt d C.fn.ntmps=true) (ho:o.op= .load T x)
  (hx:ev env x=some (.e (some ad) j (GoT.k α) off)) (hT:look C.tt T=some ti) (hℓ:look Γ0 ℓ=some (MF.rs kd (some ad) c l)) (ha:l[j]? =some a)
  (hv:∀x,asm ti (sh a x) off=some (val x)) (hf:∀x,addF m (fa .der a x) Γ=some (Γ' x))
  (k:∀x,DX C ops tl s bs G0 fuel (listed.setIfInBounds i true) ((d,.v (val x))::env) L R (Γ' x)):DX C ops tl s bs G0 (fuel+1) listed env L R Γ:=by
 obtain ⟨x',ad',had,hfa,hc⟩:=RdSl.get (i:=j) (h0.get ℓ hℓ:RdSl G0 (some ad) c l) ha;simp at had;subst had;rw [adh]at hi;intro hcl a' w G hle hS;exact DX.take (Γ:=Γ' x') hb (by simpa using hi) hd (by simpa [Nat.blt_eq]using hlt) hg (λ_=>aii ht ho hx hT hc (hv x')) (λh=>by cases h) (k x') hcl a' w G hle ⟨hS.1,hS.2.1,AllK.ders (hf x') (λf hf=>GoT.fak f hf) (hfa.mono hle) hS.2.2⟩
end Go.Stp
