/-
  What the proof of one law needs: rules of the program logic, functions as Lean functions, contracts. No condition but what each says. Written by a program (pack.py) out of my own texts.
-/
import Derived.Carry
import Derived.ChangeArms
import Derived.ProofKit
import Derived.OpenShut
import Derived.JoinedCond
import Derived.Test.YthdfhghdipdknaaGreatKXm2
open Go.IntKind (i64)
set_option linter.unusedVariables false
set_option linter.unusedSimpArgs false
namespace Go.Stp
variable {α : Type} {x : Int}
theorem mid (p:List α)(e:α)(l:List α):(p++e::l)[p.length]? =some e:=by simp
theorem arj (p:List α)(e:α)(l:List α):(p++[e])++l=p++e::l:=by simp
theorem arq (p:List α)(e:α):(p++[e]).length=p.length+1:=by simp
def SzR (r left:Int)(s:Nat):Prop:=r= -1\/((s:Int)<=left/\r=left-s)
theorem SzR.pos {r left:Int}{s:Nat}(h:SzR r left s)(hr:0<=r):(s:Int)<=left/\r=left-s:=by
 rcases h with h|h
 ·omega
 ·exact h
theorem dT (h:x<0):decide (x<0)=true:=decide_eq_true h
theorem ai2:∀l:List UInt8,Op.bytesLess l l=false
 |[]=>rfl
 |a::l=>by simp [Op.bytesLess,ai2 l]
theorem ar2 (a b:List UInt8):((bif Op.bytesLess a b then (-1)else bif (!(Op.bytesLess a b||a==b))then 1 else 0:Int)=0)↔a=b:=by grind [ai2]
end Go.Stp
namespace Go.Stp
open GoT (X k ok sh fa oa)
theorem DX.ldE2 {C:Cx}{ops:Array Oper}{tl:List Nat}{s:List It}{bs:Nat->Nat}{G0:GH}{fuel:Nat}{listed:Array Bool}{env:Env}{L:Locs}{R:Rows}{Γ Γ0:Facts}{o:Oper}{α:Type}[GoT α]{d:Nat}{x:Operand}{T c j off:Nat}{ti:TI}{ad:Addr}{kd:Kd}{l:List α}(i ℓ m:Nat)(a:α){val:X α->Value}{Γ' Γ0':X α->Facts}(ht:ad6 C.P C.tt)(h0:AllK C.M G0 Γ0)
  (hb:mayB ops tl listed i=true) (hi:getO ops.toList i=some o) (hg:gd ops env o=some true) (hd:o.dst=some d) (hlt:Nat.blt d C.fn.ntmps=true) (ho:o.op= .load T x)
  (hx:ev env x=some (.e (some ad) j (GoT.k α) off)) (hT:look C.tt T=some ti) (hℓ:look Γ0 ℓ=some (MF.rs kd (some ad) c l)) (ha:l[j]? =some a)
  (hv:∀x,asm ti (sh a x) off=some (val x)) (hf:∀x,addF m (fa .der a x) Γ=some (Γ' x)) (hf0:∀x,addF m (fa .der a x) Γ0=some (Γ0' x))
  (k:∀x,AllK C.M G0 (Γ0' x)->DX C ops tl s bs G0 fuel (listed.setIfInBounds i true) ((d,.v (val x))::env) L R (Γ' x)):DX C ops tl s bs G0 (fuel+1) listed env L R Γ:=by
 obtain ⟨x',ad',had,hfa,hc⟩:=RdSl.get (i:=j) (h0.get ℓ hℓ:RdSl G0 (some ad) c l) ha;simp at had;subst had;rw [adh]at hi;intro hcl a' w G hle hS;exact DX.take (Γ:=Γ' x') hb (by simpa using hi) hd (by simp_all) hg (λ_=>aii ht ho hx hT hc (hv x')) (λh=>by cases h) (k x' (AllK.ders (hf0 x') (λf hf=>GoT.fak f hf) hfa h0)) hcl a' w G hle ⟨hS.1,hS.2.1,AllK.ders (hf x') (λf hf=>GoT.fak f hf) (hfa.mono hle) hS.2.2⟩
end Go.Stp
namespace Go.Stp
open Go.RowKit (Below)
open GoT (X k ok sh fa oa)
variable {P : Program} {T : TypeId} {f : Field} {off : Nat} {α β : Type} {fs : Array Field}
def Opens (P:Program)(T:TypeId)(α:Type)[GoT α]:Prop:=
 P.cellsOf T=k α/\∀ {H:Type} {enc:TypeId×Value->H} {w:World} {spare:Nat->Bool} {held:Bool} {fuel:Nat} {cs:List Value} {x:DataW H×List MemPlace},DataW.trod enc P w 0 spare held fuel T cs=some x->
  ∃(a:α) (y:X α),cs=sh a y/\ok 10 a/\All (hp w) (fa .der a y)
theorem aqc (h:P.underlying T=some (.int .u8))(hc:P.cellsOf T=1):Opens P T UInt8:=⟨hc,λh'=>by
 obtain ⟨n,rfl,_,hw⟩:=DataW.trod_int h h';have hn:0<=n/\n<=255:=by simpa [Lit.wf,IntKind.min,IntKind.max,IntKind.signed,IntKind.bits]using hw
 refine ⟨UInt8.ofNat n.toNat,(),?_,trivial,(λ_ h_=>by cases h_)⟩
 have:((UInt8.ofNat n.toNat).toNat:Int)=n:=by
  rw [UInt8.toNat_ofNat',Nat.mod_eq_of_lt (by omega)];omega
 simp only [sh];rw [this]⟩
theorem ao0 {w:World}{a:Addr}{n:Nat}{cs:List Value}(h:w.cells? 0 a n=some cs):∀j u,cs[j]? =some u->w.cell? (a.add j)=some u:=by
 intro j u hj;obtain ⟨_,h1,h2⟩:=World.cells?_some h
 grind
theorem ao7 {P:Program}{T E:TypeId}{α:Type}[GoT α](h:P.underlying T=some (.slice E))(hc:P.cellsOf T=1)(he:Opens P E α):Opens P T (List α):=⟨hc,λ{H enc w spare held fuel cs x} h'=>by
 rcases DataW.trod_slice h h' with ⟨rfl,_⟩|⟨a,len,cap,elems,rest,n,_,rfl,_,_,hl,hm,hlen,hel,_,_⟩
 ·exact ⟨[],(none,0),rfl,⟨Nat.zero_le _,λ_ h_=>by cases h_⟩,λf hf=>by
   obtain rfl:=List.mem_singleton.1 hf;exact ⟨Nat.zero_le _,Nat.zero_le _,[],λj u h=>by simp at h,rfl⟩⟩
 ·have key:∀m,m<=len->∃(l:List α) (xs:List Value),l.length=m/\xs.length=m*k α/\RdL (hp w) xs l/\(∀b∈l,ok 10 b)/\aia (hp w) (some a) xs:=by
   intro m
   induction m with
   |zero=>exact λ_=>⟨[],[],rfl,by simp,rfl,by simp,λj u h=>by simp at h⟩
   |succ m ih=>
    intro hmle;obtain ⟨l,xs,h1,h2,h3,h4,h5⟩:=ih (by omega);have hm':=hel m (by omega);rw [he.1]at hm';obtain ⟨y,hy⟩:∃y,elems[m]? =some y:=⟨_,List.getElem?_eq_getElem (by omega)⟩;rw [hy,Option.bind_eq_some_iff]at hm';obtain ⟨cs',hcs,htr⟩:=hm';obtain ⟨b,yb,rfl,hok,hfa⟩:=he.2 htr;refine ⟨l++[b],xs++sh b yb,by simp [h1],by rw [List.length_append,h2,GoT.len,Nat.add_mul];omega,h3.snoc hfa,?_,?_⟩
    ·grind
    ·intro j u hj
     refine ⟨a,rfl,?_⟩
     by_cases hlt:j<xs.length
     ·rw [List.getElem?_append_left hlt]at hj
      obtain ⟨a',ha',hg⟩:=h5 j u hj
      grind
     ·rw [List.getElem?_append_right (by omega)]at hj
      have:=ao0 hcs _ _ hj;rw [aed,h2,show m*k α+(j-m*k α)=j by omega]at this;exact this
  obtain ⟨l,xs,h1,h2,h3,h4,h5⟩:=key len (Nat.le_refl _);have hm':len<=9223372036854775807:=by simp only [maxLen]at hm;omega
  refine ⟨l,(some a,cap),by simp [sh,h1],⟨by show l.length<=9223372036854775807;omega,h4⟩,λf hf=>?_⟩;obtain rfl:=List.mem_singleton.1 hf;exact ⟨by omega,by grind⟩⟩
def Arg (P:Program)(T:TypeId)(α:Type)[GoT α](mk:List Value->Value):Prop:=
 ∀ {H:Type} {enc:TypeId×Value->H} {W:World} {b0:Nat} {spare:Nat->Bool} {held:Bool} {v:Value} {d:DataW H} {ps:List MemPlace},Value.okWide P W .any b0 T v->DataW.Trod enc P W 0 spare held T v d ps->
  ∃(a:α) (y:X α),v=mk (sh a y)/\ok 10 a/\All (hp W) (fa .der a y)
theorem arh {P:Program}{T E:TypeId}{α:Type}[GoT α](h:P.underlying T=some (.slice E))(ho:Opens P T (List α)):Arg P T (List α) (λcs=>cs.headD undef):=by
 intro H enc W b0 spare held v d ps hval ⟨fuel,hf⟩;obtain ⟨a,y,h1,h2,h3⟩:=ho.2 hf;refine ⟨a,y,?_,h2,h3⟩;cases v with
 |agg cs=>simp [Value.okWide,h,Cell.okWide,Cell.ok]at hval
 |_=>first|(simp [Value.cells,sh]at h1;done)|(simp [Value.cells,sh]at h1;simp [sh,h1])
theorem aiv {H:Type}{enc:TypeId×Value->H}{P:Program}(hl:laidOutB P=true){W W':World}{sp:Nat->Bool}:∀ {ts:List TypeId} {vs:List Value} {ds:List (DataW H)} {ps:List MemPlace},
  ts.all (λt=>P.readableRec t&&decide (t<P.types.size))=true->DataW.TrodAll enc P W 0 (λ_=>true) true ts vs ds ps->(∀p∈ps,W.sameAt W' p)->(∀p∈ps,sp p.block=true)->DataW.TrodAll enc P W' 0 sp true ts vs ds ps
 |[],[],[],_,_,h,_,_=>h
 |t::ts,v::vs,d::ds,ps,ha,⟨p,q,h1,h2,e⟩,hs,hsp=>by
  simp only [List.all_cons,Bool.and_eq_true,decide_eq_true_eq]at ha;subst e
  exact ⟨p,q,WideElems.Trod_stays hl ha.1.1 ha.1.2 h1 (λx hx=>hs x (List.mem_append_left _ hx)) (λx hx=>hsp x (List.mem_append_left _ hx)),
   aiv hl ha.2 h2 (λx hx=>hs x (List.mem_append_right _ hx)) (λx hx=>hsp x (List.mem_append_right _ hx)),rfl⟩
theorem akq {H:Type}{enc:TypeId×Value->H}{P:Program}{W:World}{b:Nat}{sp:Nat->Bool}{hd:Bool}:∀ {ts:List TypeId} {vs:List Value} {ds:List (DataW H)} {ps:List MemPlace},DataW.TrodAll enc P W b sp hd ts vs ds ps->ds.length=ts.length
 |[],[],[],_,_=>rfl
 |_::_,_::_,_::_,_,⟨_,_,_,h2,_⟩=>by simp [akq h2]
theorem at6 {H:Type}{enc:TypeId×Value->H}{f:Func}{s:ChangeSpec}{W W':World}{args:Array Value}{ds gs:List (DataW H)}{before:List MemPlace}{B:TypeId}
  (hl:laidOutB P=true) (hpar:f.params.toList.all (λt=>P.readableRec t&&decide (t<P.types.size))=true) (hvars:s.vars=[]) (hB:f.resultTypes= #[B]) (hu:P.underlying B=some .bool)
  (hfn:∀ds:List (DataW H),ds.length=f.params.size->s.fn H ds={results:=[.lit (.bool true)],args:=ds})
  (hW:DataW.Whole enc P f.params.toList s.vars false W args.toList ds gs before) (hb:Below W.heap.size W W'):s.post enc P f false true false false W args (.bool true) W':=by
 have hW':=hW;have hlt:∀p∈before,p.block<W.heap.size:=λp hp=>hW.lt p hp;obtain ⟨p,q,hA,hV,rfl,hfz,hnd⟩:=hW';rw [hvars]at hV;obtain ⟨rfl,rfl⟩:=ChangeShapes.trodVars_none hV;have hlen:ds.length=f.params.size:=by simpa using akq hA
 have hdd:s.fn H (ds++[])={results:=[.lit (.bool true)],args:=ds}:=by grind
 have hres:∀(b:Nat) (sp:Nat->Bool) (hd:Bool),DataW.TrodAll enc P W' b sp hd f.resultTypes.toList ((Value.bool true).resultList f.resultTypes.size) (s.fn H (ds++[])).results []:=by
  intro b sp hd;rw [hdd,hB];exact trodAll_cons_mk (RowKit.shut_bool hu _) ChangeShapes.trodAll_mk0
 have hargs:∀sp:Nat->Bool,(∀x∈p++[],sp x.block=true)->DataW.TrodAll enc P W' 0 sp true f.params.toList args.toList (s.fn H (ds++[])).args p:=by
  intro sp hsp;rw [hdd];exact aiv hl hpar hA (λx hx=>hb.same (hlt x (by simpa using hx))) (λx hx=>hsp x (by simpa using hx))
 have hvars':∀sp:Nat->Bool,DataW.TrodVars enc P W' sp s.vars (s.fn H (ds++[])).vars []:=by
  intro sp;rw [hvars,hdd];rfl
 have hold:∀x∈p++[],(λb=>decide (b<W.heap.size)) x.block=true:=λx hx=>by grind
 refine ⟨ds,[],p++[],[],p,[],hW,hres _ _ _,hargs _ hold,hvars' _,World.keptBut_mono (λx hx=>⟨hx,Or.inr (by simpa using hx)⟩) (hb.frame (· ∈p++[])),λh=>(by cases h)⟩
end Go.Stp
namespace Go.Proofs.YthdfhghdipdknaaGreat
open Go.Stp
variable {fn : Func} {w0 w : World} {H G G0 H0 : GH} {pin : Option Nat} {Φ : Value → World → Prop} {s st s0 : List It} {env env' ek env0 : Env} {L lk L0 : Locs} {R R' : Go.Stp.Rows} {Γ Γ1 gk Γ2 Γ0 : Facts} {vs A B cs xs ys cs' : List Value} {e b : Bool} {α β α0 α1 α2 α3 α4 ι : Type} {p0 p1 p2 p3 p4 p : Option Addr} {c0 c1 c2 c3 c4 c n d T fuel i len kk off by_ T' : Nat} {f x y : Operand} {g : FuncId} {args : List Operand} {C : Cx} {D E F : Type _} {ops : Array Oper} {o : Oper} {r : List Oper} {ats : Array TypeId} {sf sv : SV} {svs : List SV} {caps : (Nat → Nat) → List Value} {Q : Prop} {tl : List Nat} {bs : Nat → Nat} {listed : Array Bool} {S : World → Prop} {P : List PI} {fs : List MF} {v z : Value} {parts : Array (Nat × Operand)} {row src : Row} {m a : Int} {kd : Kd} {ti : TI} {ad : Addr}
theorem R0 {s':List It}{L':Locs}(k:WX ⟨Tryz.prog,fn,tt,w0,H,pin,Φ⟩ s' env' L' R Γ)(h:exec tt fn.ntmps R 1000 s env L=(s',env',L'):=by exact rfl):WX ⟨Tryz.prog,fn,tt,w0,H,pin,Φ⟩ s env L R Γ:=WX.run ttOk h k
theorem R1 (k:∀w G bs,HInv ⟨Tryz.prog,fn,tt,w0,H,pin,Φ⟩ w G bs L R->AllK (Cx.M ⟨Tryz.prog,fn,tt,w0,H,pin,Φ⟩) G Γ->Φ (tup vs) w)(h:resV tt env L fn.results.toList=some vs:=by exact rfl):WX ⟨Tryz.prog,fn,tt,w0,H,pin,Φ⟩ (.code .ret::s) env L R Γ:=WX.ret ttOk h k
theorem Z {α:Sort _}{a:α}:a=a:=rfl
theorem J {α:Sort _}{a b:α}(h:a=b:=by kernel_rfl):a=b:=h
theorem O {α:Sort _}{β:Sort _}{f:α->β}(x:α):f x=f x:=rfl
theorem cC (a b:α):cond true a b=a/\cond false a b=b:=⟨rfl,rfl⟩
theorem aS1 [GoT α0]{l0:List α0}(a0:RdSl G p0 c0 l0):AllS G [(0,MF.rs .stb p0 c0 l0)]:=ac6 rfl a0 ac8
theorem aS2 [GoT α0]{l0:List α0}[GoT α1]{l1:List α1}(a0:RdSl G p0 c0 l0)(a1:RdSl G p1 c1 l1):AllS G [(0,MF.rs .stb p0 c0 l0),(1,MF.rs .stb p1 c1 l1)]:=ac6 rfl a0 (ac6 rfl a1 ac8)
theorem aS3 [GoT α0]{l0:List α0}[GoT α1]{l1:List α1}[GoT α2]{l2:List α2}(a0:RdSl G p0 c0 l0)(a1:RdSl G p1 c1 l1)(a2:RdSl G p2 c2 l2):AllS G [(0,MF.rs .stb p0 c0 l0),(1,MF.rs .stb p1 c1 l1),(2,MF.rs .stb p2 c2 l2)]:=ac6 rfl a0 (ac6 rfl a1 (ac6 rfl a2 ac8))
theorem aS4 [GoT α0]{l0:List α0}[GoT α1]{l1:List α1}[GoT α2]{l2:List α2}[GoT α3]{l3:List α3}(a0:RdSl G p0 c0 l0)(a1:RdSl G p1 c1 l1)(a2:RdSl G p2 c2 l2)(a3:RdSl G p3 c3 l3):AllS G [(0,MF.rs .stb p0 c0 l0),(1,MF.rs .stb p1 c1 l1),(2,MF.rs .stb p2 c2 l2),(3,MF.rs .stb p3 c3 l3)]:=ac6 rfl a0 (ac6 rfl a1 (ac6 rfl a2 (ac6 rfl a3 ac8)))
theorem aS5 [GoT α0]{l0:List α0}[GoT α1]{l1:List α1}[GoT α2]{l2:List α2}[GoT α3]{l3:List α3}[GoT α4]{l4:List α4}(a0:RdSl G p0 c0 l0)(a1:RdSl G p1 c1 l1)(a2:RdSl G p2 c2 l2)(a3:RdSl G p3 c3 l3)(a4:RdSl G p4 c4 l4):AllS G [(0,MF.rs .stb p0 c0 l0),(1,MF.rs .stb p1 c1 l1),(2,MF.rs .stb p2 c2 l2),(3,MF.rs .stb p3 c3 l3),(4,MF.rs .stb p4 c4 l4)]:=ac6 rfl a0 (ac6 rfl a1 (ac6 rfl a2 (ac6 rfl a3 (ac6 rfl a4 ac8))))
theorem aS6 [GoT α0]{l0:List α0}[GoT α1]{l1:List α1}[GoT α2]{l2:List α2}[GoT α3]{l3:List α3}[GoT α4]{l4:List α4}{α5:Type}[GoT α5]{p5:Option Addr}{c5:Nat}{l5:List α5}(a0:RdSl G p0 c0 l0)(a1:RdSl G p1 c1 l1)(a2:RdSl G p2 c2 l2)(a3:RdSl G p3 c3 l3)(a4:RdSl G p4 c4 l4)(a5:RdSl G p5 c5 l5):AllS G [(0,MF.rs .stb p0 c0 l0),(1,MF.rs .stb p1 c1 l1),(2,MF.rs .stb p2 c2 l2),(3,MF.rs .stb p3 c3 l3),(4,MF.rs .stb p4 c4 l4),(5,MF.rs .stb p5 c5 l5)]:=ac6 rfl a0 (ac6 rfl a1 (ac6 rfl a2 (ac6 rfl a3 (ac6 rfl a4 (ac6 rfl a5 ac8)))))
theorem aC [GoT α]{l:List α}(k:Nat)(a:RdSl G p c l)(h:AllS G Γ):AllS G ((k,MF.rs .stb p c l)::Γ):=ac6 rfl a h
theorem bS0 (hn:n+0<=9):1048576<=bd n/\bd n<=274877906944:=⟨adi n,aj4 (by omega)⟩
theorem bS1 (hn:n+1<=9):1048576<=bd n/\bd (n+1)=4*bd (n)/\bd (n+1)<=274877906944:=⟨adi n,adk (by omega),aj4 (by omega)⟩
theorem bS2 (hn:n+2<=9):1048576<=bd n/\bd (n+1)=4*bd (n)/\bd (n+2)=4*bd (n+1)/\bd (n+2)<=274877906944:=⟨adi n,adk (by omega),adk (by omega),aj4 (by omega)⟩
theorem bS3 (hn:n+3<=9):1048576<=bd n/\bd (n+1)=4*bd (n)/\bd (n+2)=4*bd (n+1)/\bd (n+3)=4*bd (n+2)/\bd (n+3)<=274877906944:=⟨adi n,adk (by omega),adk (by omega),adk (by omega),aj4 (by omega)⟩
theorem bS5 (hn:n+5<=9):1048576<=bd n/\bd (n+1)=4*bd (n)/\bd (n+2)=4*bd (n+1)/\bd (n+3)=4*bd (n+2)/\bd (n+4)=4*bd (n+3)/\bd (n+5)=4*bd (n+4)/\bd (n+5)<=274877906944:=⟨adi n,adk (by omega),adk (by omega),adk (by omega),adk (by omega),adk (by omega),aj4 (by omega)⟩
theorem bS7 (hn:n+7<=9):1048576<=bd n/\bd (n+1)=4*bd (n)/\bd (n+2)=4*bd (n+1)/\bd (n+3)=4*bd (n+2)/\bd (n+4)=4*bd (n+3)/\bd (n+5)=4*bd (n+4)/\bd (n+6)=4*bd (n+5)/\bd (n+7)=4*bd (n+6)/\bd (n+7)<=274877906944:=⟨adi n,adk (by omega),adk (by omega),adk (by omega),adk (by omega),adk (by omega),adk (by omega),adk (by omega),aj4 (by omega)⟩
theorem bS8 (hn:n+8<=9):1048576<=bd n/\bd (n+1)=4*bd (n)/\bd (n+2)=4*bd (n+1)/\bd (n+3)=4*bd (n+2)/\bd (n+4)=4*bd (n+3)/\bd (n+5)=4*bd (n+4)/\bd (n+6)=4*bd (n+5)/\bd (n+7)=4*bd (n+6)/\bd (n+8)=4*bd (n+7)/\bd (n+8)<=274877906944:=⟨adi n,adk (by omega),adk (by omega),adk (by omega),adk (by omega),adk (by omega),adk (by omega),adk (by omega),adk (by omega),aj4 (by omega)⟩
theorem bS9 (hn:n+9<=9):1048576<=bd n/\bd (n+1)=4*bd (n)/\bd (n+2)=4*bd (n+1)/\bd (n+3)=4*bd (n+2)/\bd (n+4)=4*bd (n+3)/\bd (n+5)=4*bd (n+4)/\bd (n+6)=4*bd (n+5)/\bd (n+7)=4*bd (n+6)/\bd (n+8)=4*bd (n+7)/\bd (n+9)=4*bd (n+8)/\bd (n+9)<=274877906944:=⟨adi n,adk (by omega),adk (by omega),adk (by omega),adk (by omega),adk (by omega),adk (by omega),adk (by omega),adk (by omega),adk (by omega),aj4 (by omega)⟩
theorem xE (a:α):∃r,a=r:=⟨a,rfl⟩
theorem i6 (x:Int)(h:I64 x:=by unfold I64;omega):I64 x:=h
abbrev pB (b:Bool):Value->World->Prop:=λrv _=>rv= .bool b/\True
theorem _root_.Go.Stp.AllK.q {M:Nat->Prop}(h:AllK M G Γ)(i:Nat){f:MF}(hf:Go.Stp.look Γ i=some f):f.p G:=h.get i hf
theorem EN {c:Code}{args:List Value}
    (hf:Tryz.prog.funcs[g]? =some fn) (hb:fn.body=some c) (h0:AllS (hp w) Γ)
    (k:WX ⟨Tryz.prog,fn,tt,w,emp,none,Φ⟩ [.code c] (ak3 0 args) [] [] Γ) (hn:(fn.name== "runtime.NumGoroutine")=false:=by kernel_rfl) (hs:Nat.ble args.length fn.ntmps=true:=by exact rfl):Does Tryz.prog g args.toArray w emp Φ:=WX.enter hf hb hn hs h0 k
theorem R4 (h:resV tt env L fn.results.toList=some [.bool b])(k:e=b):WX ⟨Tryz.prog,fn,tt,w0,H,pin,λrv _=>rv= .bool e/\True⟩ (.code .ret::s) env L R Γ:=WX.ret ttOk h (λ_ _ _ _ _=>by rw [k];exact ⟨rfl,trivial⟩)
theorem t6 {A B C:Type _}{a a':A}{b b':B}{c c':C}{d d':D}{e e':E}{f f':F}(h:(a,b,c,d,e,f)=(a',b',c',d',e',f')):a=a'/\b=b'/\c=c'/\d=d'/\e=e'/\f=f':=by cases h;exact ⟨rfl,rfl,rfl,rfl,rfl,rfl⟩
theorem t7 {A B C G:Type _}{a a':A}{b b':B}{c c':C}{d d':D}{e e':E}{f f':F}{g g':G}(h:(a,b,c,d,e,f,g)=(a',b',c',d',e',f',g')):a=a'/\b=b'/\c=c'/\d=d'/\e=e'/\f=f'/\g=g':=by cases h;exact ⟨rfl,rfl,rfl,rfl,rfl,rfl,rfl⟩
theorem CV {c:Value}(e:(gd ops env o,o.dst,Nat.blt d C.fn.ntmps,o.op,ev env f,evs env args)=(some true,some d,true,.call {callee:= .value f,args:=args.toArray,argTypes:=ats},some sf,some svs))(hsf:∀bs,conc bs sf= .func (.func g) #[] (caps bs).toArray)(hc:∀ {bs:Nat->Nat} w,AllK C.M (hp w) Γ->Does C.P g (svs.map (conc bs)++caps bs).toArray w emp λv _=>v=c/\Q)(k:Q->WX C (.ops ops r::s) ((d,.v c)::env) L R Γ):WX C (.ops ops (o::r)::s) env L R Γ:=by obtain ⟨hg,hd,hlt,ho,hf,hargs⟩:=t6 e;exact WX.callV hg hd hlt ho hf hsf hargs (λw _ bs _ h=>hc (bs:=bs) w h) k
theorem CF [GoT α]{a:α}{val val':GoT.X α->Value}{Γ':GoT.X α->Facts}(n:Nat)(e:(gd ops env o,o.dst,Nat.blt d C.fn.ntmps,o.op,ev env f,evs env args)=(some true,some d,true,.call {callee:= .value f,args:=args.toArray,argTypes:=ats},some sf,some svs))(hsf:∀bs,conc bs sf= .func (.func g) #[] (caps bs).toArray)(hc:∀ {bs:Nat->Nat} w,AllK C.M (hp w) Γ->Does C.P g (svs.map (conc bs)++caps bs).toArray w emp (Post w emp val (λx=>GoT.oa a x) Q))(k:∀i,Q->WX C (.ops ops r::s) ((d,.v (val' i))::env) L R (Γ' i))(hv:∀i,afb (val i)=some (val' i):=by exact λ_=>rfl)(hΓ':∀i,addF n (GoT.fa .der a i++GoT.oa a i) Γ=some (Γ' i):=by exact λ_=>rfl):WX C (.ops ops (o::r)::s) env L R Γ:=by obtain ⟨hg,hd,hlt,ho,hf,hargs⟩:=t6 e;exact WX.callF n (λ_ _ h=>GoT.ow_rd h) (λ_ f hf=>GoT.fak f hf) hg hd hlt ho hf hsf hargs (λw _ bs _ h=>hc (bs:=bs) w h) hv hΓ' k
theorem CP {val val':ι->Value}{cs':ι->List Value}{Γ':ι->Facts}(lab n:Nat)(hl:Go.Stp.look L lab=some ⟨T,cs⟩)(e:(gd ops env o,o.dst,Nat.blt d C.fn.ntmps,o.op,ev env f,evs env args)=(some true,some d,true,.call {callee:= .value f,args:=args.toArray,argTypes:=ats},some sf,some svs))(hsf:∀bs,conc bs sf= .func (.func g) #[] (caps bs).toArray)(hc:∀w (bs:Nat->Nat) H,Le H (hp w)->Sep H [MF.bx (bs lab) T cs]->AllK C.M (cut (hp w) H) Γ->Does C.P g (svs.map (conc bs)++caps bs).toArray w H (Post w H val (λi=>MF.bx (bs lab) T (cs' i)::[]) Q))(k:∀i,Q->WX C (.ops ops r::s) ((d,.v (val' i))::env) (setL L lab (cs' i)) R (Γ' i))(hv:∀i,afb (val i)=some (val' i):=by exact λ_=>rfl)(hΓ':∀i,addF n (([]:List MF)++[]) Γ=some (Γ' i):=by exact λ_=>rfl):WX C (.ops ops (o::r)::s) env L R Γ:=by obtain ⟨hg,hd,hlt,ho,hf,hargs⟩:=t6 e;exact WX.callP (ds:=λ_=>[]) lab n hl (λ_ _ _=>All.nil) (λ_ f hf=>by cases hf) hg hd hlt ho hf hsf hargs (λw _ bs H _ a b c=>hc w bs H a b c) hv hΓ' k
theorem CQ [GoT α]{a:α}{val val':GoT.X α->Value}{Γ':GoT.X α->Facts}{cs':GoT.X α->List Value}(lab n:Nat)(hl:Go.Stp.look L lab=some ⟨T,cs⟩)(e:(gd ops env o,o.dst,Nat.blt d C.fn.ntmps,o.op,ev env f,evs env args)=(some true,some d,true,.call {callee:= .value f,args:=args.toArray,argTypes:=ats},some sf,some svs))(hsf:∀bs,conc bs sf= .func (.func g) #[] (caps bs).toArray)(hc:∀w (bs:Nat->Nat) H,Le H (hp w)->Sep H [MF.bx (bs lab) T cs]->AllK C.M (cut (hp w) H) Γ->Does C.P g (svs.map (conc bs)++caps bs).toArray w H (Post w H val (λi=>MF.bx (bs lab) T (cs' i)::GoT.oa a i) Q))(k:∀i,Q->WX C (.ops ops r::s) ((d,.v (val' i))::env) (setL L lab (cs' i)) R (Γ' i))(hv:∀i,afb (val i)=some (val' i):=by exact λ_=>rfl)(hΓ':∀i,addF n (GoT.fa .der a i++GoT.oa a i) Γ=some (Γ' i):=by exact λ_=>rfl):WX C (.ops ops (o::r)::s) env L R Γ:=by obtain ⟨hg,hd,hlt,ho,hf,hargs⟩:=t6 e;exact WX.callP lab n hl (λ_ _ h=>GoT.ow_rd h) (λ_ f hf=>GoT.fak f hf) hg hd hlt ho hf hsf hargs (λw _ bs H _ a b c=>hc w bs H a b c) hv hΓ' k
theorem DXV (i:Nat){c:Value}(hit:tl.contains i=false)(hr:Region.ready .any ops listed=[i])(e:(getO ops.toList i,gd ops env o,o.dst,Nat.blt d C.fn.ntmps,o.op,ev env f,evs env args)=(some o,some true,some d,true,.call {callee:= .value f,args:=args.toArray,argTypes:=ats},some sf,some svs))(hsf:∀bs,conc bs sf= .func (.func g) #[] (caps bs).toArray)(hc:∀ {bs:Nat->Nat} w,AllK C.M (hp w) Γ->Does C.P g (svs.map (conc bs)++caps bs).toArray w emp λv _=>v=c/\Q)(k:Q->DX C ops tl st bs G0 fuel (listed.setIfInBounds i true) ((d,.v c)::env) L R Γ):DX C ops tl st bs G0 (fuel+1) listed env L R Γ:=by obtain ⟨hi,hg,hd,hlt,ho,hf,hargs⟩:=t7 e;exact DX.callV i hit hr hi hg hd hlt ho hf hsf hargs (λw _ bs _ h=>hc (bs:=bs) w h) k
theorem DXF (i m:Nat)[GoT α]{a:α}{val val':GoT.X α->Value}{Γ':GoT.X α->Facts}(hit:tl.contains i=false)(hr:Region.ready .any ops listed=[i])(e:(getO ops.toList i,gd ops env o,o.dst,Nat.blt d C.fn.ntmps,o.op,ev env f,evs env args)=(some o,some true,some d,true,.call {callee:= .value f,args:=args.toArray,argTypes:=ats},some sf,some svs))(hsf:∀bs,conc bs sf= .func (.func g) #[] (caps bs).toArray)(hc:∀ {bs:Nat->Nat} w,AllK C.M (hp w) Γ->Does C.P g (svs.map (conc bs)++caps bs).toArray w emp (Post w emp val (λx=>GoT.oa a x) Q))(k:∀j,Q->DX C ops tl st bs G0 fuel (listed.setIfInBounds i true) ((d,.v (val' j))::env) L R (Γ' j))(hv:∀i,afb (val i)=some (val' i):=by exact λ_=>rfl)(hΓ':∀i,addF m (GoT.fa .der a i++GoT.oa a i) Γ=some (Γ' i):=by exact λ_=>rfl):DX C ops tl st bs G0 (fuel+1) listed env L R Γ:=by obtain ⟨hi,hg,hd,hlt,ho,hf,hargs⟩:=t7 e;exact DX.callF i m (λ_ _ h=>GoT.ow_rd h) (λ_ f hf=>GoT.fak f hf) hit hr hi hg hd hlt ho hf hsf hargs (λw _ bs _ h=>hc (bs:=bs) w h) hv hΓ' k
theorem TSF (i m:Nat)[GoT α]{a:α}{val val':GoT.X α->Value}{Γ':GoT.X α->Facts}(hi:getO ops.toList i=some o)(hg:gd ops env o=some true)(hd:o.dst=some d)(hlt:Nat.blt d C.fn.ntmps=true)(ho:o.op= .call {callee:= .value f,args:=args.toArray,argTypes:=ats})(hf:ev env f=some sf)(hsf:∀bs,conc bs sf= .func (.func g) #[] (caps bs).toArray)(hargs:evs env args=some svs)(hc:∀ {bs:Nat->Nat} w,AllK C.M (hp w) Γ->Does C.P g (svs.map (conc bs)++caps bs).toArray w emp (Post w emp val (λx=>GoT.oa a x) Q))(k:∀j,Q->TX C ops tl st S fuel (listed.setIfInBounds i true) ((d,.v (val' j))::env) L R (Γ' j))(hv:∀i,afb (val i)=some (val' i):=by exact λ_=>rfl)(hΓ':∀i,addF m (GoT.fa .der a i++GoT.oa a i) Γ=some (Γ' i):=by exact λ_=>rfl):TS C ops tl st S fuel listed env L R Γ i:=TS.callF i m (λ_ _ h=>GoT.ow_rd h) (λ_ f hf=>GoT.fak f hf) hi hg hd hlt ho hf hsf hargs (λw _ bs _ h=>hc (bs:=bs) w h) hv hΓ' k
theorem TPV (i:Nat){c:Value}(hn:aij ops listed P P i=true)(hr:aew ops listed i=true)(hi:getO ops.toList i=some o)(hg:gd ops env o=some true)(hd:o.dst=some d)(ha:afz P i d=true)(hlt:Nat.blt d C.fn.ntmps=true)(ho:o.op= .call {callee:= .value f,args:=args.toArray,argTypes:=ats})(hf:ev env f=some sf)(hsf:∀bs,conc bs sf= .func (.func g) #[] (caps bs).toArray)(hargs:evs env args=some svs)(hc:∀ {bs:Nat->Nat} w,AllK C.M (hp w) Γ->Does C.P g (svs.map (conc bs)++caps bs).toArray w emp λv _=>v=c/\Q)(k:Q->TXP C ops tl st S P fuel (listed.setIfInBounds i true) ((d,.v c)::env) L R Γ):TXP C ops tl st S P (fuel+1) listed env L R Γ:=TXP.callV i hn hr hi hg hd ha hlt ho hf hsf hargs (λw _ bs _ h=>hc (bs:=bs) w h) k
theorem TPF (i m:Nat)[GoT α]{a:α}{val val':GoT.X α->Value}{Γ':GoT.X α->Facts}(hn:aij ops listed P P i=true)(hr:aew ops listed i=true)(hi:getO ops.toList i=some o)(hg:gd ops env o=some true)(hd:o.dst=some d)(ha:afz P i d=true)(hlt:Nat.blt d C.fn.ntmps=true)(ho:o.op= .call {callee:= .value f,args:=args.toArray,argTypes:=ats})(hf:ev env f=some sf)(hsf:∀bs,conc bs sf= .func (.func g) #[] (caps bs).toArray)(hargs:evs env args=some svs)(hc:∀ {bs:Nat->Nat} w,AllK C.M (hp w) Γ->Does C.P g (svs.map (conc bs)++caps bs).toArray w emp (Post w emp val (λx=>GoT.oa a x) Q))(k:∀j,Q->TXP C ops tl st S P fuel (listed.setIfInBounds i true) ((d,.v (val' j))::env) L R (Γ' j))(hv:∀i,afb (val i)=some (val' i):=by exact λ_=>rfl)(hΓ':∀i,addF m (GoT.fa .der a i++GoT.oa a i) Γ=some (Γ' i):=by exact λ_=>rfl):TXP C ops tl st S P (fuel+1) listed env L R Γ:=TXP.callF i m (λ_ _ h=>GoT.ow_rd h) (λ_ f hf=>GoT.fak f hf) hn hr hi hg hd ha hlt ho hf hsf hargs (λw _ bs _ h=>hc (bs:=bs) w h) hv hΓ' k
theorem TPP (hcur:CurK C S)(i n:Nat){val val':ι->Value}{cs':ι->List Value}{Γ':ι->Facts}(hl:Go.Stp.look L 999=some ⟨T,cs⟩)(hn:aij ops listed P P i=true)(hr:aew ops listed i=true)(hi:getO ops.toList i=some o)(hg:gd ops env o=some true)(hd:o.dst=some d)(ha:afz P i d=true)(hlt:Nat.blt d C.fn.ntmps=true)(ho:o.op= .call {callee:= .value f,args:=args.toArray,argTypes:=ats})(hf:ev env f=some sf)(hsf:∀bs,conc bs sf= .func (.func g) #[] (caps bs).toArray)(hargs:evs env args=some svs)(hc:∀w (bs:Nat->Nat) H,Le H (hp w)->Sep H [MF.bx (bs 999) T cs]->AllK C.M (cut (hp w) H) Γ->Does C.P g (svs.map (conc bs)++caps bs).toArray w H (Post w H val (λi=>MF.bx (bs 999) T (cs' i)::[]) Q))(k:∀j,Q->TXP C ops tl st S P fuel (listed.setIfInBounds i true) ((d,.v (val' j))::env) (setL L 999 (cs' j)) R (Γ' j))(hv:∀i,afb (val i)=some (val' i):=by exact λ_=>rfl)(hΓ':∀i,addF n (([]:List MF)++[]) Γ=some (Γ' i):=by exact λ_=>rfl)(hpin:∃b,C.pin=some b:=by exact ⟨_,rfl⟩):TXP C ops tl st S P (fuel+1) listed env L R Γ:=TXP.callP (ds:=λ_=>[]) hcur i n hpin hl (λ_ _ _=>All.nil) (λ_ f hf=>by cases hf) hn hr hi hg hd ha hlt ho hf hsf hargs (λw _ bs H _ a b c=>hc w bs H a b c) hv hΓ' k
theorem TPQ (hcur:CurK C S)(i n:Nat)[GoT α]{a:α}{val val':GoT.X α->Value}{Γ':GoT.X α->Facts}{cs':GoT.X α->List Value}(hl:Go.Stp.look L 999=some ⟨T,cs⟩)(hn:aij ops listed P P i=true)(hr:aew ops listed i=true)(hi:getO ops.toList i=some o)(hg:gd ops env o=some true)(hd:o.dst=some d)(ha:afz P i d=true)(hlt:Nat.blt d C.fn.ntmps=true)(ho:o.op= .call {callee:= .value f,args:=args.toArray,argTypes:=ats})(hf:ev env f=some sf)(hsf:∀bs,conc bs sf= .func (.func g) #[] (caps bs).toArray)(hargs:evs env args=some svs)(hc:∀w (bs:Nat->Nat) H,Le H (hp w)->Sep H [MF.bx (bs 999) T cs]->AllK C.M (cut (hp w) H) Γ->Does C.P g (svs.map (conc bs)++caps bs).toArray w H (Post w H val (λi=>MF.bx (bs 999) T (cs' i)::GoT.oa a i) Q))(k:∀j,Q->TXP C ops tl st S P fuel (listed.setIfInBounds i true) ((d,.v (val' j))::env) (setL L 999 (cs' j)) R (Γ' j))(hv:∀i,afb (val i)=some (val' i):=by exact λ_=>rfl)(hΓ':∀i,addF n (GoT.fa .der a i++GoT.oa a i) Γ=some (Γ' i):=by exact λ_=>rfl)(hpin:∃b,C.pin=some b:=by exact ⟨_,rfl⟩):TXP C ops tl st S P (fuel+1) listed env L R Γ:=TXP.callP hcur i n hpin hl (λ_ _ h=>GoT.ow_rd h) (λ_ f hf=>GoT.fak f hf) hn hr hi hg hd ha hlt ho hf hsf hargs (λw _ bs H _ a b c=>hc w bs H a b c) hv hΓ' k
noncomputable abbrev cx (fn:Func)(w0:World)(H0:GH)(pin:Option Nat)(Φ:Value->World->Prop):Cx:=⟨Tryz.prog,fn,tt,w0,H0,pin,Φ⟩
theorem i8 {x:Int}(h:I64 x): -9223372036854775808<=x/\x<=9223372036854775807:=h
theorem okE [GoT α]{l:List α}{e:α}(h:GoT.ok n l)(k:l[i]? =some e):GoT.ok n e:=(okl h).2 _ (List.mem_of_getElem? k)
theorem gE {l:List α}(h:i<l.length):∃e,l[i]? =some e:=⟨_,List.getElem?_eq_getElem h⟩
abbrev J6 (x:Int):Prop:= -9223372036854775808<=x/\x<=9223372036854775807
abbrev JL {α:Type}[GoT α](n:Nat)(l:List α):Prop:=l.length<=bd n/\∀z∈l,GoT.ok n z
abbrev JE {α:Type}[GoT α](n:Nat)(l:List α):Prop:=∀z∈l,GoT.ok n z
theorem R8 {val:ι->Value}{gs:ι->List MF}(h:resV tt env L fn.results.toList=some vs)(ks:List Nat)(i:ι)(hk:af4 ks Γ=some (fs,Γ1))(hv:tup vs=val i)(hf:gs i=fs)(hq:Q):WX ⟨Tryz.prog,fn,tt,w0,H,pin,Post w0 H val gs Q⟩ (.code .ret::s) env L R Γ:=WX.ret ttOk h λ_ _ _ hI hΓ=>Post.of ks i hI hΓ hk hv hf hq
theorem R9 {b:Nat}{val:ι->Value}{gs:ι->List MF}(h:resV tt env L fn.results.toList=some vs)(ks:List Nat)(i:ι)(hl:Go.Stp.look L 999=some ⟨T,cs⟩)(hk:af4 ks Γ=some (fs,Γ1))(hv:tup vs=val i)(hf:gs i=MF.bx b T cs::fs)(hq:Q):WX ⟨Tryz.prog,fn,tt,w0,H,some b,Post w0 H val gs Q⟩ (.code .ret::s) env L R Γ:=WX.ret ttOk h λ_ _ _ hI hΓ=>Post.ofL 999 ks i hI hΓ hl hk hv (by rw [hI.pin _ rfl];exact hf) hq
theorem R6 (h:resV tt env L fn.results.toList=some vs)(q:Q)(e:tup vs=v:=by exact rfl):WX ⟨Tryz.prog,fn,tt,w0,H,pin,λrv _=>rv=v/\Q⟩ (.code .ret::s) env L R Γ:=WX.ret ttOk h λ_ _ _ _ _=>⟨e,q⟩
theorem apo {α:Type}:∀(A B:List (Nat×α)) (i:Nat) (x:α),Go.Stp.look (A++B) i=some x->Go.Stp.look A i=some x\/Go.Stp.look B i=some x
  |[],B,i,x,h=> .inr h
  |(j,y)::A,B,i,x,h=>by
   rw [List.cons_append,acg]at h;rw [acg]
   split at h
   ·rename_i e;rw [if_pos e];exact .inl h
   ·rename_i e;rw [if_neg e];exact apo A B i x h
theorem ard {A B C:List (Nat×α)}(h:Sub A C)(k:Sub B C):Sub (A++B) C:=λi x hx=>(apo A B i x hx).elim (h i x) (k i x)
def ain {α:Type}(l:List (Nat×α)):List Nat->Option (List (Nat×α))
  |[]=>some []
  |d::ds=>(match Go.Stp.look l d with
   |some x=>(match ain l ds with|some q=>some ((d,x)::q)|none=>none)
   |none=>none)
theorem aks {α:Type}{l:List (Nat×α)}:∀ {ds:List Nat} {q:List (Nat×α)},ain l ds=some q->Sub q l
  |[],q,h=>by simp [ain]at h;subst h;exact Sub.nil
  |e::ds,q,h=>by
   simp only [ain]at h
   split at h
   ·rename_i y hy
    split at h
    ·rename_i z hz
     simp only [Option.some.injEq]at h;subst h;exact Sub.cons hy (aks hz)
    ·cases h
   ·cases h
theorem LK {c:Code}(i:ι)(F:ι->Prop×Nat×Env×Locs×Go.Stp.Rows×Facts)(hi:(F i).1)(ke kl kk ks:List Nat)(k:∀i,(F i).1->WX C (.code c:: .iter (Head.I ⟨λi=>(F i).1,λi=>(F i).2.1,λi=>(F i).2.2.1++ek,λi=>(F i).2.2.2.1++lk,λi=>(F i).2.2.2.2.1,λi=>gk++(F i).2.2.2.2.2⟩ C (F i).2.1)::s) ((F i).2.2.1++ek) ((F i).2.2.2.1++lk) (F i).2.2.2.2.1 (gk++(F i).2.2.2.2.2))(h1:ain env ke=some ek:=by exact rfl)(h2:ain L kl=some lk:=by exact rfl)(h3:ag6 kk Γ=some gk:=by exact rfl)(hΓ:ag6 ks Γ=some (gk++(F i).2.2.2.2.2):=by exact rfl)(he:Sub (F i).2.2.1 env:=by repeat (first|exact Sub.nil|refine Sub.cons rfl ?_))(hL:Sub (F i).2.2.2.1 L:=by repeat (first|exact Sub.nil|refine Sub.cons rfl ?_))(hR:Sub (F i).2.2.2.2.1 R:=by repeat (first|exact Sub.nil|refine Sub.cons rfl ?_)):WX C (.code (.loop c)::s) env L R Γ:=WX.loop ⟨λi=>(F i).1,λi=>(F i).2.1,λi=>(F i).2.2.1++ek,λi=>(F i).2.2.2.1++lk,λi=>(F i).2.2.2.2.1,λi=>gk++(F i).2.2.2.2.2⟩ i hi (ard he (aks h1)) (ard hL (aks h2)) hR ks hΓ k
theorem MK {c:Code}(F:ι->Prop×Nat×Env×Locs×Go.Stp.Rows×Facts)(kl kk:List Nat)(k1:WX C (.code c:: .iter (Head.I ⟨λi=>(F i).1,λi=>(F i).2.1,λi=>(F i).2.2.1,λi=>(F i).2.2.2.1++lk,λi=>(F i).2.2.2.2.1,λi=>gk++(F i).2.2.2.2.2⟩ C 1)::s) env L R Γ)(k2:∀i,(F i).1->WX C s (F i).2.2.1 ((F i).2.2.2.1++lk) (F i).2.2.2.2.1 (gk++(F i).2.2.2.2.2))(h2:ain L kl=some lk:=by exact rfl)(h3:ag6 kk Γ=some gk:=by exact rfl):WX C (.code c::s) env L R Γ:=WX.meet ⟨λi=>(F i).1,λi=>(F i).2.1,λi=>(F i).2.2.1,λi=>(F i).2.2.2.1++lk,λi=>(F i).2.2.2.2.1,λi=>gk++(F i).2.2.2.2.2⟩ k1 k2
def TN {ι:Type}(C:Cx)(ops:Array Oper)(tl:List Nat)(s:List It)(S:World->Prop)(fuel:Nat)(listed:Array Bool)(F:ι->Prop×Nat×Env×Locs×Go.Stp.Rows×Facts)(lk:Locs)(gk:Facts):Prop:=∀i,(F i).1->TX C ops tl s S fuel listed (F i).2.2.1 ((F i).2.2.2.1++lk) (F i).2.2.2.2.1 (gk++(F i).2.2.2.2.2)
theorem TK (F:ι->Prop×Nat×Env×Locs×Go.Stp.Rows×Facts)(kl kk:List Nat)(fuel2:Nat)(listed2:Array Bool)(k1:∀i,(F i).1->TX C ops tl s S fuel2 listed2 (F i).2.2.1 ((F i).2.2.2.1++lk) (F i).2.2.2.2.1 (gk++(F i).2.2.2.2.2))(k2:TN C ops tl s S fuel2 listed2 F lk gk->TX C ops tl s S fuel listed env L R Γ)(h2:ain L kl=some lk:=by exact rfl)(h3:ag6 kk Γ=some gk:=by exact rfl):TX C ops tl s S fuel listed env L R Γ:=k2 k1
theorem TU {listed2:Array Bool}{F:ι->Prop×Nat×Env×Locs×Go.Stp.Rows×Facts}(hN:TN C ops tl s S fuel listed2 F lk gk)(i:ι)(hi:(F i).1)(ks:List Nat)(hl:listed2=listed:=by kernel_rfl)(hΓ:ag6 ks Γ=some (gk++(F i).2.2.2.2.2):=by exact rfl)(he:Sub (F i).2.2.1 env:=by repeat (first|exact Sub.nil|refine Sub.cons rfl ?_))(hL:Sub ((F i).2.2.2.1++lk) L:=by repeat (first|exact Sub.nil|refine Sub.cons rfl ?_))(hR:Sub (F i).2.2.2.2.1 R:=by repeat (first|exact Sub.nil|refine Sub.cons rfl ?_)):TX C ops tl s S fuel listed env L R Γ:=TX.use (H:=⟨λi=>(F i).1,λi=>(F i).2.1,λi=>(F i).2.2.1,λi=>(F i).2.2.2.1++lk,λi=>(F i).2.2.2.2.1,λi=>gk++(F i).2.2.2.2.2⟩) hN i hi hl he hL hR ks hΓ
theorem IT {H:Head ι}(i:ι)(hi:H.pre i)(hm:H.m i<n)(ks:List Nat)(hΓ:ag6 ks Γ=some (H.Γ i):=by exact rfl)(he:Sub (H.env i) env:=by repeat (first|exact Sub.nil|refine Sub.cons rfl ?_))(hL:Sub (H.L i) L:=by repeat (first|exact Sub.nil|refine Sub.cons rfl ?_))(hR:Sub (H.R i) R:=by repeat (first|exact Sub.nil|refine Sub.cons rfl ?_)):WX C (.iter (H.I C n)::s) env L R Γ:=WX.iter i hi hm he hL hR ks hΓ
theorem T1 [GoT α](ks:List Nat)(n:Nat)(a:α)(x:GoT.X α)(hk:af4 ks Γ=some (GoT.oa a x,Γ1))(k:(∀u∈GoT.sh a x,u.oneCell'=true)->WX C s env L R ((n,MF.ol (GoT.sh a x) [a])::Γ1)):WX C s env L R Γ:=WX.turn ks n hk (λ_ hs=>au0 hs) rfl (WX.know (λ_ hΓ=>(hΓ.get n (by rw [acg,if_pos rfl]):OwL _ (GoT.sh a x) [a]).rd.one) k)
theorem T2 [GoT α]{l m:List α}(ks:List Nat)(n:Nat)(hk:af4 ks Γ=some ([MF.ol xs l,MF.ol ys m],Γ1))(k:WX C s env L R ((n,MF.ol (xs++ys) (l++m))::Γ1)):WX C s env L R Γ:=WX.turn ks n hk (λ_ hs=>au8 hs) rfl k
theorem RL (ks:List Nat)(n:Nat)(hk:af4 ks Γ=some (fs,Γ1))(ha:addF n fs Γ1=some Γ2)(k:WX C s env L R Γ2):WX C s env L R Γ:=WX.turn ks n hk (λ_ h=>h) ha k
theorem F0 (n:Nat)(α:Type)[GoT α](k:WX C s env L R ((n,MF.ol [] ([]:List α))::Γ)):WX C s env L R Γ:=WX.free n _ rfl k
theorem D0 [GoT α]{l:List α}(n i:Nat)(h:Go.Stp.look Γ i=some (MF.os p c l))(k:WX C s env L R ((n,MF.rs .der p c l)::Γ)):WX C s env L R Γ:=WX.der n _ rfl (λ_ hΓ=>(hΓ.get i h:OwSl _ _ _ _).rd) k
theorem KD0 {p:Prop}[Decidable p](d:Nat)(h:Go.Stp.look env d=some (.v (.bool (decide p))))(kt:(decide p)=true->p->WX C s ((d,.T)::env) L R Γ)(kf:(decide p)=false->¬p->WX C s ((d,.F)::env) L R Γ):WX C s env L R Γ:=WX.cases d h (λh=>kt h ((B.dt) h)) (λh=>kf h ((B.df) h))
theorem KN0 (d:Nat)(h:Go.Stp.look env d=some (.v (.bool (!b))))(kt:(!b)=true->b=false->WX C s ((d,.T)::env) L R Γ)(kf:(!b)=false->b=true->WX C s ((d,.F)::env) L R Γ):WX C s env L R Γ:=WX.cases d h (λh=>kt h ((B.nt) h)) (λh=>kf h ((B.nf) h))
theorem KE0 [BEq α][LawfulBEq α]{a b:α}(d:Nat)(h:Go.Stp.look env d=some (.v (.bool (a==b))))(kt:(a==b)=true->a=b->WX C s ((d,.T)::env) L R Γ)(kf:(a==b)=false->¬a=b->WX C s ((d,.F)::env) L R Γ):WX C s env L R Γ:=WX.cases d h (λh=>kt h ((B.et) h)) (λh=>kf h ((B.ef) h))
theorem KM0 [BEq α][LawfulBEq α]{a b:α}(d:Nat)(h:Go.Stp.look env d=some (.v (.bool (a !=b))))(kt:(a !=b)=true->¬a=b->WX C s ((d,.T)::env) L R Γ)(kf:(a !=b)=false->a=b->WX C s ((d,.F)::env) L R Γ):WX C s env L R Γ:=WX.cases d h (λh=>kt h ((B.nt') h)) (λh=>kf h ((B.nf') h))
theorem KX0 [BEq α][LawfulBEq α]{a b:α}(d:Nat)(h:Go.Stp.look env d=some (.v (.bool (!(a==b)))))(kt:(!(a==b))=true->¬a=b->WX C s ((d,.T)::env) L R Γ)(kf:(!(a==b))=false->a=b->WX C s ((d,.F)::env) L R Γ):WX C s env L R Γ:=WX.cases d h (λh=>kt h ((λh=>B.ef (B.nt h)) h)) (λh=>kf h ((λh=>B.et (B.nf h)) h))
theorem KV {c:Value}(h0:exec tt fn.ntmps R 1000 s0 env0 L0=((.ops ops (o::r)::s),env,L))(e:(gd ops env o,o.dst,Nat.blt d (cx fn w0 H0 pin Φ).fn.ntmps,o.op,ev env f,evs env args)=(some true,some d,true,.call {callee:= .value f,args:=args.toArray,argTypes:=ats},some sf,some svs))(hsf:∀bs,conc bs sf= .func (.func g) #[] (caps bs).toArray)(hc:∀ {bs:Nat->Nat} w,AllK (cx fn w0 H0 pin Φ).M (hp w) Γ->Does (cx fn w0 H0 pin Φ).P g (svs.map (conc bs)++caps bs).toArray w emp λv _=>v=c/\Q)(k:Q->WX (cx fn w0 H0 pin Φ) (.ops ops r::s) ((d,.v c)::env) L R Γ):WX ⟨Tryz.prog,fn,tt,w0,H0,pin,Φ⟩ s0 env0 L0 R Γ:=WX.run ttOk h0 (CV e hsf hc k)
theorem KF [GoT α]{a:α}{val val':GoT.X α->Value}{Γ':GoT.X α->Facts}(h0:exec tt fn.ntmps R 1000 s0 env0 L0=((.ops ops (o::r)::s),env,L))(n:Nat)(e:(gd ops env o,o.dst,Nat.blt d (cx fn w0 H0 pin Φ).fn.ntmps,o.op,ev env f,evs env args)=(some true,some d,true,.call {callee:= .value f,args:=args.toArray,argTypes:=ats},some sf,some svs))(hsf:∀bs,conc bs sf= .func (.func g) #[] (caps bs).toArray)(hc:∀ {bs:Nat->Nat} w,AllK (cx fn w0 H0 pin Φ).M (hp w) Γ->Does (cx fn w0 H0 pin Φ).P g (svs.map (conc bs)++caps bs).toArray w emp (Post w emp val (λx=>GoT.oa a x) Q))(k:∀i,Q->WX (cx fn w0 H0 pin Φ) (.ops ops r::s) ((d,.v (val' i))::env) L R (Γ' i))(hv:∀i,afb (val i)=some (val' i):=by exact λ_=>rfl)(hΓ':∀i,addF n (GoT.fa .der a i++GoT.oa a i) Γ=some (Γ' i):=by exact λ_=>rfl):WX ⟨Tryz.prog,fn,tt,w0,H0,pin,Φ⟩ s0 env0 L0 R Γ:=WX.run ttOk h0 (CF n e hsf hc k (hv:=hv) (hΓ':=hΓ'))
theorem KP {val val':ι->Value}{cs':ι->List Value}{Γ':ι->Facts}(h0:exec tt fn.ntmps R 1000 s0 env0 L0=((.ops ops (o::r)::s),env,L))(lab n:Nat)(hl:Go.Stp.look L lab=some ⟨T,cs⟩)(e:(gd ops env o,o.dst,Nat.blt d (cx fn w0 H0 pin Φ).fn.ntmps,o.op,ev env f,evs env args)=(some true,some d,true,.call {callee:= .value f,args:=args.toArray,argTypes:=ats},some sf,some svs))(hsf:∀bs,conc bs sf= .func (.func g) #[] (caps bs).toArray)(hc:∀w (bs:Nat->Nat) H,Le H (hp w)->Sep H [MF.bx (bs lab) T cs]->AllK (cx fn w0 H0 pin Φ).M (cut (hp w) H) Γ->Does (cx fn w0 H0 pin Φ).P g (svs.map (conc bs)++caps bs).toArray w H (Post w H val (λi=>MF.bx (bs lab) T (cs' i)::[]) Q))(k:∀i,Q->WX (cx fn w0 H0 pin Φ) (.ops ops r::s) ((d,.v (val' i))::env) (setL L lab (cs' i)) R (Γ' i))(hv:∀i,afb (val i)=some (val' i):=by exact λ_=>rfl)(hΓ':∀i,addF n (([]:List MF)++[]) Γ=some (Γ' i):=by exact λ_=>rfl):WX ⟨Tryz.prog,fn,tt,w0,H0,pin,Φ⟩ s0 env0 L0 R Γ:=WX.run ttOk h0 (CP lab n hl e hsf hc k (hv:=hv) (hΓ':=hΓ'))
theorem KQ [GoT α]{a:α}{val val':GoT.X α->Value}{Γ':GoT.X α->Facts}{cs':GoT.X α->List Value}(h0:exec tt fn.ntmps R 1000 s0 env0 L0=((.ops ops (o::r)::s),env,L))(lab n:Nat)(hl:Go.Stp.look L lab=some ⟨T,cs⟩)(e:(gd ops env o,o.dst,Nat.blt d (cx fn w0 H0 pin Φ).fn.ntmps,o.op,ev env f,evs env args)=(some true,some d,true,.call {callee:= .value f,args:=args.toArray,argTypes:=ats},some sf,some svs))(hsf:∀bs,conc bs sf= .func (.func g) #[] (caps bs).toArray)(hc:∀w (bs:Nat->Nat) H,Le H (hp w)->Sep H [MF.bx (bs lab) T cs]->AllK (cx fn w0 H0 pin Φ).M (cut (hp w) H) Γ->Does (cx fn w0 H0 pin Φ).P g (svs.map (conc bs)++caps bs).toArray w H (Post w H val (λi=>MF.bx (bs lab) T (cs' i)::GoT.oa a i) Q))(k:∀i,Q->WX (cx fn w0 H0 pin Φ) (.ops ops r::s) ((d,.v (val' i))::env) (setL L lab (cs' i)) R (Γ' i))(hv:∀i,afb (val i)=some (val' i):=by exact λ_=>rfl)(hΓ':∀i,addF n (GoT.fa .der a i++GoT.oa a i) Γ=some (Γ' i):=by exact λ_=>rfl):WX ⟨Tryz.prog,fn,tt,w0,H0,pin,Φ⟩ s0 env0 L0 R Γ:=WX.run ttOk h0 (CQ lab n hl e hsf hc k (hv:=hv) (hΓ':=hΓ'))
theorem KS (h0:exec tt fn.ntmps R 1000 s0 env0 L0=((.ops ops (o::r)::s),env,L))(hg:gd ops env o=some true)(hd:o.dst=some d)(hlt:Nat.blt d (cx fn w0 H0 pin Φ).fn.ntmps=true)(hl:∀G,AllK (cx fn w0 H0 pin Φ).M G Γ->Looks (cx fn w0 H0 pin Φ) env L R G o sv)(k:WX (cx fn w0 H0 pin Φ) (.ops ops r::s) ((d,sv)::env) L R Γ):WX ⟨Tryz.prog,fn,tt,w0,H0,pin,Φ⟩ s0 env0 L0 R Γ:=WX.run ttOk h0 (WX.see hg hd hlt hl k)
theorem LM {c:Code}(h0:exec tt fn.ntmps R 1000 s0 env0 L0=((.code (.loop c)::s),env,L))(i:ι)(F:ι->Prop×Nat×Env×Locs×Go.Stp.Rows×Facts)(hi:(F i).1)(ke kl kk ks:List Nat)(k:∀i,(F i).1->WX (cx fn w0 H0 pin Φ) (.code c:: .iter (Head.I ⟨λi=>(F i).1,λi=>(F i).2.1,λi=>(F i).2.2.1++ek,λi=>(F i).2.2.2.1++lk,λi=>(F i).2.2.2.2.1,λi=>gk++(F i).2.2.2.2.2⟩ (cx fn w0 H0 pin Φ) (F i).2.1)::s) ((F i).2.2.1++ek) ((F i).2.2.2.1++lk) (F i).2.2.2.2.1 (gk++(F i).2.2.2.2.2))(h1:ain env ke=some ek:=by exact rfl)(h2:ain L kl=some lk:=by exact rfl)(h3:ag6 kk Γ=some gk:=by exact rfl)(hΓ:ag6 ks Γ=some (gk++(F i).2.2.2.2.2):=by exact rfl)(he:Sub (F i).2.2.1 env:=by repeat (first|exact Sub.nil|refine Sub.cons rfl ?_))(hL:Sub (F i).2.2.2.1 L:=by repeat (first|exact Sub.nil|refine Sub.cons rfl ?_))(hR:Sub (F i).2.2.2.2.1 R:=by repeat (first|exact Sub.nil|refine Sub.cons rfl ?_)):WX ⟨Tryz.prog,fn,tt,w0,H0,pin,Φ⟩ s0 env0 L0 R Γ:=WX.run ttOk h0 (LK i F hi ke kl kk ks k (h1:=h1) (h2:=h2) (h3:=h3) (hΓ:=hΓ) (he:=he) (hL:=hL) (hR:=hR))
theorem KW {c:Value}(h0:exec tt fn.ntmps R 1000 s0 env0 L0=((.ops ops (o::r)::s),env,L))(hg:gd ops env o=some true)(hd:o.dst=some d)(hlt:Nat.blt d (cx fn w0 H0 pin Φ).fn.ntmps=true)(ho:o.op= .call {callee:= .value f,args:=args.toArray,argTypes:=ats})(hf:ev env f=some sf)(hsf:∀bs,conc bs sf= .func (.func g) #[] (caps bs).toArray)(hargs:evs env args=some svs)(hc:∀w G bs,HInv (cx fn w0 H0 pin Φ) w G bs L R->AllK (cx fn w0 H0 pin Φ).M (hp w) Γ->Does (cx fn w0 H0 pin Φ).P g (svs.map (conc bs)++caps bs).toArray w emp λv _=>v=c/\Q)(k:Q->WX (cx fn w0 H0 pin Φ) (.ops ops r::s) ((d,.v c)::env) L R Γ):WX ⟨Tryz.prog,fn,tt,w0,H0,pin,Φ⟩ s0 env0 L0 R Γ:=WX.run ttOk h0 (WX.callV hg hd hlt ho hf hsf hargs hc k)
theorem KG {val val':ι->Value}{gs ds:ι->List MF}{Γ':ι->Facts}(h0:exec tt fn.ntmps R 1000 s0 env0 L0=((.ops ops (o::r)::s),env,L))(n:Nat)(hds:∀i h,Sep h (gs i)->All h (ds i))(hdk:∀i,∀f∈ds i,f.k= .der)(hg:gd ops env o=some true)(hd:o.dst=some d)(hlt:Nat.blt d (cx fn w0 H0 pin Φ).fn.ntmps=true)(ho:o.op= .call {callee:= .value f,args:=args.toArray,argTypes:=ats})(hf:ev env f=some sf)(hsf:∀bs,conc bs sf= .func (.func g) #[] (caps bs).toArray)(hargs:evs env args=some svs)(hc:∀w G bs,HInv (cx fn w0 H0 pin Φ) w G bs L R->AllK (cx fn w0 H0 pin Φ).M (hp w) Γ->Does (cx fn w0 H0 pin Φ).P g (svs.map (conc bs)++caps bs).toArray w emp (Post w emp val gs Q))(hv:∀i,afb (val i)=some (val' i))(hΓ':∀i,addF n (ds i++gs i) Γ=some (Γ' i))(k:∀i,Q->WX (cx fn w0 H0 pin Φ) (.ops ops r::s) ((d,.v (val' i))::env) L R (Γ' i)):WX ⟨Tryz.prog,fn,tt,w0,H0,pin,Φ⟩ s0 env0 L0 R Γ:=WX.run ttOk h0 (WX.callF n hds hdk hg hd hlt ho hf hsf hargs hc hv hΓ' k)
theorem ITr {H:Head ι}(h0:exec tt fn.ntmps R 1000 s0 env0 L0=((.iter (H.I (cx fn w0 H0 pin Φ) n)::s),env,L))(i:ι)(hi:H.pre i)(hm:H.m i<n)(ks:List Nat)(hΓ:ag6 ks Γ=some (H.Γ i):=by exact rfl)(he:Sub (H.env i) env:=by repeat (first|exact Sub.nil|refine Sub.cons rfl ?_))(hL:Sub (H.L i) L:=by repeat (first|exact Sub.nil|refine Sub.cons rfl ?_))(hR:Sub (H.R i) R:=by repeat (first|exact Sub.nil|refine Sub.cons rfl ?_)):WX ⟨Tryz.prog,fn,tt,w0,H0,pin,Φ⟩ s0 env0 L0 R Γ:=WX.run ttOk h0 (IT i hi hm ks (hΓ:=hΓ) (he:=he) (hL:=hL) (hR:=hR))
theorem R6r (h0:exec tt fn.ntmps R 1000 s0 env0 L0=(.code .ret::s,env,L))(h:resV tt env L fn.results.toList=some vs)(q:Q)(e:tup vs=v:=by exact rfl):WX ⟨Tryz.prog,fn,tt,w0,H,pin,λrv _=>rv=v/\Q⟩ s0 env0 L0 R Γ:=WX.run ttOk h0 (R6 h q (e:=e))
theorem R4r (h0:exec tt fn.ntmps R 1000 s0 env0 L0=(.code .ret::s,env,L))(h:resV tt env L fn.results.toList=some [.bool b])(k:e=b):WX ⟨Tryz.prog,fn,tt,w0,H,pin,λrv _=>rv= .bool e/\True⟩ s0 env0 L0 R Γ:=WX.run ttOk h0 (R4 h k)
theorem zI [GoT α]{l:List α}(ℓ:Nat)(i:Nat)(hi:i<l.length)(k:∀ad,p=some ad->WX (cx fn w0 H0 pin Φ) (.ops ops r::s) ((d,.e (some ad) i kk 0)::env) L R Γ)(ht:ad6 (cx fn w0 H0 pin Φ).P (cx fn w0 H0 pin Φ).tt:=by exact ttOk)(hℓ:Go.Stp.look Γ ℓ=some (MF.rs kd p c l):=by exact rfl)(hg:gd ops env o=some true:=by exact rfl)(hd:o.dst=some d:=by exact rfl)(hlt:Nat.blt d (cx fn w0 H0 pin Φ).fn.ntmps=true:=by exact rfl)(ho:o.op= .indexAddr T x y:=by exact rfl)(hx:ev env x=some (.v (.slice p n c)):=by exact rfl)(hy:ev env y=some (.v (.int .i64 m)):=by exact rfl)(hk:ahc (cx fn w0 H0 pin Φ).tt T=some kk:=by exact rfl)(hn:n=l.length:=by exact rfl)(hm:m=(i:Int):=by exact rfl):WX (cx fn w0 H0 pin Φ) (.ops ops (o::r)::s) env L R Γ:=WX.idx (ℓ:=ℓ) (i:=i) (ht:=ht) (hg:=hg) (hd:=hd) (hlt:=hlt) (ho:=ho) (hx:=hx) (hy:=hy) (hk:=hk) (hℓ:=hℓ) (hn:=hn) (hm:=hm) (hi:=hi) (k:=k)
theorem yI [GoT α]{l:List α}(ℓ:Nat)(i:Nat)(hi:i<l.length)(k:∀ad,p=some ad->WX (cx fn w0 H0 pin Φ) (.ops ops r::s) ((d,.e (some ad) i kk 0)::env) L R Γ)(h0:exec tt fn.ntmps R 1000 s0 env0 L0=((.ops ops (o::r)::s),env,L):=by exact rfl)(ht:ad6 (cx fn w0 H0 pin Φ).P (cx fn w0 H0 pin Φ).tt:=by exact ttOk)(hℓ:Go.Stp.look Γ ℓ=some (MF.rs kd p c l):=by exact rfl)(hg:gd ops env o=some true:=by exact rfl)(hd:o.dst=some d:=by exact rfl)(hlt:Nat.blt d (cx fn w0 H0 pin Φ).fn.ntmps=true:=by exact rfl)(ho:o.op= .indexAddr T x y:=by exact rfl)(hx:ev env x=some (.v (.slice p n c)):=by exact rfl)(hy:ev env y=some (.v (.int .i64 m)):=by exact rfl)(hk:ahc (cx fn w0 H0 pin Φ).tt T=some kk:=by exact rfl)(hn:n=l.length:=by exact rfl)(hm:m=(i:Int):=by exact rfl):WX (cx fn w0 H0 pin Φ) s0 env0 L0 R Γ:=WX.run ttOk h0 (WX.idx (ℓ:=ℓ) (i:=i) (ht:=ht) (hg:=hg) (hd:=hd) (hlt:=hlt) (ho:=ho) (hx:=hx) (hy:=hy) (hk:=hk) (hℓ:=hℓ) (hn:=hn) (hm:=hm) (hi:=hi) (k:=k))
theorem zL [GoT α]{l:List α}{val:GoT.X α->Value}{Γ':GoT.X α->Facts}(ℓ:Nat)(n:Nat)(a:α)(ha:l[i]? =some a)(k:∀x,WX (cx fn w0 H0 pin Φ) (.ops ops r::s) ((d,.v (val x))::env) L R (Γ' x))(ht:ad6 (cx fn w0 H0 pin Φ).P (cx fn w0 H0 pin Φ).tt:=by exact ttOk)(hℓ:Go.Stp.look Γ ℓ=some (MF.rs kd (some ad) c l):=by exact rfl)(hg:gd ops env o=some true:=by exact rfl)(hd:o.dst=some d:=by exact rfl)(hlt:Nat.blt d (cx fn w0 H0 pin Φ).fn.ntmps=true:=by exact rfl)(ho:o.op= .load T x:=by exact rfl)(hx:ev env x=some (.e (some ad) i (GoT.k α) off):=by exact rfl)(hT:Go.Stp.look (cx fn w0 H0 pin Φ).tt T=some ti:=by exact rfl)(hkd:kdL kd=false:=by exact rfl)(hv:∀x,asm ti (GoT.sh a x) off=some (val x):=by exact λ_=>rfl)(hf:∀x,addF n (GoT.fa kd a x) Γ=some (Γ' x):=by exact λ_=>rfl):WX (cx fn w0 H0 pin Φ) (.ops ops (o::r)::s) env L R Γ:=WX.ldE (ℓ:=ℓ) (n:=n) (a:=a) (ht:=ht) (hg:=hg) (hd:=hd) (hlt:=hlt) (ho:=ho) (hx:=hx) (hT:=hT) (hℓ:=hℓ) (hkd:=hkd) (ha:=ha) (hv:=hv) (hf:=hf) (k:=k)
theorem yL [GoT α]{l:List α}{val:GoT.X α->Value}{Γ':GoT.X α->Facts}(ℓ:Nat)(n:Nat)(a:α)(ha:l[i]? =some a)(k:∀x,WX (cx fn w0 H0 pin Φ) (.ops ops r::s) ((d,.v (val x))::env) L R (Γ' x))(h0:exec tt fn.ntmps R 1000 s0 env0 L0=((.ops ops (o::r)::s),env,L):=by exact rfl)(ht:ad6 (cx fn w0 H0 pin Φ).P (cx fn w0 H0 pin Φ).tt:=by exact ttOk)(hℓ:Go.Stp.look Γ ℓ=some (MF.rs kd (some ad) c l):=by exact rfl)(hg:gd ops env o=some true:=by exact rfl)(hd:o.dst=some d:=by exact rfl)(hlt:Nat.blt d (cx fn w0 H0 pin Φ).fn.ntmps=true:=by exact rfl)(ho:o.op= .load T x:=by exact rfl)(hx:ev env x=some (.e (some ad) i (GoT.k α) off):=by exact rfl)(hT:Go.Stp.look (cx fn w0 H0 pin Φ).tt T=some ti:=by exact rfl)(hkd:kdL kd=false:=by exact rfl)(hv:∀x,asm ti (GoT.sh a x) off=some (val x):=by exact λ_=>rfl)(hf:∀x,addF n (GoT.fa kd a x) Γ=some (Γ' x):=by exact λ_=>rfl):WX (cx fn w0 H0 pin Φ) s0 env0 L0 R Γ:=WX.run ttOk h0 (WX.ldE (ℓ:=ℓ) (n:=n) (a:=a) (ht:=ht) (hg:=hg) (hd:=hd) (hlt:=hlt) (ho:=ho) (hx:=hx) (hT:=hT) (hℓ:=hℓ) (hkd:=hkd) (ha:=ha) (hv:=hv) (hf:=hf) (k:=k))
theorem zDI [GoT α]{q:Nat}{l:List α}(i:Nat)(ℓ:Nat)(j:Nat)(h0:AllK (cx fn w0 H0 pin Φ).M G0 Γ0)(hq:q=l.length)(hj:j<l.length)(k:∀ad,p=some ad->DX (cx fn w0 H0 pin Φ) ops tl s bs G0 fuel (listed.setIfInBounds i true) ((d,.e (some ad) j kk 0)::env) L R Γ)(ht:ad6 (cx fn w0 H0 pin Φ).P (cx fn w0 H0 pin Φ).tt:=by exact ttOk)(hℓ:Go.Stp.look Γ0 ℓ=some (MF.rs kd p c l):=by exact rfl)(hb:mayB ops tl listed i=true:=by kernel_rfl)(hi:getO ops.toList i=some o:=by exact rfl)(hg:gd ops env o=some true:=by exact rfl)(hd:o.dst=some d:=by exact rfl)(hlt:Nat.blt d (cx fn w0 H0 pin Φ).fn.ntmps=true:=by exact rfl)(ho:o.op= .indexAddr T x y:=by exact rfl)(hx:ev env x=some (.v (.slice p q c)):=by exact rfl)(hy:ev env y=some (.v (.int .i64 m)):=by exact rfl)(hk:ahc (cx fn w0 H0 pin Φ).tt T=some kk:=by exact rfl)(hm:m=(j:Int):=by exact rfl):DX (cx fn w0 H0 pin Φ) ops tl s bs G0 (fuel+1) listed env L R Γ:=DX.idx (i:=i) (ℓ:=ℓ) (j:=j) (ht:=ht) (h0:=h0) (hb:=hb) (hi:=hi) (hg:=hg) (hd:=hd) (hlt:=hlt) (ho:=ho) (hx:=hx) (hy:=hy) (hk:=hk) (hℓ:=hℓ) (hq:=hq) (hm:=hm) (hj:=hj) (k:=k)
theorem zDL [GoT α]{j:Nat}{l:List α}{val:GoT.X α->Value}{Γ':GoT.X α->Facts}(i:Nat)(ℓ:Nat)(m:Nat)(a:α)(h0:AllK (cx fn w0 H0 pin Φ).M G0 Γ0)(ha:l[j]? =some a)(k:∀x,DX (cx fn w0 H0 pin Φ) ops tl s bs G0 fuel (listed.setIfInBounds i true) ((d,.v (val x))::env) L R (Γ' x))(ht:ad6 (cx fn w0 H0 pin Φ).P (cx fn w0 H0 pin Φ).tt:=by exact ttOk)(hℓ:Go.Stp.look Γ0 ℓ=some (MF.rs kd (some ad) c l):=by exact rfl)(hb:mayB ops tl listed i=true:=by kernel_rfl)(hi:getO ops.toList i=some o:=by exact rfl)(hg:gd ops env o=some true:=by exact rfl)(hd:o.dst=some d:=by exact rfl)(hlt:Nat.blt d (cx fn w0 H0 pin Φ).fn.ntmps=true:=by exact rfl)(ho:o.op= .load T x:=by exact rfl)(hx:ev env x=some (.e (some ad) j (GoT.k α) off):=by exact rfl)(hT:Go.Stp.look (cx fn w0 H0 pin Φ).tt T=some ti:=by exact rfl)(hv:∀x,asm ti (GoT.sh a x) off=some (val x):=by exact λ_=>rfl)(hf:∀x,addF m (GoT.fa .der a x) Γ=some (Γ' x):=by exact λ_=>rfl):DX (cx fn w0 H0 pin Φ) ops tl s bs G0 (fuel+1) listed env L R Γ:=DX.ldE (i:=i) (ℓ:=ℓ) (m:=m) (a:=a) (ht:=ht) (h0:=h0) (hb:=hb) (hi:=hi) (hg:=hg) (hd:=hd) (hlt:=hlt) (ho:=ho) (hx:=hx) (hT:=hT) (hℓ:=hℓ) (ha:=ha) (hv:=hv) (hf:=hf) (k:=k)
theorem zO [GoT α]{l:List α}{e:α}{cs:GoT.X α->List Value}{R':List Value->List Value->GoT.X α->Go.Stp.Rows}{Γ':List Value->List Value->GoT.X α->Facts}(ρ:Nat)(ℓ:Nat)(n:Nat)(i:Nat)(hi:l[i]? =some e)(k:∀A B x,A.length=i*GoT.k α->B.length=(l.length- (i+1))*GoT.k α->WX C s env L (R' A B x) (Γ' A B x))(hρ:Go.Stp.look R ρ=some row:=by exact rfl)(hℓ:af4 [ℓ] Γ=some ([MF.ol row.xs l],Γ1):=by exact rfl)(hk:row.k=GoT.k α:=by exact rfl)(hcs:∀x,al6 (GoT.sh e x)=some (cs x):=by exact λ_=>rfl)(hR:∀A B x,ah4 R ρ ⟨row.k,row.p,row.n,row.c,A++cs x++B⟩=some (R' A B x):=by exact λ_ _ _=>rfl)(hΓ':∀A B x,addF n (GoT.fa .der e x++(GoT.oa e x++[MF.ol A (l.take i),MF.ol B (l.drop (i+1))])) Γ1=some (Γ' A B x):=by exact λ_ _ _=>rfl):WX C s env L R Γ:=WX.opnE (ρ:=ρ) (ℓ:=ℓ) (n:=n) (i:=i) (hρ:=hρ) (hk:=hk) (hℓ:=hℓ) (hi:=hi) (hcs:=hcs) (hR:=hR) (hΓ':=hΓ') (k:=k)
theorem zA (ρ:Nat)(hA:A.length=i*kk)(hn:i<row.n)(k:WX (cx fn w0 H0 pin Φ) (.ops ops r::s) ((d,.v v)::env) L R Γ)(ht:ad6 (cx fn w0 H0 pin Φ).P (cx fn w0 H0 pin Φ).tt:=by exact ttOk)(hρ:Go.Stp.look R ρ=some row:=by exact rfl)(hg:gd ops env o=some true:=by exact rfl)(hd:o.dst=some d:=by exact rfl)(hlt:Nat.blt d (cx fn w0 H0 pin Φ).fn.ntmps=true:=by exact rfl)(ho:o.op= .load T x:=by exact rfl)(hx:ev env x=some (.e (some ad) i kk off):=by exact rfl)(hT:Go.Stp.look (cx fn w0 H0 pin Φ).tt T=some ti:=by exact rfl)(hp:row.p=some ad:=by exact rfl)(hk:row.k=kk:=by exact rfl)(hxs:row.xs=A++cs++B:=by exact rfl)(hv:asm ti cs off=some v:=by exact rfl):WX (cx fn w0 H0 pin Φ) (.ops ops (o::r)::s) env L R Γ:=WX.ldA (ρ:=ρ) (ht:=ht) (hg:=hg) (hd:=hd) (hlt:=hlt) (ho:=ho) (hx:=hx) (hT:=hT) (hρ:=hρ) (hp:=hp) (hk:=hk) (hxs:=hxs) (hA:=hA) (hn:=hn) (hv:=hv) (k:=k)
theorem zS (ρ:Nat)(hA:A.length=i*kk)(hi:i<row.n)(k:WX (cx fn w0 H0 pin Φ) (.ops ops r::s) env L R' Γ)(ht:ad6 (cx fn w0 H0 pin Φ).P (cx fn w0 H0 pin Φ).tt:=by exact ttOk)(hρ:Go.Stp.look R ρ=some row:=by exact rfl)(hg:gd ops env o=some true:=by exact rfl)(hd:o.dst=none:=by exact rfl)(ho:o.op= .store T x y:=by exact rfl)(hx:ev env x=some (.e (some ad) i kk off):=by exact rfl)(hy:ev env y=some sv:=by exact rfl)(hv:valO sv=some v:=by exact rfl)(hT:Go.Stp.look (cx fn w0 H0 pin Φ).tt T=some ti:=by exact rfl)(hvs:ai5 ti v=some vs:=by exact rfl)(hlen:Nat.beq vs.length ti.size=true:=by exact rfl)(hone:oneB vs=true:=by exact rfl)(hp:row.p=some ad:=by exact rfl)(hk:row.k=kk:=by exact rfl)(hxs:row.xs=A++cs++B:=by exact rfl)(hfit:Nat.ble (off+vs.length) kk=true:=by exact rfl)(hck:Nat.beq cs.length kk=true:=by exact rfl)(hfree:af6 ρ env=true:=by exact rfl)(hsp:afx cs off vs=some cs':=by exact rfl)(hR:ah4 R ρ ⟨row.k,row.p,row.n,row.c,A++cs'++B⟩=some R':=by exact rfl)(hne:vs≠ []:=by simp):WX (cx fn w0 H0 pin Φ) (.ops ops (o::r)::s) env L R Γ:=WX.stA (ρ:=ρ) (ht:=ht) (hg:=hg) (hd:=hd) (ho:=ho) (hx:=hx) (hy:=hy) (hv:=hv) (hT:=hT) (hvs:=hvs) (hlen:=hlen) (hone:=hone) (hρ:=hρ) (hp:=hp) (hk:=hk) (hxs:=hxs) (hA:=hA) (hi:=hi) (hfit:=hfit) (hck:=hck) (hfree:=hfree) (hsp:=hsp) (hne:=hne) (hR:=hR) (k:=k)
theorem zR (ρ:Nat)(i:Nat)(hi:i<row.n)(k:∀ad,row.p=some ad->WX (cx fn w0 H0 pin Φ) (.ops ops r::s) ((d,.e (some ad) i kk 0)::env) L R Γ)(ht:ad6 (cx fn w0 H0 pin Φ).P (cx fn w0 H0 pin Φ).tt:=by exact ttOk)(hρ:Go.Stp.look R ρ=some row:=by exact rfl)(hg:gd ops env o=some true:=by exact rfl)(hd:o.dst=some d:=by exact rfl)(hlt:Nat.blt d (cx fn w0 H0 pin Φ).fn.ntmps=true:=by exact rfl)(ho:o.op= .indexAddr T x y:=by exact rfl)(hx:ev env x=some (.v (.slice row.p row.n row.c)):=by exact rfl)(hy:ev env y=some (.v (.int .i64 m)):=by exact rfl)(hk:ahc (cx fn w0 H0 pin Φ).tt T=some kk:=by exact rfl)(hm:m=(i:Int):=by exact rfl):WX (cx fn w0 H0 pin Φ) (.ops ops (o::r)::s) env L R Γ:=WX.idxR (ρ:=ρ) (i:=i) (ht:=ht) (hg:=hg) (hd:=hd) (hlt:=hlt) (ho:=ho) (hx:=hx) (hy:=hy) (hk:=hk) (hρ:=hρ) (hm:=hm) (hi:=hi) (k:=k)
theorem zP {R':Option Addr->Nat->Go.Stp.Rows}(ρ:Nat)(σ:Nat)(n':Nat)(hone:∀u∈src.xs,u.oneCell'=true)(k:∀p' c',WX (cx fn w0 H0 pin Φ) (.ops ops r::s) ((d,.v (.slice p' n' c'))::env) L (R' p' c') Γ)(ht:ad6 (cx fn w0 H0 pin Φ).P (cx fn w0 H0 pin Φ).tt:=by exact ttOk)(hρ:Go.Stp.look R ρ=some row:=by exact rfl)(hσ:Go.Stp.look R σ=some src:=by exact rfl)(hg:gd ops env o=some true:=by exact rfl)(hd:o.dst=some d:=by exact rfl)(hlt:Nat.blt d (cx fn w0 H0 pin Φ).fn.ntmps=true:=by exact rfl)(ho:o.op= .call {callee:= .builtin .append,args:= #[x,y],argTypes:= #[T,T]}:=by exact rfl)(hx:ev env x=some (.v (.slice row.p row.n row.c)):=by exact rfl)(hy:ev env y=some (.v (.slice src.p src.n src.c)):=by exact rfl)(hap:appO (cx fn w0 H0 pin Φ).tt T=some (kk,by_,z):=by exact rfl)(hz:z.cells.size=kk:=by exact rfl)(hkk:row.k=kk:=by exact rfl)(hks:src.k=kk:=by exact rfl)(hfree:af6 ρ env=true:=by exact rfl)(hR:∀p' c',ah4 R ρ ⟨row.k,p',n',c',row.xs++src.xs⟩=some (R' p' c'):=by exact λ_ _=>rfl)(hn:row.n+src.n=n':=by first|(simp;done)|(rw [List.length_append];rfl)|(simp;omega))(hroom:n'*by_<=140737488355328:=by first|assumption|omega|(simp;omega))(hmax:n'<=9223372036854775807:=by first|assumption|omega|(simp;omega)):WX (cx fn w0 H0 pin Φ) (.ops ops (o::r)::s) env L R Γ:=WX.appR1 (ρ:=ρ) (σ:=σ) (n':=n') (ht:=ht) (hg:=hg) (hd:=hd) (hlt:=hlt) (ho:=ho) (hx:=hx) (hy:=hy) (hap:=hap) (hz:=hz) (hρ:=hρ) (hσ:=hσ) (hkk:=hkk) (hks:=hks) (hfree:=hfree) (hone:=hone) (hn:=hn) (hroom:=hroom) (hmax:=hmax) (hR:=hR) (k:=k)
theorem zG {q:Nat}[GoT α]{l:List α}{R':List Value->Option Addr->Nat->Go.Stp.Rows}(ρ:Nat)(ℓ:Nat)(n:Nat)(n':Nat)(hq:q=l.length)(k:∀xs p' c',WX (cx fn w0 H0 pin Φ) (.ops ops r::s) ((d,.v (.slice p' n' c'))::env) L (R' xs p' c') ((n,MF.rl .der xs l)::Γ))(ht:ad6 (cx fn w0 H0 pin Φ).P (cx fn w0 H0 pin Φ).tt:=by exact ttOk)(hρ:Go.Stp.look R ρ=some row:=by exact rfl)(hℓ:Go.Stp.look Γ ℓ=some (MF.rs kd p c l):=by exact rfl)(hg:gd ops env o=some true:=by exact rfl)(hd:o.dst=some d:=by exact rfl)(hlt:Nat.blt d (cx fn w0 H0 pin Φ).fn.ntmps=true:=by exact rfl)(ho:o.op= .call {callee:= .builtin .append,args:= #[x,y],argTypes:= #[T,T]}:=by exact rfl)(hx:ev env x=some (.v (.slice row.p row.n row.c)):=by exact rfl)(hy:ev env y=some (.v (.slice p q c)):=by exact rfl)(hap:appO (cx fn w0 H0 pin Φ).tt T=some (GoT.k α,by_,z):=by exact rfl)(hz:z.cells.size=GoT.k α:=by exact rfl)(hkk:row.k=GoT.k α:=by exact rfl)(hfree:af6 ρ env=true:=by exact rfl)(hR:∀xs p' c',ah4 R ρ ⟨row.k,p',n',c',row.xs++xs⟩=some (R' xs p' c'):=by exact λ_ _ _=>rfl)(hn:row.n+l.length=n':=by first|(simp;done)|(rw [List.length_append];rfl)|(simp;omega))(hroom:n'*by_<=140737488355328:=by first|assumption|omega|(simp;omega))(hmax:n'<=9223372036854775807:=by first|assumption|omega|(simp;omega)):WX (cx fn w0 H0 pin Φ) (.ops ops (o::r)::s) env L R Γ:=WX.appG1 (ρ:=ρ) (ℓ:=ℓ) (n:=n) (n':=n') (ht:=ht) (hg:=hg) (hd:=hd) (hlt:=hlt) (ho:=ho) (hx:=hx) (hy:=hy) (hq:=hq) (hap:=hap) (hz:=hz) (hρ:=hρ) (hkk:=hkk) (hfree:=hfree) (hℓ:=hℓ) (hn:=hn) (hroom:=hroom) (hmax:=hmax) (hR:=hR) (k:=k)
theorem zE [GoT α]{l:List α}(ρ:Nat)(ℓ:Nat)(n:Nat)(k:WX C s env L R' ((n,MF.rs .der row.p row.c l)::(n+1,MF.os row.p row.c l)::Γ1))(hρ:Go.Stp.look R ρ=some row:=by exact rfl)(hℓ:af4 [ℓ] Γ=some ([MF.ol row.xs l],Γ1):=by exact rfl)(hk:row.k=GoT.k α:=by exact rfl)(hn:row.n=l.length:=by exact rfl)(hR:am7 R ρ=some R':=by exact rfl):WX C s env L R Γ:=WX.seal (ρ:=ρ) (ℓ:=ℓ) (n:=n) (hρ:=hρ) (hk:=hk) (hn:=hn) (hℓ:=hℓ) (hR:=hR) (k:=k)
theorem yE [GoT α]{l:List α}(ρ:Nat)(ℓ:Nat)(n:Nat)(k:WX (cx fn w0 H0 pin Φ) s env L R' ((n,MF.rs .der row.p row.c l)::(n+1,MF.os row.p row.c l)::Γ1))(h0:exec tt fn.ntmps R 1000 s0 env0 L0=(s,env,L):=by exact rfl)(hρ:Go.Stp.look R ρ=some row:=by exact rfl)(hℓ:af4 [ℓ] Γ=some ([MF.ol row.xs l],Γ1):=by exact rfl)(hk:row.k=GoT.k α:=by exact rfl)(hn:row.n=l.length:=by exact rfl)(hR:am7 R ρ=some R':=by exact rfl):WX (cx fn w0 H0 pin Φ) s0 env0 L0 R Γ:=WX.run ttOk h0 (WX.seal (ρ:=ρ) (ℓ:=ℓ) (n:=n) (hρ:=hρ) (hk:=hk) (hn:=hn) (hℓ:=hℓ) (hR:=hR) (k:=k))
theorem zB (k:∀p,WX (cx fn w0 H0 pin Φ) (.ops ops r::s) ((d,.v (.slice p len len))::env) L ((d,⟨kk,p,len,len,cs⟩)::R) Γ)(ht:ad6 (cx fn w0 H0 pin Φ).P (cx fn w0 H0 pin Φ).tt:=by exact ttOk)(hg:gd ops env o=some true:=by exact rfl)(hd:o.dst=some d:=by exact rfl)(hlt:Nat.blt d (cx fn w0 H0 pin Φ).fn.ntmps=true:=by exact rfl)(ho:o.op= .buildSlice T len parts:=by exact rfl)(hb:bldO (cx fn w0 H0 pin Φ).tt env T len parts.toList=some (kk,cs):=by exact rfl)(hlen:Nat.ble len 16777216=true:=by exact rfl)(hnl:afn d env L R=false:=by exact rfl):WX (cx fn w0 H0 pin Φ) (.ops ops (o::r)::s) env L R Γ:=WX.bld (ht:=ht) (hg:=hg) (hd:=hd) (hlt:=hlt) (ho:=ho) (hb:=hb) (hlen:=hlen) (hnl:=hnl) (k:=k)
theorem yB (k:∀p,WX (cx fn w0 H0 pin Φ) (.ops ops r::s) ((d,.v (.slice p len len))::env) L ((d,⟨kk,p,len,len,cs⟩)::R) Γ)(h0:exec tt fn.ntmps R 1000 s0 env0 L0=((.ops ops (o::r)::s),env,L):=by exact rfl)(ht:ad6 (cx fn w0 H0 pin Φ).P (cx fn w0 H0 pin Φ).tt:=by exact ttOk)(hg:gd ops env o=some true:=by exact rfl)(hd:o.dst=some d:=by exact rfl)(hlt:Nat.blt d (cx fn w0 H0 pin Φ).fn.ntmps=true:=by exact rfl)(ho:o.op= .buildSlice T len parts:=by exact rfl)(hb:bldO (cx fn w0 H0 pin Φ).tt env T len parts.toList=some (kk,cs):=by exact rfl)(hlen:Nat.ble len 16777216=true:=by exact rfl)(hnl:afn d env L R=false:=by exact rfl):WX (cx fn w0 H0 pin Φ) s0 env0 L0 R Γ:=WX.run ttOk h0 (WX.bld (ht:=ht) (hg:=hg) (hd:=hd) (hlt:=hlt) (ho:=ho) (hb:=hb) (hlen:=hlen) (hnl:=hnl) (k:=k))
theorem zN [GoT α]{l:List α}(ρ:Nat)(ℓ:Nat)(n:Nat)(k:∀xs,xs.length=l.length*kk->WX C s env L ((ρ,⟨kk,p,l.length,c,xs⟩)::R) ((n,MF.ol xs l)::Γ1))(hℓ:af4 [ℓ] Γ=some ([MF.os p c l],Γ1):=by exact rfl)(hkk:kk=GoT.k α:=by exact rfl)(hnl:afn ρ env L R=false:=by exact rfl):WX C s env L R Γ:=WX.opn (ρ:=ρ) (ℓ:=ℓ) (n:=n) (hkk:=hkk) (hℓ:=hℓ) (hnl:=hnl) (k:=k)
theorem zU (ks:List Nat)(n:Nat)(k:WX C s env L R Γ2)(hk:af4 ks Γ=some (fs,Γ1):=by exact rfl)(ha:addF n fs Γ1=some Γ2:=by exact rfl):WX C s env L R Γ:=RL (ks:=ks) (n:=n) (hk:=hk) (ha:=ha) (k:=k)
theorem zT [GoT α](ks:List Nat)(n:Nat)(a:α)(x:GoT.X α)(k:(∀u∈GoT.sh a x,u.oneCell'=true)->WX C s env L R ((n,MF.ol (GoT.sh a x) [a])::Γ1))(hk:af4 ks Γ=some (GoT.oa a x,Γ1):=by exact rfl):WX C s env L R Γ:=T1 (ks:=ks) (n:=n) (a:=a) (x:=x) (hk:=hk) (k:=k)
theorem zV [GoT α]{l m:List α}(ks:List Nat)(n:Nat)(k:WX C s env L R ((n,MF.ol (xs++ys) (l++m))::Γ1))(hk:af4 ks Γ=some ([MF.ol xs l,MF.ol ys m],Γ1):=by exact rfl):WX C s env L R Γ:=T2 (ks:=ks) (n:=n) (hk:=hk) (k:=k)
theorem zW [GoT α]{l:List α}(n:Nat)(i:Nat)(k:WX C s env L R ((n,MF.rs .der p c l)::Γ))(h:Go.Stp.look Γ i=some (MF.os p c l):=by exact rfl):WX C s env L R Γ:=D0 (n:=n) (i:=i) (h:=h) (k:=k)
theorem zX {val:ι->Value}{gs:ι->List MF}(ks:List Nat)(i:ι)(hq:Q)(hk:af4 ks Γ=some (fs,Γ1):=by exact rfl)(h:resV tt env L fn.results.toList=some vs:=by exact rfl)(hv:tup vs=val i:=by exact rfl)(hf:gs i=fs:=by exact rfl):WX ⟨Tryz.prog,fn,tt,w0,H,pin,Post w0 H val gs Q⟩ (.code .ret::s) env L R Γ:=R8 (h:=h) (ks:=ks) (i:=i) (hk:=hk) (hv:=hv) (hf:=hf) (hq:=hq)
theorem yX {val:ι->Value}{gs:ι->List MF}(ks:List Nat)(i:ι)(hq:Q)(h0:exec tt fn.ntmps R 1000 s0 env0 L0=((.code .ret::s),env,L):=by exact rfl)(hk:af4 ks Γ=some (fs,Γ1):=by exact rfl)(h:resV tt env L fn.results.toList=some vs:=by exact rfl)(hv:tup vs=val i:=by exact rfl)(hf:gs i=fs:=by exact rfl):WX ⟨Tryz.prog,fn,tt,w0,H,pin,Post w0 H val gs Q⟩ s0 env0 L0 R Γ:=WX.run ttOk h0 (R8 (h:=h) (ks:=ks) (i:=i) (hk:=hk) (hv:=hv) (hf:=hf) (hq:=hq))
theorem zY {b:Nat}{val:ι->Value}{gs:ι->List MF}(ks:List Nat)(i:ι)(hq:Q)(hk:af4 ks Γ=some (fs,Γ1):=by exact rfl)(h:resV tt env L fn.results.toList=some vs:=by exact rfl)(hl:Go.Stp.look L 999=some ⟨T,cs⟩:=by exact rfl)(hv:tup vs=val i:=by exact rfl)(hf:gs i=MF.bx b T cs::fs:=by exact rfl):WX ⟨Tryz.prog,fn,tt,w0,H,some b,Post w0 H val gs Q⟩ (.code .ret::s) env L R Γ:=R9 (h:=h) (ks:=ks) (i:=i) (hl:=hl) (hk:=hk) (hv:=hv) (hf:=hf) (hq:=hq)
theorem yY {b:Nat}{val:ι->Value}{gs:ι->List MF}(ks:List Nat)(i:ι)(hq:Q)(h0:exec tt fn.ntmps R 1000 s0 env0 L0=((.code .ret::s),env,L):=by exact rfl)(hk:af4 ks Γ=some (fs,Γ1):=by exact rfl)(h:resV tt env L fn.results.toList=some vs:=by exact rfl)(hl:Go.Stp.look L 999=some ⟨T,cs⟩:=by exact rfl)(hv:tup vs=val i:=by exact rfl)(hf:gs i=MF.bx b T cs::fs:=by exact rfl):WX ⟨Tryz.prog,fn,tt,w0,H,some b,Post w0 H val gs Q⟩ s0 env0 L0 R Γ:=WX.run ttOk h0 (R9 (h:=h) (ks:=ks) (i:=i) (hl:=hl) (hk:=hk) (hv:=hv) (hf:=hf) (hq:=hq))
theorem yKD {p:Prop}[Decidable p](d:Nat)(kt:(decide p)=true->p->WX (cx fn w0 H0 pin Φ) s ((d,.T)::env) L R Γ)(kf:(decide p)=false->¬p->WX (cx fn w0 H0 pin Φ) s ((d,.F)::env) L R Γ)(h0:exec tt fn.ntmps R 1000 s0 env0 L0=(s,env,L):=by exact rfl)(h:Go.Stp.look env d=some (.v (.bool (decide p))):=by exact rfl):WX (cx fn w0 H0 pin Φ) s0 env0 L0 R Γ:=WX.run ttOk h0 (KD0 (d:=d) (h:=h) (kt:=kt) (kf:=kf))
theorem yKN (d:Nat)(kt:(!b)=true->b=false->WX (cx fn w0 H0 pin Φ) s ((d,.T)::env) L R Γ)(kf:(!b)=false->b=true->WX (cx fn w0 H0 pin Φ) s ((d,.F)::env) L R Γ)(h0:exec tt fn.ntmps R 1000 s0 env0 L0=(s,env,L):=by exact rfl)(h:Go.Stp.look env d=some (.v (.bool (!b))):=by exact rfl):WX (cx fn w0 H0 pin Φ) s0 env0 L0 R Γ:=WX.run ttOk h0 (KN0 (d:=d) (h:=h) (kt:=kt) (kf:=kf))
theorem yKE [BEq α][LawfulBEq α]{a b:α}(d:Nat)(kt:(a==b)=true->a=b->WX (cx fn w0 H0 pin Φ) s ((d,.T)::env) L R Γ)(kf:(a==b)=false->¬a=b->WX (cx fn w0 H0 pin Φ) s ((d,.F)::env) L R Γ)(h0:exec tt fn.ntmps R 1000 s0 env0 L0=(s,env,L):=by exact rfl)(h:Go.Stp.look env d=some (.v (.bool (a==b))):=by exact rfl):WX (cx fn w0 H0 pin Φ) s0 env0 L0 R Γ:=WX.run ttOk h0 (KE0 (d:=d) (h:=h) (kt:=kt) (kf:=kf))
theorem yKM [BEq α][LawfulBEq α]{a b:α}(d:Nat)(kt:(a !=b)=true->¬a=b->WX (cx fn w0 H0 pin Φ) s ((d,.T)::env) L R Γ)(kf:(a !=b)=false->a=b->WX (cx fn w0 H0 pin Φ) s ((d,.F)::env) L R Γ)(h0:exec tt fn.ntmps R 1000 s0 env0 L0=(s,env,L):=by exact rfl)(h:Go.Stp.look env d=some (.v (.bool (a !=b))):=by exact rfl):WX (cx fn w0 H0 pin Φ) s0 env0 L0 R Γ:=WX.run ttOk h0 (KM0 (d:=d) (h:=h) (kt:=kt) (kf:=kf))
theorem yKX [BEq α][LawfulBEq α]{a b:α}(d:Nat)(kt:(!(a==b))=true->¬a=b->WX (cx fn w0 H0 pin Φ) s ((d,.T)::env) L R Γ)(kf:(!(a==b))=false->a=b->WX (cx fn w0 H0 pin Φ) s ((d,.F)::env) L R Γ)(h0:exec tt fn.ntmps R 1000 s0 env0 L0=(s,env,L):=by exact rfl)(h:Go.Stp.look env d=some (.v (.bool (!(a==b)))):=by exact rfl):WX (cx fn w0 H0 pin Φ) s0 env0 L0 R Γ:=WX.run ttOk h0 (KX0 (d:=d) (h:=h) (kt:=kt) (kf:=kf))
theorem zKA (d:Nat)(kt:b=true->WX C s ((d,.T)::env) L R Γ)(kf:b=false->WX C s ((d,.F)::env) L R Γ)(h:Go.Stp.look env d=some (.v (.bool b)):=by exact rfl):WX C s env L R Γ:=WX.cases (d:=d) (h:=h) (kt:=kt) (kf:=kf)
theorem yKA (d:Nat)(kt:b=true->WX (cx fn w0 H0 pin Φ) s ((d,.T)::env) L R Γ)(kf:b=false->WX (cx fn w0 H0 pin Φ) s ((d,.F)::env) L R Γ)(h0:exec tt fn.ntmps R 1000 s0 env0 L0=(s,env,L):=by exact rfl)(h:Go.Stp.look env d=some (.v (.bool b)):=by exact rfl):WX (cx fn w0 H0 pin Φ) s0 env0 L0 R Γ:=WX.run ttOk h0 (WX.cases (d:=d) (h:=h) (kt:=kt) (kf:=kf))
theorem zDC (d:Nat)(kt:b=true->DX C ops tl s bs G0 fuel listed ((d,.T)::env) L R Γ)(kf:b=false->DX C ops tl s bs G0 fuel listed ((d,.F)::env) L R Γ)(h:Go.Stp.look env d=some (.v (.bool b)):=by exact rfl):DX C ops tl s bs G0 fuel listed env L R Γ:=DX.cases (d:=d) (h:=h) (kt:=kt) (kf:=kf)
theorem SA0 {b:BinOp}{n q:Int}(k:WX (cx fn w0 H0 pin Φ) (.ops ops r::s) ((d,.v (.int .i64 q))::env) L R Γ)(hg:gd ops env o=some true:=by exact rfl)(hd:o.dst=some d:=by exact rfl)(hlt:Nat.blt d fn.ntmps=true:=by exact rfl)(ho:o.op= .binOp b T x y T':=by exact rfl)(hx:ev env x=some (.v (.int .i64 m)):=by exact rfl)(hy:ev env y=some (.v (.int .i64 n)):=by exact rfl)(hq:agy b m n=some q:=by exact rfl)(hr:I64 q:=by unfold I64;first|omega|(simp only [List.length_take]at*;omega)|(dsimp only;omega)):WX (cx fn w0 H0 pin Φ) (.ops ops (o::r)::s) env L R Γ:=WX.see hg hd hlt (λ_ _=>aeu ho hx hy hq hr) k
theorem SA {b:BinOp}{n q:Int}(k:WX (cx fn w0 H0 pin Φ) (.ops ops r::s) ((d,.v (.int .i64 q))::env) L R Γ)(h0:exec tt fn.ntmps R 1000 s0 env0 L0=(.ops ops (o::r)::s,env,L):=by exact rfl)(hg:gd ops env o=some true:=by exact rfl)(hd:o.dst=some d:=by exact rfl)(hlt:Nat.blt d fn.ntmps=true:=by exact rfl)(ho:o.op= .binOp b T x y T':=by exact rfl)(hx:ev env x=some (.v (.int .i64 m)):=by exact rfl)(hy:ev env y=some (.v (.int .i64 n)):=by exact rfl)(hq:agy b m n=some q:=by exact rfl)(hr:I64 q:=by unfold I64;first|omega|(simp only [List.length_take]at*;omega)|(dsimp only;omega)):WX (cx fn w0 H0 pin Φ) s0 env0 L0 R Γ:=WX.run ttOk h0 (SA0 k hg hd hlt ho hx hy hq hr)
theorem SW0 {b:BinOp}{n q:Int}(k:WX (cx fn w0 H0 pin Φ) (.ops ops r::s) ((d,.v (.int .i64 (i64.wrap q)))::env) L R Γ)(hg:gd ops env o=some true:=by exact rfl)(hd:o.dst=some d:=by exact rfl)(hlt:Nat.blt d fn.ntmps=true:=by exact rfl)(ho:o.op= .binOp b T x y T':=by exact rfl)(hx:ev env x=some (.v (.int .i64 m)):=by exact rfl)(hy:ev env y=some (.v (.int .i64 n)):=by exact rfl)(hq:agy b m n=some q:=by exact rfl):WX (cx fn w0 H0 pin Φ) (.ops ops (o::r)::s) env L R Γ:=WX.see hg hd hlt (λ_ _=>aly ho hx hy hq) k
theorem SW {b:BinOp}{n q:Int}(k:WX (cx fn w0 H0 pin Φ) (.ops ops r::s) ((d,.v (.int .i64 (i64.wrap q)))::env) L R Γ)(h0:exec tt fn.ntmps R 1000 s0 env0 L0=(.ops ops (o::r)::s,env,L):=by exact rfl)(hg:gd ops env o=some true:=by exact rfl)(hd:o.dst=some d:=by exact rfl)(hlt:Nat.blt d fn.ntmps=true:=by exact rfl)(ho:o.op= .binOp b T x y T':=by exact rfl)(hx:ev env x=some (.v (.int .i64 m)):=by exact rfl)(hy:ev env y=some (.v (.int .i64 n)):=by exact rfl)(hq:agy b m n=some q:=by exact rfl):WX (cx fn w0 H0 pin Φ) s0 env0 L0 R Γ:=WX.run ttOk h0 (SW0 k hg hd hlt ho hx hy hq)
theorem SL (d m:Nat)(k:WX C s ((d,.v (.slice p m c))::env) L R Γ)(h:Go.Stp.look env d=some (.v (.slice p n c)):=by exact rfl)(e:n=m:=by first|omega|(simp;done)|(simp;omega)):WX C s env L R Γ:=WX.slot d h (λ_=>by rw [e]) k
theorem F1 (n:Nat)(α:Type)[GoT α](k:WX C s env L R ((n,MF.os none 0 ([]:List α))::Γ)):WX C s env L R Γ:=WX.free n _ (at9 _ _) k
theorem CN {val val':ι->Value}{gs ds:ι->List MF}{Γ':ι->Facts}(ks:List Nat)(n:Nat)(hks:af4 ks Γ=some (fs,Γ1))(hg:gd ops env o=some true)(hd:o.dst=some d)(hlt:Nat.blt d C.fn.ntmps=true)(ho:o.op= .call {callee:= .value f,args:=args.toArray,argTypes:=ats})(hf:ev env f=some sf)(hsf:∀bs,conc bs sf= .func (.func g) #[] (caps bs).toArray)(hargs:evs env args=some svs)(hc:∀w (bs:Nat->Nat) H,Le H (hp w)->Sep H fs->AllK C.M (cut (hp w) H) Γ1->Does C.P g (svs.map (conc bs)++caps bs).toArray w H (Post w H val gs Q))(k:∀i,Q->WX C (.ops ops r::s) ((d,.v (val' i))::env) L R (Γ' i))(hds:∀i h,Sep h (gs i)->All h (ds i):=by exact λ_ _ h=>GoT.ow_rd (kd:= .der) h)(hdk:∀i,∀f∈ds i,f.k= .der:=by exact λ_ f hf=>GoT.fak f hf)(hv:∀i,afb (val i)=some (val' i):=by exact λ_=>rfl)(hΓ':∀i,addF n (ds i++gs i) Γ1=some (Γ' i):=by exact λ_=>rfl):WX C (.ops ops (o::r)::s) env L R Γ:=WX.callM ks n hks hds hdk hg hd hlt ho hf hsf hargs (λw _ bs H _ a b c=>hc w bs H a b c) hv hΓ' k
theorem CU [GoT α]{val val':GoT.X α->Value}{Γ':GoT.X α->Facts}{cs':GoT.X α->List Value}(a:α)(lab:Nat)(ks:List Nat)(n:Nat)(hl:Go.Stp.look L lab=some ⟨T,cs⟩)(hks:af4 ks Γ=some (fs,Γ1))(hg:gd ops env o=some true)(hd:o.dst=some d)(hlt:Nat.blt d C.fn.ntmps=true)(ho:o.op= .call {callee:= .value f,args:=args.toArray,argTypes:=ats})(hf:ev env f=some sf)(hsf:∀bs,conc bs sf= .func (.func g) #[] (caps bs).toArray)(hargs:evs env args=some svs)(hc:∀w (bs:Nat->Nat) H,Le H (hp w)->Sep H (MF.bx (bs lab) T cs::fs)->AllK C.M (cut (hp w) H) Γ1->Does C.P g (svs.map (conc bs)++caps bs).toArray w H (Post w H val (λi=>MF.bx (bs lab) T (GoT.sh a i)::GoT.oa a i) Q))(hn:∀i,al6 (GoT.sh a i)=some (cs' i))(k:∀i,Q->WX C (.ops ops r::s) ((d,.v (val' i))::env) (setL L lab (cs' i)) R (Γ' i))(hv:∀i,afb (val i)=some (val' i):=by exact λ_=>rfl)(hΓ':∀i,addF n (GoT.fa .der a i++GoT.oa a i) Γ1=some (Γ' i):=by exact λ_=>rfl):WX C (.ops ops (o::r)::s) env L R Γ:=WX.callPM lab ks n hl hks (ds:=λi=>GoT.fa .der a i) (λ_ _ h=>GoT.ow_rd h) (λ_ f hf=>GoT.fak f hf) hg hd hlt ho hf hsf hargs (λw _ bs H _ x y z=>by have q:=hc w bs H x y z;rw [show (λi=>MF.bx (bs lab) T (GoT.sh a i)::GoT.oa a i)=(λi=>MF.bx (bs lab) T (cs' i)::GoT.oa a i)from funext λi=>by rw [ah3 (hn i)]]at q;exact q) hv hΓ' k
theorem SI (d:Nat)(k:WX C s ((d,.v (.int .i64 ((a.toNat:Nat):Int)))::env) L R Γ)(h:Go.Stp.look env d=some (.v (.int .i64 a)):=by exact rfl)(e:a=((a.toNat:Nat):Int):=by first|omega|(dsimp only at*;omega)):WX C s env L R Γ:=WX.slot (y:= .v (.int .i64 ((a.toNat:Nat):Int))) d h (λ_=>congrArg (Value.int .i64) e) k
def tkL:List Nat->List (Nat×Bool)|[]=>[]|n::r=>(n/2,Nat.beq (n%2) 1)::tkL r
theorem dT (fuel:Nat)(js:List Nat){f0:Nat}(k:DX (cx fn w0 H0 pin Φ) ops tl s bs G0 fuel (aln listed (tkL js)) env' L R Γ)(hf:fuel+(tkL js).length=f0:=by exact rfl)(hb:ai3 ops tl listed (tkL js)=true:=by kernel_rfl)(he:ag8 tt fn.ntmps ops L env (tkL js)=some env':=by exact rfl):DX (cx fn w0 H0 pin Φ) ops tl s bs G0 f0 listed env L R Γ:=hf▸DX.takes ttOk (tkL js) hb he k
theorem An {a b:Prop}(x:a)(y:b):a/\b:=⟨x,y⟩
theorem nA {p:α->Prop}(a:α)(h:a∈([]:List α)):p a:=by cases h
theorem dn {l:List α}(h:l.length<=i):l.drop i=[]:=List.drop_eq_nil_of_le h
theorem zl:0<=n:=Nat.zero_le n
abbrev pI (n:Nat)(x:Int):Value->World->Prop:=λrv _=>rv= .int .i64 x/\GoT.ok n x
abbrev pT (n:Nat)(x:Str):Value->World->Prop:=λrv _=>rv= .string x/\GoT.ok n x
abbrev pS {α:Type}[GoT α](w:World)(n:Nat)(a:α):Value->World->Prop:=Post w emp (λx=>(GoT.sh a x).headD undef) (λx=>GoT.oa a x) (GoT.ok n a)
abbrev pA {α:Type}[GoT α](w:World)(n:Nat)(a:α):Value->World->Prop:=Post w emp (λx=> .agg ⟨GoT.sh a x⟩) (λx=>GoT.oa a x) (GoT.ok n a)
abbrev pSB {α:Type}[GoT α](w:World)(n:Nat)(a:α×Bool):Value->World->Prop:=Post w emp (λx=> .tuple #[(GoT.sh a.1 x).headD undef,.bool a.2]) (λx=>GoT.oa a.1 x) (GoT.ok n a.1)
abbrev pAB {α:Type}[GoT α](w:World)(n:Nat)(a:α×Bool):Value->World->Prop:=Post w emp (λx=> .tuple #[.agg ⟨GoT.sh a.1 x⟩,.bool a.2]) (λx=>GoT.oa a.1 x) (GoT.ok n a.1)
abbrev DP (g:FuncId)(a:Array Value)(w:World)(p:Value->World->Prop):Prop:=Does Tryz.prog g a w emp p
abbrev Rd {α:Type}[GoT α](w:World)(p:Option Addr)(c:Nat)(l:List α):Prop:=RdSl (hp w) p c l
abbrev vI (x:Int):Value:= .int .i64 x
abbrev vS {α:Type}(p:Option Addr)(l:List α)(c:Nat):Value:= .slice p l.length c
abbrev OA:=Option Addr
abbrev nT (a:OA)(b:Nat)(c:OA)(d:Nat)(e:OA)(f:Nat)(g:OA)(h:Nat)(i:OA)(j:Nat)(k:OA)(l:Nat)(m:OA)(n:Nat)(o:OA)(p:Nat)(q:OA)(r:Nat)(s:OA)(t:Nat):GoT.X aD:=(((),(a,b)),((c,d),(e,f),(g,h),(i,j)),(k,l),(m,n),(),(o,p),(q,r),(s,t),(),())
abbrev bN (b:Nat)(w:aD)(x:GoT.X aD):List MF:=MF.bx b 39 (GoT.sh w x)::GoT.oa w x
theorem EP {c : Code}{args : List Value}{b : Nat}[GoT α]{a : α}{x : GoT.X α}(n : Nat)(hf : Tryz.prog.funcs[g]? = some fn)(hb : fn.body = some c)(hn : (fn.name == "runtime.NumGoroutine") = false)(hs : Nat.ble (args.length + 1) fn.ntmps = true)(h0 : AllS (cut (hp w) H) Γ)(hH : Le H (hp w))(hl : Sep H (MF.bx b T (GoT.sh a x) :: GoT.oa a x))(k : WX ⟨Tryz.prog, fn, tt, w, H, some b, Φ⟩ [.code c] ((0, .p 999 0) :: ak3 1 args) [(999, ⟨T, cs⟩)] [] Γ1)(hc : al6 (GoT.sh a x) = some cs := by exact rfl)(hΓ : addF n (GoT.oa a x) Γ = some Γ1 := by exact rfl) : Does Tryz.prog g (Value.pointer (some ⟨b, 0, none⟩) :: args).toArray w H Φ := by
  have e := ah3 hc
  subst e
  exact WX.enterP (tt := tt) n hf hb hn hs h0 hH hl (λf hf => GoT.oak f hf) hΓ k
theorem LS {c:Code}(d:Nat)(l:List α)(G:List α->Nat->β)(ke kl ks:List Nat)(k:∀i:Nat,i<=l.length/\G l 0=G (l.drop i) i->WX (cx fn w0 H0 pin Φ) (.code c:: .iter (Head.I ⟨λi=>i<=l.length/\G l 0=G (l.drop i) i,λi=>l.length-i,λi=>[(d,.v (vI ((i:Nat):Int)))]++ek,λ_=>[]++lk,λ_=>[],λ_=>gk++[]⟩ (cx fn w0 H0 pin Φ) (l.length-i))::s) ([(d,.v (vI ((i:Nat):Int)))]++ek) ([]++lk) [] (gk++[]))(h0:exec tt fn.ntmps R 1000 s0 env0 L0=((.code (.loop c)::s),env,L):=by exact rfl)(h1:ain env ke=some ek:=by exact rfl)(h2:ain L kl=some lk:=by exact rfl)(h3:ag6 ks Γ=some gk:=by exact rfl)(hΓ:ag6 ks Γ=some (gk++[]):=by exact rfl)(he:Sub [(d,SV.v (vI ((0:Nat):Int)))] env:=by repeat (first|exact Sub.nil|refine Sub.cons rfl ?_)):WX ⟨Tryz.prog,fn,tt,w0,H0,pin,Φ⟩ s0 env0 L0 R Γ:=LM h0 (0:Nat) (λi=>(i<=l.length/\G l 0=G (l.drop i) i,l.length-i,[(d,.v (vI ((i:Nat):Int)))],[],[],[])) ⟨Nat.zero_le _,rfl⟩ ke kl ks ks k (h1:=h1) (h2:=h2) (h3:=h3) (hΓ:=hΓ) (he:=he) (hL:=Sub.nil) (hR:=Sub.nil)
theorem LT {c:Code}(d:Nat)(l:List α)(G:List α->β)(ke kl ks:List Nat)(k:∀i:Nat,i<=l.length/\G l=G (l.drop i)->WX (cx fn w0 H0 pin Φ) (.code c:: .iter (Head.I ⟨λi=>i<=l.length/\G l=G (l.drop i),λi=>l.length-i,λi=>[(d,.v (vI ((i:Nat):Int)))]++ek,λ_=>[]++lk,λ_=>[],λ_=>gk++[]⟩ (cx fn w0 H0 pin Φ) (l.length-i))::s) ([(d,.v (vI ((i:Nat):Int)))]++ek) ([]++lk) [] (gk++[]))(h0:exec tt fn.ntmps R 1000 s0 env0 L0=((.code (.loop c)::s),env,L):=by exact rfl)(h1:ain env ke=some ek:=by exact rfl)(h2:ain L kl=some lk:=by exact rfl)(h3:ag6 ks Γ=some gk:=by exact rfl)(hΓ:ag6 ks Γ=some (gk++[]):=by exact rfl)(he:Sub [(d,SV.v (vI ((0:Nat):Int)))] env:=by repeat (first|exact Sub.nil|refine Sub.cons rfl ?_)):WX ⟨Tryz.prog,fn,tt,w0,H0,pin,Φ⟩ s0 env0 L0 R Γ:=LM h0 (0:Nat) (λi=>(i<=l.length/\G l=G (l.drop i),l.length-i,[(d,.v (vI ((i:Nat):Int)))],[],[],[])) ⟨Nat.zero_le _,rfl⟩ ke kl ks ks k (h1:=h1) (h2:=h2) (h3:=h3) (hΓ:=hΓ) (he:=he) (hL:=Sub.nil) (hR:=Sub.nil)
theorem gO [GoT α]{l:List α}(h:GoT.ok n l)(i:Nat)(k:i<l.length:=by first|assumption|omega|(dsimp only at*;omega)|(simp;omega)):∃e,l[i]? =some e/\GoT.ok n e/\i<l.length:=⟨_,List.getElem?_eq_getElem k,(okl h).2 _ (List.getElem_mem k),k⟩
theorem DI (d:Nat)(k:DX C ops tl s bs G0 fuel listed ((d,.v (.int .i64 ((a.toNat:Nat):Int)))::env) L R Γ)(h:Go.Stp.look env d=some (.v (.int .i64 a)):=by exact rfl)(e:a=((a.toNat:Nat):Int):=by first|omega|(dsimp only at*;omega)):DX C ops tl s bs G0 fuel listed env L R Γ:=DX.slot (y:= .v (.int .i64 ((a.toNat:Nat):Int))) d h (λ_=>congrArg (Value.int .i64) e) k
theorem yD {id:Nat}(tl:List Nat)(k:∀bs G0,AllK (cx fn w0 H0 pin Φ).M G0 Γ->DX (cx fn w0 H0 pin Φ) ops tl s bs G0 ops.size (Array.replicate ops.size false) env L R Γ)(h0:exec tt fn.ntmps R 1000 s0 env0 L0=((.code (.region id ops true)::s),env,L):=by exact rfl):WX ⟨Tryz.prog,fn,tt,w0,H0,pin,Φ⟩ s0 env0 L0 R Γ:=WX.run ttOk h0 (WX.draw tl mixed k)
abbrev cu (b:Nat)(p:Option Addr)(l:List UInt8)(c:Nat)(i h:Int):MF:=MF.bx b 112 [.slice p l.length c,.int .i64 i,.int .i64 h]
abbrev adu (x:aA)(k0:Option Addr)(k1:Nat):Value:= .agg #[vS k0 x.parts k1]
abbrev afd (x:aJ)(k0:Option Addr)(k1:Nat)(k2:Option Addr)(k3:Nat)(k4:Option Addr)(k5:Nat):Value:= .agg #[vS k0 x.name.parts k1,vS k2 x.content k3,vS k4 x.aR.parts k5,vI x.bL,vI x.cF]
abbrev ag7 (x:aX)(k0:Option Addr)(k1:Nat)(k2:Option Addr)(k3:Nat)(k4:Option Addr)(k5:Nat)(k6:Option Addr)(k7:Nat):Value:= .agg #[vI x.node,vI x.index,vS k0 x.name.parts k1,vI x.cN,vI x.wait,.bool x.cL,vS k2 x.data.name.parts k3,vS k4 x.data.content k5,vS k6 x.data.aR.parts k7,vI x.data.bL,vI x.data.cF]
abbrev adv (x:aV)(k0:Option Addr)(k1:Nat):Value:= .agg #[vI x.size,vS k0 x.links k1]
abbrev ado (x:bU)(k0:Option Addr)(k1:Nat)(k2:Option Addr)(k3:Nat)(k4:Option Addr)(k5:Nat)(k6:Option Addr)(k7:Nat):Value:= .agg #[vS k0 x.keys k1,vS k2 x.bR k3,vS k4 x.bV k5,vS k6 x.bW k7]
abbrev ady (x:bX)(k0:Option Addr)(k1:Nat):Value:= .agg #[vI x.cA,vS k0 x.bB k1]
abbrev agh (x:aH)(k0:Option Addr)(k1:Nat)(k2:Option Addr)(k3:Nat)(k4:Option Addr)(k5:Nat)(k6:Option Addr)(k7:Nat)(k8:Option Addr)(k9:Nat)(k10:Option Addr)(k11:Nat):Value:= .agg #[vS k0 x.bF k1,vI x.bG.cA,vS k2 x.bG.bB k3,vS k4 x.bH k5,vS k6 x.bS k7,vS k8 x.bM k9,vS k10 x.bQ k11,vI x.aP]
abbrev afr (x:bJ)(k0:Option Addr)(k1:Nat):Value:= .agg #[vS k0 x.name.parts k1,vI x.bI,vI x.cM,vI x.cD]
abbrev ahm (x:aZ)(k0:Option Addr)(k1:Nat)(k2:Option Addr)(k3:Nat)(k4:Option Addr)(k5:Nat)(k6:Option Addr)(k7:Nat):Value:= .agg #[vI x.to,vI x.face,.bool x.cI,vS k0 x.bT.name.parts k1,vI x.bT.bI,vI x.bT.cM,vI x.bT.cD,vS k2 x.data.name.parts k3,vS k4 x.data.content k5,vS k6 x.data.aR.parts k7,vI x.data.bL,vI x.data.cF]
abbrev af9 (x:aD)(k0:Option Addr)(k1:Nat)(k2:Option Addr)(k3:Nat)(k4:Option Addr)(k5:Nat)(k6:Option Addr)(k7:Nat)(k8:Option Addr)(k9:Nat)(k10:Option Addr)(k11:Nat)(k12:Option Addr)(k13:Nat)(k14:Option Addr)(k15:Nat)(k16:Option Addr)(k17:Nat)(k18:Option Addr)(k19:Nat):Value:= .agg #[vI x.aG.size,vS k0 x.aG.links k1,vS k2 x.aF.keys k3,vS k4 x.aF.bR k5,vS k6 x.aF.bV k7,vS k8 x.aF.bW k9,vS k10 x.aM k11,vS k12 x.aI k13,vI x.aY,vS k14 x.aU k15,vS k16 x.aL k17,vS k18 x.aE k19,vI x.now,vI x.aP]
abbrev aqm (x:bP)(k0:Option Addr)(k1:Nat)(k2:Option Addr)(k3:Nat)(k4:Option Addr)(k5:Nat)(k6:Option Addr)(k7:Nat)(k8:Option Addr)(k9:Nat):Value:= .agg #[vI x.kind,vI x.n,vS k0 x.name.parts k1,vI x.bC.to,vI x.bC.face,.bool x.bC.cI,vS k2 x.bC.bT.name.parts k3,vI x.bC.bT.bI,vI x.bC.bT.cM,vI x.bC.bT.cD,vS k4 x.bC.data.name.parts k5,vS k6 x.bC.data.content k7,vS k8 x.bC.data.aR.parts k9,vI x.bC.data.bL,vI x.bC.data.cF]
theorem Q0 {p:Prop}(h:p:=by first|omega|(dsimp only at*;omega)):p:=h
theorem Q1 {p:Prop}(h:p:=by first|(dsimp only;omega)|omega|(dsimp only at*;omega)):p:=h
theorem Q2 {p:Prop}(h:p:=by first|(rw [List.length_append];(try simp only [List.length_cons,List.length_nil]);omega)|(simp;omega)|(simp only [List.length_append,List.length_cons,List.length_nil]at*;omega)|(dsimp only at*;omega)):p:=h
theorem Q3 {p:Prop}(h:p:=by first|assumption|omega|(simp;omega)|(dsimp only at*;omega)):p:=h
theorem Q4 {p:Prop}(h:p:=by first|assumption|omega|(dsimp only at*;omega)):p:=h
theorem Q5 {p:Prop}(h:p:=by first|omega|(simp;omega)|(dsimp only at*;omega)):p:=h
theorem Q6 {p:Prop}(h:p:=by unfold I64;first|omega|(simp only [List.length_take]at*;omega)):p:=h
theorem Q7 {p:Prop}(h:p:=by first|omega|(simp;done)|(simp;omega)|(dsimp only at*;omega)):p:=h
theorem Q8 {p:Prop}(h:p:=by first|(simp;done)|omega|(simp only [List.length_append,List.length_cons,List.length_nil,List.length_take,List.length_drop,List.length_set];omega)|(simp;omega)|(dsimp only at*;omega)):p:=h
theorem Q9 {p:Prop}(h:p:=by decide):p:=h
theorem Q10 {p:Prop}(h:p:=by simp):p:=h
theorem Q11 {p:Prop}(h:p:=by first|omega|(simp only [List.length_append,List.length_cons,List.length_nil];omega)|(dsimp only at*;omega)):p:=h
theorem Q12 {p:Prop}(h:p:=by assumption):p:=h
theorem Q13 {p:Prop}(h:p:=by first|assumption|omega|(simp;done)|(simp;omega)|(dsimp only at*;omega)):p:=h
theorem Q14 {p:Prop}(h:p:=by simp only [List.length_set]):p:=h
theorem Q15 {p:Prop}(h:p:=by first|assumption|omega|(dsimp only;omega)|(dsimp only at*;omega)):p:=h
end Go.Proofs.YthdfhghdipdknaaGreat
namespace Go.Stp
def a0o (n_:Int)(a:Int)(b:Int):Bool:=bif decide (a<=n_)then (decide (n_<=b))else false
def a07 (x_:Int)(least:Int)(most:Int):Bool:=bif decide (x_>=least)then (decide (x_<=most))else false
def ab2 (node:Int)(i:Int)(try_:Int):Int:=(i64.wrap ((i64.wrap ((i64.wrap (100000*node))+(i64.wrap (1000*i))))+try_))
def a11 (a:Int)(b:Int):Int:=bif decide (b<a)then b else a
def a1s (a:Int)(b:Int):Int:=bif decide (b>a)then b else a
end Go.Stp
namespace Go.Proofs.YthdfhghdipdknaaGreat
open Go.Stp
open Go.Stp.GoT (ok)
variable {w : World} (n : Nat)
theorem f33 (hn:n+0<=9){n_:Int}{a:Int}{b:Int}(a0:ok n n_)(a1:ok n a)(a2:ok n b):
 DP 33 #[vI n_,vI a,vI b] w (pB (a0o n_ a b)):=by
 refine EN Tryz.func33 Z ac8 ?_;refine yKD 10 ?_ ?_<;>intro h1 a3;exact R4r Z Z (by simp only [a0o,h1,cC]);exact R4r Z Z (by simp only [a0o,h1,cC])
theorem f120 (hn:n+0<=9){x_:Int}{least:Int}{most:Int}(a2:ok n x_)(a0:ok n least)(a1:ok n most):
 DP 120 #[vI x_,vI least,vI most] w (pB (a07 x_ least most)):=by
 refine EN Tryz.func120 Z ac8 ?_;refine yKD 10 ?_ ?_<;>intro h1 a3;exact R4r Z Z (by simp only [a07,h1,cC]);exact R4r Z Z (by simp only [a07,h1,cC])
theorem afl {n a b:Int}(h:a0o n a b=true):a<=n/\n<=b:=by
 unfold a0o at h
 grind
theorem ad8 {n a b:Int}(h:a07 n a b=true):a<=n/\n<=b:=by
 unfold a07 at h
 grind
theorem f231 (hn:n+0<=9){node:Int}{i:Int}{try_:Int}(a1:ok n node)(a2:ok n i)(a0:ok n try_):
 DP 231 #[vI node,vI i,vI try_] w (pI n (ab2 node i try_)):=by
 refine EN Tryz.func231 Z ac8 ?_;refine SW ?_;refine SW ?_;refine SW0 ?_;refine SW ?_;rw [show ab2 node i try_=(i64.wrap ((i64.wrap ((i64.wrap (100000*node))+(i64.wrap (1000*i))))+try_)) by simp only [ab2]];exact R6r Z Z (ad0 _)
theorem f161 (hn:n+0<=9){a:Int}{b:Int}(a0:ok n a)(a1:ok n b):
 DP 161 #[vI a,vI b] w (pI n (a11 a b)):=by
 refine EN Tryz.func161 Z ac8 ?_;refine yKD 7 ?_ ?_<;>intro h1 a2;rw [show a11 a b=b by simp only [a11,h1,cC]];exact R6r Z Z a1;rw [show a11 a b=a by simp only [a11,h1,cC]];exact R6r Z Z a0
theorem f194 (hn:n+0<=9){a:Int}{b:Int}(a0:ok n a)(a1:ok n b):
 DP 194 #[vI a,vI b] w (pI n (a1s a b)):=by
 refine EN Tryz.func194 Z ac8 ?_;refine yKD 7 ?_ ?_<;>intro h1 a2;rw [show a1s a b=b by simp only [a1s,h1,cC]];exact R6r Z Z a1;rw [show a1s a b=a by simp only [a1s,h1,cC]];exact R6r Z Z a0
end Go.Proofs.YthdfhghdipdknaaGreat
namespace Go.Stp
def a0l (n_:aA):aA:=n_
def a05 (n_:aA):aA:=n_
def a3o (x_:aJ):aJ:=(aJ.mk (a0l x_.name) x_.content (a0l x_.aR) x_.bL x_.cF)
def a0m (x_:aJ):aJ:=(aJ.mk (a05 x_.name) x_.content (a05 x_.aR) x_.bL x_.cF)
def a9j (a:aX):aX:=(aX.mk a.node a.index (a0l a.name) a.cN a.wait a.cL (a3o a.data))
def a0p (a:aX):aX:=(aX.mk a.node a.index (a05 a.name) a.cN a.wait a.cL (a0m a.data))
def a09 (node:Int)(i:Int)(n_:aA):aX:=(aX.mk node i (a05 n_) 0 0 false (aJ.mk (aA.mk ([])) ([]) (aA.mk ([])) 0 0))
def a0n (a:aX):aX×bJ×Bool:=bif a.cL then ((a0p a),(bJ.mk (aA.mk ([])) 0 0 0),false)else bif (a.cN==900)then ((a0p a),(bJ.mk (aA.mk ([])) 0 0 0),false)else bif decide (a.wait>0)then ((aX.mk ((a0p a).node) ((a0p a).index) ((a0p a).name) ((a0p a).cN) (i64.wrap (a.wait-1)) ((a0p a).cL) ((a0p a).data)),(bJ.mk (aA.mk ([])) 0 0 0),false)else ((aX.mk ((a0p a).node) ((a0p a).index) ((a0p a).name) (i64.wrap (a.cN+1)) 5 ((a0p a).cL) ((a0p a).data)),(bJ.mk (a05 a.name) (ab2 a.node a.index (i64.wrap (a.cN+1))) 16 4),true)
end Go.Stp
namespace Go.Proofs.YthdfhghdipdknaaGreat
open Go.Stp
open Go.Stp.GoT (ok)
variable {w : World} (n : Nat) {K0 K1 K2 K3 : Option Addr} {M0 M1 M2 M3 : Nat}
theorem f74 (hn:n+0<=9){s:List Str}(N0:Rd w K0 M0 s)(a0:ok n s):
 DP 74 #[vS K0 s M0] w (pS w n s):=by
 have hb:=bS0 hn;refine EN Tryz.func74 Z (aS1 N0) ?_;refine KS Z Z Z Z (λ_ hΓ=>ahq ttOk Z Z Z Z) ?_;refine zKA 4 (λa1=>?_) (λa1=>?_);obtain rfl:K0=none:=by simpa using a1
 refine WX.know (λG hΓ=>ah0 (hΓ.get 0 Z)) λa2=>?_;subst a2;refine F1 1 Str ?_;exact yX [1] (none,0) Q12;refine yB λp1=>?_;refine F0 2 Str ?_;have r1:=a0.1;refine R0 ?_;refine zG 5 0 3 s.length Z λa4 p2 c1=>?_;refine WX.know (λG hΓ=>(hΓ.get 3 Z).flat) λa3=>?_;refine WX.turn [2] 4 Z (λh hs=>acx hs a3) Z ?_;refine yE 5 4 5 ?_;exact zX [6] (p2,c1) Q12
theorem f144 (hn:n+0<=9){s:List UInt8}(N0:Rd w K0 M0 s)(a0:ok n s):
 DP 144 #[vS K0 s M0] w (pS w n s):=by
 have hb:=bS0 hn;refine EN Tryz.func144 Z (aS1 N0) ?_;refine KS Z Z Z Z (λ_ hΓ=>ahq ttOk Z Z Z Z) ?_;refine zKA 4 (λa1=>?_) (λa1=>?_);obtain rfl:K0=none:=by simpa using a1
 refine WX.know (λG hΓ=>ah0 (hΓ.get 0 Z)) λa2=>?_;subst a2;refine F1 1 UInt8 ?_;exact yX [1] (none,0) Q12;refine yB λp1=>?_;refine F0 2 UInt8 ?_;have r1:=a0.1;refine R0 ?_;refine zG 5 0 3 s.length Z λa4 p2 c1=>?_;refine WX.know (λG hΓ=>(hΓ.get 3 Z).flat) λa3=>?_;refine WX.turn [2] 4 Z (λh hs=>acx hs a3) Z ?_;refine yE 5 4 5 ?_;exact zX [6] (p2,c1) Q12
theorem f35 (hn:n+0<=9)(n_:aA)(N0:Rd w K0 M0 n_.parts)(a0:ok n n_):
 DP 35 #[adu n_ K0 M0] w (pA w n (a0l n_)):=by
 refine EN Tryz.func35 Z (aS1 N0) ?_;refine KF Z 1 Z O (λw Y=>f74 n Q0 (Y.q 0 Z) (adf a0)) ?_;rintro ⟨p1,c1⟩ a1;rw [show a0l n_=n_ by simp only [a0l]];exact yX [2] _ a1
theorem f110 (hn:n+0<=9)(n_:aA)(N0:Rd w K0 M0 n_.parts)(a0:ok n n_):
 DP 110 #[adu n_ K0 M0] w (pA w n (a05 n_)):=by
 have hb:=bS0 hn;refine EN Tryz.func110 Z (aS1 N0) ?_;refine yB λp1=>?_;refine F0 1 Str ?_;have r1:=(okl (adf a0)).1;refine R0 ?_;refine zG 3 0 2 n_.parts.length Z λa2 p2 c1=>?_;refine WX.know (λG hΓ=>(hΓ.get 2 Z).flat) λa1=>?_;refine WX.turn [1] 3 Z (λh hs=>acx hs a1) Z ?_;refine yE 3 3 4 ?_;rw [show a05 n_=n_ by simp only [a05]];exact zX [5] (p2,c1) (aby Q0 (okl (adf a0)).2)
theorem f103 (hn:n+0<=9)(x_:aJ)(N0:Rd w K0 M0 x_.name.parts)(N1:Rd w K1 M1 x_.content)(N2:Rd w K2 M2 x_.aR.parts)(a0:ok n x_):
 DP 103 #[afd x_ K0 M0 K1 M1 K2 M2] w (pA w n (a3o x_)):=by
 refine EN Tryz.func103 Z (aS3 N0 N1 N2) ?_;refine KF Z 3 Z O (λw Y=>f35 n Q0 x_.name (Y.q 0 Z) (a0.1)) ?_;rintro ⟨p1,c1⟩ a3;refine KF Z 5 Z O (λw Y=>f144 n Q0 (Y.q 1 Z) (a0.2.1)) ?_;rintro ⟨p2,c2⟩ a1;refine KF Z 7 Z O (λw Y=>f35 n Q0 x_.aR (Y.q 2 Z) (a0.2.2.1)) ?_;rintro ⟨p3,c3⟩ a2;rw [show a3o x_=(aJ.mk (a0l x_.name) x_.content (a0l x_.aR) x_.bL x_.cF) by simp only [a3o]]
 exact yX [4,6,8] ((p1,c1),(p2,c2),(p3,c3),(),()) (An a3 (An a1 (An a2 (An a0.2.2.2.1 a0.2.2.2.2))))
theorem f118 (hn:n+0<=9)(x_:aJ)(N0:Rd w K0 M0 x_.name.parts)(N1:Rd w K1 M1 x_.content)(N2:Rd w K2 M2 x_.aR.parts)(a0:ok n x_):
 DP 118 #[afd x_ K0 M0 K1 M1 K2 M2] w (pA w n (a0m x_)):=by
 have hb:=bS0 hn;refine EN Tryz.func118 Z (aS3 N0 N1 N2) ?_;refine KF Z 3 Z O (λw Y=>f110 n Q0 x_.name (Y.q 0 Z) ((ac0 a0).1)) ?_;rintro ⟨p1,c1⟩ a3;refine yB λp2=>?_;refine F0 5 UInt8 ?_;have r1:=(okl (ac0 a0).2.1).1;refine R0 ?_;refine zG 9 1 6 (x_.content:List UInt8).length Z λa4 p3 c2=>?_;refine WX.know (λG hΓ=>(hΓ.get 6 Z:RdL _ _ _).flat) λa2=>?_;refine WX.turn [5] 7 Z (λh hs=>acx hs a2) Z ?_;refine KF Z 8 Z O (λw Y=>f110 n Q0 x_.aR (Y.q 2 Z) ((ac0 a0).2.2.1)) ?_;rintro ⟨p4,c3⟩ a1;refine yE 9 7 10 ?_
 rw [show a0m x_=(aJ.mk (a05 x_.name) x_.content (a05 x_.aR) x_.bL x_.cF) by simp only [a0m]];exact zX [4,11,9] ((p1,c1),(p3,c2),(p4,c3),(),()) (An a3 (An (aby Q0 (λ_ _=>trivial):ok n (x_.content:List UInt8)) (An a1 (An (ac0 a0).2.2.2.1 (ac0 a0).2.2.2.2))))
theorem f51 (hn:n+0<=9)(a:aX)(N0:Rd w K0 M0 a.name.parts)(N1:Rd w K1 M1 a.data.name.parts)(N2:Rd w K2 M2 a.data.content)(N3:Rd w K3 M3 a.data.aR.parts)(a0:ok n a):
 DP 51 #[ag7 a K0 M0 K1 M1 K2 M2 K3 M3] w (pA w n (a9j a)):=by
 refine EN Tryz.func51 Z (aS4 N0 N1 N2 N3) ?_;refine KF Z 4 Z O (λw Y=>f35 n Q0 a.name (Y.q 0 Z) (a0.2.2.1)) ?_;rintro ⟨p1,c1⟩ a2;refine KF Z 6 Z O (λw Y=>f103 n Q0 a.data (Y.q 1 Z) (Y.q 2 Z) (Y.q 3 Z) (a0.2.2.2.2.2.2)) ?_;rintro ⟨⟨p2,c2⟩,⟨p3,c3⟩,⟨p4,c4⟩,_⟩ a1;rw [show a9j a=(aX.mk a.node a.index (a0l a.name) a.cN a.wait a.cL (a3o a.data)) by simp only [a9j]]
 exact yX [5,9,10,11] ((),(),(p1,c1),(),(),(),((p2,c2),(p3,c3),(p4,c4),(),())) (An a0.1 (An a0.2.1 (An a2 (An a0.2.2.2.1 (An a0.2.2.2.2.1 (An trivial a1))))))
theorem f68 (hn:n+0<=9)(a:aX)(N0:Rd w K0 M0 a.name.parts)(N1:Rd w K1 M1 a.data.name.parts)(N2:Rd w K2 M2 a.data.content)(N3:Rd w K3 M3 a.data.aR.parts)(a0:ok n a):
 DP 68 #[ag7 a K0 M0 K1 M1 K2 M2 K3 M3] w (pA w n (a0p a)):=by
 refine EN Tryz.func68 Z (aS4 N0 N1 N2 N3) ?_;refine KF Z 4 Z O (λw Y=>f110 n Q0 a.name (Y.q 0 Z) (a0.2.2.1)) ?_;rintro ⟨p1,c1⟩ a2;refine KF Z 6 Z O (λw Y=>f118 n Q0 a.data (Y.q 1 Z) (Y.q 2 Z) (Y.q 3 Z) (a0.2.2.2.2.2.2)) ?_;rintro ⟨⟨p2,c2⟩,⟨p3,c3⟩,⟨p4,c4⟩,_⟩ a1;rw [show a0p a=(aX.mk a.node a.index (a05 a.name) a.cN a.wait a.cL (a0m a.data)) by simp only [a0p]]
 exact yX [5,9,10,11] ((),(),(p1,c1),(),(),(),((p2,c2),(p3,c3),(p4,c4),(),())) (An a0.1 (An a0.2.1 (An a2 (An a0.2.2.2.1 (An a0.2.2.2.2.1 (An trivial a1))))))
theorem f157 (hn:n+0<=9){node:Int}{i:Int}(n_:aA)(N0:Rd w K0 M0 n_.parts)(a0:ok n node)(a2:ok n i)(a1:ok n n_):
 DP 157 #[vI node,vI i,adu n_ K0 M0] w (pA w n (a09 node i n_)):=by
 refine EN Tryz.func157 Z (aS1 N0) ?_;refine KF Z 1 Z O (λw Y=>f110 n Q0 n_ (Y.q 0 Z) a1) ?_;rintro ⟨p1,c1⟩ a3;refine F1 3 Str ?_;refine F1 4 UInt8 ?_;refine F1 5 Str ?_;rw [show a09 node i n_=(aX.mk node i (a05 n_) 0 0 false (aJ.mk (aA.mk ([])) ([]) (aA.mk ([])) 0 0)) by simp only [a09]]
 exact yX [2,3,4,5] ((),(),(p1,c1),(),(),(),((none,0),(none,0),(none,0),(),())) (An a0 (An a2 (An a3 (An (i6 0) (An (i6 0) (An trivial (An (acd) (An (acd) (An (acd) (An (i6 0) (i6 0)))))))))))
theorem f197 (hn:n+0<=9)(a:aX)(N0:Rd w K0 M0 a.name.parts)(N1:Rd w K1 M1 a.data.name.parts)(N2:Rd w K2 M2 a.data.content)(N3:Rd w K3 M3 a.data.aR.parts)(a1:ok n a):
 DP 197 #[ag7 a K0 M0 K1 M1 K2 M2 K3 M3] w (Post w emp (λx:GoT.X (aX×bJ)=> .tuple #[.agg ⟨GoT.sh ((a0n a).1:aX) x.1⟩,.agg ⟨GoT.sh ((a0n a).2.1:bJ) x.2⟩,.bool ((a0n a).2.2)]) (λx=>GoT.oa (((a0n a).1,(a0n a).2.1):aX×bJ) x) (ok n ((a0n a).1:aX)/\ok n ((a0n a).2.1:bJ))):=by
 refine EN Tryz.func197 Z (aS4 N0 N1 N2 N3) ?_;refine KF Z 4 Z O (λw Y=>f68 n Q0 a (Y.q 0 Z) (Y.q 1 Z) (Y.q 2 Z) (Y.q 3 Z) a1) ?_;rintro ⟨_,_,⟨p1,c1⟩,_,_,_,⟨⟨p2,c2⟩,⟨p3,c3⟩,⟨p4,c4⟩,_⟩⟩ a0;refine yKA 11 ?_ ?_<;>intro h1
 replace h1:a.cL=true:=h1
 refine F1 12 Str ?_;rw [show a0n a=(a0p a,bJ.mk (aA.mk ([])) 0 0 0,false) by simp only [a0n,h1,cC]];rotate_left
 replace h1:a.cL=false:=h1
 refine yKE 8 ?_ ?_<;>intro h2 a5;refine F1 12 Str ?_;rw [show a0n a=(a0p a,bJ.mk (aA.mk ([])) 0 0 0,false) by simp only [a0n,h1,h2,cC]];rotate_left;refine yKD 18 ?_ ?_<;>intro h3 a4;refine SW ?_;refine F1 12 Str ?_;rw [show a0n a=(aX.mk ((a0p a).node) ((a0p a).index) ((a0p a).name) ((a0p a).cN) (i64.wrap (a.wait-1)) ((a0p a).cL) ((a0p a).data),bJ.mk (aA.mk ([])) 0 0 0,false) by simp only [a0n,h1,h2,h3,cC]]
 exact yX [8,9,10,11,12] (((),(),(p1,c1),(),(),(),((p2,c2),(p3,c3),(p4,c4),(),())),((none,0),(),(),())) ⟨(An a0.1 (An a0.2.1 (An a0.2.2.1 (An a0.2.2.2.1 (An (ad0 _) (An trivial a0.2.2.2.2.2.2)))))),(An (acd) (An (i6 0) (An (i6 0) (i6 0))))⟩;refine SW ?_;refine yD [12,13,14] λbs G0 a6=>?_;refine dT 6 [0,3,4,9,10,13,14,17,18] ?_;refine DXF 3 12 Z J Z O (λw Y=>f110 n Q0 a.name (Y.q 0 Z) (a1.2.2.1)) ?_;rintro ⟨p5,c5⟩ a2;dsimp only
 refine DXV 10 Z J Z O (λw Y=>f231 n Q0 (a1.1) (a1.2.1) (ad0 _)) λa3=>?_;refine dT 3 [23] ?_;refine DX.tail2 [12,13,14] Z Z J ?_;rw [show a0n a=(aX.mk ((a0p a).node) ((a0p a).index) ((a0p a).name) (i64.wrap (a.cN+1)) 5 ((a0p a).cL) ((a0p a).data),bJ.mk (a05 a.name) (ab2 a.node a.index (i64.wrap (a.cN+1))) 16 4,true) by simp only [a0n,h1,h2,h3,cC]]
 exact yX [8,9,10,11,13] (((),(),(p1,c1),(),(),(),((p2,c2),(p3,c3),(p4,c4),(),())),((p5,c5),(),(),())) ⟨(An a0.1 (An a0.2.1 (An a0.2.2.1 (An (ad0 _) (An (i6 5) (An trivial a0.2.2.2.2.2.2)))))),(An a2 (An a3 (An (i6 16) (i6 4))))⟩
 all_goals
  exact yX [8,9,10,11,12] (((),(),(p1,c1),(),(),(),((p2,c2),(p3,c3),(p4,c4),(),())),((none,0),(),(),())) ⟨a0,(An (acd) (An (i6 0) (An (i6 0) (i6 0))))⟩
end Go.Proofs.YthdfhghdipdknaaGreat
namespace Go.Stp
def ad9 (s2:(List Str)):List Str->Nat->Option (Bool)|[],i=>none|e1::rest_,i=>match (s2)[i]? with|none=>default|some e2=>bif (!((e1).toList==(e2).toList))then (some false)else ad9 s2 rest_ (i+1)
def adj (s1:(List Str))(s2:(List Str)):Bool:=bif (((s1).length:Int) !=((s2).length:Int))then false else match ad9 s2 s1 0 with|some r_=>r_|none=>true
def a8c (a:aA)(b:aA):Bool:=(adj a.parts b.parts)
def a3p (a:Str)(b:Str):Int:=bif (Op.bytesLess (a).toList (b).toList)then (-1)else bif (!(Op.bytesLess (a).toList (b).toList||(a).toList==(b).toList))then 1 else 0
def a4h (b:aA):List Str->Nat->Option (Int)|[],i=>none|e1::rest_,i=>bif decide (((i:Nat):Int)<((b.parts).length:Int))then match (b.parts)[i]? with|none=>default|some e2=>bif ((a3p e1 e2) !=0)then (some (a3p e1 e2))else a4h b rest_ (i+1)else none
def a4i (a:aA)(b:aA):Int:=match a4h b a.parts 0 with|some r_=>r_|none=>bif decide (((a.parts).length:Int)<((b.parts).length:Int))then (-1)else bif decide (((a.parts).length:Int)>((b.parts).length:Int))then 1 else 0
def a1i (a:aA)(b:aA):Bool:=((a4i a b)==0)
def abe (a:(List UInt8))(b:(List UInt8)):Bool:=(((bstr a)).toList==((bstr b)).toList)
def a9k (a:aJ)(b:aJ):Bool:=bif (a1i a.name b.name)then bif (abe a.content b.content)then bif (a1i a.aR b.aR)then bif (a.bL==b.bL)then (a.cF==b.cF)else false else false else false else false
end Go.Stp
namespace Go.Proofs.YthdfhghdipdknaaGreat
open Go.Stp
open Go.Stp.GoT (ok)
variable {w : World} (n : Nat) {K0 K1 K2 K3 K4 K5 : Option Addr} {M0 M1 M2 M3 M4 M5 : Nat}
theorem f133 (hn:n+0<=9){s1:List Str}(N0:Rd w K0 M0 s1){s2:List Str}(N1:Rd w K1 M1 s2)(a0:ok n s1)(a1:ok n s2):
 DP 133 #[vS K0 s1 M0,vS K1 s2 M1] w (pB (adj s1 s2)):=by
 have hb:=bS0 hn;refine EN Tryz.func133 Z (aS2 N0 N1) ?_;refine yKM 10 ?_ ?_<;>intro h1 af;exact R4r Z Z (by simp only [adj,h1,cC]);have r1:=a0.1;refine LS 13 s1 (ad9 s2) [12,0,1] [] [0,1] ?_;rintro i ⟨v1,v2⟩;refine yKD 14 ?_ ?_<;>intro h2 ab;obtain ⟨e1,a4,ac,a8⟩:=gO a0 i;refine yD [] λbs G0 a2=>?_;refine dT 7 [1,3] ?_;refine zDI 2 0 i a2 Z a8 ?_;rintro ae rfl;refine zDL 3 0 2 e1 a2 a4 ?_;rintro ⟨⟩;refine dT 3 [9,11] ?_;obtain ⟨e2,a3,aa,a6⟩:=gO a1 i;refine zDI 6 1 i a2 Z a6 ?_;rintro ad rfl;refine zDL 7 1 2 e2 a2 a3 ?_
 rintro ⟨⟩;refine dT 0 [17] ?_;refine DX.tail2 [] Z Z J ?_;refine yKX 24 ?_ ?_<;>intro h3 a9;have a7:=v2.trans (show _=(some false) by rw [abu a4];simp only [ad9,a3,h3,cC]);exact R4r Z Z (by simp only [adj,h1,a7,cC]);refine SA ?_;exact ITr Z (i+1) ⟨Q0,(by rw [v2,abu a4];simp only [ad9,a3,h3,cC])⟩ Q1 [0,1];have a5:=v2.trans (show _=none by rw [dn];simp only [ad9];omega);exact R4r Z Z (by simp only [adj,h1,a5,cC])
theorem f79 (hn:n+0<=9)(a:aA)(N0:Rd w K0 M0 a.parts)(b:aA)(N1:Rd w K1 M1 b.parts)(a0:ok n a)(a1:ok n b):
 DP 79 #[adu a K0 M0,adu b K1 M1] w (pB (a8c a b)):=by
 refine EN Tryz.func79 Z (aS2 N0 N1) ?_;refine KV Z Z O (λw Y=>f133 n Q0 (Y.q 0 Z) (Y.q 1 Z) (adf a0) (adf a1)) λa2=>?_;exact R4r Z Z (by simp only [a8c])
theorem f212 (hn:n+0<=9){a:Str}{b:Str}(a0:ok n a)(a1:ok n b):
 DP 212 #[.string a,.string b] w (pI n (a3p a b)):=by
 refine EN Tryz.func212 Z ac8 ?_;refine yKA 5 ?_ ?_<;>intro h1;rw [show a3p a b=(-1) by simp only [a3p,h1,cC]];exact R6r Z Z (i6 (-1));refine yKA 9 ?_ ?_<;>intro h2;rw [show a3p a b=1 by first|(simp only [a3p,h1,cC];done)|(unfold a3p;rw [h2,h1];simp only [cC])];exact R6r Z Z (i6 1);rw [show a3p a b=0 by first|(simp only [a3p,h1,cC];done)|(unfold a3p;rw [h2,h1];simp only [cC])];exact R6r Z Z (i6 0)
theorem f183 (hn:n+0<=9)(a:aA)(N0:Rd w K0 M0 a.parts)(b:aA)(N1:Rd w K1 M1 b.parts)(a1:ok n a)(a7:ok n b):
 DP 183 #[adu a K0 M0,adu b K1 M1] w (pI n (a4i a b)):=by
 have hb:=bS0 hn;refine EN Tryz.func183 Z (aS2 N0 N1) ?_;have r1:=(okl (adf a1)).1;refine LS 5 a.parts (a4h b) [3,2] [3,2] [0,1] ?_;rintro i ⟨v1,v2⟩;refine yKD 12 ?_ ?_<;>intro h1 ak;obtain ⟨e1,a4,ac,ae⟩:=gO (adf a1) i;refine yKD 18 ?_ ?_<;>intro h2 ah;refine yD [] λbs G0 a3=>?_;refine dT 9 [1,2,5] ?_;refine zDI 3 0 i a3 Z ae ?_;rintro aj rfl;refine zDL 4 0 2 e1 a3 a4 ?_;rintro ⟨⟩;refine dT 4 [11,12,15] ?_;obtain ⟨e2,a9,aa,ab⟩:=gO (adf a7) i;refine zDI 8 1 i a3 Z ab ?_;rintro ai rfl;refine zDL 9 1 2 e2 a3 a9 ?_;rintro ⟨⟩
 refine DXV 10 Z J Z O (λw Y=>f212 n Q0 ac aa) λaf=>?_;refine dT 0 [23] ?_;refine DX.tail2 [] Z Z J ?_;refine yKM 33 ?_ ?_<;>intro h3 ag;have ad:=v2.trans (show _=(some (a3p e1 e2)) by rw [abu a4];simp only [a4h,h2,a9,h3,cC]);rw [show a4i a b=(a3p e1 e2) by simp only [a4i,ad]];exact R6r Z Z af;refine SA ?_;exact ITr Z (i+1) ⟨Q0,(by rw [v2,abu a4];simp only [a4h,h2,a9,h3,cC])⟩ Q1 [0,1]
 have a0:=v2.trans (show _=none by rw [abu a4];simp only [a4h,h2,cC]);rotate_left;have a0:=v2.trans (show _=none by rw [dn];simp only [a4h];omega);rotate_left
 all_goals
  refine yKA 35 ?_ ?_<;>intro a2;have a8:=B.dt a2;rw [show a4i a b=(-1) by simp only [a4i,a0,a2,cC]];exact R6r Z Z (i6 (-1));have a8:=B.df a2;refine yKA 43 ?_ ?_<;>intro a5;have a6:=B.dt a5;rw [show a4i a b=1 by simp only [a4i,a0,a2,a5,cC]];exact R6r Z Z (i6 1);have a6:=B.df a5;rw [show a4i a b=0 by simp only [a4i,a0,a2,a5,cC]];exact R6r Z Z (i6 0)
theorem f173 (hn:n+0<=9)(a:aA)(N0:Rd w K0 M0 a.parts)(b:aA)(N1:Rd w K1 M1 b.parts)(a0:ok n a)(a1:ok n b):
 DP 173 #[adu a K0 M0,adu b K1 M1] w (pB (a1i a b)):=by
 refine EN Tryz.func173 Z (aS2 N0 N1) ?_;refine KV Z Z O (λw Y=>f183 n Q0 a (Y.q 0 Z) b (Y.q 1 Z) a0 a1) λa2=>?_;exact R4r Z Z (by simp only [a1i])
theorem f272 (hn:n+0<=9){a:List UInt8}(N0:Rd w K0 M0 a){b:List UInt8}(N1:Rd w K1 M1 b)(a0:ok n a)(a1:ok n b):
 DP 272 #[vS K0 a M0,vS K1 b M1] w (pB (abe a b)):=by
 refine EN Tryz.func272 Z (aS2 N0 N1) ?_;refine KS Z Z Z Z (λ_ hΓ=>ah7 ttOk (hΓ.get 0 Z) Z Z Z Z Z Z Z Z Z) ?_;refine KS Z Z Z Z (λ_ hΓ=>ah7 ttOk (hΓ.get 1 Z) Z Z Z Z Z Z Z Z Z) ?_;exact R4r Z Z (by simp only [abe])
theorem f247 (hn:n+0<=9)(a:aJ)(N0:Rd w K0 M0 a.name.parts)(N1:Rd w K1 M1 a.content)(N2:Rd w K2 M2 a.aR.parts)(b:aJ)(N3:Rd w K3 M3 b.name.parts)(N4:Rd w K4 M4 b.content)(N5:Rd w K5 M5 b.aR.parts)(a0:ok n a)(a1:ok n b):
 DP 247 #[afd a K0 M0 K1 M1 K2 M2,afd b K3 M3 K4 M4 K5 M5] w (pB (a9k a b)):=by
 refine EN Tryz.func247 Z (aS6 N0 N1 N2 N3 N4 N5) ?_;refine KV Z Z O (λw Y=>f173 n Q0 a.name (Y.q 0 Z) b.name (Y.q 3 Z) (a0.1) (a1.1)) λa5=>?_;refine yKA 10 ?_ ?_<;>intro h1;refine KV Z Z O (λw Y=>f272 n Q0 (Y.q 1 Z) (Y.q 4 Z) (a0.2.1) (a1.2.1)) λa3=>?_;refine yKA 17 ?_ ?_<;>intro h2;refine KV Z Z O (λw Y=>f173 n Q0 a.aR (Y.q 2 Z) b.aR (Y.q 5 Z) (a0.2.2.1) (a1.2.2.1)) λa4=>?_;refine yKA 24 ?_ ?_<;>intro h3;refine yKE 31 ?_ ?_<;>intro h4 a2
 exact R4r Z Z (by simp only [a9k,h1,h2,h3,h4,cC]);exact R4r Z Z (by simp only [a9k,h1,h2,h3,h4,cC]);exact R4r Z Z (by simp only [a9k,h1,h2,h3,cC]);exact R4r Z Z (by simp only [a9k,h1,h2,cC]);exact R4r Z Z (by simp only [a9k,h1,cC])
end Go.Proofs.YthdfhghdipdknaaGreat
namespace Go.Stp
def a22:List UInt8->Option (Bool)|[]=>none|e1::rest_=>bif decide (((e1).toNat:Int)>=97)then bif decide (((e1).toNat:Int)<=122)then a22 rest_ else bif decide (((e1).toNat:Int)>=48)then bif decide (((e1).toNat:Int)<=57)then a22 rest_ else bif (!(((e1).toNat:Int)==45))then (some false)else a22 rest_ else bif (!(((e1).toNat:Int)==45))then (some false)else a22 rest_ else bif decide (((e1).toNat:Int)>=48)then bif decide (((e1).toNat:Int)<=57)then a22 rest_ else bif (!(((e1).toNat:Int)==45))then (some false)else a22 rest_ else bif (!(((e1).toNat:Int)==45))then (some false)else a22 rest_
def a8d (s:Str):Bool:=match a22 ((s).data.toList)with|some r_=>r_|none=>(a0o (((s).size:Nat):Int) 1 8)
def a3q:List UInt8->Option (Bool)|[]=>none|e1::rest_=>bif (!(a07 ((e1).toNat:Int) 97 122))then bif (!(a07 ((e1).toNat:Int) 48 57))then bif (((e1).toNat:Int) !=45)then (some false)else a3q rest_ else a3q rest_ else a3q rest_
def a2z (s:Str):Bool:=bif (!(a07 (((s).size:Nat):Int) 1 8))then false else match a3q ((s).data.toList)with|some r_=>r_|none=>true
def aco (fq:Str->Bool):List Str->Nat->Option (Int)|[],i=>none|e1::rest_,i=>bif fq e1 then (some ((i:Nat):Int))else aco fq rest_ (i+1)
def ad4 (s:(List Str))(fq:Str->Bool):Int:=match aco fq s 0 with|some r_=>r_|none=>(-1)
def adn (s:(List Str))(fq:Str->Bool):Bool:=(decide ((ad4 s fq)>=0))
def ab3 (p_:Str):Bool:=(!(a8d p_))
def a5i (n_:aA):Bool:=bif decide (((n_.parts).length:Int)<=6)then (!(adn n_.parts (λe0_=>(ab3 e0_))))else false
def a3d:List Str->Option (Bool)|[]=>none|e1::rest_=>bif (!(a2z e1))then (some false)else a3d rest_
def a1e (n_:aA):Bool:=match a3d n_.parts with|some r_=>r_|none=>(decide (((n_.parts).length:Int)<=6))
def a23 (x_:aJ):Bool:=bif (a1e x_.name)then bif decide (((x_.name.parts).length:Int)>0)then bif decide (((x_.content).length:Int)<=60)then bif (a1e x_.aR)then bif (a07 x_.bL 0 100000)then (a07 x_.cF 0 2147483646)else false else false else false else false else false
def a5j (a:aX):Bool:=bif (!(a07 a.node 0 5))then false else bif (!(a07 a.index 0 7))then false else bif (!(a1e a.name))then false else bif (((a.name.parts).length:Int)==0)then false else bif (!(a07 a.cN 0 900))then false else bif (!(a07 a.wait 0 5))then false else bif a.cL then bif (a23 a.data)then (a1i a.data.name a.name)else false else (a9k a.data (aJ.mk (aA.mk ([])) ([]) (aA.mk ([])) 0 0))
end Go.Stp
namespace Go.Proofs.YthdfhghdipdknaaGreat
open Go.Stp
open Go.Stp.GoT (ok)
variable {w : World} (n : Nat) {K0 K1 K2 K3 : Option Addr} {M0 M1 M2 M3 : Nat}
theorem f207 (hn:n+0<=9){s:Str}(a5:ok n s):
 DP 207 #[.string s] w (pB (a8d s)):=by
 have hb:=bS0 hn;refine EN Tryz.func207 Z ac8 ?_;have r1:s.size<=bd n:=a5;refine LM Z 0 (λi=>((i<=s.data.toList.length)/\(a22 (s.data.toList)=a22 (s.data.toList.drop i)),s.data.toList.length-i,[(7,.v (vI i))],[],[],[])) ⟨zl,Z⟩ [6,0] [] [] [] ?_;rintro i ⟨v1,v2⟩;refine yKD 8 ?_ ?_<;>intro h1 ab;have a8:i<s.data.toList.length:=(by (have hz_:s.data.toList.length=s.size:=by simp);omega);obtain ⟨e1,a0⟩:=gE a8;refine KS Z Z Z Z (λ_ hΓ=>ag0 ttOk Z Z Z Z Z a0) ?_
 ·skip
  refine yKD 15 ?_ ?_<;>intro h2 aa;refine yKA 19 ?_ ?_<;>intro h3;have a3:=B.dt h3;refine SA ?_;exact ITr Z (i+1) ⟨Q0,(by rw [v2,abu a0];simp only [a22,h2,h3,cC])⟩ Q1 [];have a3:=B.df h3;refine yKA 22 ?_ ?_<;>intro h4;have a2:=B.dt h4;refine yKA 27 ?_ ?_<;>intro h5;have a4:=B.dt h5;refine SA ?_;exact ITr Z (i+1) ⟨Q0,(by rw [v2,abu a0];simp only [a22,h2,h3,h4,h5,cC])⟩ Q1 [];have a4:=B.df h5;refine yKX 31 ?_ ?_<;>intro h6 a9
  have a1:=v2.trans (show _=(some false) by rw [abu a0];simp only [a22,h2,h3,h4,h5,h6,cC]);exact R4r Z Z (by simp only [a8d,a1]);refine SA ?_;exact ITr Z (i+1) ⟨Q0,(by rw [v2,abu a0];simp only [a22,h2,h3,h4,h5,h6,cC])⟩ Q1 [];rotate_left;refine yKA 22 ?_ ?_<;>intro h3;have a3:=B.dt h3;refine yKA 27 ?_ ?_<;>intro h4;have a2:=B.dt h4;refine SA ?_
  exact ITr Z (i+1) ⟨Q0,(by rw [v2,abu a0];simp only [a22,h2,h3,h4,cC])⟩ Q1 [];rotate_left;have a3:=B.df h3;refine yKA 31 ?_ ?_<;>intro h4;have a2:=B.ef (B.nt h4);have a1:=v2.trans (show _=(some false) by rw [abu a0];simp only [a22,h2,h3,h4,cC]);exact R4r Z Z (by simp only [a8d,a1]);have a2:=B.et (B.nf h4);refine SA ?_;exact ITr Z (i+1) ⟨Q0,(by rw [v2,abu a0];simp only [a22,h2,h3,h4,cC])⟩ Q1 []
  all_goals
   have a2:=B.df h4;refine yKA 31 ?_ ?_<;>intro h5;have a4:=B.ef (B.nt h5);have a1:=v2.trans (show _=(some false) by rw [abu a0];simp only [a22,h2,h3,h4,h5,cC]);exact R4r Z Z (by simp only [a8d,a1]);have a4:=B.et (B.nf h5);refine SA ?_;exact ITr Z (i+1) ⟨Q0,(by rw [v2,abu a0];simp only [a22,h2,h3,h4,h5,cC])⟩ Q1 []
 have a6:=v2.trans (show _=none by rw [dn (show s.data.toList.length<=i by (have hz_:s.data.toList.length=s.size:=by simp);omega)];simp only [a22]);refine KV Z Z O (λw Y=>f33 n Q0 (i6 ((s.size:Nat):Int)) (i6 1) (i6 8)) λa7=>?_;exact R4r Z Z (by simp only [a8d,a6])
theorem f217 (hn:n+0<=9){s:Str}(a1:ok n s):
 DP 217 #[.string s] w (pB (a2z s)):=by
 have hb:=bS0 hn;refine EN Tryz.func217 Z ac8 ?_;have r1:s.size<=bd n:=a1;refine KV Z Z O (λw Y=>f120 n Q0 (i6 ((s.size:Nat):Int)) (i6 1) (i6 8)) λad=>?_;refine yKN 8 ?_ ?_<;>intro h1 af;exact R4r Z Z (by simp only [a2z,h1,cC]);have a7:=ad8 (B.nf h1);refine LM Z 0 (λi=>((i<=s.data.toList.length)/\(a3q (s.data.toList)=a3q (s.data.toList.drop i)),s.data.toList.length-i,[(3,.v (vI i))],[],[],[])) ⟨zl,Z⟩ [0] [] [] [] ?_;rintro i ⟨v1,v2⟩;refine yKD 12 ?_ ?_<;>intro h2 a8
 have a4:i<s.data.toList.length:=(by (have hz_:s.data.toList.length=s.size:=by simp);omega);obtain ⟨e1,a0⟩:=gE a4;refine KS Z Z Z Z (λ_ hΓ=>ag0 ttOk Z Z Z Z Z a0) ?_;refine WX.see Z Z Z (λ_ hΓ=>ags ttOk Z Z Z Z Z Z) ?_;have r2:e1.toNat<256:=UInt8.toNat_lt _;refine KV Z Z O (λw Y=>f120 n Q0 (i6 (e1.toNat:Int)) (i6 97) (i6 122)) λa5=>?_;refine yKN 22 ?_ ?_<;>intro h3 a6;refine KV Z Z O (λw Y=>f120 n Q0 (i6 (e1.toNat:Int)) (i6 48) (i6 57)) λac=>?_;refine yKN 27 ?_ ?_<;>intro h4 aa
 refine yKM 30 ?_ ?_<;>intro h5 ab;have a3:=v2.trans (show _=(some false) by rw [abu a0];simp only [a3q,h3,h4,h5,cC]);exact R4r Z Z (by simp only [a2z,h1,a3,cC]);refine SA ?_;exact ITr Z (i+1) ⟨Q0,(by rw [v2,abu a0];simp only [a3q,h3,h4,h5,cC])⟩ Q1 [];refine SA ?_;exact ITr Z (i+1) ⟨Q0,(by rw [v2,abu a0];simp only [a3q,h3,h4,cC])⟩ Q1 []
 refine SA ?_;exact ITr Z (i+1) ⟨Q0,(by rw [v2,abu a0];simp only [a3q,h3,cC])⟩ Q1 [];have a2:=v2.trans (show _=none by rw [dn (show s.data.toList.length<=i by (have hz_:s.data.toList.length=s.size:=by simp);omega)];simp only [a3q]);exact R4r Z Z (by simp only [a2z,h1,a2,cC])
theorem f249 (hn:n+0<=9){s:List Str}(N0:Rd w K0 M0 s)(fg:FuncId)(fc:List Value)(fq:Str->Bool)(ff:∀w1,Kp emp w w1->∀(e0:Str) (x0:GoT.X Str),ok n e0->All (hp w1) (GoT.fa .der e0 x0)->Does Tryz.prog fg ([(GoT.sh e0 x0).headD undef]++fc).toArray w1 emp (λrv _=>rv= .bool (fq e0)/\True))(a0:ok n s):
 DP 249 #[vS K0 s M0,.func (.func fg) #[] fc.toArray] w (pI n (ad4 s fq)):=by
 have hb:=bS0 hn;refine EN Tryz.func249 Z (aS1 N0) ?_;have r1:=a0.1;refine LS 8 s (aco fq) [7,0,1] [] [0] ?_;rintro i ⟨v1,v2⟩;refine yKD 9 ?_ ?_<;>intro h1 a8;obtain ⟨e1,a1,a3,a5⟩:=gO a0 i;refine yI 0 i a5 ?_;rintro a6 rfl;refine zL 0 1 e1 a1 ?_;rintro ⟨⟩;refine WX.callV Z Z Z Z Z O Z (λw G bs hI hΓ=>ff w hI.keep e1 () a3 All.nil) λa7=>?_;refine yKA 16 ?_ ?_<;>intro h2;have a4:=v2.trans (show _=(some (i:Int)) by rw [abu a1];simp only [aco,h2,cC])
 rw [show ad4 s fq=((i:Nat):Int) by simp only [ad4,a4]];exact R6r Z Z (i6 (i:Nat));refine SA ?_;exact ITr Z (i+1) ⟨Q0,(by rw [v2,abu a1];simp only [aco,h2,cC])⟩ Q1 [0];have a2:=v2.trans (show _=none by rw [dn];simp only [aco];omega);rw [show ad4 s fq=(-1) by simp only [ad4,a2]];exact R6r Z Z (i6 (-1))
theorem aem:∀(f:Str->Bool) (l:List Str)(i:Nat)(j:Int),aco f l i=some j->j<((i+l.length:Nat):Int)
 |f,[],i,j,h=>by cases h
 |f,x::l,i,j,h=>by
  simp only [aco]at h;cases hx:f x
  ·rw [hx,cond_false]at h
   have:=aem f l (i+1) j h
   grind
  ·grind
theorem ag9 (l:List Str)(f:Str->Bool):ad4 l f<(l.length:Int):=by
 unfold ad4;cases h:aco f l 0 with
 |none=>show (-1:Int)<_;omega
 |some j=>have:=aem f l 0 j h;show j<_;omega
theorem f205 (hn:n+0<=9){s:List Str}(N0:Rd w K0 M0 s)(fg:FuncId)(fc:List Value)(fq:Str->Bool)(ff:∀w1,Kp emp w w1->∀(e0:Str) (x0:GoT.X Str),ok n e0->All (hp w1) (GoT.fa .der e0 x0)->Does Tryz.prog fg ([(GoT.sh e0 x0).headD undef]++fc).toArray w1 emp (λrv _=>rv= .bool (fq e0)/\True))(a0:ok n s):
 DP 205 #[vS K0 s M0,.func (.func fg) #[] fc.toArray] w (pB (adn s fq)):=by
 refine EN Tryz.func205 Z (aS1 N0) ?_;refine KW Z Z Z Z Z Z O Z (λw G bs hI hΓ=>f249 n Q0 (hΓ.get 0 Z) fg fc fq (λa1 a2=>ff a1 (hI.keep.trans a2)) a0) λa3=>?_;exact R4r Z Z (by simp only [adn])
theorem f206 (hn:n+0<=9){p_:Str}(a0:ok n p_):
 DP 206 #[.string p_] w (pB (ab3 p_)):=by
 refine EN Tryz.func206 Z ac8 ?_;refine KV Z Z O (λw Y=>f207 n Q0 a0) λa1=>?_;exact R4r Z Z (by simp only [ab3])
theorem f177 (hn:n+0<=9)(n_:aA)(N0:Rd w K0 M0 n_.parts)(a0:ok n n_):
 DP 177 #[adu n_ K0 M0] w (pB (a5i n_)):=by
 refine EN Tryz.func177 Z (aS1 N0) ?_;refine yKD 7 ?_ ?_<;>intro h1 a4;refine KV Z Z O (λw Y=>f205 n Q0 (Y.q 0 Z) 206 [] (λa2=>(ab3 a2)) (λa6 a7 a2 a5 a1 a3=>f206 n Q0 a1) (adf a0)) λa8=>?_;exact R4r Z Z (by simp only [a5i,h1,cC]);exact R4r Z Z (by simp only [a5i,h1,cC])
theorem f189 (hn:n+0<=9)(n_:aA)(N0:Rd w K0 M0 n_.parts)(a0:ok n n_):
 DP 189 #[adu n_ K0 M0] w (pB (a1e n_)):=by
 have hb:=bS0 hn;refine EN Tryz.func189 Z (aS1 N0) ?_;have r1:=(okl (adf a0)).1;refine LT 3 n_.parts a3d [1] [1] [0] ?_;rintro i ⟨v1,v2⟩;refine yKD 8 ?_ ?_<;>intro h1 a9;obtain ⟨e1,a1,a3,a5⟩:=gO (adf a0) i;refine yI 0 i a5 ?_;rintro a7 rfl;refine zL 0 1 e1 a1 ?_;rintro ⟨⟩;refine CV Z O (λw Y=>f217 n Q0 a3) λa8=>?_;refine yKN 17 ?_ ?_<;>intro h2 a6;have a4:=v2.trans (show _=(some false) by rw [abu a1];simp only [a3d,h2,cC]);exact R4r Z Z (by simp only [a1e,a4]);refine SA ?_
 exact ITr Z (i+1) ⟨Q0,(by rw [v2,abu a1];simp only [a3d,h2,cC])⟩ Q1 [0];have a2:=v2.trans (show _=none by rw [dn];simp only [a3d];omega);exact R4r Z Z (by simp only [a1e,a2])
theorem f192 (hn:n+0<=9)(x_:aJ)(N0:Rd w K0 M0 x_.name.parts)(N1:Rd w K1 M1 x_.content)(N2:Rd w K2 M2 x_.aR.parts)(a0:ok n x_):
 DP 192 #[afd x_ K0 M0 K1 M1 K2 M2] w (pB (a23 x_)):=by
 refine EN Tryz.func192 Z (aS3 N0 N1 N2) ?_;refine KV Z Z O (λw Y=>f189 n Q0 x_.name (Y.q 0 Z) (a0.1)) λa7=>?_;refine yKA 6 ?_ ?_<;>intro h1;refine yKD 13 ?_ ?_<;>intro h2 a4;refine yKD 19 ?_ ?_<;>intro h3 a6;refine KV Z Z O (λw Y=>f189 n Q0 x_.aR (Y.q 2 Z) (a0.2.2.1)) λa1=>?_;refine yKA 24 ?_ ?_<;>intro h4;refine KV Z Z O (λw Y=>f120 n Q0 (a0.2.2.2.1) (i6 0) (i6 100000)) λa5=>?_;refine yKA 29 ?_ ?_<;>intro h5
 refine KV Z Z O (λw Y=>f120 n Q0 (a0.2.2.2.2) (i6 0) (i6 2147483646)) λa2=>?_;exact R4r Z Z (by simp only [a23,h1,h2,h3,h4,h5,cC]);exact R4r Z Z (by simp only [a23,h1,h2,h3,h4,h5,cC]);exact R4r Z Z (by simp only [a23,h1,h2,h3,h4,cC]);exact R4r Z Z (by simp only [a23,h1,h2,h3,cC]);exact R4r Z Z (by simp only [a23,h1,h2,cC]);exact R4r Z Z (by simp only [a23,h1,cC])
theorem f202 (hn:n+0<=9)(a:aX)(N0:Rd w K0 M0 a.name.parts)(N1:Rd w K1 M1 a.data.name.parts)(N2:Rd w K2 M2 a.data.content)(N3:Rd w K3 M3 a.data.aR.parts)(a0:ok n a):
 DP 202 #[ag7 a K0 M0 K1 M1 K2 M2 K3 M3] w (pB (a5j a)):=by
 refine EN Tryz.func202 Z (aS4 N0 N1 N2 N3) ?_;refine KV Z Z O (λw Y=>f120 n Q0 (a0.1) (i6 0) (i6 5)) λae=>?_;refine yKN 7 ?_ ?_<;>intro h1 af;exact R4r Z Z (by simp only [a5j,h1,cC]);refine KV Z Z O (λw Y=>f120 n Q0 (a0.2.1) (i6 0) (i6 7)) λa2=>?_;refine yKN 13 ?_ ?_<;>intro h2 a8;exact R4r Z Z (by simp only [a5j,h1,h2,cC])
 refine KV Z Z O (λw Y=>f189 n Q0 a.name (Y.q 0 Z) (a0.2.2.1)) λac=>?_;refine yKN 19 ?_ ?_<;>intro h3 a3;exact R4r Z Z (by simp only [a5j,h1,h2,h3,cC]);refine yKE 26 ?_ ?_<;>intro h4 a9;exact R4r Z Z (by simp only [a5j,h1,h2,h3,h4,cC]);refine KV Z Z O (λw Y=>f120 n Q0 (a0.2.2.2.1) (i6 0) (i6 900)) λa6=>?_;refine yKN 32 ?_ ?_<;>intro h5 aa;exact R4r Z Z (by simp only [a5j,h1,h2,h3,h4,h5,cC])
 refine KV Z Z O (λw Y=>f120 n Q0 (a0.2.2.2.2.1) (i6 0) (i6 5)) λag=>?_;refine yKN 37 ?_ ?_<;>intro h6 a5;exact R4r Z Z (by simp only [a5j,h1,h2,h3,h4,h5,h6,cC]);refine yKA 39 ?_ ?_<;>intro h7
 replace h7:a.cL=true:=h7
 refine KV Z Z O (λw Y=>f192 n Q0 a.data (Y.q 1 Z) (Y.q 2 Z) (Y.q 3 Z) (a0.2.2.2.2.2.2)) λa1=>?_;refine yKA 43 ?_ ?_<;>intro h8;refine KV Z Z O (λw Y=>f173 n Q0 a.data.name (Y.q 1 Z) a.name (Y.q 0 Z) ((ac0 a0.2.2.2.2.2.2).1) (a0.2.2.1)) λa4=>?_;exact R4r Z Z (by simp only [a5j,h1,h2,h3,h4,h5,h6,h7,h8,cC]);exact R4r Z Z (by simp only [a5j,h1,h2,h3,h4,h5,h6,h7,h8,cC])
 replace h7:a.cL=false:=h7
 refine KV Z Z O (λw Y=>f247 n Q0 a.data (Y.q 1 Z) (Y.q 2 Z) (Y.q 3 Z) (aJ.mk (aA.mk ([])) ([]) (aA.mk ([])) 0 0) (ah8 _ _ _) (ah8 _ _ _) (ah8 _ _ _) (a0.2.2.2.2.2.2) (An (acd) (An (acd) (An (acd) (An (i6 0) (i6 0)))))) λa1=>?_;exact R4r Z Z (by simp only [a5j,h1,h2,h3,h4,h5,h6,h7,cC])
end Go.Proofs.YthdfhghdipdknaaGreat
namespace Go.Stp
def a73 (l:(List aK)):List aK->Nat->Option (Bool)|[],i=>none|e1::rest_,i=>bif (!(a1e e1.name))then (some false)else bif decide (((i:Nat):Int)>0)then match (l)[(((i:Nat):Int)-1).toNat]? with|none=>default|some e2=>bif decide ((a4i e2.name e1.name)>=0)then (some false)else a73 l rest_ (i+1)else a73 l rest_ (i+1)
def a8e (l:(List aK)):Bool:=match a73 l l 0 with|some r_=>r_|none=>(decide (((l).length:Int)<=20))
end Go.Stp
namespace Go.Proofs.YthdfhghdipdknaaGreat
open Go.Stp
open Go.Stp.GoT (ok)
variable {w : World} (n : Nat) {K0 : Option Addr} {M0 : Nat}
theorem f184 (hn:n+0<=9){l:List aK}(N0:Rd w K0 M0 l)(a0:ok n l):
 DP 184 #[vS K0 l M0] w (pB (a8e l)):=by
 have hb:=bS0 hn;refine EN Tryz.func184 Z (aS1 N0) ?_;have r1:=a0.1;refine LS 3 l (a73 l) [0] [] [0] ?_;rintro i ⟨v1,v2⟩;refine yKD 7 ?_ ?_<;>intro h1 ai;obtain ⟨e1,a2,a6,a7⟩:=gO a0 i;refine yD [] λbs G0 a1=>?_;refine dT 24 [1,3] ?_;refine zDI 2 0 i a1 Z a7 ?_;rintro ag rfl;refine dT 22 [7] ?_;refine zDL 4 0 1 e1 a1 a2 ?_;rintro ⟨⟨p1,c1⟩,_⟩;refine DXV 5 Z J Z O (λw Y=>f189 n Q0 e1.name (Y.q 1 Z) (a6.1)) λah=>?_;refine dT 18 [13,15] ?_;refine zDC 17 ?_ ?_<;>intro h2
 refine dT 0 [17,19,21,23,25,27,29,31,33,35,37,39,41,43,45,47,49,51] ?_;refine DX.tail2 [] Z Z J ?_;have a3:=v2.trans (show _=(some false) by rw [abu a2];simp only [a73,h2,cC]);exact R4r Z Z (by simp only [a8e,a3]);refine dT 15 [17,19,21] ?_;refine zDC 20 ?_ ?_<;>intro h3;have a8:=B.dt h3;refine dT 13 [23,25] ?_;refine DX.seeP 13 J Z Z Z Z (ad7 Z Z Z Z Q6) ?_;refine DI 23 ?_
 obtain ⟨e2,a4,a9,ab⟩:=gO a0 (((i:Int)-1).toNat);refine zDI 14 0 _ a1 Z ab ?_;rintro af ⟨⟩;refine dT 10 [31] ?_;refine zDL 16 0 2 e2 a1 a4 ?_;rintro ⟨⟨p2,c2⟩,_⟩;refine dT 7 [35,37] ?_;refine zDI 19 0 i a1 Z a7 ?_;rintro ad ⟨⟩;refine dT 5 [41] ?_;refine zDL 21 0 3 e1 a1 a2 ?_;rintro ⟨⟨p3,c3⟩,_⟩;refine DXV 22 Z J Z O (λw Y=>f183 n Q0 e2.name (Y.q 2 Z) e1.name (Y.q 3 Z) (a9.1) (a6.1)) λac=>?_;refine dT 0 [47,49,51] ?_;refine DX.tail2 [] Z Z J ?_;refine yKD 35 ?_ ?_<;>intro h4 ae
 have a3:=v2.trans (show _=(some false) by rw [abu a2];simp only [a73,h2,h3,a4,h4,cC]);exact R4r Z Z (by simp only [a8e,a3]);refine SA ?_;exact ITr Z (i+1) ⟨Q0,(by rw [v2,abu a2];simp only [a73,h2,h3,a4,h4,cC])⟩ Q1 [0];have a8:=B.df h3;refine dT 0 [23,25,27,29,31,33,35,37,39,41,43,45,47,49,51] ?_;refine DX.tail2 [] Z Z J ?_;refine SA ?_
 exact ITr Z (i+1) ⟨Q0,(by rw [v2,abu a2];simp only [a73,h2,h3,cC])⟩ Q1 [0];have a5:=v2.trans (show _=none by rw [dn];simp only [a73];omega);exact R4r Z Z (by simp only [a8e,a5])
end Go.Proofs.YthdfhghdipdknaaGreat
namespace Go.Stp
def a74 (n_:aA):List aK->Nat->Option (Int)|[],i=>none|e1::rest_,i=>bif (a1i e1.name n_)then (some ((i:Nat):Int))else a74 n_ rest_ (i+1)
def a1t (l:(List aK))(n_:aA):Int:=match a74 n_ l 0 with|some r_=>r_|none=>(-1)
end Go.Stp
namespace Go.Proofs.YthdfhghdipdknaaGreat
open Go.Stp
open Go.Stp.GoT (ok)
variable {w : World} (n : Nat) {K0 K1 : Option Addr} {M0 M1 : Nat}
theorem f182 (hn:n+0<=9){l:List aK}(N0:Rd w K0 M0 l)(n_:aA)(N1:Rd w K1 M1 n_.parts)(a0:ok n l)(a1:ok n n_):
 DP 182 #[vS K0 l M0,adu n_ K1 M1] w (pI n (a1t l n_)):=by
 have hb:=bS0 hn;refine EN Tryz.func182 Z (aS2 N0 N1) ?_;have r1:=a0.1;refine LS 5 l (a74 n_) [3,0] [3] [0,1] ?_;rintro i ⟨v1,v2⟩;refine yKD 9 ?_ ?_<;>intro h1 aa;obtain ⟨e1,a2,a5,a7⟩:=gO a0 i;refine yD [] λbs G0 a4=>?_;refine dT 5 [1,3] ?_;refine zDI 2 0 i a4 Z a7 ?_;rintro a8 rfl;refine dT 3 [7] ?_;refine zDL 4 0 2 e1 a4 a2 ?_;rintro ⟨⟨p1,c1⟩,_⟩;refine dT 1 [10] ?_;refine DXV 6 Z J Z O (λw Y=>f173 n Q0 e1.name (Y.q 2 Z) n_ (Y.q 1 Z) (a5.1) a1) λa9=>?_;refine DX.tail2 [] Z Z J ?_;refine yKA 18 ?_ ?_<;>intro h2
 have a6:=v2.trans (show _=(some (i:Int)) by rw [abu a2];simp only [a74,h2,cC]);rw [show a1t l n_=((i:Nat):Int) by simp only [a1t,a6]];exact R6r Z Z (i6 (i:Nat));refine SA ?_;exact ITr Z (i+1) ⟨Q0,(by rw [v2,abu a2];simp only [a74,h2,cC])⟩ Q1 [0,1];have a3:=v2.trans (show _=none by rw [dn];simp only [a74];omega);rw [show a1t l n_=(-1) by simp only [a1t,a3]];exact R6r Z Z (i6 (-1))
theorem au6 (n_:aA):∀(l:List aK) (i:Nat) (j:Int),a74 n_ l i=some j->j<((i+l.length:Nat):Int)
 |[],i,j,h=>by cases h
 |x::l,i,j,h=>by
  simp only [a74]at h;cases hx:a1i x.name n_
  ·rw [hx,cond_false]at h
   have:=au6 n_ l (i+1) j h
   grind
  ·grind
theorem ar8 (l:List aK)(n_:aA):a1t l n_<(l.length:Int):=by
 unfold a1t;cases h:a74 n_ l 0 with
 |none=>show (-1:Int)<_;omega
 |some j=>have:=au6 n_ l 0 j h;show j<_;omega
end Go.Proofs.YthdfhghdipdknaaGreat
namespace Go.Stp
def aec (x_:Int):Bool:=(x_ !=x_)
def abz (x_:Int)(y:Int):Int:=bif (aec x_)then bif (aec y)then 0 else (-1)else bif (aec y)then 1 else bif decide (x_<y)then (-1)else bif decide (x_>y)then 1 else 0
def aex:List Int->Option (Int)|[]=>none|e1::rest_=>bif (e1 !=0)then (some e1)else aex rest_
def af0 (vals:(List Int)):Int:=match aex vals with|some r_=>r_|none=>0
def aaf (a:aQ)(b:aQ):Int:=(af0 ([(abz a.a b.a),(abz a.b b.b)]))
def a3e (n_:aV):List aQ->Nat->Option (Bool)|[],i=>none|e1::rest_,i=>bif (!(a0o e1.a 0 (i64.wrap (n_.size-1))))then (some false)else bif (!(a0o e1.b (i64.wrap (e1.a+1)) (i64.wrap (n_.size-1))))then (some false)else bif decide (((i:Nat):Int)>0)then match (n_.links)[(((i:Nat):Int)-1).toNat]? with|none=>default|some e2=>bif decide ((aaf e2 e1)>=0)then (some false)else a3e n_ rest_ (i+1)else a3e n_ rest_ (i+1)
def a5k (n_:aV):Bool:=match a3e n_ n_.links 0 with|some r_=>r_|none=>(a0o n_.size 1 6)
def a52 (a:aQ)(b:aQ):Bool:=bif decide (a.a<b.a)then true else bif (a.a==b.a)then (decide (a.b<b.b))else false
def a35 (n_:aV):List aQ->Nat->Option (Bool)|[],i=>none|e1::rest_,i=>bif (!(a07 e1.a 0 (i64.wrap (n_.size-1))))then (some false)else bif (!(a07 e1.b 0 (i64.wrap (n_.size-1))))then (some false)else bif decide (e1.a>=e1.b)then (some false)else bif decide (((i:Nat):Int)>0)then match (n_.links)[(((i:Nat):Int)-1).toNat]? with|none=>default|some e2=>bif (!(a52 e2 e1))then (some false)else a35 n_ rest_ (i+1)else a35 n_ rest_ (i+1)
def a4j (n_:aV):Bool:=match a35 n_ n_.links 0 with|some r_=>r_|none=>(a07 n_.size 1 6)
def NT (o:Option Bool):Prop:=o=none\/o=some false
theorem NT.no:NT none:= .inl rfl
theorem NT.sf:NT (some false):= .inr rfl
theorem ntc {c:Bool}{a b:Option Bool}(ha:NT a)(hb:NT b):NT (bif c then a else b):=by grind
theorem vtN (n_:aV):∀(l:List aQ) (i:Nat),NT (a35 n_ l i)
 |[],i=>NT.no
 |x::l,i=>by
  have ih:=vtN n_ l (i+1);simp only [a35];refine ntc .sf (ntc .sf (ntc .sf (ntc ?_ ih)));cases (n_.links)[(((i:Nat):Int)-1).toNat]? with
  |none=>exact .no
  |some e2=>exact ntc .sf ih
def a9l (size:Int):List aK->Option (Bool)|[]=>none|e1::rest_=>bif (!(a07 e1.value 0 (i64.wrap (size-1))))then (some false)else a9l size rest_
def aag (h_:(List aK))(size:Int):Bool:=match a9l size h_ with|some r_=>r_|none=>(a8e h_)
def a3f (a:Int)(b:Int)(k:aQ):Bool:=bif (k.a==a)then bif (k.b==b)then true else bif (k.a==b)then (k.b==a)else false else bif (k.a==b)then (k.b==a)else false
def acr (fq:aQ->Bool):List aQ->Nat->Option (Int)|[],i=>none|e1::rest_,i=>bif fq e1 then (some ((i:Nat):Int))else acr fq rest_ (i+1)
def ad1 (s:(List aQ))(fq:aQ->Bool):Int:=match acr fq s 0 with|some r_=>r_|none=>(-1)
def a3r (n_:aV)(a:Int)(b:Int):Int:=(ad1 n_.links (λe0_=>(a3f a b e0_)))
def a36 (a:Int)(b:Int):List aQ->Nat->Option (Int)|[],i=>none|e1::rest_,i=>bif (e1.a==a)then bif (e1.b==b)then (some ((i:Nat):Int))else bif (e1.a==b)then bif (e1.b==a)then (some ((i:Nat):Int))else a36 a b rest_ (i+1)else a36 a b rest_ (i+1)else bif (e1.a==b)then bif (e1.b==a)then (some ((i:Nat):Int))else a36 a b rest_ (i+1)else a36 a b rest_ (i+1)
def a63 (n_:aV)(a:Int)(b:Int):Int:=match a36 a b n_.links 0 with|some r_=>r_|none=>(-1)
def a41 (n_:aV)(a:Int):Nat->Nat->(List Int)->(List Int)|0,i,out=>((out):List Int)|m_+1,i,out=>bif decide ((a3r n_ a ((i:Nat):Int))>=0)then a41 n_ a m_ (i+1) (((out++[((i:Nat):Int)])):List Int)else a41 n_ a m_ (i+1) ((out):List Int)
def a1w (n_:aV)(a:Int):(List Int):=match a41 n_ a ((max 0 (min n_.size 6)).toNat) 0 ([]:List Int)with|out=>out
def a3s (n_:aV)(a:Int):Nat->Nat->(List Int)->(List Int)|0,i,out=>((out):List Int)|m_+1,i,out=>bif decide (((i:Nat):Int)<6)then bif decide ((a63 n_ a ((i:Nat):Int))>=0)then a3s n_ a m_ (i+1) (((out++[((i:Nat):Int)])):List Int)else a3s n_ a m_ (i+1) ((out):List Int)else ((out):List Int)
def a1f (n_:aV)(a:Int):(List Int):=match a3s n_ a ((n_.size).toNat) 0 ([]:List Int)with|out=>out
end Go.Stp
namespace Go.Proofs.YthdfhghdipdknaaGreat
open Go.Stp
open Go.Stp.GoT (ok)
variable {w : World} (n : Nat) {K0 : Option Addr} {M0 : Nat}
theorem f135 (hn:n+0<=9){x_:Int}(a0:ok n x_):
 DP 135 #[vI x_] w (pB (aec x_)):=by
 refine EN Tryz.func135 Z ac8 ?_;exact R4r Z Z (by simp only [aec])
theorem f83 (hn:n+0<=9){x_:Int}{y:Int}(a0:ok n x_)(a1:ok n y):
 DP 83 #[vI x_,vI y] w (pI n (abz x_ y)):=by
 refine EN Tryz.func83 Z ac8 ?_;refine KV Z Z O (λw Y=>f135 n Q0 a0) λa5=>?_;refine KV Z Z O (λw Y=>f135 n Q0 a1) λa3=>?_;refine yKA 11 ?_ ?_<;>intro h1;refine yKA 12 ?_ ?_<;>intro h2;rw [show abz x_ y=0 by simp only [abz,h1,h2,cC]];exact R6r Z Z (i6 0);rw [show abz x_ y=(-1) by simp only [abz,h1,h2,cC]];exact R6r Z Z (i6 (-1));refine yKA 13 ?_ ?_<;>intro h2;rw [show abz x_ y=1 by simp only [abz,h1,h2,cC]];exact R6r Z Z (i6 1)
 refine yKD 16 ?_ ?_<;>intro h3 a4;rw [show abz x_ y=(-1) by simp only [abz,h1,h2,h3,cC]];exact R6r Z Z (i6 (-1));refine yKD 19 ?_ ?_<;>intro h4 a2;rw [show abz x_ y=1 by simp only [abz,h1,h2,h3,h4,cC]];exact R6r Z Z (i6 1);rw [show abz x_ y=0 by simp only [abz,h1,h2,h3,h4,cC]];exact R6r Z Z (i6 0)
theorem f82 (hn:n+0<=9){vals:List Int}(N0:Rd w K0 M0 vals)(a0:ok n vals):
 DP 82 #[vS K0 vals M0] w (pI n (af0 vals)):=by
 have hb:=bS0 hn;refine EN Tryz.func82 Z (aS1 N0) ?_;have r1:=a0.1;refine LT 8 vals aex [7,6,3] [] [0] ?_;rintro i ⟨v1,v2⟩;refine yKD 9 ?_ ?_<;>intro h1 a6;obtain ⟨e1,a2,a3,a5⟩:=gO a0 i;refine yI 0 i a5 ?_;rintro a8 rfl;refine zL 0 1 e1 a2 ?_;rintro ⟨⟩;refine yKM 14 ?_ ?_<;>intro h2 a7;have a4:=v2.trans (show _=(some e1) by rw [abu a2];simp only [aex,h2,cC]);rw [show af0 vals=e1 by simp only [af0,a4]];exact R6r Z Z a3;refine SA ?_
 exact ITr Z (i+1) ⟨Q0,(by rw [v2,abu a2];simp only [aex,h2,cC])⟩ Q1 [0];have a1:=v2.trans (show _=none by rw [dn];simp only [aex];omega);rw [show af0 vals=0 by simp only [af0,a1]];exact R6r Z Z (i6 0)
theorem f73 (hn:n+0<=9)(a:aQ)(b:aQ)(a0:ok n a)(a1:ok n b):
 DP 73 #[.agg #[vI a.a,vI a.b],.agg #[vI b.a,vI b.b]] w (pI n (aaf a b)):=by
 have hb:=bS0 hn;refine EN Tryz.func73 Z ac8 ?_;refine yD [11,12] λbs G0 a5=>?_;refine dT 5 [1,2,5,6,11,12,15,16] ?_;refine DXV 4 Z J Z O (λw Y=>f83 n Q0 (a0.1) (a1.1)) λa3=>?_;refine DXV 9 Z J Z O (λw Y=>f83 n Q0 (a0.2) (a1.2)) λa2=>?_;refine DX.tail2 [10,11,12] Z Z J ?_;refine zB λp1=>?_
 refine WX.turn [] 0 Z (λh hs=>ae6 ⟨(),_,emp,_,Z,acv _,Le.refl _,ade _,trivial,⟨(),_,emp,_,Z,acv _,Le.refl _,ade _,trivial,Z⟩⟩) (gs:=[MF.ol [.int .i64 ((abz a.a b.a)),.int .i64 ((abz a.b b.b))] [(abz a.a b.a),(abz a.b b.b)]]) Z ?_;refine zE 15 0 1 ?_
 refine CV Z O (λw Y=>f82 n Q0 (vals:=([(abz a.a b.a),(abz a.b b.b)])) (Y.q 1 Z) (aby Q7 (all_cons (α:=Int) a3 (all_cons (α:=Int) a2 nA)))) λa4=>?_;rw [show aaf a b=(af0 ([(abz a.a b.a),(abz a.b b.b)])) by simp only [aaf]];exact R6r Z Z a4
theorem f32 (hn:n+0<=9)(n_:aV)(N0:Rd w K0 M0 n_.links)(a0:ok n n_):
 DP 32 #[adv n_ K0 M0] w (pB (a5k n_)):=by
 have hb:=bS0 hn;refine EN Tryz.func32 Z (aS1 N0) ?_;have r1:=(okl a0.2).1;refine LS 8 n_.links (a3e n_) [7,6,1] [1] [0] ?_;rintro i ⟨v1,v2⟩;refine yKD 9 ?_ ?_<;>intro h1 am;obtain ⟨e1,a1,a3,ac⟩:=gO a0.2 i;refine yI 0 i ac ?_;rintro ah rfl;refine zL 0 1 e1 a1 ?_;rintro _;refine yD [] λbs G0 a6=>?_;refine dT 30 [1,2,5,6] ?_;refine DX.seeP 4 J Z Z Z Z (aes Z Z Z Z) ?_;refine DXV 5 Z J Z O (λw Y=>f33 n Q0 (a3.1) (i6 0) (ad0 _)) λak=>?_;refine dT 26 [13,15] ?_
 refine zDC 20 ?_ ?_<;>intro h2;refine dT 0 [17,19,21,23,25,27,29,31,33,35,37,39,41,43,45,47,49,51,53,55,57,59,61,63,65,67] ?_;refine DX.tail2 [] Z Z J ?_;have a2:=v2.trans (show _=(some false) by rw [abu a1];simp only [a3e,h2,cC]);exact R4r Z Z (by simp only [a5k,a2]);refine dT 22 [17,18,21,22] ?_;refine DX.seeP 12 J Z Z Z Z (aes Z Z Z Z) ?_;refine dT 19 [27,28] ?_;refine DX.seeP 15 J Z Z Z Z (aes Z Z Z Z) ?_
 refine DXV 16 Z J Z O (λw Y=>f33 n Q0 (a3.2) (ad0 _) (ad0 _)) λae=>?_;refine dT 14 [35,37,39] ?_;refine zDC 32 ?_ ?_<;>intro h3;refine dT 0 [41,43,45,47,49,51,53,55,57,59,61,63,65,67] ?_;refine DX.tail2 [] Z Z J ?_;have a2:=v2.trans (show _=(some false) by rw [abu a1];simp only [a3e,h2,h3,cC]);exact R4r Z Z (by simp only [a5k,a2]);refine dT 11 [41,43,45] ?_;refine zDC 35 ?_ ?_<;>intro h4;have ad:=B.dt h4
 refine dT 8 [47,48,51] ?_;refine DX.seeP 26 J Z Z Z Z (ad7 Z Z Z Z Q6) ?_;refine DI 39 ?_;obtain ⟨e2,a4,a8,aa⟩:=gO a0.2 ((((i:Nat):Int)-1).toNat);refine zDI 27 0 _ a6 Z aa ?_;rintro ag ⟨⟩;refine zDL 28 0 1 e2 a6 a4 ?_;rintro _;refine dT 4 [58] ?_;refine DXV 30 Z J Z O (λw Y=>f73 n Q0 e2 e1 a8 a3) λai=>?_;refine dT 0 [63,65,67] ?_;refine DX.tail2 [] Z Z J ?_;refine yKD 46 ?_ ?_<;>intro h5 af
 have a2:=v2.trans (show _=(some false) by rw [abu a1];simp only [a3e,h2,h3,h4,a4,h5,cC]);exact R4r Z Z (by simp only [a5k,a2]);refine SA ?_;exact ITr Z (i+1) ⟨Q0,(by rw [v2,abu a1];simp only [a3e,h2,h3,h4,a4,h5,cC])⟩ Q1 [0];have ad:=B.df h4;refine dT 0 [47,49,51,53,55,57,59,61,63,65,67] ?_;refine DX.tail2 [] Z Z J ?_;refine SA ?_
 exact ITr Z (i+1) ⟨Q0,(by rw [v2,abu a1];simp only [a3e,h2,h3,h4,cC])⟩ Q1 [0];have a5:=v2.trans (show _=none by rw [dn];simp only [a3e];omega);refine KV Z Z O (λw Y=>f33 n Q0 (a0.1) (i6 1) (i6 6)) λab=>?_;exact R4r Z Z (by simp only [a5k,a5])
theorem f168 (hn:n+0<=9)(a:aQ)(b:aQ)(a0:ok n a)(a1:ok n b):
 DP 168 #[.agg #[vI a.a,vI a.b],.agg #[vI b.a,vI b.b]] w (pB (a52 a b)):=by
 refine EN Tryz.func168 Z ac8 ?_;refine yKD 10 ?_ ?_<;>intro h1 a2;exact R4r Z Z (by simp only [a52,h1,cC]);refine yKE 16 ?_ ?_<;>intro h2 a3;exact R4r Z Z (by simp only [a52,h1,h2,cC]);exact R4r Z Z (by simp only [a52,h1,h2,cC])
theorem f119 (hn:n+0<=9)(n_:aV)(N0:Rd w K0 M0 n_.links)(a0:ok n n_):
 DP 119 #[adv n_ K0 M0] w (pB (a4j n_)):=by
 have hb:=bS0 hn;refine EN Tryz.func119 Z (aS1 N0) ?_;have r1:=(okl a0.2).1;refine LS 3 n_.links (a35 n_) [1] [1] [0] ?_;rintro i ⟨v1,v2⟩;refine yKD 9 ?_ ?_<;>intro h1 an;obtain ⟨e1,a1,a3,ac⟩:=gO a0.2 i;refine yI 0 i ac ?_;rintro ai rfl;refine zL 0 1 e1 a1 ?_;rintro _;refine yD [] λbs G0 a6=>?_;refine dT 34 [1,2,5,6] ?_;refine DX.seeP 4 J Z Z Z Z (aes Z Z Z Z) ?_;refine DXV 5 Z J Z O (λw Y=>f120 n Q0 (a3.1) (i6 0) (ad0 _)) λal=>?_;refine dT 30 [13,15] ?_
 ·skip
  refine zDC 24 ?_ ?_<;>intro h2;refine dT 0 [17,19,21,23,25,27,29,31,33,35,37,39,41,43,45,47,49,51,53,55,57,59,61,63,65,67,69,71,73,75] ?_;refine DX.tail2 [] Z Z J ?_;have a2:=v2.trans (show _=(some false) by rw [abu a1];simp only [a35,h2,cC]);rotate_left;refine dT 26 [17,18,21,22] ?_;refine DX.seeP 12 J Z Z Z Z (aes Z Z Z Z) ?_;refine DXV 13 Z J Z O (λw Y=>f120 n Q0 (a3.2) (i6 0) (ad0 _)) λaf=>?_
  refine dT 21 [29,31,33] ?_;refine zDC 33 ?_ ?_<;>intro h3;refine dT 0 [35,37,39,41,43,45,47,49,51,53,55,57,59,61,63,65,67,69,71,73,75] ?_;refine DX.tail2 [] Z Z J ?_;have a2:=v2.trans (show _=(some false) by rw [abu a1];simp only [a35,h2,h3,cC]);rotate_left;refine dT 14 [35,36,39,40,43,45,47] ?_;refine zDC 40 ?_ ?_<;>intro h4;refine dT 0 [49,51,53,55,57,59,61,63,65,67,69,71,73,75] ?_;refine DX.tail2 [] Z Z J ?_
  have a2:=v2.trans (show _=(some false) by rw [abu a1];simp only [a35,h2,h3,h4,cC]);rotate_left;refine dT 11 [49,51,53] ?_;refine zDC 43 ?_ ?_<;>intro h5;have ae:=B.dt h5;refine dT 8 [55,56,59] ?_;refine DX.seeP 30 J Z Z Z Z (ad7 Z Z Z Z Q6) ?_;refine DI 47 ?_;obtain ⟨e2,a4,a8,aa⟩:=gO a0.2 ((((i:Nat):Int)-1).toNat);refine zDI 31 0 _ a6 Z aa ?_;rintro ah ⟨⟩;refine zDL 32 0 1 e2 a6 a4 ?_
  rintro _;refine dT 4 [66] ?_;refine DXV 34 Z J Z O (λw Y=>f168 n Q0 e2 e1 a8 a3) λaj=>?_;refine dT 0 [71,73,75] ?_;refine DX.tail2 [] Z Z J ?_;refine yKN 54 ?_ ?_<;>intro h6 ag;have a2:=v2.trans (show _=(some false) by rw [abu a1];simp only [a35,h2,h3,h4,h5,a4,h6,cC]);rotate_left;refine SA ?_;exact ITr Z (i+1) ⟨Q0,(by rw [v2,abu a1];simp only [a35,h2,h3,h4,h5,a4,h6,cC])⟩ Q1 [0];have ae:=B.df h5
  refine dT 0 [55,57,59,61,63,65,67,69,71,73,75] ?_;refine DX.tail2 [] Z Z J ?_;refine SA ?_;exact ITr Z (i+1) ⟨Q0,(by rw [v2,abu a1];simp only [a35,h2,h3,h4,h5,cC])⟩ Q1 [0]
  all_goals
   exact R4r Z Z (by simp only [a4j,a2])
 have a5:=v2.trans (show _=none by rw [dn];simp only [a35];omega);refine KV Z Z O (λw Y=>f120 n Q0 (a0.1) (i6 1) (i6 6)) λab=>?_;exact R4r Z Z (by simp only [a4j,a5])
theorem f187 (hn:n+0<=9){h_:List aK}(N0:Rd w K0 M0 h_){size:Int}(a0:ok n h_)(a1:ok n size):
 DP 187 #[vS K0 h_ M0,vI size] w (pB (aag h_ size)):=by
 have hb:=bS0 hn;refine EN Tryz.func187 Z (aS1 N0) ?_;have r1:=a0.1;refine LT 5 h_ (a9l size) [0,1] [] [0] ?_;rintro i ⟨v1,v2⟩;refine yKD 9 ?_ ?_<;>intro h1 ac;obtain ⟨e1,a2,a4,a7⟩:=gO a0 i;refine yI 0 i a7 ?_;rintro a9 rfl;refine yL 0 1 e1 a2 ?_;rintro ⟨⟨p1,c1⟩,_⟩;refine SW ?_;refine CV Z O (λw Y=>f120 n Q0 (a4.2) (i6 0) (ad0 _)) λab=>?_;refine yKN 20 ?_ ?_<;>intro h2 a8;have a5:=v2.trans (show _=(some false) by rw [abu a2];simp only [a9l,h2,cC])
 exact R4r Z Z (by simp only [aag,a5]);refine SA ?_;exact ITr Z (i+1) ⟨Q0,(by rw [v2,abu a2];simp only [a9l,h2,cC])⟩ Q1 [0];have a3:=v2.trans (show _=none by rw [dn];simp only [a9l];omega);refine KV Z Z O (λw Y=>f184 n Q0 (Y.q 0 Z) a0) λa6=>?_;exact R4r Z Z (by simp only [aag,a3])
theorem f44 (hn:n+0<=9)(k:aQ)(a:Int)(ba:Addr)(ha:RdSl (hp w) (some ba) 1 [a])(b:Int)(bb:Addr)(hb:RdSl (hp w) (some bb) 1 [b])(a2:ok n k)(a1:ok n a)(a3:ok n b):
 DP 44 #[.agg #[vI k.a,vI k.b],.pointer (some ba),.pointer (some bb)] w (pB (a3f a b k)):=by
 refine EN Tryz.func44 Z (aS2 ha hb) ?_;have ah:[a][0]? =some a:=rfl;refine WX.slot 1 (y:= .e (some ba) 0 1 0) Z (λ_=>alw) ?_;have bh:[b][0]? =some b:=rfl;refine WX.slot 2 (y:= .e (some bb) 0 1 0) Z (λ_=>alw) ?_;refine yL 0 2 a ah ?_;rintro ⟨⟩;refine yKE 9 ?_ ?_<;>intro h1 a4;refine yL 1 2 b bh ?_;rintro ⟨⟩;refine yKA 15 ?_ ?_<;>intro h2;exact R4r Z Z (by simp only [a3f,h1,h2,cC]);refine yL 1 2 b bh ?_;rintro ⟨⟩;refine yKE 20 ?_ ?_<;>intro h3 a5;refine yL 0 2 a ah ?_;rintro ⟨⟩
 exact R4r Z Z (by simp only [a3f,h1,h2,h3,cC]);exact R4r Z Z (by simp only [a3f,h1,h2,h3,cC]);refine yL 1 2 b bh ?_;rintro ⟨⟩;refine yKA 20 ?_ ?_<;>intro h2;refine yL 0 2 a ah ?_;rintro ⟨⟩;exact R4r Z Z (by simp only [a3f,h1,h2,cC]);exact R4r Z Z (by simp only [a3f,h1,h2,cC])
theorem f43 (hn:n+0<=9){s:List aQ}(N0:Rd w K0 M0 s)(fg:FuncId)(fc:List Value)(fq:aQ->Bool)(ff:∀w1,Kp emp w w1->∀(e0:aQ) (x0:GoT.X aQ),ok n e0->All (hp w1) (GoT.fa .der e0 x0)->Does Tryz.prog fg ([Value.agg ⟨GoT.sh e0 x0⟩]++fc).toArray w1 emp (λrv _=>rv= .bool (fq e0)/\True))(a0:ok n s):
 DP 43 #[vS K0 s M0,.func (.func fg) #[] fc.toArray] w (pI n (ad1 s fq)):=by
 have hb:=bS0 hn;refine EN Tryz.func43 Z (aS1 N0) ?_;have r1:=a0.1;refine LS 8 s (acr fq) [7,0,1] [] [0] ?_;rintro i ⟨v1,v2⟩;refine yKD 9 ?_ ?_<;>intro h1 a8;obtain ⟨e1,a1,a3,a5⟩:=gO a0 i;refine yI 0 i a5 ?_;rintro a6 rfl;refine zL 0 1 e1 a1 ?_;rintro _;refine WX.callV Z Z Z Z Z O Z (λw G bs hI hΓ=>ff w hI.keep e1 ((),()) a3 All.nil) λa7=>?_;refine yKA 16 ?_ ?_<;>intro h2;have a4:=v2.trans (show _=(some (i:Int)) by rw [abu a1];simp only [acr,h2,cC])
 rw [show ad1 s fq=((i:Nat):Int) by simp only [ad1,a4]];exact R6r Z Z (i6 (i:Nat));refine SA ?_;exact ITr Z (i+1) ⟨Q0,(by rw [v2,abu a1];simp only [acr,h2,cC])⟩ Q1 [0];have a2:=v2.trans (show _=none by rw [dn];simp only [acr];omega);rw [show ad1 s fq=(-1) by simp only [ad1,a2]];exact R6r Z Z (i6 (-1))
theorem af7:∀(f:aQ->Bool) (l:List aQ)(i:Nat)(j:Int),acr f l i=some j->j<((i+l.length:Nat):Int)
 |f,[],i,j,h=>by cases h
 |f,x::l,i,j,h=>by
  simp only [acr]at h;cases hx:f x
  ·rw [hx,cond_false]at h
   have:=af7 f l (i+1) j h
   grind
  ·grind
theorem agl (l:List aQ)(f:aQ->Bool):ad1 l f<(l.length:Int):=by
 unfold ad1;cases h:acr f l 0 with
 |none=>show (-1:Int)<_;omega
 |some j=>have:=af7 f l 0 j h;show j<_;omega
theorem f16 (hn:n+0<=9)(n_:aV)(N0:Rd w K0 M0 n_.links){a:Int}{b:Int}(a1:ok n n_)(a2:ok n a)(a4:ok n b):
 DP 16 #[adv n_ K0 M0,vI a,vI b] w (pI n (a3r n_ a b)):=by
 refine EN Tryz.func16 Z (aS1 N0) ?_;refine KW Z Z Z Z Z Z O Z (λw G bs hI hΓ=>f43 n Q0 (hΓ.get 0 Z) 44 [Value.pointer (some ⟨bs 4,0,none⟩),Value.pointer (some ⟨bs 5,0,none⟩)] (λa0=>(a3f a b a0)) (λa9 a5 a0 a8 a3 a6=>f44 n Q0 a0 a ⟨bs 4,0,none⟩ ((am0 (α:=Int) (a:=a) (x:=()) (hI.loc 4 _ Z).1 All.nil).mono (art a5)) b ⟨bs 5,0,none⟩ ((am0 (α:=Int) (a:=b) (x:=()) (hI.loc 5 _ Z).1 All.nil).mono (art a5)) a3 a2 a4) ((acm a1).2)) λa7=>?_
 rw [show a3r n_ a b=(ad1 n_.links (λa0=>(a3f a b a0))) by simp only [a3r]];exact R6r Z Z a7
theorem f169 (hn:n+0<=9)(n_:aV)(N0:Rd w K0 M0 n_.links){a:Int}{b:Int}(a1:ok n n_)(a9:ok n a)(a8:ok n b):
 DP 169 #[adv n_ K0 M0,vI a,vI b] w (pI n (a63 n_ a b)):=by
 have hb:=bS0 hn;refine EN Tryz.func169 Z (aS1 N0) ?_;have r1:=(okl a1.2).1;refine LS 7 n_.links (a36 a b) [3,1,2] [3] [0] ?_;rintro i ⟨v1,v2⟩;refine yKD 12 ?_ ?_<;>intro h1 af;obtain ⟨e1,a0,ac,a2⟩:=gO a1.2 i;refine yI 0 i a2 ?_;rintro ae rfl;refine yL 0 1 e1 a0 ?_;rintro _
 ·skip
  refine yKE 23 ?_ ?_<;>intro h2 ab;refine yI 0 i a2 ?_;rintro aa ⟨⟩;refine yL 0 1 e1 a0 ?_;rintro _;refine yKA 33 ?_ ?_<;>intro h3;have a4:=v2.trans (show _=(some (i:Int)) by rw [abu a0];simp only [a36,h2,h3,cC]);rotate_left;refine yI 0 i a2 ?_;rintro a7 ⟨⟩;refine yL 0 1 e1 a0 ?_;rintro _;refine yKA 42 ?_ ?_<;>intro h4;refine yI 0 i a2 ?_;rintro ag ⟨⟩;refine yL 0 1 e1 a0 ?_;rintro _;refine yKE 52 ?_ ?_<;>intro h5 ad
  have a4:=v2.trans (show _=(some (i:Int)) by rw [abu a0];simp only [a36,h2,h3,h4,h5,cC]);rotate_left;refine SA ?_;exact ITr Z (i+1) ⟨Q0,(by rw [v2,abu a0];simp only [a36,h2,h3,h4,h5,cC])⟩ Q1 [0];refine SA ?_;exact ITr Z (i+1) ⟨Q0,(by rw [v2,abu a0];simp only [a36,h2,h3,h4,cC])⟩ Q1 [0];refine yI 0 i a2 ?_;rintro aa ⟨⟩;refine yL 0 1 e1 a0 ?_;rintro _;refine yKA 42 ?_ ?_<;>intro h3
  refine yI 0 i a2 ?_;rintro a7 ⟨⟩;refine yL 0 1 e1 a0 ?_;rintro _;refine yKA 52 ?_ ?_<;>intro h4;have a4:=v2.trans (show _=(some (i:Int)) by rw [abu a0];simp only [a36,h2,h3,h4,cC]);rotate_left;refine SA ?_;exact ITr Z (i+1) ⟨Q0,(by rw [v2,abu a0];simp only [a36,h2,h3,h4,cC])⟩ Q1 [0];refine SA ?_
  exact ITr Z (i+1) ⟨Q0,(by rw [v2,abu a0];simp only [a36,h2,h3,cC])⟩ Q1 [0]
  all_goals
   rw [show a63 n_ a b=((i:Nat):Int) by simp only [a63,a4]];exact R6r Z Z (i6 (i:Nat))
 have a6:=v2.trans (show _=none by rw [dn];simp only [a36];omega);rw [show a63 n_ a b=(-1) by simp only [a63,a6]];exact R6r Z Z (i6 (-1))
theorem f34 (hn:n+0<=9)(n_:aV)(N0:Rd w K0 M0 n_.links){a:Int}(a4:ok n n_)(a5:ok n a):
 DP 34 #[adv n_ K0 M0,vI a] w (pS w n (a1w n_ a)):=by
 have hb:=bS0 hn;refine EN Tryz.func34 Z (aS1 N0) ?_;refine yB λp1=>?_;refine KS Z Z Z Z (λ_ hΓ=>aqq Z Z Z) ?_;refine WX.see Z Z Z (λ_ hΓ=>are Z Z Z) ?_;refine F0 1 Int ?_;have r1:=i8 ((acm a4).1)
 refine LM Z (p1,0,[],([]:List Int),0) (λ|(a2,a3,a0,a1,i)=>((i<=(max 0 (min n_.size 6)).toNat)/\JE n a1/\(a1.length<=i)/\(a41 n_ a ((max 0 (min n_.size 6)).toNat) 0 ([]:List Int)=a41 n_ a ((max 0 (min n_.size 6)).toNat-i) i a1),(max 0 (min n_.size 6)).toNat-i,[(5,.v (vS a2 a1 a3)),(12,.v (vI i))],[],[(7,⟨1,a2,a1.length,a3,a0⟩)],[(1,MF.ol a0 (a1:List Int))])) ⟨zl,nA,Q10,Z⟩ [11,2,1] [2] [0] [0,1] ?_;rintro ⟨a2,a3,a0,a1,i⟩ ⟨v1,v2,v3,v4⟩;refine yKD 13 ?_ ?_<;>intro h1 aa
 refine KV Z Z O (λw Y=>f16 n Q0 n_ (Y.q 0 Z) a4 a5 (i6 ((i:Nat):Int))) λa9=>?_;refine yKD 19 ?_ ?_<;>intro h2 a8;refine yB λp2=>?_;refine zT (α:=Int) [] 2 ((i:Nat):Int) () λa7=>?_;refine zP 7 22 ((a1++[((i:Nat):Int)]):List Int).length a7 λp3 c1=>?_;refine zV [1,2] 3 ?_;refine SA ?_;refine zU [3] 1 ?_
 exact ITr Z (p3,c1,_,((a1++[((i:Nat):Int)]):List Int),i+1) ⟨Q0,(ac2 v2 (all_cons (α:=Int) (i6 ((i:Nat):Int)) nA)),Q3,(by rw [v4,show (max 0 (min n_.size 6)).toNat-i=((max 0 (min n_.size 6)).toNat- (i+1))+1 by omega];simp only [a41,h2,cC])⟩ Q1 [0,1];refine SA ?_
 exact ITr Z (a2,a3,a0,(a1:List Int),i+1) ⟨Q0,v2,Q3,(by rw [v4,show (max 0 (min n_.size 6)).toNat-i=((max 0 (min n_.size 6)).toNat- (i+1))+1 by omega];simp only [a41,h2,cC])⟩ Q1 [0,1];have a6:=v4.trans (show _=(a1:List Int) by rw [show (max 0 (min n_.size 6)).toNat-i=0 by omega];simp only [a41]);refine yE 7 1 14 ?_;rw [show a1w n_ a=a1 by simp only [a1w,a6]]
 exact zX [15] (a2,a3) (aby Q0 v2:ok n (a1:List Int))
theorem f121 (hn:n+0<=9)(n_:aV)(N0:Rd w K0 M0 n_.links){a:Int}(a4:ok n n_)(a6:ok n a):
 DP 121 #[adv n_ K0 M0,vI a] w (pS w n (a1f n_ a)):=by
 have hb:=bS0 hn;refine EN Tryz.func121 Z (aS1 N0) ?_;refine yB λp1=>?_;refine F0 1 Int ?_;have r1:=i8 ((acm a4).1);refine LM Z (p1,0,[],([]:List Int),0) (λ|(a2,a3,a1,a0,i)=>((i<=n_.size.toNat)/\JE n a0/\(a0.length<=i)/\(a0.length<=6)/\(a3s n_ a (n_.size.toNat) 0 ([]:List Int)=a3s n_ a (n_.size.toNat-i) i a0),n_.size.toNat-i,[(5,.v (vS a2 a0 a3)),(6,.v (vI i))],[],[(7,⟨1,a2,a0.length,a3,a1⟩)],[(1,MF.ol a1 (a0:List Int))])) ⟨zl,nA,Q10,Q10,Z⟩ [2,1] [2] [0] [0,1] ?_
 rintro ⟨a2,a3,a1,a0,i⟩ ⟨v1,v2,v3,v4,v5⟩;refine yKD 12 ?_ ?_<;>intro h1 ab;refine yKD 15 ?_ ?_<;>intro h2 a9;refine KV Z Z O (λw Y=>f169 n Q0 n_ (Y.q 0 Z) a4 a6 (i6 ((i:Nat):Int))) λaa=>?_;refine yKD 22 ?_ ?_<;>intro h3 a8;refine yB λp2=>?_;refine zT (α:=Int) [] 2 ((i:Nat):Int) () λa7=>?_;refine zP 7 25 ((a0++[((i:Nat):Int)]):List Int).length a7 λp3 c1=>?_;refine zV [1,2] 3 ?_;refine SA ?_;refine zU [3] 1 ?_
 exact ITr Z (p3,c1,_,((a0++[((i:Nat):Int)]):List Int),i+1) ⟨Q0,(ac2 v2 (all_cons (α:=Int) (i6 ((i:Nat):Int)) nA)),Q3,Q3,(by rw [v5,show n_.size.toNat-i=(n_.size.toNat- (i+1))+1 by omega];simp only [a3s,h2,h3,cC])⟩ Q1 [0,1];refine SA ?_
 exact ITr Z (a2,a3,a1,(a0:List Int),i+1) ⟨Q0,v2,Q3,Q3,(by rw [v5,show n_.size.toNat-i=(n_.size.toNat- (i+1))+1 by omega];simp only [a3s,h2,h3,cC])⟩ Q1 [0,1];have a5:=v5.trans (show _=(a0:List Int) by rw [show n_.size.toNat-i=(n_.size.toNat- (i+1))+1 by omega];simp only [a3s,h2,cC]);rotate_left
 have a5:=v5.trans (show _=(a0:List Int) by rw [show n_.size.toNat-i=0 by omega];simp only [a3s]);rotate_left
 all_goals
  refine yE 7 1 14 ?_;rw [show a1f n_ a=a0 by simp only [a1f,a5]];exact zX [15] (a2,a3) (aby Q0 v2:ok n (a0:List Int))
end Go.Proofs.YthdfhghdipdknaaGreat
namespace Go.Stp
def abf (bZ:Int):Bool:=(a07 bZ 1 2147483646)
def a64 (s:Str):Bool:=bif ((((s).size:Nat):Int)==2)then match ((s).data.toList)[0]? with|none=>default|some e1=>bif (((e1).toNat:Int)==63)then match ((s).data.toList)[1]? with|none=>default|some e2=>(a07 ((e2).toNat:Int) 97 122)else false else false
def a2o (p_:bY):List Str->Nat->Option (Bool)|[],i=>none|e1::rest_,i=>bif (!(a2z e1))then bif (!((e1).toList==((⟨#[42]⟩:Str)).toList))then bif (!(a64 e1))then bif (!((e1).toList==((⟨#[42,42]⟩:Str)).toList))then (some false)else bif decide (((i:Nat):Int)<i64.wrap (((p_.parts).length:Int)-1))then (some false)else a2o p_ rest_ (i+1)else a2o p_ rest_ (i+1)else a2o p_ rest_ (i+1)else a2o p_ rest_ (i+1)
def a53 (p_:bY):Bool:=match a2o p_ p_.parts 0 with|some r_=>r_|none=>(decide (((p_.parts).length:Int)<=6))
def aah (s:Str):List Str->Option (Bool)|[]=>none|e1::rest_=>bif ((e1).toList==(s).toList)then (some true)else aah s rest_
def abg (p_:bY)(s:Str):Bool:=match aah s p_.parts with|some r_=>r_|none=>false
def a8f (r:bO):List Str->Option (Bool)|[]=>none|e1::rest_=>bif (a64 e1)then bif (!(abg r.cJ e1))then (some false)else a8f r rest_ else a8f r rest_
def a65 (r:bO):Bool:=bif (!(a53 r.cJ))then false else bif (!(a53 r.cK))then false else match a8f r r.cK.parts with|some r_=>r_|none=>true
def aai:List bO->Option (Bool)|[]=>none|e1::rest_=>bif (!(a65 e1))then (some false)else aai rest_
def ab4 (l:(List bO)):Bool:=match aai l with|some r_=>r_|none=>(decide (((l).length:Int)<=8))
def a75 (n_:aA):List Key->Nat->Option (Int)|[],i=>none|e1::rest_,i=>bif (a1i e1.name n_)then (some ((i:Nat):Int))else a75 n_ rest_ (i+1)
def a4k (l:(List Key))(n_:aA):Int:=match a75 n_ l 0 with|some r_=>r_|none=>(-1)
def a9m (l:(List Key))(e1:Key):Nat->Nat->Option (Bool)|0,i2=>none|m_+1,i2=>match (l)[i2]? with|none=>default|some e2=>bif (e2.bZ==e1.bZ)then (some false)else a9m l e1 m_ (i2+1)
def a66 (l:(List Key)):List Key->Nat->Option (Bool)|[],i=>none|e1::rest_,i=>bif (!(a1e e1.name))then (some false)else bif (((e1.name.parts).length:Int)==0)then (some false)else bif (!(abf e1.bZ))then (some false)else bif decide ((a4k (List.take i l) e1.name)>=0)then (some false)else match a9m l e1 i 0 with|some r_=>(some r_)|none=>a66 l rest_ (i+1)
def a76 (l:(List Key)):Bool:=match a66 l l 0 with|some r_=>r_|none=>(decide (((l).length:Int)<=8))
def a8g:List aJ->Option (Bool)|[]=>none|e2::rest_=>bif (!(a23 e2))then (some false)else a8g rest_
def a9n (t:bU):List aA->Option (Bool)|[]=>none|e1::rest_=>bif decide ((a4k t.keys e1)<0)then (some false)else a9n t rest_
def a42 (t:bU):Bool:=bif (!(a76 t.keys))then false else bif (!(ab4 t.bR))then false else bif decide (((t.bV).length:Int)>8)then false else bif decide (((t.bW).length:Int)>8)then false else match a9n t t.bV with|some r_=>r_|none=>match a8g t.bW with|some r_=>r_|none=>true
end Go.Stp
namespace Go.Proofs.YthdfhghdipdknaaGreat
open Go.Stp
open Go.Stp.GoT (ok)
variable {w : World} (n : Nat) {K0 K1 K2 K3 : Option Addr} {M0 M1 M2 M3 : Nat}
theorem f255 (hn:n+0<=9){bZ:Int}(a0:ok n bZ):
 DP 255 #[vI bZ] w (pB (abf bZ)):=by
 refine EN Tryz.func255 Z ac8 ?_;refine KV Z Z O (λw Y=>f120 n Q0 a0 (i6 1) (i6 2147483646)) λa1=>?_;exact R4r Z Z (by simp only [abf])
theorem f251 (hn:n+0<=9){s:Str}(a4:ok n s):
 DP 251 #[.string s] w (pB (a64 s)):=by
 refine EN Tryz.func251 Z ac8 ?_;refine yKE 6 ?_ ?_<;>intro h1 a5;have a2:0<s.data.toList.length:=(by rw [show s.data.toList.length=s.size from by simp];omega);obtain ⟨e1,a0⟩:=gE a2;refine KS Z Z Z Z (λ_ hΓ=>ag0 ttOk Z Z Z Z Z a0) ?_;refine yKE 11 ?_ ?_<;>intro h2 a6;have a3:1<s.data.toList.length:=(by rw [show s.data.toList.length=s.size from by simp];omega);obtain ⟨e2,a1⟩:=gE a3;refine KS Z Z Z Z (λ_ hΓ=>ag0 ttOk Z Z Z Z Z a1) ?_;refine WX.see Z Z Z (λ_ hΓ=>ags ttOk Z Z Z Z Z Z) ?_
 have r1:e2.toNat<256:=UInt8.toNat_lt _;refine CV Z O (λw Y=>f120 n Q0 (i6 e2.toNat) (i6 97) (i6 122)) λa7=>?_;exact R4r Z Z (by simp only [a64,h1,a0,h2,a1,cC]);exact R4r Z Z (by simp only [a64,h1,a0,h2,cC]);exact R4r Z Z (by simp only [a64,h1,cC])
theorem f250 (hn:n+0<=9)(p_:bY)(N0:Rd w K0 M0 p_.parts)(a0:ok n p_):
 DP 250 #[.agg #[vS K0 p_.parts M0]] w (pB (a53 p_)):=by
 have hb:=bS0 hn;refine EN Tryz.func250 Z (aS1 N0) ?_;have r1:=(okl (ada a0)).1;refine LS 3 p_.parts (a2o p_) [1] [1] [0] ?_;rintro i ⟨v1,v2⟩;refine yKD 9 ?_ ?_<;>intro h1 ae;obtain ⟨e1,a1,a4,a5⟩:=gO (ada a0) i;refine yI 0 i a5 ?_;rintro ac rfl;refine zL 0 1 e1 a1 ?_;rintro ⟨⟩;refine KV Z Z O (λw Y=>f217 n Q0 a4) λad=>?_;refine yKN 20 ?_ ?_<;>intro h2 a9;refine yKX 24 ?_ ?_<;>intro h3 a7;refine KV Z Z O (λw Y=>f251 n Q0 a4) λa6=>?_;refine yKN 29 ?_ ?_<;>intro h4 aa;refine yKX 32 ?_ ?_<;>intro h5 ab
 have a2:=v2.trans (show _=(some false) by rw [abu a1];simp only [a2o,h2,h3,h4,h5,cC]);exact R4r Z Z (by simp only [a53,a2]);refine SW ?_;refine yKD 40 ?_ ?_<;>intro h6 a8;have a2:=v2.trans (show _=(some false) by rw [abu a1];simp only [a2o,h2,h3,h4,h5,h6,cC]);exact R4r Z Z (by simp only [a53,a2]);refine SA ?_;exact ITr Z (i+1) ⟨Q0,(by rw [v2,abu a1];simp only [a2o,h2,h3,h4,h5,h6,cC])⟩ Q1 [0];refine SA ?_
 exact ITr Z (i+1) ⟨Q0,(by rw [v2,abu a1];simp only [a2o,h2,h3,h4,cC])⟩ Q1 [0];refine SA ?_;exact ITr Z (i+1) ⟨Q0,(by rw [v2,abu a1];simp only [a2o,h2,h3,cC])⟩ Q1 [0];refine SA ?_;exact ITr Z (i+1) ⟨Q0,(by rw [v2,abu a1];simp only [a2o,h2,cC])⟩ Q1 [0];have a3:=v2.trans (show _=none by rw [dn];simp only [a2o];omega)
 exact R4r Z Z (by simp only [a53,a3])
theorem f252 (hn:n+0<=9)(p_:bY)(N0:Rd w K0 M0 p_.parts){s:Str}(a0:ok n p_)(a5:ok n s):
 DP 252 #[.agg #[vS K0 p_.parts M0],.string s] w (pB (abg p_ s)):=by
 have hb:=bS0 hn;refine EN Tryz.func252 Z (aS1 N0) ?_;have r1:=(okl (ada a0)).1;refine LT 5 p_.parts (aah s) [2,1] [2] [0] ?_;rintro i ⟨v1,v2⟩;refine yKD 10 ?_ ?_<;>intro h1 a9;obtain ⟨e1,a1,a7,a4⟩:=gO (ada a0) i;refine yI 0 i a4 ?_;rintro a8 rfl;refine zL 0 1 e1 a1 ?_;rintro ⟨⟩;refine yKE 19 ?_ ?_<;>intro h2 a6;have a3:=v2.trans (show _=(some true) by rw [abu a1];simp only [aah,h2,cC]);exact R4r Z Z (by simp only [abg,a3]);refine SA ?_
 exact ITr Z (i+1) ⟨Q0,(by rw [v2,abu a1];simp only [aah,h2,cC])⟩ Q1 [0];have a2:=v2.trans (show _=none by rw [dn];simp only [aah];omega);exact R4r Z Z (by simp only [abg,a2])
theorem f210 (hn:n+0<=9)(r:bO)(N0:Rd w K0 M0 r.cJ.parts)(N1:Rd w K1 M1 r.cK.parts)(a0:ok n r):
 DP 210 #[.agg #[vS K0 r.cJ.parts M0,vS K1 r.cK.parts M1]] w (pB (a65 r)):=by
 have hb:=bS0 hn;refine EN Tryz.func210 Z (aS2 N0 N1) ?_;refine KV Z Z O (λw Y=>f250 n Q0 r.cJ (Y.q 0 Z) (a0.1)) λaf=>?_;refine yKN 8 ?_ ?_<;>intro h1 ag;exact R4r Z Z (by simp only [a65,h1,cC]);refine KV Z Z O (λw Y=>f250 n Q0 r.cK (Y.q 1 Z) (a0.2)) λa7=>?_;refine yKN 13 ?_ ?_<;>intro h2 aa;exact R4r Z Z (by simp only [a65,h1,h2,cC]);have r1:=(okl (ada a0.2)).1;refine LT 3 r.cK.parts (a8f r) [1] [1] [0,1] ?_;rintro i ⟨v1,v2⟩
 refine yKD 19 ?_ ?_<;>intro h3 a8;obtain ⟨e1,a1,a4,a5⟩:=gO (ada a0.2) i;refine yD [] λbs G0 a2=>?_;refine dT 15 [1,3,4,7] ?_;refine zDI 4 1 i a2 Z a5 ?_;rintro ad rfl;refine zDL 5 1 2 e1 a2 a1 ?_;rintro ⟨⟩;refine DXV 6 Z J Z O (λw Y=>f251 n Q0 a4) λae=>?_;refine dT 11 [15] ?_;refine zDC 29 ?_ ?_<;>intro h4;refine dT 5 [17,18,21,23,24,27] ?_;refine zDI 14 1 i a2 Z a5 ?_;rintro ac ⟨⟩;refine zDL 15 1 2 e1 a2 a1 ?_;rintro ⟨⟩;refine DXV 16 Z J Z O (λw Y=>f252 n Q0 r.cJ (Y.q 0 Z) (a0.1) a4) λa9=>?_
 refine dT 0 [35,37] ?_;refine DX.tail2 [] Z Z J ?_;refine yKN 40 ?_ ?_<;>intro h5 ab;have a6:=v2.trans (show _=(some false) by rw [abu a1];simp only [a8f,h4,h5,cC]);exact R4r Z Z (by simp only [a65,h1,h2,a6,cC]);refine SA ?_;exact ITr Z (i+1) ⟨Q0,(by rw [v2,abu a1];simp only [a8f,h4,h5,cC])⟩ Q1 [0,1];refine dT 0 [17,19,21,23,25,27,29,31,33,35,37] ?_;refine DX.tail2 [] Z Z J ?_;refine SA ?_
 exact ITr Z (i+1) ⟨Q0,(by rw [v2,abu a1];simp only [a8f,h4,cC])⟩ Q1 [0,1];have a3:=v2.trans (show _=none by rw [dn];simp only [a8f];omega);exact R4r Z Z (by simp only [a65,h1,h2,a3,cC])
theorem f214 (hn:n+0<=9){l:List bO}(N0:Rd w K0 M0 l)(a0:ok n l):
 DP 214 #[vS K0 l M0] w (pB (ab4 l)):=by
 have hb:=bS0 hn;refine EN Tryz.func214 Z (aS1 N0) ?_;have r1:=a0.1;refine LT 3 l aai [0] [] [0] ?_;rintro i ⟨v1,v2⟩;refine yKD 7 ?_ ?_<;>intro h1 a9;obtain ⟨e1,a1,a3,a5⟩:=gO a0 i;refine yI 0 i a5 ?_;rintro a7 rfl;refine zL 0 1 e1 a1 ?_;rintro ⟨⟨p1,c1⟩,p2,c2⟩;refine CV Z O (λw Y=>f210 n Q0 e1 (Y.q 1 Z) (Y.q 2 Z) a3) λa8=>?_;refine yKN 15 ?_ ?_<;>intro h2 a6;have a4:=v2.trans (show _=(some false) by rw [abu a1];simp only [aai,h2,cC]);exact R4r Z Z (by simp only [ab4,a4]);refine SA ?_
 exact ITr Z (i+1) ⟨Q0,(by rw [v2,abu a1];simp only [aai,h2,cC])⟩ Q1 [0];have a2:=v2.trans (show _=none by rw [dn];simp only [aai];omega);exact R4r Z Z (by simp only [ab4,a2])
theorem f215 (hn:n+0<=9){l:List Key}(N0:Rd w K0 M0 l)(n_:aA)(N1:Rd w K1 M1 n_.parts)(a0:ok n l)(a1:ok n n_):
 DP 215 #[vS K0 l M0,adu n_ K1 M1] w (pI n (a4k l n_)):=by
 have hb:=bS0 hn;refine EN Tryz.func215 Z (aS2 N0 N1) ?_;have r1:=a0.1;refine LS 5 l (a75 n_) [3,0] [3] [0,1] ?_;rintro i ⟨v1,v2⟩;refine yKD 9 ?_ ?_<;>intro h1 aa;obtain ⟨e1,a2,a5,a7⟩:=gO a0 i;refine yD [] λbs G0 a4=>?_;refine dT 5 [1,3] ?_;refine zDI 2 0 i a4 Z a7 ?_;rintro a8 rfl;refine dT 3 [7] ?_;refine zDL 4 0 2 e1 a4 a2 ?_;rintro ⟨⟨p1,c1⟩,_⟩;refine dT 1 [10] ?_;refine DXV 6 Z J Z O (λw Y=>f173 n Q0 e1.name (Y.q 2 Z) n_ (Y.q 1 Z) (a5.1) a1) λa9=>?_;refine DX.tail2 [] Z Z J ?_;refine yKA 18 ?_ ?_<;>intro h2
 have a6:=v2.trans (show _=(some (i:Int)) by rw [abu a2];simp only [a75,h2,cC]);rw [show a4k l n_=((i:Nat):Int) by simp only [a4k,a6]];exact R6r Z Z (i6 (i:Nat));refine SA ?_;exact ITr Z (i+1) ⟨Q0,(by rw [v2,abu a2];simp only [a75,h2,cC])⟩ Q1 [0,1];have a3:=v2.trans (show _=none by rw [dn];simp only [a75];omega);rw [show a4k l n_=(-1) by simp only [a4k,a3]];exact R6r Z Z (i6 (-1))
theorem f213 (hn:n+0<=9){l:List Key}(N0:Rd w K0 M0 l)(a3:ok n l):
 DP 213 #[vS K0 l M0] w (pB (a76 l)):=by
 have hb:=bS0 hn;refine EN Tryz.func213 Z (aS1 N0) ?_;have r1:=(okl a3).1;refine LS 3 l (a66 l) [0] [] [0] ?_;rintro i ⟨v1,v2⟩;refine yKD 8 ?_ ?_<;>intro h1 ap;obtain ⟨e1,a1,a6,a5⟩:=gO a3 i;refine yD [] λbs G0 a0=>?_;refine dT 36 [1,3] ?_;refine zDI 2 0 i a0 Z a5 ?_;rintro a8 rfl;refine dT 34 [7] ?_;refine zDL 4 0 1 e1 a0 a1 ?_;rintro ⟨⟨p1,c1⟩,_⟩;refine DXV 5 Z J Z O (λw Y=>f189 n Q0 e1.name (Y.q 1 Z) ((agz a6).1)) λao=>?_;refine dT 30 [13,15] ?_;refine zDC 18 ?_ ?_<;>intro h2
 refine dT 0 [17,19,21,23,25,27,29,31,33,35,37,39,41,43,45,47,49,51,53,55,57,59,61,63,65,67,69,71,73,75] ?_;refine DX.tail2 [] Z Z J ?_;have a2:=v2.trans (show _=(some false) by rw [abu a1];simp only [a66,h2,cC]);exact R4r Z Z (by simp only [a76,a2]);refine dT 28 [17,19] ?_;refine zDI 10 0 i a0 Z a5 ?_;rintro am ⟨⟩;refine dT 25 [23,25] ?_;refine zDL 13 0 2 e1 a0 a1 ?_;rintro ⟨⟨p2,c2⟩,_⟩;refine dT 20 [29,31,33,35] ?_;refine zDC 28 ?_ ?_<;>intro h3
 refine dT 0 [37,39,41,43,45,47,49,51,53,55,57,59,61,63,65,67,69,71,73,75] ?_;refine DX.tail2 [] Z Z J ?_;have a2:=v2.trans (show _=(some false) by rw [abu a1];simp only [a66,h2,h3,cC]);exact R4r Z Z (by simp only [a76,a2]);refine dT 18 [37,39] ?_;refine zDI 20 0 i a0 Z a5 ?_;rintro af ⟨⟩;refine dT 16 [43] ?_;refine zDL 22 0 3 e1 a0 a1 ?_;rintro ⟨⟨p3,c3⟩,_⟩;refine DXV 23 Z J Z O (λw Y=>f255 n Q0 ((agz a6).2)) λae=>?_;refine dT 11 [49,51,53] ?_;refine zDC 37 ?_ ?_<;>intro h4
 refine dT 0 [55,57,59,61,63,65,67,69,71,73,75] ?_;refine DX.tail2 [] Z Z J ?_;have a2:=v2.trans (show _=(some false) by rw [abu a1];simp only [a66,h2,h3,h4,cC]);exact R4r Z Z (by simp only [a76,a2]);refine dT 9 [55,57] ?_;refine DX.seeP 29 J Z Z Z Z (adg i ttOk Z Z Z Z Q10 (Nat.le_trans (show i<=l.length from Q0) (a0.get 0 Z:RdSl _ _ _ _).1)) ?_
 refine DX.slot 40 (y:= .v (.slice (some a8) (((List.take i l)).length) M0)) Z (λ_=>by rw [show ((List.take i l)).length=i from (by simp only [List.length_take];have z_:=(show i<=l.length from Q0);omega)]) ?_;refine DX.der 4 (MF.rs .der (some a8) M0 (List.take i l)) Z (λ_ hΓ=>RdSl.pre (hΓ.get 0 Z:RdSl _ _ _ _) i) ?_;refine dT 6 [61,63] ?_;refine zDI 32 0 i a0 Z a5 ?_;rintro aq ⟨⟩;refine dT 4 [67] ?_;refine zDL 34 0 5 e1 a0 a1 ?_;rintro ⟨⟨p4,c4⟩,_⟩
 refine DXV 35 Z J Z O (λw Y=>f215 n Q0 (Y.q 4 Z) e1.name (Y.q 5 Z) (aby Q3 (λa ha=>(okl a3).2 a (List.mem_of_mem_take ha)):ok n ((List.take i l):List Key)) ((agz a6).1)) λan=>?_;refine dT 0 [73,75] ?_;refine DX.tail2 [] Z Z J ?_;refine yKD 48 ?_ ?_<;>intro h5 aj;have a2:=v2.trans (show _=(some false) by rw [abu a1];simp only [a66,h2,h3,h4,h5,cC]);exact R4r Z Z (by simp only [a76,a2])
 refine LM Z 0 (λi2=>((i2<=i)/\(a9m l e1 i 0=a9m l e1 (i-i2) i2),i-i2,[(4,.v (vI i2))],[],[],[])) ⟨zl,Z⟩ [47,46,45,44,43,42,41,40,39,38,35,34,33,32,31,30,29,26,25,24,23,22,21,20,19,3,0] [] [0] [0] ?_;rintro i2 ⟨v3,v4⟩;refine yKD 51 ?_ ?_<;>intro h6 ah;refine yD [] λbs G0 a0=>?_;refine dT 9 [1,3] ?_;obtain ⟨e2,a7,ag,aa⟩:=gO a3 i2;refine zDI 2 0 i2 a0 Z aa ?_;rintro al ⟨⟩;refine dT 7 [7] ?_;refine zDL 4 0 6 e2 a0 a7 ?_;rintro ⟨⟨p5,c5⟩,_⟩;refine dT 4 [11,13] ?_;refine zDI 7 0 i a0 Z a5 ?_;rintro ai ⟨⟩
 refine dT 2 [17] ?_;refine zDL 9 0 7 e1 a0 a1 ?_;rintro ⟨⟨p6,c6⟩,_⟩;refine dT 0 [21] ?_;refine DX.tail2 [] Z Z J ?_;refine yKE 64 ?_ ?_<;>intro h7 ak;have a2:=v4.trans (show _=(some false) by rw [show i-i2=(i- (i2+1))+1 by omega];simp only [a9m,a7,h7,cC]);have ad:=v2.trans (show _=(some false) by rw [abu a1];simp only [a66,h2,h3,h4,h5,a2,cC]);exact R4r Z Z (by simp only [a76,ad]);refine SA ?_
 exact ITr Z (i2+1) ⟨Q0,(by rw [v4,show i-i2=(i- (i2+1))+1 by omega];simp only [a9m,a7,h7,cC])⟩ Q1 [0];have a4:=v4.trans (show _=none by rw [show i-i2=0 by omega];simp only [a9m]);refine SA ?_;exact ITr Z (i+1) ⟨Q0,(by rw [v2,abu a1];simp only [a66,h2,h3,h4,h5,a4,cC])⟩ Q1 [0];have a4:=v2.trans (show _=none by rw [dn];simp only [a66];omega);exact R4r Z Z (by simp only [a76,a4])
theorem f186 (hn:n+0<=9)(t:bU)(N0:Rd w K0 M0 t.keys)(N1:Rd w K1 M1 t.bR)(N2:Rd w K2 M2 t.bV)(N3:Rd w K3 M3 t.bW)(a0:ok n t):
 DP 186 #[ado t K0 M0 K1 M1 K2 M2 K3 M3] w (pB (a42 t)):=by
 refine EN Tryz.func186 Z (aS4 N0 N1 N2 N3) ?_;refine KV Z Z O (λw Y=>f213 n Q0 (Y.q 0 Z) (a0.1)) λay=>?_;refine yKN 9 ?_ ?_<;>intro h1 az;exact R4r Z Z (by simp only [a42,h1,cC]);refine KV Z Z O (λw Y=>f214 n Q0 (Y.q 1 Z) (a0.2.1)) λai=>?_;refine yKN 15 ?_ ?_<;>intro h2 am;exact R4r Z Z (by simp only [a42,h1,h2,cC]);refine yKD 21 ?_ ?_<;>intro h3 ak;exact R4r Z Z (by simp only [a42,h1,h2,h3,cC]);refine yKD 26 ?_ ?_<;>intro h4 aq
 exact R4r Z Z (by simp only [a42,h1,h2,h3,h4,cC]);refine LT 3 t.bV (a9n t) [1] [1] [0,1,2,3] ?_;rintro i ⟨v1,v2⟩;refine yKD 31 ?_ ?_<;>intro h5 ar;obtain ⟨e1,a5,ae,ah⟩:=gO a0.2.2.1 i;refine yD [] λbs G0 a8=>?_;refine dT 4 [1,2,5,6,9] ?_;refine zDI 5 2 i a8 Z ah ?_;rintro av rfl;refine zDL 6 2 4 e1 a8 a5 ?_;rintro ⟨p1,c1⟩;refine DXV 7 Z J Z O (λw Y=>f215 n Q0 (Y.q 0 Z) e1 (Y.q 4 Z) (a0.1) ae) λax=>?_;refine dT 0 [17] ?_
 refine DX.tail2 [] Z Z J ?_;refine yKD 42 ?_ ?_<;>intro h6 al;have af:=v2.trans (show _=(some false) by rw [abu a5];simp only [a9n,h6,cC]);exact R4r Z Z (by simp only [a42,h1,h2,h3,h4,af,cC]);refine SA ?_;exact ITr Z (i+1) ⟨Q0,(by rw [v2,abu a5];simp only [a9n,h6,cC])⟩ Q1 [0,1,2,3];have a1:=v2.trans (show _=none by rw [dn];simp only [a9n];omega)
 refine LT 4 t.bW a8g [1] [1] [0,1,2,3] ?_;rintro i ⟨au,a2⟩;refine yKD 47 ?_ ?_<;>intro aw ac;obtain ⟨e2,a4,a6,ad⟩:=gO a0.2.2.2 i;refine yI 3 i ad ?_;rintro aa rfl;refine zL 3 16 e2 a4 ?_;rintro ⟨⟨b2,b1⟩,⟨an,ao⟩,⟨b0,ap⟩,_⟩;refine CV Z O (λw Y=>f192 n Q0 e2 (Y.q 16 Z) (Y.q 17 Z) (Y.q 18 Z) a6) λag=>?_;refine yKN 56 ?_ ?_<;>intro a9 ab;have a3:=a2.trans (show _=(some false) by rw [abu a4];simp only [a8g,a9,cC]);exact R4r Z Z (by simp only [a42,h1,h2,h3,h4,a1,a3,cC])
 refine SA ?_;exact ITr Z (i+1) ⟨Q0,(by rw [a2,abu a4];simp only [a8g,a9,cC])⟩ Q1 [0,1,2,3];have a7:=a2.trans (show _=none by rw [dn];simp only [a8g];omega);exact R4r Z Z (by simp only [a42,h1,h2,h3,h4,a1,a7,cC])
end Go.Proofs.YthdfhghdipdknaaGreat
namespace Go.Stp
def a77 (n_:aA):List aJ->Nat->Option (Int)|[],i=>none|e1::rest_,i=>bif (a1i e1.name n_)then (some ((i:Nat):Int))else a77 n_ rest_ (i+1)
def a4l (l:(List aJ))(n_:aA):Int:=match a77 n_ l 0 with|some r_=>r_|none=>(-1)
end Go.Stp
namespace Go.Proofs.YthdfhghdipdknaaGreat
open Go.Stp
open Go.Stp.GoT (ok)
variable {w : World} (n : Nat) {K0 K1 : Option Addr} {M0 M1 : Nat}
theorem f220 (hn:n+0<=9){l:List aJ}(N0:Rd w K0 M0 l)(n_:aA)(N1:Rd w K1 M1 n_.parts)(a0:ok n l)(a1:ok n n_):
 DP 220 #[vS K0 l M0,adu n_ K1 M1] w (pI n (a4l l n_)):=by
 have hb:=bS0 hn;refine EN Tryz.func220 Z (aS2 N0 N1) ?_;have r1:=a0.1;refine LS 5 l (a77 n_) [3,0] [3] [0,1] ?_;rintro i ⟨v1,v2⟩;refine yKD 9 ?_ ?_<;>intro h1 aa;obtain ⟨e1,a2,a5,a7⟩:=gO a0 i;refine yD [] λbs G0 a4=>?_;refine dT 5 [1,3] ?_;refine zDI 2 0 i a4 Z a7 ?_;rintro a8 rfl;refine dT 3 [7] ?_;refine zDL 4 0 2 e1 a4 a2 ?_;rintro ⟨⟨p1,c1⟩,⟨p2,c2⟩,⟨p3,c3⟩,_⟩;refine dT 1 [10] ?_;refine DXV 6 Z J Z O (λw Y=>f173 n Q0 e1.name (Y.q 2 Z) n_ (Y.q 1 Z) (a5.1) a1) λa9=>?_;refine DX.tail2 [] Z Z J ?_
 refine yKA 18 ?_ ?_<;>intro h2;have a6:=v2.trans (show _=(some (i:Int)) by rw [abu a2];simp only [a77,h2,cC]);rw [show a4l l n_=((i:Nat):Int) by simp only [a4l,a6]];exact R6r Z Z (i6 (i:Nat));refine SA ?_;exact ITr Z (i+1) ⟨Q0,(by rw [v2,abu a2];simp only [a77,h2,cC])⟩ Q1 [0,1];have a3:=v2.trans (show _=none by rw [dn];simp only [a77];omega);rw [show a4l l n_=(-1) by simp only [a4l,a3]]
 exact R6r Z Z (i6 (-1))
theorem arc (n_:aA):∀(l:List aJ) (i:Nat) (j:Int),a77 n_ l i=some j->j<((i+l.length:Nat):Int)
 |[],i,j,h=>by cases h
 |x::l,i,j,h=>by
  simp only [a77]at h;cases hx:a1i x.name n_
  ·rw [hx,cond_false]at h
   have:=arc n_ l (i+1) j h
   grind
  ·grind
theorem aji (l:List aJ)(n_:aA):a4l l n_<(l.length:Int):=by
 unfold a4l;cases h:a77 n_ l 0 with
 |none=>show (-1:Int)<_;omega
 |some j=>have:=arc n_ l 0 j h;show j<_;omega
end Go.Proofs.YthdfhghdipdknaaGreat
namespace Go.Stp
def ac1 (fq:aB->Bool):List aB->Nat->Option (Int)|[],i=>none|e1::rest_,i=>bif fq e1 then (some ((i:Nat):Int))else ac1 fq rest_ (i+1)
def aci (s:(List aB))(fq:aB->Bool):Int:=match ac1 fq s 0 with|some r_=>r_|none=>(-1)
def a78 (n_:aA):List aT->Nat->Option (Int)|[],i=>none|e1::rest_,i=>bif (a1i e1.data.name n_)then (some ((i:Nat):Int))else a78 n_ rest_ (i+1)
def a1c (l:(List aT))(n_:aA):Int:=match a78 n_ l 0 with|some r_=>r_|none=>(-1)
def a9o (c_:bX):List aT->Nat->Option (Bool)|[],i=>none|e1::rest_,i=>bif (!(a23 e1.data))then (some false)else bif decide ((a1c (List.take i c_.bB) e1.data.name)>=0)then (some false)else a9o c_ rest_ (i+1)
def aaj (c_:bX):Bool:=match a9o c_ c_.bB 0 with|some r_=>r_|none=>bif (a07 c_.cA 0 8)then (decide (((c_.bB).length:Int)<=c_.cA))else false
def a67 (l:(List aW)):List aW->Nat->Option (Bool)|[],i=>none|e1::rest_,i=>bif (!(a07 e1.face 0 6))then (some false)else bif (!(a07 e1.bI 0 1000000))then (some false)else bif decide (((i:Nat):Int)>0)then match (l)[(((i:Nat):Int)-1).toNat]? with|none=>default|some e2=>bif decide (e2.face>=e1.face)then (some false)else a67 l rest_ (i+1)else a67 l rest_ (i+1)
def aak (l:(List aW)):Bool:=match a67 l l 0 with|some r_=>r_|none=>(decide (((l).length:Int)>0))
def a79 (n_:aA):List aO->Nat->Option (Int)|[],i=>none|e1::rest_,i=>bif (a1i e1.name n_)then (some ((i:Nat):Int))else a79 n_ rest_ (i+1)
def a06 (l:(List aO))(n_:aA):Int:=match a79 n_ l 0 with|some r_=>r_|none=>(-1)
def a68 (l:(List aO)):List aO->Nat->Option (Bool)|[],i=>none|e1::rest_,i=>bif (!(a1e e1.name))then (some false)else bif (((e1.name.parts).length:Int)==0)then (some false)else bif (!(aak e1.bK))then (some false)else bif (!(a07 e1.cH 0 100000))then (some false)else bif decide ((a06 (List.take i l) e1.name)>=0)then (some false)else a68 l rest_ (i+1)
def abh (l:(List aO)):Bool:=match a68 l l 0 with|some r_=>r_|none=>(decide (((l).length:Int)<=12))
def a54 (face:Int)(prefix_:aA)(r:aB):Bool:=bif (r.face==face)then (a8c r.pfx prefix_)else false
def a0x (l:(List aB))(prefix_:aA)(face:Int):Int:=(aci l (λe0_=>(a54 face prefix_ e0_)))
def a2f (l:(List aB)):List aB->Nat->Option (Bool)|[],i=>none|e1::rest_,i=>bif (!(a5i e1.pfx))then (some false)else bif (!(a0o e1.face 1 6))then (some false)else bif (!(a0o e1.cost 0 1000))then (some false)else bif decide ((a0x (List.take i l) e1.pfx e1.face)>=0)then (some false)else a2f l rest_ (i+1)
def a16 (l:(List aB)):Bool:=match a2f l l 0 with|some r_=>r_|none=>(decide (((l).length:Int)<=24))
def a4m (n_:aA)(side:Int):List aB->Nat->Option (Int)|[],i=>none|e1::rest_,i=>bif (e1.face==side)then bif (a1i e1.pfx n_)then (some ((i:Nat):Int))else a4m n_ side rest_ (i+1)else a4m n_ side rest_ (i+1)
def a18 (l:(List aB))(n_:aA)(side:Int):Int:=match a4m n_ side l 0 with|some r_=>r_|none=>(-1)
def a43 (l:(List aB)):List aB->Nat->Option (Bool)|[],i=>none|e1::rest_,i=>bif (!(a1e e1.pfx))then (some false)else bif (!(a07 e1.face 1 6))then (some false)else bif (!(a07 e1.cost 0 1000))then (some false)else bif decide ((a18 (List.take i l) e1.pfx e1.face)>=0)then (some false)else a43 l rest_ (i+1)
def a3t (l:(List aB)):Bool:=match a43 l l 0 with|some r_=>r_|none=>(decide (((l).length:Int)<=24))
def a5l (n_:aA)(side:Int):List aS->Nat->Option (Int)|[],i=>none|e1::rest_,i=>bif (e1.face==side)then bif (a1i e1.pfx n_)then (some ((i:Nat):Int))else a5l n_ side rest_ (i+1)else a5l n_ side rest_ (i+1)
def a0a (l:(List aS))(n_:aA)(side:Int):Int:=match a5l n_ side l 0 with|some r_=>r_|none=>(-1)
def a7a (l:(List aS)):List aS->Nat->Option (Bool)|[],i=>none|e1::rest_,i=>bif (!(a1e e1.pfx))then (some false)else bif (!(a07 e1.face 1 6))then (some false)else bif (!(a07 e1.cE 1 50))then (some false)else bif decide ((a0a (List.take i l) e1.pfx e1.face)>=0)then (some false)else a7a l rest_ (i+1)
def abi (l:(List aS)):Bool:=match a7a l l 0 with|some r_=>r_|none=>(decide (((l).length:Int)<=24))
def a69 (x_:aH):List aJ->Nat->Option (Bool)|[],i=>none|e1::rest_,i=>bif (!(a23 e1))then (some false)else bif decide ((a4l (List.take i x_.bF) e1.name)>=0)then (some false)else a69 x_ rest_ (i+1)
def a44 (x_:aH):Bool:=match a69 x_ x_.bF 0 with|some r_=>r_|none=>bif decide (((x_.bF).length:Int)<=8)then bif (aaj x_.bG)then bif (abh x_.bH)then bif (a3t x_.bM)then bif (abi x_.bQ)then bif decide (((x_.bS).length:Int)<=24)then (decide (x_.aP>=0))else false else false else false else false else false else false
theorem rtIL (fq:aB->Bool):∀(l:List aB) (i:Nat) (r:Int),ac1 fq l i=some r->r<((i+l.length:Nat):Int)
 |[],i,r,h=>by cases h
 |e::l,i,r,h=>by
  simp only [ac1]at h;cases h0:fq e
  ·rw [h0,cond_false]at h
   have:=rtIL fq l (i+1) r h
   grind
  ·grind
theorem as3 (l:List aB)(n_:aA)(f:Int):a0x l n_ f<(l.length:Int):=by
 unfold a0x aci
 split
 ·rename_i r h;have:=rtIL _ l 0 r h;omega
 ·omega
theorem rtSL (n_:aA)(f:Int):∀(l:List aB) (i:Nat) (r:Int),a4m n_ f l i=some r->r<((i+l.length:Nat):Int)
 |[],i,r,h=>by cases h
 |e::l,i,r,h=>by
  have ih:=rtSL n_ f l (i+1) r
  grind [List.length_cons,a4m]
theorem asj (l:List aB)(n_:aA)(f:Int):a18 l n_ f<(l.length:Int):=by
 unfold a18
 split
 ·rename_i r h;have:=rtSL n_ f l 0 r h;omega
 ·omega
end Go.Stp
namespace Go.Proofs.YthdfhghdipdknaaGreat
open Go.Stp
open Go.Stp.GoT (ok)
variable {w : World} (n : Nat) {K0 K1 K2 K3 K4 K5 : Option Addr} {M0 M1 M2 M3 M4 M5 : Nat}
theorem f132 (hn:n+0<=9){s:List aB}(N0:Rd w K0 M0 s)(fg:FuncId)(fc:List Value)(fq:aB->Bool)(ff:∀w1,Kp emp w w1->∀(e0:aB) (x0:GoT.X aB),ok n e0->All (hp w1) (GoT.fa .der e0 x0)->Does Tryz.prog fg ([Value.agg ⟨GoT.sh e0 x0⟩]++fc).toArray w1 emp (λrv _=>rv= .bool (fq e0)/\True))(a0:ok n s):
 DP 132 #[vS K0 s M0,.func (.func fg) #[] fc.toArray] w (pI n (aci s fq)):=by
 have hb:=bS0 hn;refine EN Tryz.func132 Z (aS1 N0) ?_;have r1:=a0.1;refine LS 8 s (ac1 fq) [7,0,1] [] [0] ?_;rintro i ⟨v1,v2⟩;refine yKD 9 ?_ ?_<;>intro h1 a8;obtain ⟨e1,a1,a3,a5⟩:=gO a0 i;refine yI 0 i a5 ?_;rintro a6 rfl;refine zL 0 1 e1 a1 ?_;rintro ⟨⟨p1,c1⟩,_⟩;refine WX.callV Z Z Z Z Z O Z (λw G bs hI hΓ=>ff w hI.keep e1 _ a3 (All.cons (hΓ.get 1 Z:RdSl _ _ _ _) All.nil)) λa7=>?_;refine yKA 16 ?_ ?_<;>intro h2
 have a4:=v2.trans (show _=(some (i:Int)) by rw [abu a1];simp only [ac1,h2,cC]);rw [show aci s fq=((i:Nat):Int) by simp only [aci,a4]];exact R6r Z Z (i6 (i:Nat));refine SA ?_;exact ITr Z (i+1) ⟨Q0,(by rw [v2,abu a1];simp only [ac1,h2,cC])⟩ Q1 [0];have a2:=v2.trans (show _=none by rw [dn];simp only [ac1];omega)
 rw [show aci s fq=(-1) by simp only [aci,a2]];exact R6r Z Z (i6 (-1))
theorem af1:∀(f:aB->Bool) (l:List aB)(i:Nat)(j:Int),ac1 f l i=some j->j<((i+l.length:Nat):Int)
 |f,[],i,j,h=>by cases h
 |f,x::l,i,j,h=>by
  simp only [ac1]at h;cases hx:f x
  ·rw [hx,cond_false]at h
   have:=af1 f l (i+1) j h
   grind
  ·grind
theorem agf (l:List aB)(f:aB->Bool):aci l f<(l.length:Int):=by
 unfold aci;cases h:ac1 f l 0 with
 |none=>show (-1:Int)<_;omega
 |some j=>have:=af1 f l 0 j h;show j<_;omega
theorem f258 (hn:n+0<=9){l:List aT}(N0:Rd w K0 M0 l)(n_:aA)(N1:Rd w K1 M1 n_.parts)(a0:ok n l)(a1:ok n n_):
 DP 258 #[vS K0 l M0,adu n_ K1 M1] w (pI n (a1c l n_)):=by
 have hb:=bS0 hn;refine EN Tryz.func258 Z (aS2 N0 N1) ?_;have r1:=a0.1;refine LS 5 l (a78 n_) [3,0] [3] [0,1] ?_;rintro i ⟨v1,v2⟩;refine yKD 9 ?_ ?_<;>intro h1 aa;obtain ⟨e1,a2,a5,a7⟩:=gO a0 i;refine yD [] λbs G0 a4=>?_;refine dT 6 [1,3] ?_;refine zDI 2 0 i a4 Z a7 ?_;rintro a8 rfl;refine dT 3 [7,9] ?_;refine zDL 5 0 2 e1 a4 a2 ?_;rintro ⟨⟨⟨p1,c1⟩,⟨p2,c2⟩,⟨p3,c3⟩,_⟩,_⟩;refine dT 1 [12] ?_;refine DXV 7 Z J Z O (λw Y=>f173 n Q0 e1.data.name (Y.q 2 Z) n_ (Y.q 1 Z) ((ac0 a5.1).1) a1) λa9=>?_
 refine DX.tail2 [] Z Z J ?_;refine yKA 19 ?_ ?_<;>intro h2;have a6:=v2.trans (show _=(some (i:Int)) by rw [abu a2];simp only [a78,h2,cC]);rw [show a1c l n_=((i:Nat):Int) by simp only [a1c,a6]];exact R6r Z Z (i6 (i:Nat));refine SA ?_;exact ITr Z (i+1) ⟨Q0,(by rw [v2,abu a2];simp only [a78,h2,cC])⟩ Q1 [0,1];have a3:=v2.trans (show _=none by rw [dn];simp only [a78];omega)
 rw [show a1c l n_=(-1) by simp only [a1c,a3]];exact R6r Z Z (i6 (-1))
theorem f221 (hn:n+0<=9)(c_:bX)(N0:Rd w K0 M0 c_.bB)(a0:ok n c_):
 DP 221 #[ady c_ K0 M0] w (pB (aaj c_)):=by
 have hb:=bS0 hn;refine EN Tryz.func221 Z (aS1 N0) ?_;have r1:=(okl a0.2).1;refine LS 3 c_.bB (a9o c_) [1] [1] [0] ?_;rintro i ⟨v1,v2⟩;refine yKD 8 ?_ ?_<;>intro h1 ag;obtain ⟨e1,a2,a6,a7⟩:=gO a0.2 i;refine yD [] λbs G0 a1=>?_;refine dT 20 [1,2,5] ?_;refine zDI 3 0 i a1 Z a7 ?_;rintro a8 rfl;refine dT 18 [9] ?_;refine zDL 5 0 1 e1 a1 a2 ?_;rintro ⟨⟨⟨p1,c1⟩,⟨p2,c2⟩,⟨p3,c3⟩,_⟩,_⟩
 refine DXV 6 Z J Z O (λw Y=>f192 n Q0 e1.data (Y.q 1 Z) (Y.q 2 Z) (Y.q 3 Z) (a6.1)) λaf=>?_;refine dT 14 [15,17] ?_;refine zDC 19 ?_ ?_<;>intro h2;refine dT 0 [19,21,23,25,27,29,31,33,35,37,39,41,43,45] ?_;refine DX.tail2 [] Z Z J ?_;have a4:=v2.trans (show _=(some false) by rw [abu a2];simp only [a9o,h2,cC]);exact R4r Z Z (by simp only [aaj,a4]);refine dT 11 [19,20,23] ?_
 refine DX.seeP 12 J Z Z Z Z (adg i ttOk Z Z Z Z Q10 (Nat.le_trans Q0 (a1.get 0 Z:RdSl _ _ _ _).1)) ?_;refine DX.slot 23 (y:= .v (.slice (some a8) (((List.take i c_.bB)).length) M0)) Z (λ_=>by rw [show ((List.take i c_.bB)).length=i from (by simp only [List.length_take];have z_:=Q0;omega)]) ?_;refine DX.der 4 (MF.rs .der (some a8) M0 (List.take i c_.bB)) Z (λ_ hΓ=>RdSl.pre (hΓ.get 0 Z) i) ?_;refine dT 7 [27,28,31] ?_;refine zDI 16 0 i a1 Z a7 ?_
 rintro ae ⟨⟩;refine dT 4 [35,37] ?_;refine zDL 19 0 5 e1 a1 a2 ?_;rintro ⟨⟨⟨p4,c4⟩,⟨p5,c5⟩,⟨p6,c6⟩,_⟩,_⟩;refine DXV 20 Z J Z O (λw Y=>f258 n Q0 (Y.q 4 Z) e1.data.name (Y.q 5 Z) (aby Q3 (λa ha=>(okl (aca a0).2).2 a (List.mem_of_mem_take ha))) ((ac0 a6.1).1)) λac=>?_;refine dT 0 [43,45] ?_;refine DX.tail2 [] Z Z J ?_;refine yKD 33 ?_ ?_<;>intro h3 ad
 have a4:=v2.trans (show _=(some false) by rw [abu a2];simp only [a9o,h2,h3,cC]);exact R4r Z Z (by simp only [aaj,a4]);refine SA ?_;exact ITr Z (i+1) ⟨Q0,(by rw [v2,abu a2];simp only [a9o,h2,h3,cC])⟩ Q1 [0];have a3:=v2.trans (show _=none by rw [dn];simp only [a9o];omega);refine KV Z Z O (λw Y=>f120 n Q0 (a0.1) (i6 0) (i6 8)) λaa=>?_;refine yKA 37 ?_ ?_<;>intro a5
 exact R4r Z Z (by simp only [aaj,a3,a5,cC]);exact R4r Z Z (by simp only [aaj,a3,a5,cC])
theorem f259 (hn:n+0<=9){l:List aW}(N0:Rd w K0 M0 l)(a2:ok n l):
 DP 259 #[vS K0 l M0] w (pB (aak l)):=by
 have hb:=bS0 hn;refine EN Tryz.func259 Z (aS1 N0) ?_;have r1:=a2.1;refine LS 3 l (a67 l) [0] [] [0] ?_;rintro i ⟨v1,v2⟩;refine yKD 7 ?_ ?_<;>intro h1 al;obtain ⟨e1,a1,a7,a4⟩:=gO a2 i;refine yD [] λbs G0 a0=>?_;refine dT 32 [1,3] ?_;refine zDI 2 0 i a0 Z a4 ?_;rintro ah rfl;refine dT 30 [7] ?_;refine zDL 4 0 1 e1 a0 a1 ?_;rintro _;refine DXV 5 Z J Z O (λw Y=>f120 n Q0 (a7.1) (i6 0) (i6 6)) λaj=>?_;refine dT 26 [13,15] ?_;refine zDC 17 ?_ ?_<;>intro h2
 refine dT 0 [17,19,21,23,25,27,29,31,33,35,37,39,41,43,45,47,49,51,53,55,57,59,61,63,65,67] ?_;refine DX.tail2 [] Z Z J ?_;have a3:=v2.trans (show _=(some false) by rw [abu a1];simp only [a67,h2,cC]);exact R4r Z Z (by simp only [aak,a3]);refine dT 24 [17,19] ?_;refine zDI 10 0 i a0 Z a4 ?_;rintro ag ⟨⟩;refine dT 22 [23] ?_;refine zDL 12 0 1 e1 a0 a1 ?_;rintro _
 refine DXV 13 Z J Z O (λw Y=>f120 n Q0 (a7.2.1) (i6 0) (i6 1000000)) λac=>?_;refine dT 17 [29,31,33] ?_;refine zDC 26 ?_ ?_<;>intro h3;refine dT 0 [35,37,39,41,43,45,47,49,51,53,55,57,59,61,63,65,67] ?_;refine DX.tail2 [] Z Z J ?_;have a3:=v2.trans (show _=(some false) by rw [abu a1];simp only [a67,h2,h3,cC]);exact R4r Z Z (by simp only [aak,a3]);refine dT 14 [35,37,39] ?_;refine zDC 29 ?_ ?_<;>intro h4;have ab:=B.dt h4
 refine dT 12 [41,43] ?_;refine DX.seeP 22 J Z Z Z Z (ad7 Z Z Z Z Q6) ?_;refine DI 32 ?_;obtain ⟨e2,a5,ae,aa⟩:=gO a2 (((i:Int)-1).toNat);refine zDI 23 0 _ a0 Z aa ?_;rintro ad ⟨⟩;refine dT 9 [49] ?_;refine zDL 25 0 1 e2 a0 a5 ?_;rintro _;refine dT 6 [53,55] ?_;refine zDI 28 0 i a0 Z a4 ?_;rintro am ⟨⟩;refine dT 4 [59] ?_;refine zDL 30 0 1 e1 a0 a1 ?_;rintro _;refine dT 0 [63,65,67] ?_;refine DX.tail2 [] Z Z J ?_
 refine yKD 43 ?_ ?_<;>intro h5 af;have a3:=v2.trans (show _=(some false) by rw [abu a1];simp only [a67,h2,h3,h4,a5,h5,cC]);exact R4r Z Z (by simp only [aak,a3]);refine SA ?_;exact ITr Z (i+1) ⟨Q0,(by rw [v2,abu a1];simp only [a67,h2,h3,h4,a5,h5,cC])⟩ Q1 [0];have ab:=B.df h4;refine dT 0 [41,43,45,47,49,51,53,55,57,59,61,63,65,67] ?_;refine DX.tail2 [] Z Z J ?_;refine SA ?_
 exact ITr Z (i+1) ⟨Q0,(by rw [v2,abu a1];simp only [a67,h2,h3,h4,cC])⟩ Q1 [0];have a6:=v2.trans (show _=none by rw [dn];simp only [a67];omega);exact R4r Z Z (by simp only [aak,a6])
theorem f260 (hn:n+0<=9){l:List aO}(N0:Rd w K0 M0 l)(n_:aA)(N1:Rd w K1 M1 n_.parts)(a0:ok n l)(a1:ok n n_):
 DP 260 #[vS K0 l M0,adu n_ K1 M1] w (pI n (a06 l n_)):=by
 have hb:=bS0 hn;refine EN Tryz.func260 Z (aS2 N0 N1) ?_;have r1:=a0.1;refine LS 5 l (a79 n_) [3,0] [3] [0,1] ?_;rintro i ⟨v1,v2⟩;refine yKD 9 ?_ ?_<;>intro h1 aa;obtain ⟨e1,a2,a5,a7⟩:=gO a0 i;refine yD [] λbs G0 a4=>?_;refine dT 5 [1,3] ?_;refine zDI 2 0 i a4 Z a7 ?_;rintro a8 rfl;refine dT 3 [7] ?_;refine zDL 4 0 2 e1 a4 a2 ?_;rintro ⟨⟨p1,c1⟩,⟨p2,c2⟩,_⟩;refine dT 1 [10] ?_;refine DXV 6 Z J Z O (λw Y=>f173 n Q0 e1.name (Y.q 2 Z) n_ (Y.q 1 Z) (a5.1) a1) λa9=>?_;refine DX.tail2 [] Z Z J ?_
 refine yKA 18 ?_ ?_<;>intro h2;have a6:=v2.trans (show _=(some (i:Int)) by rw [abu a2];simp only [a79,h2,cC]);rw [show a06 l n_=((i:Nat):Int) by simp only [a06,a6]];exact R6r Z Z (i6 (i:Nat));refine SA ?_;exact ITr Z (i+1) ⟨Q0,(by rw [v2,abu a2];simp only [a79,h2,cC])⟩ Q1 [0,1];have a3:=v2.trans (show _=none by rw [dn];simp only [a79];omega);rw [show a06 l n_=(-1) by simp only [a06,a3]]
 exact R6r Z Z (i6 (-1))
theorem f222 (hn:n+0<=9){l:List aO}(N0:Rd w K0 M0 l)(a2:ok n l):
 DP 222 #[vS K0 l M0] w (pB (abh l)):=by
 have hb:=bS0 hn;refine EN Tryz.func222 Z (aS1 N0) ?_;have r1:=a2.1;refine LS 3 l (a68 l) [0] [] [0] ?_;rintro i ⟨v1,v2⟩;refine yKD 7 ?_ ?_<;>intro h1 am;obtain ⟨e1,a1,a5,a4⟩:=gO a2 i;refine yD [] λbs G0 a0=>?_;refine dT 45 [1,3] ?_;refine zDI 2 0 i a0 Z a4 ?_;rintro a7 rfl;refine dT 43 [7] ?_;refine zDL 4 0 1 e1 a0 a1 ?_;rintro ⟨⟨p1,c1⟩,⟨p2,c2⟩,_⟩;refine DXV 5 Z J Z O (λw Y=>f189 n Q0 e1.name (Y.q 1 Z) (a5.1)) λal=>?_;refine dT 39 [13,15] ?_
 ·skip
  refine zDC 17 ?_ ?_<;>intro h2;refine dT 0 [17,19,21,23,25,27,29,31,33,35,37,39,41,43,45,47,49,51,53,55,57,59,61,63,65,67,69,71,73,75,77,79,81,83,85,87,89,91,93] ?_;refine DX.tail2 [] Z Z J ?_;have a3:=v2.trans (show _=(some false) by rw [abu a1];simp only [a68,h2,cC]);rotate_left;refine dT 37 [17,19] ?_;refine zDI 10 0 i a0 Z a4 ?_;rintro aj ⟨⟩;refine dT 34 [23,25] ?_;refine zDL 13 0 3 e1 a0 a1 ?_;rintro ⟨⟨p3,c3⟩,⟨p4,c4⟩,_⟩;refine dT 29 [29,31,33,35] ?_
  refine zDC 27 ?_ ?_<;>intro h3;refine dT 0 [37,39,41,43,45,47,49,51,53,55,57,59,61,63,65,67,69,71,73,75,77,79,81,83,85,87,89,91,93] ?_;refine DX.tail2 [] Z Z J ?_;have a3:=v2.trans (show _=(some false) by rw [abu a1];simp only [a68,h2,h3,cC]);rotate_left;refine dT 27 [37,39] ?_;refine zDI 20 0 i a0 Z a4 ?_;rintro ad ⟨⟩;refine dT 25 [43] ?_;refine zDL 22 0 5 e1 a0 a1 ?_;rintro ⟨⟨p5,c5⟩,⟨p6,c6⟩,_⟩
  refine DXV 23 Z J Z O (λw Y=>f259 n Q0 (Y.q 6 Z) (a5.2.1)) λac=>?_;refine dT 20 [49,51,53] ?_;refine zDC 36 ?_ ?_<;>intro h4;refine dT 0 [55,57,59,61,63,65,67,69,71,73,75,77,79,81,83,85,87,89,91,93] ?_;refine DX.tail2 [] Z Z J ?_;have a3:=v2.trans (show _=(some false) by rw [abu a1];simp only [a68,h2,h3,h4,cC]);rotate_left;refine dT 18 [55,57] ?_;refine zDI 29 0 i a0 Z a4 ?_;rintro ao ⟨⟩;refine dT 16 [61] ?_;refine zDL 31 0 7 e1 a0 a1 ?_
  rintro ⟨⟨p7,c7⟩,⟨p8,c8⟩,_⟩;refine DXV 32 Z J Z O (λw Y=>f120 n Q0 (a5.2.2) (i6 0) (i6 100000)) λak=>?_;refine dT 11 [67,69,71] ?_;refine zDC 45 ?_ ?_<;>intro h5;refine dT 0 [73,75,77,79,81,83,85,87,89,91,93] ?_;refine DX.tail2 [] Z Z J ?_;have a3:=v2.trans (show _=(some false) by rw [abu a1];simp only [a68,h2,h3,h4,h5,cC]);rotate_left;refine dT 9 [73,75] ?_
  refine DX.seeP 38 J Z Z Z Z (adg i ttOk Z Z Z Z Q10 (Nat.le_trans Q0 (a0.get 0 Z:RdSl _ _ _ _).1)) ?_;refine DX.slot 48 (y:= .v (.slice (some a7) (((List.take i l)).length) M0)) Z (λ_=>by rw [show ((List.take i l)).length=i from (by simp only [List.length_take];have z_:=Q0;omega)]) ?_;refine DX.der 9 (MF.rs .der (some a7) M0 (List.take i l)) Z (λ_ hΓ=>RdSl.pre (hΓ.get 0 Z) i) ?_;refine dT 6 [79,81] ?_;refine zDI 41 0 i a0 Z a4 ?_;rintro ai ⟨⟩;refine dT 4 [85] ?_
  refine zDL 43 0 10 e1 a0 a1 ?_;rintro ⟨⟨p9,c9⟩,⟨ae,ah⟩,_⟩;refine DXV 44 Z J Z O (λw Y=>f260 n Q0 (Y.q 9 Z) e1.name (Y.q 10 Z) (aby Q3 (λa ha=>(okl a2).2 a (List.mem_of_mem_take ha))) (a5.1)) λag=>?_;refine dT 0 [91,93] ?_;refine DX.tail2 [] Z Z J ?_;refine yKD 56 ?_ ?_<;>intro h6 af;have a3:=v2.trans (show _=(some false) by rw [abu a1];simp only [a68,h2,h3,h4,h5,h6,cC]);rotate_left;refine SA ?_
  exact ITr Z (i+1) ⟨Q0,(by rw [v2,abu a1];simp only [a68,h2,h3,h4,h5,h6,cC])⟩ Q1 [0]
  all_goals
   exact R4r Z Z (by simp only [abh,a3])
 have a6:=v2.trans (show _=none by rw [dn];simp only [a68];omega);exact R4r Z Z (by simp only [abh,a6])
theorem f138 (hn:n+0<=9)(r:aB)(N0:Rd w K0 M0 r.pfx.parts)(face:Int)(bface:Addr)(hface:RdSl (hp w) (some bface) 1 [face])(prefix_:aA)(bprefix_:Addr)(hprefix_:RdSl (hp w) (some bprefix_) 1 [prefix_])(a4:ok n r)(a3:ok n face)(a0:ok n prefix_):
 DP 138 #[.agg #[vS K0 r.pfx.parts M0,vI r.face,vI r.cost],.pointer (some bface),.pointer (some bprefix_)] w (pB (a54 face prefix_ r)):=by
 refine EN Tryz.func138 Z (aS3 N0 hface hprefix_) ?_;have a2:[face][0]? =some face:=rfl;refine WX.slot 1 (y:= .e (some bface) 0 1 0) Z (λ_=>alw) ?_;have a1:[prefix_][0]? =some prefix_:=rfl;refine WX.slot 2 (y:= .e (some bprefix_) 0 1 0) Z (λ_=>alw) ?_;refine yL 1 3 _ a2 ?_;rintro ⟨⟩;refine yKE 9 ?_ ?_<;>intro h1 a5;refine yL 2 3 _ a1 ?_;rintro ⟨p1,c1⟩;refine CV Z O (λw Y=>f79 n Q0 r.pfx (Y.q 0 Z) prefix_ (Y.q 3 Z) (a4.1) a0) λa6=>?_
 exact R4r Z Z (by simp only [a54,h1,cC]);exact R4r Z Z (by simp only [a54,h1,cC])
theorem f87 (hn:n+0<=9){l:List aB}(N0:Rd w K0 M0 l)(prefix_:aA)(N1:Rd w K1 M1 prefix_.parts){face:Int}(a5:ok n l)(a0:ok n prefix_)(a1:ok n face):
 DP 87 #[vS K0 l M0,adu prefix_ K1 M1,vI face] w (pI n (a0x l prefix_ face)):=by
 refine EN Tryz.func87 Z (aS2 N0 N1) ?_
 refine KW Z Z Z Z Z Z O Z (λw G bs hI hΓ=>f132 n Q0 (hΓ.get 0 Z) 138 [Value.pointer (some ⟨bs 5,0,none⟩),Value.pointer (some ⟨bs 4,0,none⟩)] (λa2=>(a54 face prefix_ a2)) (λa9 a6 a2 a8 a3 a4=>f138 n Q0 a2 (a4 _ List.mem_cons_self) face ⟨bs 5,0,none⟩ ((am0 (α:=Int) (a:=face) (x:=()) (hI.loc 5 _ Z).1 All.nil).mono (art a6)) prefix_ ⟨bs 4,0,none⟩ ((am0 (α:=aA) (a:=prefix_) (x:=(K1,M1)) (hI.loc 4 _ Z).1 (All.cons (hΓ.get 1 Z:RdSl _ _ _ _) All.nil)).mono (art a6)) a3 a1 a0) a5) λa7=>?_
 rw [show a0x l prefix_ face=(aci l (λa2=>(a54 face prefix_ a2))) by simp only [a0x]];exact R6r Z Z a7
theorem f139 (hn:n+0<=9){l:List aB}(N0:Rd w K0 M0 l)(a0:ok n l):
 DP 139 #[vS K0 l M0] w (pB (a16 l)):=by
 have hb:=bS0 hn;refine EN Tryz.func139 Z (aS1 N0) ?_;have r1:=a0.1;refine LS 7 l (a2f l) [6,5,0] [] [0] ?_;rintro i ⟨v1,v2⟩;refine yKD 8 ?_ ?_<;>intro h1 ai;obtain ⟨e1,a1,a2,a8⟩:=gO a0 i;refine yI 0 i a8 ?_;rintro a5 rfl;refine zL 0 1 e1 a1 ?_;rintro ⟨⟨p1,c1⟩,_⟩;refine yD [] λbs G0 aa=>?_;refine dT 25 [1,2] ?_;refine DXV 2 Z J Z O (λw Y=>f177 n Q0 e1.pfx (Y.q 1 Z) (a2.1)) λag=>?_;refine dT 22 [7,9] ?_
 ·skip
  refine zDC 16 ?_ ?_<;>intro h2;refine dT 0 [11,13,15,17,19,21,23,25,27,29,31,33,35,37,39,41,43,45,47,49,51,53] ?_;refine DX.tail2 [] Z Z J ?_;have a3:=v2.trans (show _=(some false) by rw [abu a1];simp only [a2f,h2,cC]);rotate_left;refine dT 20 [11,12] ?_;refine DXV 7 Z J Z O (λw Y=>f33 n Q0 (a2.2.1) (i6 1) (i6 6)) λab=>?_;refine dT 16 [17,19,21] ?_;refine zDC 22 ?_ ?_<;>intro h3
  refine dT 0 [23,25,27,29,31,33,35,37,39,41,43,45,47,49,51,53] ?_;refine DX.tail2 [] Z Z J ?_;have a3:=v2.trans (show _=(some false) by rw [abu a1];simp only [a2f,h2,h3,cC]);rotate_left;refine dT 14 [23,24] ?_;refine DXV 13 Z J Z O (λw Y=>f33 n Q0 (a2.2.2) (i6 0) (i6 1000)) λaf=>?_;refine dT 10 [29,31,33] ?_;refine zDC 28 ?_ ?_<;>intro h4;refine dT 0 [35,37,39,41,43,45,47,49,51,53] ?_;refine DX.tail2 [] Z Z J ?_
  have a3:=v2.trans (show _=(some false) by rw [abu a1];simp only [a2f,h2,h3,h4,cC]);rotate_left;refine dT 8 [35,37] ?_;refine DX.seeP 19 J Z Z Z Z (adg i ttOk Z Z Z Z Q10 (Nat.le_trans Q0 (aa.get 0 Z:RdSl _ _ _ _).1)) ?_;refine DX.slot 31 (y:= .v (.slice (some a5) (((List.take i l)).length) M0)) Z (λ_=>by rw [show ((List.take i l)).length=i from (by simp only [List.length_take];have z_:=Q0;omega)]) ?_
  refine DX.der 2 (MF.rs .der (some a5) M0 (List.take i l)) Z (λ_ hΓ=>RdSl.pre (hΓ.get 0 Z) i) ?_;refine dT 3 [41,42,45,46] ?_;refine DXV 24 Z J Z O (λw Y=>f87 n Q0 (Y.q 2 Z) e1.pfx (Y.q 1 Z) (aby Q3 (λa ha=>(okl a0).2 a (List.mem_of_mem_take ha))) (a2.1) (a2.2.1)) λac=>?_;refine dT 0 [51,53] ?_;refine DX.tail2 [] Z Z J ?_;refine yKD 38 ?_ ?_<;>intro h5 ae
  have a3:=v2.trans (show _=(some false) by rw [abu a1];simp only [a2f,h2,h3,h4,h5,cC]);rotate_left;refine SA ?_;exact ITr Z (i+1) ⟨Q0,(by rw [v2,abu a1];simp only [a2f,h2,h3,h4,h5,cC])⟩ Q1 [0]
  all_goals
   exact R4r Z Z (by simp only [a16,a3])
 have a4:=v2.trans (show _=none by rw [dn];simp only [a2f];omega);exact R4r Z Z (by simp only [a16,a4])
theorem f129 (hn:n+0<=9){l:List aB}(N0:Rd w K0 M0 l)(n_:aA)(N1:Rd w K1 M1 n_.parts){side:Int}(a0:ok n l)(a1:ok n n_)(a3:ok n side):
 DP 129 #[vS K0 l M0,adu n_ K1 M1,vI side] w (pI n (a18 l n_ side)):=by
 have hb:=bS0 hn;refine EN Tryz.func129 Z (aS2 N0 N1) ?_;have r1:=a0.1;refine LS 7 l (a4m n_ side) [4,0,2] [4] [0,1] ?_;rintro i ⟨v1,v2⟩;refine yKD 11 ?_ ?_<;>intro h1 ad;obtain ⟨e1,a2,a8,a6⟩:=gO a0 i;refine yD [] λbs G0 a4=>?_;refine dT 14 [1,3] ?_;refine zDI 2 0 i a4 Z a6 ?_;rintro ab rfl;refine dT 12 [7] ?_;refine zDL 4 0 2 e1 a4 a2 ?_;rintro ⟨⟨p1,c1⟩,_⟩;refine dT 8 [11,13,15] ?_;refine zDC 21 ?_ ?_<;>intro h2;refine dT 6 [17,19] ?_;refine zDI 10 0 i a4 Z a6 ?_;rintro aa ⟨⟩;refine dT 4 [23] ?_
 refine zDL 12 0 3 e1 a4 a2 ?_;rintro ⟨⟨p2,c2⟩,_⟩;refine dT 2 [26] ?_;refine DXV 14 Z J Z O (λw Y=>f173 n Q0 e1.pfx (Y.q 3 Z) n_ (Y.q 1 Z) (a8.1) a1) λac=>?_;refine dT 0 [31] ?_;refine DX.tail2 [] Z Z J ?_;refine yKA 29 ?_ ?_<;>intro h3;have a9:=v2.trans (show _=(some (i:Int)) by rw [abu a2];simp only [a4m,h2,h3,cC]);rw [show a18 l n_ side=((i:Nat):Int) by simp only [a18,a9]];exact R6r Z Z (i6 (i:Nat));refine SA ?_
 exact ITr Z (i+1) ⟨Q0,(by rw [v2,abu a2];simp only [a4m,h2,h3,cC])⟩ Q1 [0,1];refine dT 0 [17,19,21,23,25,27,29,31] ?_;refine DX.tail2 [] Z Z J ?_;refine SA ?_;exact ITr Z (i+1) ⟨Q0,(by rw [v2,abu a2];simp only [a4m,h2,cC])⟩ Q1 [0,1];have a5:=v2.trans (show _=none by rw [dn];simp only [a4m];omega);rw [show a18 l n_ side=(-1) by simp only [a18,a5]];exact R6r Z Z (i6 (-1))
theorem f174 (hn:n+0<=9){l:List aB}(N0:Rd w K0 M0 l)(a3:ok n l):
 DP 174 #[vS K0 l M0] w (pB (a3t l)):=by
 have hb:=bS0 hn;refine EN Tryz.func174 Z (aS1 N0) ?_;have r1:=a3.1;refine LS 3 l (a43 l) [0] [] [0] ?_;rintro i ⟨v1,v2⟩;refine yKD 7 ?_ ?_<;>intro h1 ak;obtain ⟨e1,a1,a4,a5⟩:=gO a3 i;refine yD [] λbs G0 a0=>?_;refine dT 40 [1,3] ?_;refine zDI 2 0 i a0 Z a5 ?_;rintro a7 rfl;refine dT 38 [7] ?_;refine zDL 4 0 1 e1 a0 a1 ?_;rintro ⟨⟨p1,c1⟩,_⟩;refine DXV 5 Z J Z O (λw Y=>f189 n Q0 e1.pfx (Y.q 1 Z) (a4.1)) λaj=>?_;refine dT 34 [13,15] ?_;refine zDC 17 ?_ ?_<;>intro h2
 refine dT 0 [17,19,21,23,25,27,29,31,33,35,37,39,41,43,45,47,49,51,53,55,57,59,61,63,65,67,69,71,73,75,77,79,81,83] ?_;refine DX.tail2 [] Z Z J ?_;have a2:=v2.trans (show _=(some false) by rw [abu a1];simp only [a43,h2,cC]);exact R4r Z Z (by simp only [a3t,a2]);refine dT 32 [17,19] ?_;refine zDI 10 0 i a0 Z a5 ?_;rintro ah ⟨⟩;refine dT 30 [23] ?_;refine zDL 12 0 2 e1 a0 a1 ?_;rintro ⟨⟨p2,c2⟩,_⟩
 refine DXV 13 Z J Z O (λw Y=>f120 n Q0 (a4.2.1) (i6 1) (i6 6)) λab=>?_;refine dT 25 [29,31,33] ?_;refine zDC 26 ?_ ?_<;>intro h3;refine dT 0 [35,37,39,41,43,45,47,49,51,53,55,57,59,61,63,65,67,69,71,73,75,77,79,81,83] ?_;refine DX.tail2 [] Z Z J ?_;have a2:=v2.trans (show _=(some false) by rw [abu a1];simp only [a43,h2,h3,cC]);exact R4r Z Z (by simp only [a3t,a2]);refine dT 23 [35,37] ?_;refine zDI 19 0 i a0 Z a5 ?_
 rintro ac ⟨⟩;refine dT 21 [41] ?_;refine zDL 21 0 3 e1 a0 a1 ?_;rintro ⟨⟨p3,c3⟩,_⟩;refine DXV 22 Z J Z O (λw Y=>f120 n Q0 (a4.2.2) (i6 0) (i6 1000)) λai=>?_;refine dT 16 [47,49,51] ?_;refine zDC 35 ?_ ?_<;>intro h4;refine dT 0 [53,55,57,59,61,63,65,67,69,71,73,75,77,79,81,83] ?_;refine DX.tail2 [] Z Z J ?_;have a2:=v2.trans (show _=(some false) by rw [abu a1];simp only [a43,h2,h3,h4,cC]);exact R4r Z Z (by simp only [a3t,a2])
 refine dT 14 [53,55] ?_;refine DX.seeP 28 J Z Z Z Z (adg i ttOk Z Z Z Z Q10 (Nat.le_trans Q0 (a0.get 0 Z:RdSl _ _ _ _).1)) ?_;refine DX.slot 38 (y:= .v (.slice (some a7) (((List.take i l)).length) M0)) Z (λ_=>by rw [show ((List.take i l)).length=i from (by simp only [List.length_take];have z_:=Q0;omega)]) ?_;refine DX.der 4 (MF.rs .der (some a7) M0 (List.take i l)) Z (λ_ hΓ=>RdSl.pre (hΓ.get 0 Z) i) ?_;refine dT 11 [59,61] ?_
 refine zDI 31 0 i a0 Z a5 ?_;rintro am ⟨⟩;refine dT 9 [65] ?_;refine zDL 33 0 5 e1 a0 a1 ?_;rintro ⟨⟨p4,c4⟩,_⟩;refine dT 6 [69,71] ?_;refine zDI 36 0 i a0 Z a5 ?_;rintro ag ⟨⟩;refine dT 4 [75] ?_;refine zDL 38 0 6 e1 a0 a1 ?_;rintro ⟨⟨p5,c5⟩,_⟩;refine DXV 39 Z J Z O (λw Y=>f129 n Q0 (Y.q 4 Z) e1.pfx (Y.q 5 Z) (aby Q3 (λa ha=>(okl a3).2 a (List.mem_of_mem_take ha))) (a4.1) (a4.2.1)) λad=>?_
 refine dT 0 [81,83] ?_;refine DX.tail2 [] Z Z J ?_;refine yKD 51 ?_ ?_<;>intro h5 af;have a2:=v2.trans (show _=(some false) by rw [abu a1];simp only [a43,h2,h3,h4,h5,cC]);exact R4r Z Z (by simp only [a3t,a2]);refine SA ?_;exact ITr Z (i+1) ⟨Q0,(by rw [v2,abu a1];simp only [a43,h2,h3,h4,h5,cC])⟩ Q1 [0];have a6:=v2.trans (show _=none by rw [dn];simp only [a43];omega);exact R4r Z Z (by simp only [a3t,a6])
theorem f261 (hn:n+0<=9){l:List aS}(N0:Rd w K0 M0 l)(n_:aA)(N1:Rd w K1 M1 n_.parts){side:Int}(a0:ok n l)(a1:ok n n_)(a3:ok n side):
 DP 261 #[vS K0 l M0,adu n_ K1 M1,vI side] w (pI n (a0a l n_ side)):=by
 have hb:=bS0 hn;refine EN Tryz.func261 Z (aS2 N0 N1) ?_;have r1:=a0.1;refine LS 7 l (a5l n_ side) [4,0,2] [4] [0,1] ?_;rintro i ⟨v1,v2⟩;refine yKD 11 ?_ ?_<;>intro h1 ad;obtain ⟨e1,a2,a8,a6⟩:=gO a0 i;refine yD [] λbs G0 a4=>?_;refine dT 14 [1,3] ?_;refine zDI 2 0 i a4 Z a6 ?_;rintro ab rfl;refine dT 12 [7] ?_;refine zDL 4 0 2 e1 a4 a2 ?_;rintro ⟨⟨p1,c1⟩,_⟩;refine dT 8 [11,13,15] ?_;refine zDC 21 ?_ ?_<;>intro h2;refine dT 6 [17,19] ?_;refine zDI 10 0 i a4 Z a6 ?_;rintro aa ⟨⟩;refine dT 4 [23] ?_
 refine zDL 12 0 3 e1 a4 a2 ?_;rintro ⟨⟨p2,c2⟩,_⟩;refine dT 2 [26] ?_;refine DXV 14 Z J Z O (λw Y=>f173 n Q0 e1.pfx (Y.q 3 Z) n_ (Y.q 1 Z) (a8.1) a1) λac=>?_;refine dT 0 [31] ?_;refine DX.tail2 [] Z Z J ?_;refine yKA 29 ?_ ?_<;>intro h3;have a9:=v2.trans (show _=(some (i:Int)) by rw [abu a2];simp only [a5l,h2,h3,cC]);rw [show a0a l n_ side=((i:Nat):Int) by simp only [a0a,a9]];exact R6r Z Z (i6 (i:Nat));refine SA ?_
 exact ITr Z (i+1) ⟨Q0,(by rw [v2,abu a2];simp only [a5l,h2,h3,cC])⟩ Q1 [0,1];refine dT 0 [17,19,21,23,25,27,29,31] ?_;refine DX.tail2 [] Z Z J ?_;refine SA ?_;exact ITr Z (i+1) ⟨Q0,(by rw [v2,abu a2];simp only [a5l,h2,cC])⟩ Q1 [0,1];have a5:=v2.trans (show _=none by rw [dn];simp only [a5l];omega);rw [show a0a l n_ side=(-1) by simp only [a0a,a5]];exact R6r Z Z (i6 (-1))
theorem f223 (hn:n+0<=9){l:List aS}(N0:Rd w K0 M0 l)(a2:ok n l):
 DP 223 #[vS K0 l M0] w (pB (abi l)):=by
 have hb:=bS0 hn;refine EN Tryz.func223 Z (aS1 N0) ?_;have r1:=a2.1;refine LS 3 l (a7a l) [0] [] [0] ?_;rintro i ⟨v1,v2⟩;refine yKD 7 ?_ ?_<;>intro h1 ak;obtain ⟨e1,a1,a3,a4⟩:=gO a2 i;refine yD [] λbs G0 a0=>?_;refine dT 40 [1,3] ?_;refine zDI 2 0 i a0 Z a4 ?_;rintro a7 rfl;refine dT 38 [7] ?_;refine zDL 4 0 1 e1 a0 a1 ?_;rintro ⟨⟨p1,c1⟩,_⟩;refine DXV 5 Z J Z O (λw Y=>f189 n Q0 e1.pfx (Y.q 1 Z) (a3.1)) λaj=>?_;refine dT 34 [13,15] ?_
 ·skip
  refine zDC 17 ?_ ?_<;>intro h2;refine dT 0 [17,19,21,23,25,27,29,31,33,35,37,39,41,43,45,47,49,51,53,55,57,59,61,63,65,67,69,71,73,75,77,79,81,83] ?_;refine DX.tail2 [] Z Z J ?_;have a5:=v2.trans (show _=(some false) by rw [abu a1];simp only [a7a,h2,cC]);rotate_left;refine dT 32 [17,19] ?_;refine zDI 10 0 i a0 Z a4 ?_;rintro ah ⟨⟩;refine dT 30 [23] ?_;refine zDL 12 0 2 e1 a0 a1 ?_;rintro ⟨⟨p2,c2⟩,_⟩
  refine DXV 13 Z J Z O (λw Y=>f120 n Q0 (a3.2.1) (i6 1) (i6 6)) λab=>?_;refine dT 25 [29,31,33] ?_;refine zDC 26 ?_ ?_<;>intro h3;refine dT 0 [35,37,39,41,43,45,47,49,51,53,55,57,59,61,63,65,67,69,71,73,75,77,79,81,83] ?_;refine DX.tail2 [] Z Z J ?_;have a5:=v2.trans (show _=(some false) by rw [abu a1];simp only [a7a,h2,h3,cC]);rotate_left;refine dT 23 [35,37] ?_;refine zDI 19 0 i a0 Z a4 ?_;rintro ac ⟨⟩;refine dT 21 [41] ?_
  refine zDL 21 0 3 e1 a0 a1 ?_;rintro ⟨⟨p3,c3⟩,_⟩;refine DXV 22 Z J Z O (λw Y=>f120 n Q0 (a3.2.2) (i6 1) (i6 50)) λai=>?_;refine dT 16 [47,49,51] ?_;refine zDC 35 ?_ ?_<;>intro h4;refine dT 0 [53,55,57,59,61,63,65,67,69,71,73,75,77,79,81,83] ?_;refine DX.tail2 [] Z Z J ?_;have a5:=v2.trans (show _=(some false) by rw [abu a1];simp only [a7a,h2,h3,h4,cC]);rotate_left;refine dT 14 [53,55] ?_
  refine DX.seeP 28 J Z Z Z Z (adg i ttOk Z Z Z Z Q10 (Nat.le_trans Q0 (a0.get 0 Z:RdSl _ _ _ _).1)) ?_;refine DX.slot 38 (y:= .v (.slice (some a7) (((List.take i l)).length) M0)) Z (λ_=>by rw [show ((List.take i l)).length=i from (by simp only [List.length_take];have z_:=Q0;omega)]) ?_;refine DX.der 4 (MF.rs .der (some a7) M0 (List.take i l)) Z (λ_ hΓ=>RdSl.pre (hΓ.get 0 Z) i) ?_;refine dT 11 [59,61] ?_;refine zDI 31 0 i a0 Z a4 ?_;rintro am ⟨⟩;refine dT 9 [65] ?_
  refine zDL 33 0 5 e1 a0 a1 ?_;rintro ⟨⟨p4,c4⟩,_⟩;refine dT 6 [69,71] ?_;refine zDI 36 0 i a0 Z a4 ?_;rintro ag ⟨⟩;refine dT 4 [75] ?_;refine zDL 38 0 6 e1 a0 a1 ?_;rintro ⟨⟨p5,c5⟩,_⟩;refine DXV 39 Z J Z O (λw Y=>f261 n Q0 (Y.q 4 Z) e1.pfx (Y.q 5 Z) (aby Q3 (λa ha=>(okl a2).2 a (List.mem_of_mem_take ha))) (a3.1) (a3.2.1)) λad=>?_;refine dT 0 [81,83] ?_;refine DX.tail2 [] Z Z J ?_;refine yKD 51 ?_ ?_<;>intro h5 af
  have a5:=v2.trans (show _=(some false) by rw [abu a1];simp only [a7a,h2,h3,h4,h5,cC]);rotate_left;refine SA ?_;exact ITr Z (i+1) ⟨Q0,(by rw [v2,abu a1];simp only [a7a,h2,h3,h4,h5,cC])⟩ Q1 [0]
  all_goals
   exact R4r Z Z (by simp only [abi,a5])
 have a6:=v2.trans (show _=none by rw [dn];simp only [a7a];omega);exact R4r Z Z (by simp only [abi,a6])
theorem f193 (hn:n+0<=9)(x_:aH)(N0:Rd w K0 M0 x_.bF)(N1:Rd w K1 M1 x_.bG.bB)(N2:Rd w K2 M2 x_.bH)(N3:Rd w K3 M3 x_.bS)(N4:Rd w K4 M4 x_.bM)(N5:Rd w K5 M5 x_.bQ)(a0:ok n x_):
 DP 193 #[agh x_ K0 M0 K1 M1 K2 M2 K3 M3 K4 M4 K5 M5] w (pB (a44 x_)):=by
 have hb:=bS0 hn;refine EN Tryz.func193 Z (aS6 N0 N1 N2 N3 N4 N5) ?_;have r1:=(okl a0.1).1;refine LS 3 x_.bF (a69 x_) [1] [1] [0,1,2,3,4,5] ?_;rintro i ⟨v1,v2⟩;refine yKD 8 ?_ ?_<;>intro h1 ap;obtain ⟨e1,a5,aa,ab⟩:=gO a0.1 i;refine yD [] λbs G0 a4=>?_;refine dT 18 [1,2,5] ?_;refine zDI 3 0 i a4 Z ab ?_;rintro ac rfl;refine zDL 4 0 6 e1 a4 a5 ?_;rintro ⟨⟨p1,c1⟩,⟨p2,c2⟩,⟨p3,c3⟩,_⟩;refine DXV 5 Z J Z O (λw Y=>f192 n Q0 e1 (Y.q 6 Z) (Y.q 7 Z) (Y.q 8 Z) aa) λao=>?_;refine dT 13 [13,15] ?_
 refine zDC 18 ?_ ?_<;>intro h2;refine dT 0 [17,19,21,23,25,27,29,31,33,35,37,39,41] ?_;refine DX.tail2 [] Z Z J ?_;have a8:=v2.trans (show _=(some false) by rw [abu a5];simp only [a69,h2,cC]);exact R4r Z Z (by simp only [a44,a8]);refine dT 10 [17,18,21] ?_;refine DX.seeP 11 J Z Z Z Z (adg i ttOk Z Z Z Z Q10 (Nat.le_trans Q0 (a4.get 0 Z:RdSl _ _ _ _).1)) ?_
 refine DX.slot 22 (y:= .v (.slice (some ac) (((List.take i x_.bF)).length) M0)) Z (λ_=>by rw [show ((List.take i x_.bF)).length=i from (by simp only [List.length_take];have z_:=Q0;omega)]) ?_;refine DX.der 9 (MF.rs .der (some ac) M0 (List.take i x_.bF)) Z (λ_ hΓ=>RdSl.pre (hΓ.get 0 Z) i) ?_;refine dT 6 [25,26,29] ?_;refine zDI 15 0 i a4 Z ab ?_;rintro an ⟨⟩;refine dT 4 [33] ?_;refine zDL 17 0 10 e1 a4 a5 ?_;rintro ⟨⟨p4,c4⟩,⟨p5,c5⟩,⟨p6,c6⟩,_⟩
 refine DXV 18 Z J Z O (λw Y=>f220 n Q0 (Y.q 9 Z) e1.name (Y.q 10 Z) (aby Q3 (λa ha=>(okl (abw a0).1).2 a (List.mem_of_mem_take ha))) (aa.1)) λal=>?_;refine dT 0 [39,41] ?_;refine DX.tail2 [] Z Z J ?_;refine yKD 31 ?_ ?_<;>intro h3 am;have a8:=v2.trans (show _=(some false) by rw [abu a5];simp only [a69,h2,h3,cC]);exact R4r Z Z (by simp only [a44,a8]);refine SA ?_
 exact ITr Z (i+1) ⟨Q0,(by rw [v2,abu a5];simp only [a69,h2,h3,cC])⟩ Q1 [0,1,2,3,4,5];have a1:=v2.trans (show _=none by rw [dn];simp only [a69];omega);refine yKD 36 ?_ ?_<;>intro a2 ak;refine KV Z Z O (λw Y=>f221 n Q0 x_.bG (Y.q 1 Z) (a0.2.1)) λai=>?_;refine yKA 41 ?_ ?_<;>intro a3;refine KV Z Z O (λw Y=>f222 n Q0 (Y.q 2 Z) (a0.2.2.1)) λah=>?_;refine yKA 46 ?_ ?_<;>intro a6
 refine KV Z Z O (λw Y=>f174 n Q0 (Y.q 4 Z) (a0.2.2.2.2.1)) λaj=>?_;refine yKA 51 ?_ ?_<;>intro a7;refine KV Z Z O (λw Y=>f223 n Q0 (Y.q 5 Z) (a0.2.2.2.2.2.1)) λaf=>?_;refine yKA 56 ?_ ?_<;>intro a9;refine yKD 62 ?_ ?_<;>intro ad ae;exact R4r Z Z (by simp only [a44,a1,a2,a3,a6,a7,a9,ad,cC]);exact R4r Z Z (by simp only [a44,a1,a2,a3,a6,a7,a9,ad,cC]);exact R4r Z Z (by simp only [a44,a1,a2,a3,a6,a7,a9,cC]);exact R4r Z Z (by simp only [a44,a1,a2,a3,a6,a7,cC])
 exact R4r Z Z (by simp only [a44,a1,a2,a3,a6,cC]);exact R4r Z Z (by simp only [a44,a1,a2,a3,cC]);exact R4r Z Z (by simp only [a44,a1,a2,cC])
end Go.Proofs.YthdfhghdipdknaaGreat
namespace Go.Stp
def a8h (e_:aK):Bool:=true
def a55 (keepq:aK->Bool):List aK->(List aK)->(List aK)|[],out=>((out):List aK)|e1::rest_,out=>bif keepq e1 then a55 keepq rest_ (((out++[(aK.mk (a0l e1.name) e1.value)])):List aK)else a55 keepq rest_ ((out):List aK)
def aal (l:(List aK))(keepq:aK->Bool):(List aK):=match a55 keepq l ([]:List aK)with|out=>out
def a56 (l:(List aK)):(List aK):=(aal l (λe0_=>(a8h e0_)))
theorem kTL:∀(l o:List aK),a55 (λe0_=>a8h e0_) l o=o++l
 |[],o=>by simp [a55]
 |x::l,o=>by
  simp only [a55];rw [show a8h x=true from rfl,cond_true,kTL l];simp [a0l]
theorem ava (l:List aK):a56 l=l:=by simp [a56,aal,kTL]
theorem am8 (l:List aK):(a56 l).length=l.length:=by rw [ava]
def a6a:List aK->(List aK)->(List aK)|[],out=>((out):List aK)|e1::rest_,out=>a6a rest_ (((out++[(aK.mk (a05 e1.name) e1.value)])):List aK)
def a0d (l:(List aK)):(List aK):=match a6a l ([]:List aK)with|out=>out
theorem l6L:∀(l o:List aK),a6a l o=o++l
 |[],o=>by simp [a6a]
 |x::l,o=>by
  simp only [a6a];rw [l6L l];simp [a05]
theorem arv (l:List aK):a0d l=l:=by simp [a0d,l6L]
theorem aht (l:List aK):(a0d l).length=l.length:=by rw [arv]
def a9p (l:(List aK))(n_:aA)(i:Nat):Nat:=if ((i:Nat):Int)<(((a0d l)).length:Int)then match ((a0d l))[i]? with|none=>default|some e2=>if (a4i e2.name n_)<0 then a9p l n_ (i+1)else i else i
termination_by (a0d l).length - i
decreasing_by all_goals (simp_wf; omega)
def a3g (l:(List aK))(n_:aA)(v:Int):(List aK)×Bool:=bif decide ((a1t l n_)>=0)then match ((a0d l))[((a1t l n_)).toNat]? with|none=>default|some e1=>bif (!(a8e ((a0d l).set (((a1t l n_)).toNat) (aK.mk e1.name v))))then ((a0d l),false)else (((a0d l).set (((a1t l n_)).toNat) (aK.mk e1.name v)),true)else match a9p l n_ 0 with|i=>bif (!(a8e (((List.take i (a0d l))++[(aK.mk (a05 n_) v)])++(List.drop i (a0d l)))))then ((a0d l),false)else ((((List.take i (a0d l))++[(aK.mk (a05 n_) v)])++(List.drop i (a0d l))),true)
inductive PutShape (l:List aK) (n_:aA) (v:Int):List aK->Prop
 |same:PutShape l n_ v l
 |nil:PutShape l n_ v []
 |set (i:Nat) (e:aK) (h:l[i]? =some e):PutShape l n_ v (l.set i ⟨e.name,v⟩)
 |ins (i:Nat):PutShape l n_ v (l.take i++[⟨n_,v⟩]++l.drop i)
theorem PutShape.len {l r:List aK}{n_:aA}{v:Int}(h:PutShape l n_ v r):r.length<=l.length+1:=by
 cases h with
 |same=>exact Nat.le_succ _
 |nil=>exact Nat.zero_le _
 |set i e h=>rw [List.length_set];exact Nat.le_succ _
 |ins i=>simp only [List.length_append,List.length_take,List.length_drop,List.length_cons,List.length_nil];omega
theorem PutShape.els {l r:List aK}{n_:aA}{v:Int}{k:Nat}(h:PutShape l n_ v r)(hl:∀a∈l,GoT.ok k a)(hn:GoT.ok k n_)(hv:GoT.ok k v):∀a∈r,GoT.ok k a:=by
 intro a ha;cases h with
 |same=>exact hl a ha
 |nil=>cases ha
 |set i e h=>
  rcases List.mem_or_eq_of_mem_set ha with ha|rfl
  ·exact hl a ha
  ·exact ⟨(acs (hl e (List.mem_of_getElem? h))).1,hv⟩
 |ins i=>
  rcases List.mem_append.1 ha with ha|ha
  ·rcases List.mem_append.1 ha with ha|ha
   ·grind
   ·obtain rfl:=List.mem_singleton.1 ha
    exact ⟨hn,hv⟩
  ·grind
theorem anv {P:List aK->Prop}{c:Bool}{a b:List aK×Bool}(h1:P a.1)(h2:P b.1):P (bif c then a else b).1:=by grind
theorem apf (l:List aK)(n_:aA)(v:Int):PutShape l n_ v (a3g l n_ v).1:=by
 unfold a3g;rw [arv];refine anv ?_ (anv .same ?_)
 ·cases h:l[(a1t l n_).toNat]? with
  |none=>exact .nil
  |some e1=>exact anv .same (.set _ e1 h)
 ·exact .ins _
end Go.Stp
