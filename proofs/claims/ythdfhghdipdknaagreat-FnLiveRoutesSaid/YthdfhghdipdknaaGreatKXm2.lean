/-
  What the proof of one law needs: rules of the program logic, functions as Lean functions, contracts. No condition but what each says. Written by a program (pack.py) out of my own texts.
-/
import Derived.ChangeKeysEq
import Derived.Laws.Slices
import Derived.Laws.BytesString
import Derived.Laws.Small
import Derived.Laws.Cover3
import Derived.Laws.Strings
import Derived.Laws.CopyRow
import Derived.Lib.Overlaps
import Derived.Laws.IdiomStrings
import Derived.Test.YthdfhghdipdknaaGreatKXm1
open Go.IntKind (i64)
set_option linter.unusedVariables false
set_option linter.unusedSimpArgs false
namespace Go.Stp
open GoT (X k ok sh fa oa)
variable {C : Cx} {ops : Array Oper} {o : Oper} {r : List Oper} {s : List It} {env : Env} {L : Locs} {R : Rows} {Γ : Facts} {d fuel T T' c n S i by_ : Nat} {sv : SV} {tl : List Nat} {bs : Nat → Nat} {G0 G h : GH} {listed : Array Bool} {x y : Operand} {w w' : World} {ti si : TI} {p : Option Addr} {sd : TypeDesc} {m : Int} {xs ys : List Value} {z : Value} {row : Row}
theorem WX.see
  (hg:gd ops env o=some true) (hd:o.dst=some d) (hlt:Nat.blt d C.fn.ntmps=true) (hl:∀G,AllK C.M G Γ->Looks C env L R G o sv)
  (k:WX C (.ops ops r::s) ((d,sv)::env) L R Γ):WX C (.ops ops (o::r)::s) env L R Γ:=WX.peek hg hd hlt λG hΓ=>⟨sv,hl G hΓ,k⟩
theorem DX.see (i:Nat)(hb:mayB ops tl listed i=true)(hi:getO ops.toList i=some o)
  (hg:gd ops env o=some true) (hd:o.dst=some d) (hlt:Nat.blt d C.fn.ntmps=true) (hl:Looks C env L R G0 o sv)
  (k:DX C ops tl s bs G0 fuel (listed.setIfInBounds i true) ((d,sv)::env) L R Γ):DX C ops tl s bs G0 (fuel+1) listed env L R Γ:=by grind [adh,DX.take,Nat.blt_eq]
theorem DX.der (m:Nat)(f:MF)(hk:f.k= .der)(h:∀G,AllK C.M G Γ->f.p G)
  (k:DX C ops tl s bs G0 fuel listed env L R ((m,f)::Γ)):DX C ops tl s bs G0 fuel listed env L R Γ:=by
 intro hcl a w G hle ⟨hA,hI,hΓ⟩;exact k hcl a w G hle ⟨hA,hI,hΓ.der m f hk (h G hΓ)⟩
theorem DX.cases {C:Cx}{ops:Array Oper}{tl:List Nat}{s:List It}{bs:Nat->Nat}{G0:GH}{fuel:Nat}{listed:Array Bool}{env:Env}{L:Locs}{R:Rows}{Γ:Facts}(d:Nat){b:Bool}(h:look env d=some (.v (.bool b)))
  (kt:b=true->DX C ops tl s bs G0 fuel listed ((d,.T)::env) L R Γ) (kf:b=false->DX C ops tl s bs G0 fuel listed ((d,.F)::env) L R Γ):DX C ops tl s bs G0 fuel listed env L R Γ:=by
 have key:∀y:SV,conc bs y=conc bs (.v (.bool b))->DX C ops tl s bs G0 fuel listed ((d,y)::env) L R Γ->DX C ops tl s bs G0 fuel listed env L R Γ:=λy hy k hcl a w G hle ⟨hA,hI,hΓ⟩=>by
  refine k hcl a w G hle ⟨⟨hA.size,hA.dfr,λi x' hx=>?_⟩,hI,hΓ⟩;rw [acg]at hx
  split at hx
  ·rename_i he;subst he;simp at hx;subst hx;rw [hA.slot d _ h,hy]
  ·exact hA.slot i x' hx
 cases b with
 |true=>exact key .T rfl (kt rfl)
 |false=>exact key .F rfl (kf rfl)
theorem DX.slot (d:Nat){x y:SV}(h:look env d=some x)(e:∀bs,conc bs x=conc bs y)(k:DX C ops tl s bs G0 fuel listed ((d,y)::env) L R Γ):DX C ops tl s bs G0 fuel listed env L R Γ:=by
 intro hcl a w G hle ⟨hA,hI,hΓ⟩;refine k hcl a w G hle ⟨⟨hA.size,hA.dfr,λi x' hx=>?_⟩,hI,hΓ⟩;rw [acg]at hx
 split at hx
 ·rename_i he;subst he;simp at hx;subst hx;rw [hA.slot d x h,e]
 ·exact hA.slot i x' hx
theorem WX.free (n:Nat)(f:MF)(hp:f.p emp)(k:WX C s env L R ((n,f)::Γ)):WX C s env L R Γ:=by rintro a w ⟨G,bs,hA,hI,hΓ⟩;exact k a w ⟨G,bs,hA,hI,hΓ.new n f (h:=emp) (Le.refl _) (acv _) (λ_=>ade _) (λ_ _ _ h=>by cases h) hp⟩
theorem WX.row0 (ρ kk:Nat)(p:Option Addr)(hnl:afn ρ env L R=false)(k:WX C s env L ((ρ,⟨kk,p,0,0,[]⟩)::R) Γ):WX C s env L R Γ:=by rintro a w ⟨G,bs,hA,hI,hΓ⟩;obtain ⟨l1,l2,l3,l4⟩:=adm hnl;refine k a w ⟨G,λj=>if j=ρ then 0 else bs j,hA.notH l1 (λi hi=>if_neg hi),?_,hΓ⟩;exact hI.upd (ρ:=ρ) (b':=0) (r':=⟨kk,p,0,0,[]⟩) l4 False (λh=>h.elim) (aj5 w _ _) (.inr (.inr rfl)) (λj=>acg _ _ _ _) (λl h=>adx l2 h rfl) ⟨by simp,.inl ⟨rfl,rfl⟩⟩
theorem art (h:Kp emp w w'):Le (hp w) (hp w'):=λb o hb=>by
 have hlt:b<w.heap.size:=(Array.getElem?_eq_some_iff.1 hb).1;show w'.heap[b]? =some o;rw [h.block b hlt rfl];exact hb
theorem alw {a:Addr}{k:Nat}:Value.pointer (some a)=Value.pointer (some ((a.add (0*k)).add 0)):=by cases a;simp [Addr.add]
theorem am0 {α:Type}[GoT α]{b:Nat}{T:TypeId}{a:α}{x:GoT.X α}(hh:w.heap[b]? =some (.cells (GoT.sh a x).toArray T (0,0)))(hf:All (hp w) (GoT.fa .der a x)):RdSl (hp w) (some ⟨b,0,none⟩) 1 [a]:=by
 refine ⟨Nat.le_refl _,by simp,GoT.sh a x,?_,?_⟩
 ·intro j u hj
  refine ⟨_,rfl,?_⟩;have hh':hp w b=some (.cells (GoT.sh a x).toArray T (0,0)):=hh
  by_cases h0:j=0<;>simp [gcell,Addr.add,h0,hh']<;>simpa [h0]using hj
 ·exact ⟨x,[],by simp,hf,rfl⟩
def beqO (b:BinOp)(p q:Bool):Option Bool:=
 match b with
 | .eql=>some (p==q)
 | .neq=>some (!(p==q))
 |_=>none
theorem ahd {b:BinOp}{p q c:Bool}(ht:ad6 C.P C.tt)(ho:o.op= .binOp b T x y T')(hT:look C.tt T=some ti)(hb:ti.desc= .bool)
  (hx:ev env x=some (.v (.bool p))) (hy:ev env y=some (.v (.bool q))) (hq:beqO b p q=some c):Looks C env L R G o (.v (.bool c)):=by
 intro a w G' bs _ hA hI;have hu:C.P.underlying T=some .bool:=by rw [<-hb];exact (ht.get hT).1
 have he:(Op.equal T (.bool p) (.bool q)).run C.P w= .ok (p==q) w:=run_equalIn_bool (P:=C.P) w (Op.maxDepth-1) T p q hu
 have hq':(b= .eql/\c=(p==q))\/(b= .neq/\c= !(p==q)):=by
  cases b<;>simp only [beqO,Option.some.injEq,reduceCtorEq]at hq
  ·grind
  ·grind
 unfold execOp;simp only [ho,ac5 hA hx,ac5 hA hy,conc];rcases hq' with ⟨rfl,rfl⟩|⟨rfl,rfl⟩
 ·simp [eqGuard,binOp,he]
 ·simp [eqGuard,binOp,he]
theorem ahq {e:Nat}(ht:ad6 C.P C.tt)(ho:o.op= .binOp .eql T x (.const (.slice none 0 0)) T')(hT:look C.tt T=some ti)(hb:ti.desc= .slice e)
  (hx:ev env x=some (.v (.slice p n c))):Looks C env L R G o (.v (.bool p.isNone)):=by
 intro a w G' bs _ hA hI;have hu:C.P.underlying T=some (.slice e):=by rw [<-hb];exact (ht.get hT).1
 have he:(Op.equal T (.slice p n c) (.slice none 0 0)).run C.P w= .ok p.isNone w:=by
  exact run_equal_slice_nil w T e p n c hu
 unfold execOp;simp only [ho,ac5 hA hx,conc];simp [eqGuard,binOp,he,Act.eval]
theorem akj {k q:IntKind}{n:Int}(ht:ad6 C.P C.tt)(ho:o.op= .convert S T x)(hS:look C.tt S=some si)(hs:si.desc=sd)(hT:look C.tt T=some ti)(hk:ti.desc= .int k)
  (hx:ev env x=some (.v (.int q n))):Looks C env L R G o (.v (.int k (k.wrap n))):=by
 intro a w G' bs _ hA hI;have hu:C.P.underlying T=some (.int k):=by rw [<-hk];exact (ht.get hT).1
 have hv:C.P.underlying S=some sd:=by rw [<-hs];exact (ht.get hS).1
 unfold execOp;simp only [ho,ac5 hA hx,conc];simp [convert,Conv.intToInt,Sem.run_bind,underlying,hu,hv]
def toU8 (n:Int):UInt8:=UInt8.ofNat (n%256).toNat
theorem av1 (n:Int):IntKind.u8.wrap n=((toU8 n).toNat:Int):=by unfold toU8;rw [UInt8.toNat_ofNat'];simp [IntKind.wrap,IntKind.bits,IntKind.signed];omega
theorem agv {n:Int}(ht:ad6 C.P C.tt)(ho:o.op= .convert S T x)(hS:look C.tt S=some si)(hs:si.desc=sd)(hT:look C.tt T=some ti)(hk:ti.desc= .int .u8)
  (hx:ev env x=some (.v (.int .i64 n))):Looks C env L R G o (.v (.int .u8 ((toU8 n).toNat:Int))):=by
 rw [<-av1];exact akj ht ho hS hs hT hk hx
theorem ags {c:UInt8}(ht:ad6 C.P C.tt)(ho:o.op= .convert S T x)(hS:look C.tt S=some si)(hs:si.desc=sd)(hT:look C.tt T=some ti)(hk:ti.desc= .int .i64)
  (hx:ev env x=some (.v (.int .u8 (c.toNat:Int)))):Looks C env L R G o (.v (.int .i64 (c.toNat:Int))):=by
 have h:=akj (L:=L) (R:=R) (G:=G) ht ho hS hs hT hk hx
 rwa [afg (by have:=c.toNat_lt;unfold I64;omega)]at h
theorem ag0 {s:Str}{c:UInt8}(ht:ad6 C.P C.tt)(ho:o.op= .index T x y)(hT:look C.tt T=some ti)(hk:ti.desc= .string)
  (hx:ev env x=some (.v (.string s))) (hy:ev env y=some (.v (.int .i64 (i:Int)))) (hc:s.data.toList[i]? =some c):Looks C env L R G o (.v (.int .u8 c.toNat)):=by
 intro a w G' bs _ hA hI;have hu:C.P.underlying T=some .string:=by rw [<-hk];exact (ht.get hT).1
 have hc':s[i]? =some c:=by
  have h1:s.data[i]? =some c:=by simpa using hc
  obtain ⟨hlt,he⟩:=Array.getElem?_eq_some_iff.1 h1;rw [getElem?_pos s i hlt];rw [<-he];rfl
 unfold execOp;simp only [ho,ac5 hA hx,ac5 hA hy,conc];simp [Instr.index,asIntOf,Sem.run_bind,underlying,hu,hc']
theorem aqq {n:Int}(ho:o.op= .call {callee:= .builtin .min,args:= #[x,y],argTypes:= #[T,T']})
  (hx:ev env x=some (.v (.int .i64 m))) (hy:ev env y=some (.v (.int .i64 n))):Looks C env L R G o (.v (.int .i64 (min m n))):=by
 intro a w G' bs _ hA hI;unfold execOp;have:(if n<m then n else m)=min m n:=by grind
 simp [ho,resolve,invoke,builtin,ac5 hA hx,ac5 hA hy,conc,run_min_int2,this]
theorem are {n:Int}(ho:o.op= .call {callee:= .builtin .max,args:= #[x,y],argTypes:= #[T,T']})
  (hx:ev env x=some (.v (.int .i64 m))) (hy:ev env y=some (.v (.int .i64 n))):Looks C env L R G o (.v (.int .i64 (max m n))):=by
 intro a w G' bs _ hA hI;unfold execOp;have:(if m<n then n else m)=max m n:=by grind
 simp [ho,resolve,invoke,builtin,ac5 hA hx,ac5 hA hy,conc,run_max_int2,this]
theorem agx {s t:Str}(ho:o.op= .binOp .add T x y T')(hx:ev env x=some (.v (.string s)))(hy:ev env y=some (.v (.string t)))(hl:s.size+t.size<=9223372036854775807):Looks C env L R G o (.v (.string (s++t))):=by
 intro a w G' bs _ hA hI;unfold execOp;have h1:¬(s.size+t.size>maxLen):=by simp only [maxLen];omega
 simp [ho,ac5 hA hx,ac5 hA hy,conc,eqGuard,binOp,Op.stringOp];omega
theorem ad0 (x:Int):I64 (i64.wrap x):=by
 unfold I64;simp [IntKind.wrap,IntKind.bits,IntKind.signed]
 grind
theorem okl {α:Type}[GoT α]{l:List α}(h:GoT.ok n l):l.length<=bd n/\∀z∈l,GoT.ok n z:=h
theorem acp {α:Type}[GoT α]{l:List α}(h:l.length<=bd n/\∀z∈l,GoT.ok n z):GoT.ok n l:=h
theorem aby {α:Type}[GoT α]{l:List α}(h:l.length<=bd n)(k:∀z∈l,GoT.ok n z):GoT.ok n l:=⟨h,k⟩
theorem acd {α:Type}[GoT α]:GoT.ok n ([]:List α):=⟨Nat.zero_le _,λ_ h=>by cases h⟩
inductive Ctl (ρ σ:Type) where
 |ret (r:ρ)
 |nxt (s:σ)
theorem abu {α:Type}{l:List α}{e:α}(h:l[i]? =some e):l.drop i=e::l.drop (i+1):=by grind [List.getElem?_eq_some_iff.1,List.drop_eq_getElem_cons]
theorem all_cons {α:Type}{p:α->Prop}{a:α}{l:List α}(h:p a)(k:∀x∈l,p x):∀x∈a::l,p x:=λx hx=>by grind
theorem ap5 {α:Type}{p:α->Prop}{a:α}{l:List α}(k:∀x∈l,p x)(h:p a):∀x∈l++[a],p x:=λx hx=>by grind
theorem ac2 {α:Type}{p:α->Prop}{l m:List α}(k:∀x∈l,p x)(h:∀x∈m,p x):∀x∈l++m,p x:=λx hx=>(List.mem_append.1 hx).elim (k x) (h x)
section
variable {α : Type} [GoT α]
theorem au0 {a:α}{x:X α}(hs:Sep h (oa a x)):Sep h [MF.ol (sh a x) [a]]:=ae6 ⟨x,[],h,emp,by simp,Le.refl _,acv _,(ade _).symm,hs,rfl⟩
theorem aob {l:List α}{a:α}{x:X α}(hs:Sep h (MF.ol xs l::oa a x)):Sep h [MF.ol (xs++sh a x) (l++[a])]:=by obtain ⟨h1,h2,q1,q2,q3,q4,q5⟩:=hs;exact ae6 (OwL.snoc q5 (q4:OwL h1 xs l) q1 q2 q3)
theorem au8 {l m:List α}(hs:Sep h [MF.ol xs l,MF.ol ys m]):Sep h [MF.ol (xs++ys) (l++m)]:=by obtain ⟨h1,h2,q1,q2,q3,q4,q5⟩:=hs;exact ae6 (OwL.append (ag1 q5:OwL h2 ys m) (q4:OwL h1 xs l) q1 q2 q3)
theorem acx {l m:List α}(hs:Sep h [MF.ol xs l])(hf:∀h,OwL h ys m):Sep h [MF.ol (xs++ys) (l++m)]:=
 ae6 (OwL.append (hf emp) (ag1 hs:OwL h xs l) (Le.refl _) (acv _) ((ade _).symm))
theorem ah0 {G:GH}{c:Nat}{l:List α}(h:RdSl G none c l):l=[]:=by
 obtain ⟨_,_,xs,h1,h2⟩:=h;have hl:=h2.len
 have:xs=[]:=by
  cases xs with
  |nil=>rfl
  |cons u r=>obtain ⟨a,ha,_⟩:=h1 0 u rfl;cases ha
 subst this;have hp:=GoT.pos (α:=α);cases l with
 |nil=>rfl
 |cons a r=>simp only [List.length_nil,List.length_cons,Nat.add_mul]at hl;omega
end
theorem WX.appR1 {kk:Nat}{src:Row}(ρ σ n':Nat){R':Option Addr->Nat->Rows}(ht:ad6 C.P C.tt)
  (hg:gd ops env o=some true) (hd:o.dst=some d) (hlt:Nat.blt d C.fn.ntmps=true) (ho:o.op= .call {callee:= .builtin .append,args:= #[x,y],argTypes:= #[T,T]})
  (hx:ev env x=some (.v (.slice row.p row.n row.c))) (hy:ev env y=some (.v (.slice src.p src.n src.c))) (hap:appO C.tt T=some (kk,by_,z)) (hz:z.cells.size=kk) (hρ:look R ρ=some row) (hσ:look R σ=some src) (hkk:row.k=kk) (hks:src.k=kk) (hfree:af6 ρ env=true)
  (hone:∀u∈src.xs,u.oneCell'=true) (hn:row.n+src.n=n') (hroom:n'*by_<=140737488355328) (hmax:n'<=9223372036854775807)
  (hR:∀p' c',ah4 R ρ ⟨row.k,p',n',c',row.xs++src.xs⟩=some (R' p' c'))
  (k:∀p' c',WX C (.ops ops r::s) ((d,.v (.slice p' n' c'))::env) L (R' p' c') Γ):WX C (.ops ops (o::r)::s) env L R Γ:=by
 subst hn;exact WX.appR ρ σ ht hg hd hlt ho hx hy hap hz hρ hσ hkk hks hfree hone hroom (by simp only [maxLen];omega) hR k
theorem WX.appG1 {q:Nat}{α:Type}[GoT α]{kd:Kd}{l:List α}(ρ ℓ n n':Nat){R':List Value->Option Addr->Nat->Rows}(ht:ad6 C.P C.tt)
  (hg:gd ops env o=some true) (hd:o.dst=some d) (hlt:Nat.blt d C.fn.ntmps=true) (ho:o.op= .call {callee:= .builtin .append,args:= #[x,y],argTypes:= #[T,T]})
  (hx:ev env x=some (.v (.slice row.p row.n row.c))) (hy:ev env y=some (.v (.slice p q c))) (hq:q=l.length) (hap:appO C.tt T=some (GoT.k α,by_,z)) (hz:z.cells.size=GoT.k α) (hρ:look R ρ=some row) (hkk:row.k=GoT.k α) (hfree:af6 ρ env=true)
  (hℓ:look Γ ℓ=some (MF.rs kd p c l)) (hn:row.n+l.length=n') (hroom:n'*by_<=140737488355328) (hmax:n'<=9223372036854775807)
  (hR:∀xs p' c',ah4 R ρ ⟨row.k,p',n',c',row.xs++xs⟩=some (R' xs p' c'))
  (k:∀xs p' c',WX C (.ops ops r::s) ((d,.v (.slice p' n' c'))::env) L (R' xs p' c') ((n,MF.rl .der xs l)::Γ)):WX C (.ops ops (o::r)::s) env L R Γ:=by
 subst hn;exact WX.appG ρ ℓ n ht hg hd hlt ho hx hy hq hap hz hρ hkk hfree hℓ hroom (by simp only [maxLen];omega) hR k
end Go.Stp
namespace Go.Stp
open GoT (X k ok sh fa oa)
variable {C : Cx} {L : Locs} {R R' : Rows} {row : Row} {s : List It} {env : Env} {Γ : Facts} {α : Type} {A B cs : List Value} {i T kk off : Nat} {ops : Array Oper} {o : Oper} {r : List Oper} {x : Operand} {ti : TI} {ad : Addr} {v : Value}
theorem HInv.respell {w:World}{G:GH}{bs:Nat->Nat}(hI:HInv C w G bs L R)(h:∀i r,look R' i=some r->look R i=some r):HInv C w G bs L R':=hI.sub (Sub.refl _) h
theorem ago {ρ:Nat}(h:look R ρ=some row):∀i r,look (setR R ρ row) i=some r->look R i=some r:=λi r hr=>by grind [ahe]
theorem WX.opnE {Γ1:Facts}[GoT α]{l:List α}{e:α}{cs:X α->List Value}{R':List Value->List Value->X α->Rows}{Γ':List Value->List Value->X α->Facts}(ρ ℓ n i:Nat)(hρ:look R ρ=some row)(hk:row.k=k α)(hℓ:af4 [ℓ] Γ=some ([MF.ol row.xs l],Γ1))(hi:l[i]? =some e)
  (hcs:∀x,al6 (sh e x)=some (cs x)) (hR:∀A B x,ah4 R ρ ⟨row.k,row.p,row.n,row.c,A++cs x++B⟩=some (R' A B x)) (hΓ':∀A B x,addF n (fa .der e x++(oa e x++[MF.ol A (l.take i),MF.ol B (l.drop (i+1))])) Γ1=some (Γ' A B x))
  (k:∀A B x,A.length=i*k α->B.length=(l.length- (i+1))*k α->WX C s env L (R' A B x) (Γ' A B x)):WX C s env L R Γ:=by
 rintro a w ⟨G,bs,hA,hI,hΓ⟩;obtain ⟨H,q1,q2,q3,q4⟩:=aek hℓ hΓ;have hol:OwL H row.xs l:=ag1 q3;obtain ⟨hlt,rfl⟩:=List.getElem?_eq_some_iff.1 hi;have hsp:l=l.take i++(l[i]::l.drop (i+1)):=by simp_all
 have hlen:=hol.len;rw [hsp]at hol;obtain ⟨h1,h2,a1,a2,a3,a4,a5⟩:=hol.split;have hti:(l.take i).length=i:=by simp;omega
 rw [hti]at a4 a5;obtain ⟨x,ys,g1,g2,e1,r1,r2,r3,r4,r5⟩:=a5;have hk1:(i+1)*GoT.k α<=l.length*GoT.k α:=Nat.mul_le_mul_right _ hlt;have hk2:(i+1)*GoT.k α=i*GoT.k α+GoT.k α:=by grind
 have hxs:row.xs=row.xs.take (i*GoT.k α)++cs x++ys:=by grind [ah3,List.append_assoc,List.take_append_drop]
 have hys:ys.length=(l.length- (i+1))*GoT.k α:=by
  have:=r5.len
  grind
 refine k (row.xs.take (i*GoT.k α)) ys x (by simp;omega) hys a w ⟨G,bs,hA,?_,?_⟩
 ·rw [ag3 (hR _ _ _),<-hxs]
  exact hI.respell (ago hρ)
 ·have hsep:Sep H (oa l[i] x++[MF.ol (row.xs.take (i*GoT.k α)) (l.take i),MF.ol ys (l.drop (i+1))]):=
   Sep.both (r1.trans a2) (ae0 a1 (r2.trans a2)) ((afc (a3.mono (Le.refl _) r1) r3.symm).symm) r4
    ⟨h1,g2,acq _ _,ad3 (a3.mono (Le.refl _) r2),a3.mono (Le.refl _) r2,a4,ae6 r5⟩
  have:=q4.after (ahg G H).symm q2 hsep (λf hf=>GoT.fak f hf) ((GoT.ow_rd (kd:= .der) r4).mono (r1.trans a2)) (hΓ' _ _ x)
  rwa [ap3 q1]at this
theorem ae8 [GoT α]{h:GH}{l:List α}{e:α}{x:X α}(hi:i<l.length)(hs:Sep h (oa e x++[MF.ol A (l.take i),MF.ol B (l.drop (i+1))])):Sep h [MF.ol (A++sh e x++B) (l.set i e)]:=by
 obtain ⟨h1,h2,a1,a2,a3,a4,a5⟩:=hs.append;obtain ⟨q1,q2,r1,r2,r3,r4,r5⟩:=a5;have hs':l.set i e=l.take i++[e]++l.drop (i+1):=by grind [List.set_eq_take_append_cons_drop]
 rw [hs'];refine ae6 ?_;exact OwL.append (ag1 r5:OwL q2 B (l.drop (i+1))) (h:=join q1 h1) (OwL.snoc a4 (r4:OwL q1 A (l.take i)) (acq _ _) (ad3 ((a3.mono (Le.refl _) r1).symm)) ((a3.mono (Le.refl _) r1).symm)) (ae0 (r1.trans a2) a1) (r2.trans a2) (afc r3 (a3.mono (Le.refl _) r2))
theorem WX.ldA {d:Nat}(ρ:Nat)(ht:ad6 C.P C.tt)
  (hg:gd ops env o=some true) (hd:o.dst=some d) (hlt:Nat.blt d C.fn.ntmps=true) (ho:o.op= .load T x)
  (hx:ev env x=some (.e (some ad) i kk off)) (hT:look C.tt T=some ti) (hρ:look R ρ=some row) (hp:row.p=some ad) (hk:row.k=kk) (hxs:row.xs=A++cs++B) (hA:A.length=i*kk) (hn:i<row.n)
  (hv:asm ti cs off=some v) (k:WX C (.ops ops r::s) ((d,.v v)::env) L R Γ):WX C (.ops ops (o::r)::s) env L R Γ:=by
 rintro a' w ⟨G,bs,hAt,hI,hΓ⟩;have hrow:=hI.row ρ row hρ;obtain ⟨o1,hp',hc0,cur,T',hh,hcs,htk,hnc⟩:=hrow.some (by omega);rw [hp]at hp';simp at hp';subst hp'
 have hc:∀j u,cs[j]? =some u->w.cell? (((⟨bs ρ,o1,none⟩:Addr).add (i*kk)).add j)=some u:=λj u hj=>by
  have h8:row.xs[i*kk+j]? =some u:=by grind
  rw [<-htk,List.getElem?_take,List.getElem?_drop]at h8;rw [aed,Addr.add_lit,cell_of_row w _ _ cur T' _ hh]
  grind
 have hl:(execOp a'.eval o).run C.P w= .ok (.value v) w:=by
  unfold execOp;have hrun:=afw (P:=C.P) ht hT (w:=w) (a:=(⟨bs ρ,o1,none⟩:Addr).add (i*kk)) (cs:=cs) (off:=off) (v:=v) hc hv;simp only [ho,ac5 hAt hx,conc,Instr.loadAt,Instr.sureAddr,Sem.run_bind,Sem.run_pure,Result.andThen_ok,hrun]
 show wpList C.P ops (cont C s) (o::r) a' w;unfold wpList;rw [if_pos (ad2 hAt hg)];refine .inl ?_;unfold Oper.wp;rw [hl];simp only [Oper.upon,hd];exact k _ _ ⟨G,bs,hAt.put (by grind [Nat.blt_eq]) (.v v),hI,hΓ⟩
theorem WX.stA {y:Operand}{sv:SV}{cs' vs:List Value}(ρ:Nat)(ht:ad6 C.P C.tt)
  (hg:gd ops env o=some true) (hd:o.dst=none) (ho:o.op= .store T x y)
  (hx:ev env x=some (.e (some ad) i kk off)) (hy:ev env y=some sv) (hv:valO sv=some v) (hT:look C.tt T=some ti) (hvs:ai5 ti v=some vs) (hlen:Nat.beq vs.length ti.size=true) (hone:oneB vs=true)
  (hρ:look R ρ=some row) (hp:row.p=some ad) (hk:row.k=kk) (hxs:row.xs=A++cs++B) (hA:A.length=i*kk) (hi:i<row.n) (hfit:Nat.ble (off+vs.length) kk=true) (hck:Nat.beq cs.length kk=true) (hfree:af6 ρ env=true) (hsp:afx cs off vs=some cs') (hne:vs≠ [])
  (hR:ah4 R ρ ⟨row.k,row.p,row.n,row.c,A++cs'++B⟩=some R')
  (k:WX C (.ops ops r::s) env L R' Γ):WX C (.ops ops (o::r)::s) env L R Γ:=by
 subst hk;have hck':cs.length=row.k:=Nat.eq_of_beq_eq_true hck;obtain ⟨_,q2,q3,_⟩:=agk _ _ _ _ hsp;have hq:=q3 hne;have hfit':=Nat.le_of_ble_eq_true hfit
 have heq:row.xs.take (i*row.k+off)++vs++row.xs.drop (i*row.k+off+vs.length)=A++cs'++B:=by
  rw [hxs,<-hA,hq]
  grind [anf]
 grind [WX.stR,hp]
theorem adz {p:α->Prop}{a:α}{l:List α}(k:∀x∈l,p x)(h:p a):∀x∈l.set i a,p x:=λx hx=>by grind
end Go.Stp
namespace Go.Stp
open GoT (X k ok sh fa oa)
variable {C : Cx} {env : Env} {L : Locs} {R : Rows} {G : GH} {o : Oper} {x y : Operand} {T T' s : Nat} {m n k : Int} {q : IntKind}
theorem aj2 (ho:o.op= .binOp .quo T x y T')(hx:ev env x=some (.v (.int .i64 m)))(hy:ev env y=some (.v (.int .i64 n)))(h0:n≠0):Looks C env L R G o (.v (.int .i64 (i64.wrap (m.tdiv n)))):=by intro a w G' bs _ hA hI;unfold execOp;simp [ho,ac5 hA hx,ac5 hA hy,conc,eqGuard,binOp,Op.intDiv,h0]
theorem agt (ho:o.op= .binOp .rem T x y T')(hx:ev env x=some (.v (.int .i64 m)))(hy:ev env y=some (.v (.int .i64 n)))(h0:n≠0):Looks C env L R G o (.v (.int .i64 (m.tmod n))):=by intro a w G' bs _ hA hI;unfold execOp;simp [ho,ac5 hA hx,ac5 hA hy,conc,eqGuard,binOp,Op.intDiv,h0]
theorem ahr (x:Int){y:Int}(h:0<y): -y<x.tmod y/\x.tmod y<y:=by
 have h1:=Int.tmod_lt_of_pos x h
 have h2: -y<x.tmod y:=by
  by_cases hx:0<=x
  ·have:=Int.tmod_nonneg y hx;omega
  ·have h3:=Int.neg_tmod (a:=x) (b:=y)
   have h4:=Int.tmod_lt_of_pos (-x) h;omega
 grind
theorem ams (ho:o.op= .binOp .shl T x y T')(hx:ev env x=some (.v (.int .i64 m)))(hy:ev env y=some (.v (.int q n)))(h0:0<=n):Looks C env L R G o (.v (.int .i64 (i64.wrap (m*2^ (min n.toNat 64))))):=by
 intro a w G' bs _ hA hI;unfold execOp;have h1:¬n<0:=by omega
 simp [ho,ac5 hA hx,ac5 hA hy,conc,eqGuard,binOp,Op.shift,h1,IntKind.bits]
theorem ahi (ho:o.op= .binOp .shr T x y T')(hx:ev env x=some (.v (.int .i64 m)))(hy:ev env y=some (.v (.int q n)))(h0:0<=n):Looks C env L R G o (.v (.int .i64 (m.fdiv (2^ (min n.toNat 64))))):=by
 intro a w G' bs _ hA hI;unfold execOp;have h1:¬n<0:=by omega
 simp [ho,ac5 hA hx,ac5 hA hy,conc,eqGuard,binOp,Op.shift,h1,IntKind.bits]
def bitO (b:BinOp)(x y:Int):Int:=
 match b with
 | .and=>i64.wrap ((BitVec.ofInt 64 x&&&BitVec.ofInt 64 y).toNat:Int)
 | .or=>i64.wrap ((BitVec.ofInt 64 x|||BitVec.ofInt 64 y).toNat:Int)
 | .xor=>i64.wrap ((BitVec.ofInt 64 x^^^BitVec.ofInt 64 y).toNat:Int)
 |_=>i64.wrap ((BitVec.ofInt 64 x&&& ~~~BitVec.ofInt 64 y).toNat:Int)
def awj:BinOp->Bool
 | .and| .or| .xor| .andNot=>true
 |_=>false
theorem aiy (b:BinOp)(x y:Int):I64 (bitO b x y):=by unfold bitO;split<;>exact ad0 _
theorem aei {b:BinOp}(ho:o.op= .binOp b T x y T')(hb:awj b=true)(hx:ev env x=some (.v (.int .i64 m)))(hy:ev env y=some (.v (.int .i64 n))):Looks C env L R G o (.v (.int .i64 (bitO b m n))):=by intro a w G' bs _ hA hI;unfold execOp;cases b<;>simp [awj]at hb<;>simp only [ho,ac5 hA hx,ac5 hA hy,conc]<;>simp [eqGuard,binOp,Op.intBits,bitO]<;>rfl
def bstr (l:List UInt8):Str:=⟨l.toArray⟩
theorem aip (l:List UInt8):(bstr l).size=l.length:=by simp [bstr,ByteArray.size]
theorem ali:∀(l:List UInt8) (s:ByteArray),(l.map λc=>((c.toNat:Nat):Int)).foldl (λr n=>r.push (UInt8.ofNat n.toNat)) s=⟨s.data++l.toArray⟩
 |[],s=>by simp
 |c::l,s=>by
  simp only [List.map_cons,List.foldl_cons];rw [ali l]
  simp_all
theorem ane {G:GH}:∀ {xs:List Value} {l:List UInt8},RdL G xs l->xs=l.map λc=>Value.int .u8 (c.toNat:Int)
 |xs,[],h=>h
 |xs,c::l,⟨x,ys,e,_,r⟩=>by rw [e,ane r];rfl
theorem ah7 {C:Cx}{env:Env}{L:Locs}{R:Rows}{G:GH}{o:Oper}{x:Operand}{S T E n c:Nat}{si ti te:TI}{p:Option Addr}{l:List UInt8}(ht:ad6 C.P C.tt)(hr:RdSl G p c l)(ho:o.op= .convert S T x)(hS:look C.tt S=some si)(hs:si.desc= .slice E)(hE:look C.tt E=some te)(he:te.desc= .int .u8)(hT:look C.tt T=some ti)(hk:ti.desc= .string)
  (hx:ev env x=some (.v (.slice p n c))) (hn:n=l.length):Looks C env L R G o (.v (.string (bstr l))):=by
 intro a w G' bs hle hA hI;have hu:C.P.underlying T=some .string:=by rw [<-hk];exact (ht.get hT).1
 have hv:C.P.underlying S=some (.slice E):=by rw [<-hs];exact (ht.get hS).1
 have hw:C.P.underlying E=some (.int .u8):=by rw [<-he];exact (ht.get hE).1
 unfold execOp;simp only [ho,ac5 hA hx,conc];simp only [Sem.run_bind,run_convert_bytes_string w S T E p n c hv hw hu]
 have hrun:(Conv.bytesToString (.slice p n c)).run C.P w= .ok (.string (bstr l)) w:=by
  cases hp:p with
  |none=>
   subst hp;rw [ah0 hr];simp [Conv.bytesToString,bstr];rfl
  |some ad=>
   subst hp;obtain ⟨_,_,xs,h4,h5⟩:=hr;have hxs:=ane h5
   have hld:=run_loadCells_list (P:=C.P) w ad xs (λj u hj=>by
    obtain ⟨a',ha,hg⟩:=h4 j u hj;simp at ha;subst ha;exact hI.le.cell (ah1 hle hg))
   have hlen:xs.length=n:=by grind
   rw [hlen,hxs]at hld;have:=run_bytesToString (P:=C.P) w ad n c (l.map λc=>((c.toNat:Nat):Int)) (by rw [hld];simp [Function.comp_def]);rw [this,ali];simp [bstr]
 rw [hrun];rfl
end Go.Stp
namespace Go.Stp
variable {n : Nat}
structure aA where
 parts:List Str
instance:Inhabited aA:=⟨⟨default⟩⟩
instance:GoT aA:=GoT.via λe=>e.parts
theorem adf {a:aA}(h:GoT.ok n a):GoT.ok n a.parts:=h
structure bY where
 parts:List Str
instance:Inhabited bY:=⟨⟨default⟩⟩
instance:GoT bY:=GoT.via λe=>e.parts
theorem ada {a:bY}(h:GoT.ok n a):GoT.ok n a.parts:=h
structure cB where
 letter:Str
 value:Str
instance:Inhabited cB:=⟨⟨default,default⟩⟩
instance:GoT cB:=GoT.via λe=>(e.letter,e.value)
instance:Flat cB:=⟨λa x=>Flat.f (let e:=a;(e.letter,e.value)) x,λa x=>Flat.o (let e:=a;(e.letter,e.value)) x⟩
structure aK where
 name:aA
 value:Int
instance:Inhabited aK:=⟨⟨default,default⟩⟩
instance:GoT aK:=GoT.via λe=>(e.name,e.value)
theorem acs {a:aK}(h:GoT.ok n a):GoT.ok n a.name/\GoT.ok n a.value:=h
structure bJ where
 name:aA
 bI:Int
 cM:Int
 cD:Int
instance:Inhabited bJ:=⟨⟨default,default,default,default⟩⟩
instance:GoT bJ:=GoT.via λe=>(e.name,e.bI,e.cM,e.cD)
theorem acj {a:bJ}(h:GoT.ok n a):GoT.ok n a.name/\GoT.ok n a.bI/\GoT.ok n a.cM/\GoT.ok n a.cD:=h
structure aJ where
 name:aA
 content:List UInt8
 aR:aA
 bL:Int
 cF:Int
instance:Inhabited aJ:=⟨⟨default,default,default,default,default⟩⟩
instance:GoT aJ:=GoT.via λe=>(e.name,e.content,e.aR,e.bL,e.cF)
theorem ac0 {a:aJ}(h:GoT.ok n a):GoT.ok n a.name/\GoT.ok n a.content/\GoT.ok n a.aR/\GoT.ok n a.bL/\GoT.ok n a.cF:=h
structure Key where
 name:aA
 bZ:Int
instance:Inhabited Key:=⟨⟨default,default⟩⟩
instance:GoT Key:=GoT.via λe=>(e.name,e.bZ)
theorem agz {a:Key}(h:GoT.ok n a):GoT.ok n a.name/\GoT.ok n a.bZ:=h
structure bO where
 cJ:bY
 cK:bY
instance:Inhabited bO:=⟨⟨default,default⟩⟩
instance:GoT bO:=GoT.via λe=>(e.cJ,e.cK)
theorem ae5 {a:bO}(h:GoT.ok n a):GoT.ok n a.cJ/\GoT.ok n a.cK:=h
structure bU where
 keys:List Key
 bR:List bO
 bV:List aA
 bW:List aJ
instance:Inhabited bU:=⟨⟨default,default,default,default⟩⟩
instance:GoT bU:=GoT.via λe=>(e.keys,e.bR,e.bV,e.bW)
theorem ac4 {a:bU}(h:GoT.ok n a):GoT.ok n a.keys/\GoT.ok n a.bR/\GoT.ok n a.bV/\GoT.ok n a.bW:=h
structure aT where
 data:aJ
 cO:Int
instance:Inhabited aT:=⟨⟨default,default⟩⟩
instance:GoT aT:=GoT.via λe=>(e.data,e.cO)
theorem ad5 {a:aT}(h:GoT.ok n a):GoT.ok n a.data/\GoT.ok n a.cO:=h
structure bX where
 cA:Int
 bB:List aT
instance:Inhabited bX:=⟨⟨default,default⟩⟩
instance:GoT bX:=GoT.via λe=>(e.cA,e.bB)
theorem aca {a:bX}(h:GoT.ok n a):GoT.ok n a.cA/\GoT.ok n a.bB:=h
structure aW where
 face:Int
 bI:Int
 expiry:Int
instance:Inhabited aW:=⟨⟨default,default,default⟩⟩
instance:GoT aW:=GoT.via λe=>(e.face,e.bI,e.expiry)
theorem aev {a:aW}(h:GoT.ok n a):GoT.ok n a.face/\GoT.ok n a.bI/\GoT.ok n a.expiry:=h
instance:Flat aW:=⟨λa x=>Flat.f (let e:=a;(e.face,e.bI,e.expiry)) x,λa x=>Flat.o (let e:=a;(e.face,e.bI,e.expiry)) x⟩
structure aO where
 name:aA
 bK:List aW
 cH:Int
instance:Inhabited aO:=⟨⟨default,default,default⟩⟩
instance:GoT aO:=GoT.via λe=>(e.name,e.bK,e.cH)
theorem abx {a:aO}(h:GoT.ok n a):GoT.ok n a.name/\GoT.ok n a.bK/\GoT.ok n a.cH:=h
structure bA where
 name:aA
 bI:Int
instance:Inhabited bA:=⟨⟨default,default⟩⟩
instance:GoT bA:=GoT.via λe=>(e.name,e.bI)
theorem aeb {a:bA}(h:GoT.ok n a):GoT.ok n a.name/\GoT.ok n a.bI:=h
structure aB where
 pfx:aA
 face:Int
 cost:Int
instance:Inhabited aB:=⟨⟨default,default,default⟩⟩
instance:GoT aB:=GoT.via λe=>(e.pfx,e.face,e.cost)
theorem ack {a:aB}(h:GoT.ok n a):GoT.ok n a.pfx/\GoT.ok n a.face/\GoT.ok n a.cost:=h
structure aS where
 pfx:aA
 face:Int
 cE:Int
instance:Inhabited aS:=⟨⟨default,default,default⟩⟩
instance:GoT aS:=GoT.via λe=>(e.pfx,e.face,e.cE)
theorem acl {a:aS}(h:GoT.ok n a):GoT.ok n a.pfx/\GoT.ok n a.face/\GoT.ok n a.cE:=h
structure aH where
 bF:List aJ
 bG:bX
 bH:List aO
 bS:List bA
 bM:List aB
 bQ:List aS
 aP:Int
instance:Inhabited aH:=⟨⟨default,default,default,default,default,default,default⟩⟩
instance:GoT aH:=GoT.via λe=>(e.bF,e.bG,e.bH,e.bS,e.bM,e.bQ,e.aP)
theorem abw {a:aH}(h:GoT.ok n a):GoT.ok n a.bF/\GoT.ok n a.bG/\GoT.ok n a.bH/\GoT.ok n a.bS/\GoT.ok n a.bM/\GoT.ok n a.bQ/\GoT.ok n a.aP:=h
structure bD where
 face:Int
 cI:Bool
 bT:bJ
 data:aJ
instance:Inhabited bD:=⟨⟨default,default,default,default⟩⟩
instance:GoT bD:=GoT.via λe=>(e.face,e.cI,e.bT,e.data)
theorem aga {a:bD}(h:GoT.ok n a):GoT.ok n a.face/\GoT.ok n a.cI/\GoT.ok n a.bT/\GoT.ok n a.data:=h
structure Action where
 node:aH
 cQ:List bD
instance:Inhabited Action:=⟨⟨default,default⟩⟩
instance:GoT Action:=GoT.via λe=>(e.node,e.cQ)
theorem an5 {a:Action}(h:GoT.ok n a):GoT.ok n a.node/\GoT.ok n a.cQ:=h
structure aQ where
 a:Int
 b:Int
instance:Inhabited aQ:=⟨⟨default,default⟩⟩
instance:GoT aQ:=GoT.via λe=>(e.a,e.b)
theorem af3 {a:aQ}(h:GoT.ok n a):GoT.ok n a.a/\GoT.ok n a.b:=h
instance:Flat aQ:=⟨λa x=>Flat.f (let e:=a;(e.a,e.b)) x,λa x=>Flat.o (let e:=a;(e.a,e.b)) x⟩
structure aV where
 size:Int
 links:List aQ
instance:Inhabited aV:=⟨⟨default,default⟩⟩
instance:GoT aV:=GoT.via λe=>(e.size,e.links)
theorem acm {a:aV}(h:GoT.ok n a):GoT.ok n a.size/\GoT.ok n a.links:=h
structure aN where
 origin:Int
 version:Int
 cP:List Int
 cG:List aA
instance:Inhabited aN:=⟨⟨default,default,default,default⟩⟩
instance:GoT aN:=GoT.via λe=>(e.origin,e.version,e.cP,e.cG)
theorem ae2 {a:aN}(h:GoT.ok n a):GoT.ok n a.origin/\GoT.ok n a.version/\GoT.ok n a.cP/\GoT.ok n a.cG:=h
structure cS where
 dD:Int
 length:Int
 dF:List Int
instance:Inhabited cS:=⟨⟨default,default,default⟩⟩
instance:GoT cS:=GoT.via λe=>(e.dD,e.length,e.dF)
structure cT where
 content:List UInt8
instance:Inhabited cT:=⟨⟨default⟩⟩
instance:GoT cT:=GoT.via λe=>e.content
structure cY where
 dG:cS
 dH:Int
 dI:List cT
 dJ:Int
 window:Int
 dK:Int
 dL:Int
instance:Inhabited cY:=⟨⟨default,default,default,default,default,default,default⟩⟩
instance:GoT cY:=GoT.via λe=>(e.dG,e.dH,e.dI,e.dJ,e.window,e.dK,e.dL)
structure cZ where
 name:aA
 bZ:Int
instance:Inhabited cZ:=⟨⟨default,default⟩⟩
instance:GoT cZ:=GoT.via λe=>(e.name,e.bZ)
structure cU where
 node:Int
 name:aA
 cR:Int
instance:Inhabited cU:=⟨⟨default,default,default⟩⟩
instance:GoT cU:=GoT.via λe=>(e.node,e.name,e.cR)
structure cV where
 bB:List aK
instance:Inhabited cV:=⟨⟨default⟩⟩
instance:GoT cV:=GoT.via λe=>e.bB
structure cW where
 dM:aA
 seq:Int
 content:List UInt8
instance:Inhabited cW:=⟨⟨default,default,default⟩⟩
instance:GoT cW:=GoT.via λe=>(e.dM,e.seq,e.content)
structure cX where
 name:aA
 vector:cV
 dN:List cW
instance:Inhabited cX:=⟨⟨default,default,default⟩⟩
instance:GoT cX:=GoT.via λe=>(e.name,e.vector,e.dN)
structure Record where
 kind:Int
 data:aJ
instance:Inhabited Record:=⟨⟨default,default⟩⟩
instance:GoT Record:=GoT.via λe=>(e.kind,e.data)
structure Log where
 dO:List Record
 dP:List Record
instance:Inhabited Log:=⟨⟨default,default⟩⟩
instance:GoT Log:=GoT.via λe=>(e.dO,e.dP)
structure dA where
 log:Log
 dQ:Int
instance:Inhabited dA:=⟨⟨default,default⟩⟩
instance:GoT dA:=GoT.via λe=>(e.log,e.dQ)
structure aX where
 node:Int
 index:Int
 name:aA
 cN:Int
 wait:Int
 cL:Bool
 data:aJ
instance:Inhabited aX:=⟨⟨default,default,default,default,default,default,default⟩⟩
instance:GoT aX:=GoT.via λe=>(e.node,e.index,e.name,e.cN,e.wait,e.cL,e.data)
theorem ace {a:aX}(h:GoT.ok n a):GoT.ok n a.node/\GoT.ok n a.index/\GoT.ok n a.name/\GoT.ok n a.cN/\GoT.ok n a.wait/\GoT.ok n a.cL/\GoT.ok n a.data:=h
structure aZ where
 to:Int
 face:Int
 cI:Bool
 bT:bJ
 data:aJ
instance:Inhabited aZ:=⟨⟨default,default,default,default,default⟩⟩
instance:GoT aZ:=GoT.via λe=>(e.to,e.face,e.cI,e.bT,e.data)
theorem acf {a:aZ}(h:GoT.ok n a):GoT.ok n a.to/\GoT.ok n a.face/\GoT.ok n a.cI/\GoT.ok n a.bT/\GoT.ok n a.data:=h
structure aD where
 aG:aV
 aF:bU
 aM:List aK
 aI:List aH
 aY:Int
 aU:List Int
 aL:List aZ
 aE:List aX
 now:Int
 aP:Int
instance:Inhabited aD:=⟨⟨default,default,default,default,default,default,default,default,default,default⟩⟩
instance:GoT aD:=GoT.via λe=>(e.aG,e.aF,e.aM,e.aI,e.aY,e.aU,e.aL,e.aE,e.now,e.aP)
theorem abt {a:aD}(h:GoT.ok n a):GoT.ok n a.aG/\GoT.ok n a.aF/\GoT.ok n a.aM/\GoT.ok n a.aI/\GoT.ok n a.aY/\GoT.ok n a.aU/\GoT.ok n a.aL/\GoT.ok n a.aE/\GoT.ok n a.now/\GoT.ok n a.aP:=h
structure bP where
 kind:Int
 n:Int
 name:aA
 bC:aZ
instance:Inhabited bP:=⟨⟨default,default,default,default⟩⟩
instance:GoT bP:=GoT.via λe=>(e.kind,e.n,e.name,e.bC)
theorem aeg {a:bP}(h:GoT.ok n a):GoT.ok n a.kind/\GoT.ok n a.n/\GoT.ok n a.name/\GoT.ok n a.bC:=h
structure dB where
 aG:aV
 members:List cX
instance:Inhabited dB:=⟨⟨default,default⟩⟩
instance:GoT dB:=GoT.via λe=>(e.aG,e.members)
structure dC where
 keys:List Key
 dR:Int
 cR:Int
 readers:List cU
instance:Inhabited dC:=⟨⟨default,default,default,default⟩⟩
instance:GoT dC:=GoT.via λe=>(e.keys,e.dR,e.cR,e.readers)
end Go.Stp
namespace Go.Stp
class Sz (α:Type) [GoT α] where
 n:α->Nat
 low:∀ {a:α},GoT.ok 10 a->n a<=1048576->GoT.ok 0 a
def sz {α:Type}[GoT α][Sz α](a:α):Nat:=Sz.n a
instance:Sz ByteArray:=⟨λs=>s.size,λ_ h=>h⟩
instance:Sz UInt8:=⟨λ_=>0,λ_ _=>trivial⟩
instance:Sz Bool:=⟨λ_=>0,λ_ _=>trivial⟩
instance:Sz Int:=⟨λ_=>0,λh _=>h⟩
def szL {α:Type}[GoT α][Sz α](l:List α):Nat:=(l.map sz).sum
theorem ann {α:Type}[GoT α][Sz α]:∀ {l:List α} {a:α},a∈l->sz a<=szL l
 |b::l,a,h=>by
  unfold szL;simp only [List.map_cons,List.sum_cons];rcases List.mem_cons.1 h with rfl|h
  ·omega
  ·have:=ann h;grind [szL]
instance {α:Type} [GoT α][Sz α]:Sz (List α):=⟨λl=>l.length+szL l,λh hs=>⟨by rw [bd_0];omega,λa ha=>Sz.low (h.2 a ha) (by have:=ann ha;unfold sz at this;omega)⟩⟩
instance {α β:Type} [GoT α] [GoT β] [Sz α] [Sz β]:Sz (α×β):=⟨λa=>sz a.1+sz a.2,λh hs=>⟨Sz.low h.1 (by unfold sz at hs;omega),Sz.low h.2 (by unfold sz at hs;omega)⟩⟩
@[reducible] def Sz.via {α β : Type} [GoT β] [Sz β] (e : α → β) : @Sz α (GoT.via e) := @Sz.mk α (GoT.via e) (fun a => sz (e a)) (fun {a} h hs => Sz.low (a := e a) h hs)
instance:Sz aA:=Sz.via (λe:aA=>e.parts)
instance:Sz bY:=Sz.via (λe:bY=>e.parts)
instance:Sz cB:=Sz.via (λe:cB=>(e.letter,e.value))
instance:Sz aK:=Sz.via (λe:aK=>(e.name,e.value))
instance:Sz bJ:=Sz.via (λe:bJ=>(e.name,e.bI,e.cM,e.cD))
instance:Sz aJ:=Sz.via (λe:aJ=>(e.name,e.content,e.aR,e.bL,e.cF))
instance:Sz Key:=Sz.via (λe:Key=>(e.name,e.bZ))
instance:Sz bO:=Sz.via (λe:bO=>(e.cJ,e.cK))
instance:Sz bU:=Sz.via (λe:bU=>(e.keys,e.bR,e.bV,e.bW))
instance:Sz aT:=Sz.via (λe:aT=>(e.data,e.cO))
instance:Sz bX:=Sz.via (λe:bX=>(e.cA,e.bB))
instance:Sz aW:=Sz.via (λe:aW=>(e.face,e.bI,e.expiry))
instance:Sz aO:=Sz.via (λe:aO=>(e.name,e.bK,e.cH))
instance:Sz bA:=Sz.via (λe:bA=>(e.name,e.bI))
instance:Sz aB:=Sz.via (λe:aB=>(e.pfx,e.face,e.cost))
instance:Sz aS:=Sz.via (λe:aS=>(e.pfx,e.face,e.cE))
instance:Sz aH:=Sz.via (λe:aH=>(e.bF,e.bG,e.bH,e.bS,e.bM,e.bQ,e.aP))
instance:Sz bD:=Sz.via (λe:bD=>(e.face,e.cI,e.bT,e.data))
instance:Sz Action:=Sz.via (λe:Action=>(e.node,e.cQ))
instance:Sz aQ:=Sz.via (λe:aQ=>(e.a,e.b))
instance:Sz aV:=Sz.via (λe:aV=>(e.size,e.links))
instance:Sz aN:=Sz.via (λe:aN=>(e.origin,e.version,e.cP,e.cG))
instance:Sz cS:=Sz.via (λe:cS=>(e.dD,e.length,e.dF))
instance:Sz cT:=Sz.via (λe:cT=>e.content)
instance:Sz cY:=Sz.via (λe:cY=>(e.dG,e.dH,e.dI,e.dJ,e.window,e.dK,e.dL))
instance:Sz cZ:=Sz.via (λe:cZ=>(e.name,e.bZ))
instance:Sz cU:=Sz.via (λe:cU=>(e.node,e.name,e.cR))
instance:Sz cV:=Sz.via (λe:cV=>e.bB)
instance:Sz cW:=Sz.via (λe:cW=>(e.dM,e.seq,e.content))
instance:Sz cX:=Sz.via (λe:cX=>(e.name,e.vector,e.dN))
instance:Sz Record:=Sz.via (λe:Record=>(e.kind,e.data))
instance:Sz Log:=Sz.via (λe:Log=>(e.dO,e.dP))
instance:Sz dA:=Sz.via (λe:dA=>(e.log,e.dQ))
instance:Sz aX:=Sz.via (λe:aX=>(e.node,e.index,e.name,e.cN,e.wait,e.cL,e.data))
instance:Sz aZ:=Sz.via (λe:aZ=>(e.to,e.face,e.cI,e.bT,e.data))
instance:Sz aD:=Sz.via (λe:aD=>(e.aG,e.aF,e.aM,e.aI,e.aY,e.aU,e.aL,e.aE,e.now,e.aP))
instance:Sz bP:=Sz.via (λe:bP=>(e.kind,e.n,e.name,e.bC))
instance:Sz dB:=Sz.via (λe:dB=>(e.aG,e.members))
instance:Sz dC:=Sz.via (λe:dC=>(e.keys,e.dR,e.cR,e.readers))
end Go.Stp
namespace Go.Stp
open GoT (X k ok sh fa oa)
variable {G : GH} {p : Option Addr} {c T kk n : Nat} {C : Cx} {env : Env} {L : Locs} {R : Rows} {o : Oper} {x y : Operand} {h : Int}
def offP (p:Option Addr)(c lo kk:Nat):Option Addr:=if c=lo then p else p.map (·.add (lo*kk))
section
variable {α : Type} [GoT α]
theorem RdL.take {G:GH}:∀ {xs:List Value} {l:List α} (i:Nat),RdL G xs l->RdL G (xs.take (i*k α)) (l.take i)
 |xs,[],i,h=>by
  have:xs=[]:=h;subst this;simp only [List.take_nil];rfl
 |xs,a::l,0,_=>by simp only [Nat.zero_mul,List.take_zero];rfl
 |xs,a::l,i+1,⟨x,ys,h1,h2,h3⟩=>by
  refine ⟨x,ys.take (i*k α),?_,h2,h3.take i⟩;rw [h1,Nat.add_mul,Nat.one_mul,List.take_append,GoT.len,List.take_of_length_le (by rw [GoT.len];omega),Nat.add_sub_cancel]
theorem RdL.drop {G:GH}:∀ {xs:List Value} {l:List α} (i:Nat),RdL G xs l->RdL G (xs.drop (i*k α)) (l.drop i)
 |xs,[],i,h=>by
  have:xs=[]:=h;subst this;simp only [List.drop_nil];rfl
 |xs,a::l,0,h=>by simp only [Nat.zero_mul,List.drop_zero];exact h
 |xs,a::l,i+1,⟨x,ys,h1,h2,h3⟩=>by
  have:=h3.drop i;rw [h1,Nat.add_mul,Nat.one_mul,List.drop_append,GoT.len,List.drop_eq_nil_of_le (by rw [GoT.len];omega),Nat.add_sub_cancel];exact this
theorem RdSl.pre {l:List α}(h:RdSl G p c l)(i:Nat):RdSl G p c (l.take i):=by
 obtain ⟨h1,h2,xs,h3,h4⟩:=h;refine ⟨by rw [List.length_take];omega,by rw [List.length_take];omega,xs.take (i*k α),λj u hj=>h3 j u ?_,h4.take i⟩
 grind
theorem RdSl.suf {l:List α}(h:RdSl G p c l)(i:Nat):RdSl G (offP p c i (k α)) (c-i) (l.drop i):=by
 obtain ⟨h1,h2,xs,h3,h4⟩:=h;refine ⟨by rw [List.length_drop];omega,by rw [List.length_drop];omega,xs.drop (i*k α),λj u hj=>?_,h4.drop i⟩;rw [List.getElem?_drop]at hj;obtain ⟨a,ha,hg⟩:=h3 _ u hj;unfold offP
 split
 ·rename_i e
  have:xs.length=l.length*k α:=h4.len;have hlt:=(List.getElem?_eq_some_iff.1 hj).1;have:l.length*k α<=i*k α:=Nat.mul_le_mul_right _ (by omega);omega
 ·grind [aed]
end
theorem ahs {P:Program}{tt:TT}(ht:ad6 P tt)(h:ahc tt T=some kk)(w:World):P.underlying T=some (.slice (P.elem T))/\(sizeOf (P.elem T)).run P w= .ok kk w:=by
 unfold ahc at h
 split at h
 ·rename_i ti hT
  split at h
  ·rename_i e hd
   split at h
   ·rename_i te hE
    simp only [Option.some.injEq]at h;subst h;obtain ⟨hu,_⟩:=ht.get hT;obtain ⟨_,inf,hinf,_,hs,_⟩:=ht.get hE;rw [hd]at hu;have he:P.elem T=e:=by simp [Program.elem,hu]
    grind [aej]
   ·cases h
  ·cases h
 ·cases h
theorem anm (a:Addr):a.add 0=a:=by simp [Addr.add]
theorem amt (m:Nat)(ht:ad6 C.P C.tt)(ho:o.op= .slice T x none (some y) none)(hT:ahc C.tt T=some kk)
  (hx:ev env x=some (.v (.slice p n c))) (hy:ev env y=some (.v (.int .i64 h))) (h0:h=(m:Int)) (h1:m<=c):Looks C env L R G o (.v (.slice p m c)):=by
 intro a w G' bs _ hA hI;subst h0;obtain ⟨hu,hs⟩:=ahs ht hT w;unfold execOp;simp only [ho,Option.map,ac5 hA hx,ac5 hA hy,conc,Sem.run_bind,run_sliceAt_slice w T _ _ _ _ hu,run_slice_h w T p n c hu .i64 (m:Int) (by omega) (by omega),hs,Result.andThen_ok];simp only [sliced,Nat.zero_mul,Nat.sub_zero,Int.toNat_natCast];cases p<;>simp [anm]<;>rfl
theorem aim (m:Nat)(ht:ad6 C.P C.tt)(ho:o.op= .slice T x (some y) none none)(hT:ahc C.tt T=some kk)
  (hx:ev env x=some (.v (.slice p n c))) (hy:ev env y=some (.v (.int .i64 h))) (h0:h=(m:Int)) (h1:m<=n):Looks C env L R G o (.v (.slice (offP p c m kk) (n-m) (c-m))):=by
 intro a w G' bs _ hA hI;subst h0;obtain ⟨hu,hs⟩:=ahs ht hT w;unfold execOp;simp only [ho,Option.map,ac5 hA hx,ac5 hA hy,conc,Sem.run_bind,run_sliceAt_slice w T _ _ _ _ hu,run_slice_l w T p n c hu .i64 (m:Int) (by omega) (by omega),hs,Result.andThen_ok];simp only [sliced,Int.toNat_natCast,offP];rfl
end Go.Stp
namespace Go.Stp
open GoT (X k ok sh fa oa)
variable {C : Cx} {ops : Array Oper} {o : Oper} {r : List Oper} {s : List It} {env : Env} {L : Locs} {R : Rows} {Γ : Facts} {w : World} {row : Row} {T i j : Nat} {x : Operand} {xs0 xs : List Value} {H : GH}
theorem WX.did {ι:Type}{env':ι->Env}{R':ι->Rows}{Γ':ι->Facts}(hg:gd ops env o=some true)
  (h:∀a w G bs,At C.fn.ntmps env bs a->HInv C w G bs L R->AllK C.M G Γ->∃v w' i,(execOp a.eval o).run C.P w= .ok (.value v) w'/\Sat C (env' i) L (R' i) (Γ' i) (a.put o.dst v) w')
  (k:∀i,WX C (.ops ops r::s) (env' i) L (R' i) (Γ' i)):WX C (.ops ops (o::r)::s) env L R Γ:=by
 rintro a w ⟨G,bs,hA,hI,hΓ⟩;obtain ⟨v,w',i,hrun,hS⟩:=h a w G bs hA hI hΓ;show wpList C.P ops (cont C s) (o::r) a w;unfold wpList;rw [if_pos (ad2 hA hg)];refine .inl ?_;unfold Oper.wp;rw [hrun];simp only [Oper.upon];exact k i _ _ hS
theorem HInv.wr {G:GH}{bs:Nat->Nat}(hI:HInv C w G bs L R){ρ:Nat}(hρ:look R ρ=some row){o1:Nat}{cur cur':Array Value}(hp:row.p=some ⟨bs ρ,o1,none⟩)(hc0:row.c≠0)
  (hh:w.heap[bs ρ]? =some (.cells cur T (0,0))) (hcs:o1+row.c*row.k<=cur.size) (hsz:cur'.size=cur.size) {n':Nat} {xs':List Value} (hn':n'<=row.c) (hl:xs'.length=n'*row.k) (hxs:(cur'.toList.drop o1).take (n'*row.k)=xs'):
  HInv C (w.setRow (bs ρ) cur') G bs L (setR R ρ ⟨row.k,row.p,n',row.c,xs'⟩):=by
 have hrow:=hI.row ρ row hρ
 obtain ⟨hBb,hGb,hcm⟩:C.M (bs ρ)/\G (bs ρ)=none/\row.c<=maxLen:=by
  rcases hrow.2 with ⟨h0,_⟩|⟨_,_,h1,h2,_,h5,_⟩
  ·grind
  ·grind
 have hLρ:∀l,look L ρ≠some l:=λl hl=>hI.dis ρ l row hl hρ;have h999:ρ≠999:=λe=>by subst e;exact hI.nr row hρ
 have hrow':agm C.M (w.setRow (bs ρ) cur') G (bs ρ) ⟨row.k,row.p,n',row.c,xs'⟩:=
  ⟨hl,.inr ⟨o1,hp,hBb,hGb,hn',hcm,cur',T,setRow_heap w _ cur _ T _ hh,by grind⟩⟩
 have honly:Only w (w.setRow (bs ρ) cur') (bs ρ) (row.c≠0):=⟨rfl,rfl,rfl,by simp [World.setRow],λj hj hne=>setRow_other w _ j _ (hne hc0)⟩;have hlook:∀j,look (setR R ρ ⟨row.k,row.p,n',row.c,xs'⟩) j=if ρ=j then some ⟨row.k,row.p,n',row.c,xs'⟩else look R j:=by grind [ahe]
 have hI':=hI.upd (ρ:=ρ) (b':=bs ρ) h999 (row.c≠0) (λ_=>⟨.inr ⟨row,hρ,hc0⟩,hBb,hGb⟩) honly (.inl ⟨rfl,hc0⟩) hlook hLρ hrow';have hbs:(λj=>if j=ρ then bs ρ else bs j)=bs:=by grind
 grind
theorem aow {z:List Value}:∀ {n:Nat} {u:Value},u∈zrep n z->u∈z
 |n+1,u,h=>by
  rcases List.mem_append.1 h with h|h
  ·exact aow h
  ·exact h
theorem al7 (z:Array Value)(n:Nat)(hz:0<z.size):(Builtin.zeroCells z n).toList=zrep n z.toList:=agu z hz n
theorem WX.clr {R':Rows}{e kk by_:Nat}{z:List Value}(ρ i:Nat)(ht:ad6 C.P C.tt)
  (hg:gd ops env o=some true) (hd:o.dst=none) (ho:o.op= .call {callee:= .builtin .clear,args:= #[x],argTypes:= #[T]}) (hel:elO C.tt T=some (e,kk,by_,z)) (hone:oneB z=true)
  (hx:ev env x=some (.v (.slice (offP row.p row.c i kk) (row.n-i) (row.c-i)))) (hρ:look R ρ=some row) (hkk:row.k=kk) (hi:i<=row.n) (hR:ah4 R ρ ⟨row.k,row.p,i,row.c,row.xs.take (i*kk)⟩=some R')
  (k:WX C (.ops ops r::s) env L R' Γ):WX C (.ops ops (o::r)::s) env L R Γ:=by
 refine WX.did (ι:=Unit) (env':=λ_=>env) (R':=λ_=>R') (Γ':=λ_=>Γ) hg (λa w G bs hA hI hΓ=>?_) (λ_=>k);obtain ⟨hu,i',v,te,hE,hte,hi',h0,hs,_,hv,hzl,hpos⟩:=aiw ht hel;rw [ag3 hR];subst hkk;rw [hd]
 by_cases hin:row.n-i=0
 ·have hi2:i=row.n:=by omega
  have hrun:(execOp a.eval o).run C.P w= .ok (.value (.tuple #[])) w:=by
   unfold execOp;simp only [ho,resolve,invoke,builtin,Sem.run_bind,Sem.run_pure,Result.andThen_ok,List.map_toArray,List.map_cons,List.map_nil,ac5 hA hx,aif,hin];cases hpp:offP row.p row.c i row.k<;>simp [Builtin.clear_,run_underlying hu]
  have hrr:(⟨row.k,row.p,i,row.c,row.xs.take (i*row.k)⟩:Row)=row:=by
   rw [hi2,<-(hI.row ρ row hρ).1,List.take_length]
  exact ⟨_,w,(),hrun,G,bs,hA,by rw [hrr];exact hI.respell (ago hρ),hΓ⟩
 ·have hrow:=hI.row ρ row hρ
  obtain ⟨o1,hp',hc0,cur,T',hh,hcs,htk,hnc⟩:=hrow.some (by omega);have hck:row.n*row.k<=row.c*row.k:=Nat.mul_le_mul_right _ hnc;have hsplit:i*row.k+(row.n-i)*row.k=row.n*row.k:=by rw [<-Nat.add_mul];congr 1;omega
  have hoff:offP row.p row.c i row.k=some ⟨bs ρ,o1+i*row.k,none⟩:=by
   unfold offP;rw [if_neg (by omega),hp'];simp [Addr.add_lit]
  have hvs:v.cells.size=row.k:=by grind
  have hzs:=al7 v.cells (row.n-i) (by omega);have hzlen:(zrep (row.n-i) z).length=(row.n-i)*row.k:=by rw [amb,hzl]
  have hst:=run_storeCells_at C.P (bs ρ) (o1+i*row.k) T' (zrep (row.n-i) z) 0 cur w hh (by grind) (λu hu'=>ais hone u (aow hu'));simp only [Nat.add_zero]at hst;rw [hv]at hzs;obtain ⟨m,hm⟩:∃m,row.n-i=m+1:=⟨row.n-i-1,by omega⟩
  have hrun:(execOp a.eval o).run C.P w= .ok (.value (.tuple #[])) (w.setRow (bs ρ) (cur.toList.take (o1+i*row.k)++zrep (row.n-i) z++cur.toList.drop (o1+i*row.k+(zrep (row.n-i) z).length)).toArray):=by
   unfold execOp;simp only [ho,resolve,invoke,builtin,Sem.run_bind,Sem.run_pure,Result.andThen_ok,List.map_toArray,List.map_cons,List.map_nil,ac5 hA hx,aif,hoff];rw [hm]at hst hzs ⊢;simp [Builtin.clear_,run_underlying hu,zeroValue,typeInfo,hi',h0,hzs,hst]
  refine ⟨_,_,(),hrun,G,bs,hA,?_,hΓ⟩;refine hI.wr hρ hp' hc0 hh hcs ?_ (by omega) ?_ ?_
  ·grind
  ·grind
  ·grind
theorem WX.ldW {α:Type}[GoT α]{d:Nat}{off:Nat}{ti:TI}{ad:Addr}{l:List α}(ρ n:Nat)(a:α){val:X α->Value}{Γ':X α->Facts}(ht:ad6 C.P C.tt)
  (hg:gd ops env o=some true) (hd:o.dst=some d) (hlt:Nat.blt d C.fn.ntmps=true) (ho:o.op= .load T x)
  (hx:ev env x=some (.e (some ad) i (k α) off)) (hT:look C.tt T=some ti) (hρ:look R ρ=some row) (hp:row.p=some ad) (hk:row.k=k α) (hn:i<row.n) (hrd:∀G,AllK C.M G Γ->RdL G xs0 l) (ha:l[i]? =some a) (heq:∀j,row.xs[i*k α+j]? =xs0[i*k α+j]?)
  (hv:∀x,asm ti (sh a x) off=some (val x)) (hf:∀x,addF n (fa .der a x) Γ=some (Γ' x))
  (k:∀x,(∀j u,(sh a x)[j]? =some u->xs0[i*k α+j]? =some u)->WX C (.ops ops r::s) ((d,.v (val x))::env) L R (Γ' x)):WX C (.ops ops (o::r)::s) env L R Γ:=by
 rintro a' w ⟨G,bs,hA,hI,hΓ⟩;obtain ⟨x',h6,h7⟩:=(hrd G hΓ).get ha;have hrow:=hI.row ρ row hρ;obtain ⟨o1,hp',hc0,cur,T',hh,hcs,htk,hnc⟩:=hrow.some (by omega);rw [hp]at hp';simp at hp';subst hp'
 have hc:∀j u,(sh a x')[j]? =some u->w.cell? (((⟨bs ρ,o1,none⟩:Addr).add (i*GoT.k α)).add j)=some u:=λj u hj=>by
  have h8:=(heq j).trans (h7 j u hj);rw [<-htk,List.getElem?_take,List.getElem?_drop]at h8;rw [aed,Addr.add_lit,cell_of_row w _ _ cur T' _ hh]
  grind
 have hl:(execOp a'.eval o).run C.P w= .ok (.value (val x')) w:=by
  unfold execOp;have hrun:=afw (P:=C.P) ht hT (w:=w) (a:=(⟨bs ρ,o1,none⟩:Addr).add (i*GoT.k α)) (cs:=sh a x') (off:=off) (v:=val x') hc (hv x');simp only [ho,ac5 hA hx,conc,Instr.loadAt,Instr.sureAddr,Sem.run_bind,Sem.run_pure,Result.andThen_ok,hrun]
 show wpList C.P ops (cont C s) (o::r) a' w;unfold wpList;rw [if_pos (ad2 hA hg)];refine .inl ?_;unfold Oper.wp;rw [hl];simp only [Oper.upon,hd];exact k x' h7 _ _ ⟨G,bs,hA.put (by simpa [Nat.blt_eq]using hlt) (.v (val x')),hI,AllK.ders (hf x') (λf hf=>GoT.fak f hf) h6 hΓ⟩
section
variable {α : Type}
def aik (kk:Nat)(f:α->Bool):List α->List Value->List Value
 |[],_=>[]
 |a::l,xs=>bif f a then aik kk f l (xs.drop kk)else xs.take kk++aik kk f l (xs.drop kk)
theorem ahw (kk:Nat)(f:α->Bool):∀(l:List α) (a:α) (xs:List Value),aik kk f (l++[a]) xs=aik kk f l xs++(bif f a then []else (xs.drop (l.length*kk)).take kk)
 |[],a,xs=>by cases hf:f a<;>simp [aik,hf]
 |b::l,a,xs=>by
  have e:(b::l).length*kk=kk+l.length*kk:=by grind
  simp only [List.cons_append,aik,ahw kk f l a,e,<-List.drop_drop]
  grind
theorem alz (f:α->Bool)(kk:Nat):∀(l:List α) (xs:List Value),(∀a∈l,f a=false)->aik kk f l xs=xs.take (l.length*kk)
 |[],xs,_=>by simp [aik]
 |a::l,xs,h=>by
  have e:(a::l).length*kk=kk+l.length*kk:=by grind
  simp only [aik,h a (List.mem_cons_self ..),cond_false,e,List.take_add];rw [alz f kk l _ (λb hb=>h b (List.mem_cons_of_mem _ hb))]
end
section
variable {α : Type} [GoT α]
theorem OwL.keep (f:α->Bool):∀ {h:GH} {xs:List Value} {l:List α},OwL h xs l->OwL h (aik (k α) f l xs) (l.filter λa=> !f a)
 |h,xs,[],_=>rfl
 |h,xs,a::l,⟨x,ys,q1,q2,e,r1,r2,r3,r4,r5⟩=>by
  have h1:xs.take (k α)=sh a x:=by rw [e,<-GoT.len a x,List.take_left]
  have h2:xs.drop (k α)=ys:=by rw [e,<-GoT.len a x,List.drop_left]
  simp only [aik,h1,h2];cases hf:f a
  ·rw [List.filter_cons_of_pos (by simp [hf])]
   exact ⟨x,_,q1,q2,rfl,r1,r2,r3,r4,OwL.keep f r5⟩
  ·rw [List.filter_cons_of_neg (by simp [hf])]
   exact (OwL.keep f r5).mono r2
structure DelInv (f:α->Bool) (l:List α) (xs0:List Value) (i j:Nat) (xs:List Value):Prop where
 ij:i<j
 jn:j<=l.length
 len:xs.length=l.length*k α
 pre:xs.take (i*k α)=aik (k α) f (l.take j) xs0
 cnt:i=((l.take j).filter λa=> !f a).length
 rest:∀m,j*k α<=m->xs[m]? =xs0[m]?
theorem DelInv.start {f:α->Bool}{l:List α}{a:α}(hl:xs0.length=l.length*k α)(hi:l[i]? =some a)(ha:f a=true)(hb:∀b∈l.take i,f b=false):DelInv f l xs0 i (i+1) xs0:=by
 have hlt:=(List.getElem?_eq_some_iff.1 hi).1;have htk:l.take (i+1)=l.take i++[a]:=by rw [List.take_add_one,hi];rfl
 have hti:(l.take i).length=i:=by simp;omega
 refine ⟨by omega,by omega,hl,?_,?_,λ_ _=>rfl⟩
 ·grind [ahw,alz]
 ·rw [htk,List.filter_append,List.filter_eq_self.2 (λb hb'=>by grind)];simp [ha,hti]
theorem DelInv.skip {f:α->Bool}{l:List α}{a:α}(h:DelInv f l xs0 i j xs)(hj:l[j]? =some a)(ha:f a=true):DelInv f l xs0 i (j+1) xs:=by
 have hlt:=(List.getElem?_eq_some_iff.1 hj).1;have htk:l.take (j+1)=l.take j++[a]:=by rw [List.take_add_one,hj];rfl
 refine ⟨by have:=h.ij;omega,by omega,h.len,?_,?_,λm hm=>h.rest m (by grind)⟩
 ·rw [htk,ahw,ha,cond_true,List.append_nil];exact h.pre
 ·rw [htk,List.filter_append];simp only [List.filter_cons,ha,Bool.not_true,Bool.false_eq_true,if_false,List.filter_nil,List.append_nil];exact h.cnt
theorem DelInv.keep {f:α->Bool}{l:List α}{vs:List Value}{a:α}(h0:xs0.length=l.length*k α)(h:DelInv f l xs0 i j xs)(hj:l[j]? =some a)(ha:f a=false)(hv:vs.length=k α)(hx:∀q u,vs[q]? =some u->xs0[j*k α+q]? =some u):
  DelInv f l xs0 (i+1) (j+1) (xs.take (i*k α+0)++vs++xs.drop (i*k α+0+vs.length)):=by
 have hlt:=(List.getElem?_eq_some_iff.1 hj).1;have htk:l.take (j+1)=l.take j++[a]:=by rw [List.take_add_one,hj];rfl
 have htj:(l.take j).length=j:=by simp;omega
 have hij:=h.ij;have hik:(i+1)*k α<=j*k α:=Nat.mul_le_mul_right _ hij;have hjk:(j+1)*k α<=l.length*k α:=Nat.mul_le_mul_right _ hlt;have hlen:=h.len;rw [Nat.add_mul,Nat.one_mul]at hik hjk
 have hvs:vs=(xs0.drop (j*k α)).take (k α):=by
  apply List.ext_getElem?
  grind
 have hlt1:(xs.take (i*k α)++vs).length=(i+1)*k α:=by grind
 refine ⟨by omega,by omega,?_,?_,?_,λm hm=>?_⟩
 ·grind
 ·rw [Nat.add_zero (i*k α),<-hlt1,List.take_left,htk,ahw,ha,cond_false,h.pre,htj,hvs]
 ·rw [htk,List.filter_append];simp only [List.filter_cons,ha,Bool.not_false,if_true,List.filter_nil,List.length_append,List.length_cons,List.length_nil];rw [<-h.cnt]
 ·rw [Nat.add_mul,Nat.one_mul]at hm
  rw [Nat.add_zero (i*k α),List.getElem?_append_right (by grind),List.getElem?_drop,hlt1,hv,Nat.add_mul,Nat.one_mul,show i*k α+k α+(m- (i*k α+k α))=m by omega];exact h.rest m (by omega)
theorem DelInv.done {f:α->Bool}{l:List α}(h:DelInv f l xs0 i j xs)(hj:¬j<l.length):xs.take (i*k α)=aik (k α) f l xs0/\i=(l.filter λa=> !f a).length:=by
 have:l.take j=l:=List.take_of_length_le (by omega);have h1:=h.pre;have h2:=h.cnt
 grind
end
theorem axd {w':World}(h:Kp H w w'):Le (cut (hp w) H) (hp w'):=λb o hb=>by
 have h1:=agb _ _ b o hb;have h2:H b=none:=(ahg (hp w) H b).resolve_left (by rw [hb];simp);have hlt:b<w.heap.size:=(Array.getElem?_eq_some_iff.1 (h1:w.heap[b]? =some o)).1;show w'.heap[b]? =_;rw [h.block b hlt h2];exact h1
theorem Kp.lent {w1 w2:World}(h:Kp H w w1)(k:Kp emp w1 w2):Kp H w w2:=h.trans (k.wide λ_ _ _=>rfl)
theorem WX.callHN {Γ1:Facts}{f:Operand}{args:List Operand}{ats:Array TypeId}{g:FuncId}{sf:SV}{svs:List SV}{caps:(Nat->Nat)->List Value}{fs:List MF}
  {Ψ:World->GH->Value->World->Prop} (ks:List Nat) (hks:af4 ks Γ=some (fs,Γ1)) (hg:gd ops env o=some true) (ho:o.op= .call {callee:= .value f,args:=args.toArray,argTypes:=ats})
  (hf:ev env f=some sf) (hsf:∀bs,conc bs sf= .func (.func g) #[] (caps bs).toArray) (hargs:evs env args=some svs)
  (hc:∀w G bs H,HInv C w G bs L R->Le H G->Le H (hp w)->Sep H fs->AllK C.M (cut (hp w) H) Γ1->Does C.P g (svs.map (conc bs)++caps bs).toArray w H (Ψ w H))
  (k:∀a w w' G bs H v,At C.fn.ntmps env bs a->HInv C w G bs L R->Le H G->(∀b o,H b=some o->C.M b)->AllK C.M (cut G H) Γ1->Kp H w w'->Ψ w H v w'->wpList C.P ops (cont C s) r (a.put o.dst v) w'):
  WX C (.ops ops (o::r)::s) env L R Γ:=by
 rintro a w ⟨G,bs,hA,hI,hΓ⟩;show wpList C.P ops (cont C s) (o::r) a w;unfold wpList;rw [if_pos (ad2 hA hg)];refine .inl ?_;unfold Oper.wp;obtain ⟨H,q1,q2,q3,q4⟩:=aek hks hΓ;obtain ⟨he,hcalls⟩:=hc w G bs H hI q1 (q1.trans hI.le) q3 (q4.mono (apg hI.le));rw [aet he ho (by rw [ac5 hA hf,hsf]) (aeh hA args svs hargs)];simp only [Oper.upon];refine hcalls.mono λe w' ⟨v,hv,hb,hψ⟩=>?_
 grind
theorem WX.callN {C:Cx}{ops:Array Oper}{o:Oper}{r:List Oper}{s:List It}{env:Env}{L:Locs}{R:Rows}{Γ Γ1:Facts}{f:Operand}{args:List Operand}{ats:Array TypeId}{g:FuncId}{sf:SV}{svs:List SV}{caps:(Nat->Nat)->List Value}{fs:List MF}
  {ι:Type} {val val':ι->Value} {gs ds:ι->List MF} {Q:Prop} {d:Nat} {Γ':ι->Facts} (ks:List Nat) (n:Nat) (hks:af4 ks Γ=some (fs,Γ1)) (hds:∀i h,Sep h (gs i)->All h (ds i)) (hdk:∀i,∀f∈ds i,f.k= .der) (hg:gd ops env o=some true) (hd:o.dst=some d) (hlt:Nat.blt d C.fn.ntmps=true) (ho:o.op= .call {callee:= .value f,args:=args.toArray,argTypes:=ats})
  (hf:ev env f=some sf) (hsf:∀bs,conc bs sf= .func (.func g) #[] (caps bs).toArray) (hargs:evs env args=some svs)
  (hc:∀w G bs H,HInv C w G bs L R->Le H G->Le H (hp w)->Sep H fs->AllK C.M (cut (hp w) H) Γ1->Does C.P g (svs.map (conc bs)++caps bs).toArray w H (Post w H val gs Q))
  (hv:∀i,afb (val i)=some (val' i)) (hΓ':∀i,addF n (ds i++gs i) Γ1=some (Γ' i))
  (k:∀i,Q->WX C (.ops ops r::s) ((d,.v (val' i))::env) L R (Γ' i)):WX C (.ops ops (o::r)::s) env L R Γ:=
 WX.callHN (Ψ:=λw H v w'=>Post w H val gs Q v w') ks hks hg ho hf hsf hargs hc λa' w w' G bs H v hA hI hHG hHM hΓ hb hv'=>by
  obtain ⟨i,h,rfl,hq,hle,hdom,hs⟩:=hv';rw [hd,<-afi (hv i)];obtain ⟨hI',hdj⟩:=hI.called hHG hHM hb hle hdom;refine k i hq _ _ ⟨join (cut G H) h,bs,hA.put (by grind [Nat.blt_eq]) (.v _),hI',hΓ.after hdj (λb o hb'=>?_) hs (hdk i) (hds i h hs) (hΓ' i)⟩;rcases hdom b o hb' with h1|h1
  ·exact .inl (Nat.le_trans hI.keep.size h1)
  ·cases hx:H b with
   |none=>exact absurd hx h1
   |some q=>exact hHM b q hx
theorem avu {α:Type}[GoT α]{C:Cx}{w:World}{G H:GH}{bs:Nat->Nat}{L:Locs}{R:Rows}{lab:Nat}{T:TypeId}{a:α}{x:GoT.X α}(hI:HInv C w G bs L R)(hl:look L lab=some ⟨T,GoT.sh a x⟩)(hHG:Le H G)(hf:All (cut (hp w) H) (GoT.fa .der a x)){w1:World}(hb:Kp H w w1):RdSl (hp w1) (some ⟨bs lab,0,none⟩) 1 [a]:=by
 obtain ⟨h1,_,h3⟩:=hI.loc lab _ hl
 have hH:H (bs lab)=none:=by
  cases hx:H (bs lab)with
  |none=>rfl
  |some q=>rw [hHG _ _ hx]at h3;cases h3
 have hlt:bs lab<w.heap.size:=(Array.getElem?_eq_some_iff.1 h1).1;exact am0 (by rw [hb.block _ hlt hH];exact h1) (hf.mono (axd hb))
end Go.Stp
namespace Go.Stp
open GoT (X k ok sh fa oa)
variable {C : Cx} {s : List It} {env : Env} {L : Locs} {R : Rows} {Γ Γ1 : Facts} {row src : Row} {ops : Array Oper} {d T T' n c kk by_ m2 i off : Nat} {o : Oper} {b : BinOp} {x y : Operand} {m q : Int} {p : Option Addr} {h G : GH} {r : List Oper} {z v : Value} {R' : Option Addr → Nat → Rows} {xs : List Value} {ti : TI} {ad : Addr} {g g' : MF}
theorem WX.cap (ρ:Nat)(hρ:look R ρ=some row)(k:row.n<=row.c->WX C s env L R Γ):WX C s env L R Γ:=by rintro a w ⟨G,bs,hA,hI,hΓ⟩;refine k ?_ a w ⟨G,bs,hA,hI,hΓ⟩;rcases (hI.row ρ row hρ).2 with ⟨h1,h2⟩|⟨_,_,_,_,h,_⟩<;>omega
def aj0 (C:Cx)(env:Env)(o:Oper)(sv:SV):Prop:=∀a w bs,At C.fn.ntmps env bs a->(execOp a.eval o).run C.P w= .ok (.value (conc bs sv)) w
theorem DX.seeP {tl:List Nat}{bs:Nat->Nat}{G0:GH}{fuel:Nat}{listed:Array Bool}{sv:SV}(i:Nat)(hb:mayP ops listed i=true)(hi:getO ops.toList i=some o)
  (hg:gd ops env o=some true) (hd:o.dst=some d) (hlt:Nat.blt d C.fn.ntmps=true) (hl:aj0 C env o sv)
  (k:DX C ops tl s bs G0 fuel (listed.setIfInBounds i true) ((d,sv)::env) L R Γ):DX C ops tl s bs G0 (fuel+1) listed env L R Γ:=by
 rw [adh]at hi;exact DX.takeP hb (by simpa using hi) hd (by grind [Nat.blt_eq]) hg (λ_=>hl) (λh=>by cases h) k
theorem ad7 {n:Int}(ho:o.op= .binOp b T x y T')
  (hx:ev env x=some (.v (.int .i64 m))) (hy:ev env y=some (.v (.int .i64 n))) (hq:agy b m n=some q) (hr:I64 q):aj0 C env o (.v (.int .i64 q)):=by
 intro a w bs hA;unfold execOp;simp only [ho,ac5 hA hx,ac5 hA hy,conc];have:=afg hr;cases b<;>simp [agy]at hq<;>subst hq<;>simp [eqGuard,binOp,Op.intArith,this]
theorem aes {n:Int}(ho:o.op= .binOp b T x y T')
  (hx:ev env x=some (.v (.int .i64 m))) (hy:ev env y=some (.v (.int .i64 n))) (hq:agy b m n=some q):aj0 C env o (.v (.int .i64 (i64.wrap q))):=by
 intro a w bs hA;unfold execOp;simp only [ho,ac5 hA hx,ac5 hA hy,conc];cases b<;>simp [agy]at hq<;>subst hq<;>simp [eqGuard,binOp,Op.intArith]
theorem adg {h:Int}(m:Nat)(ht:ad6 C.P C.tt)(ho:o.op= .slice T x none (some y) none)(hT:ahc C.tt T=some kk)
  (hx:ev env x=some (.v (.slice p n c))) (hy:ev env y=some (.v (.int .i64 h))) (h0:h=(m:Int)) (h1:m<=c):aj0 C env o (.v (.slice p m c)):=by
 intro a w bs hA;subst h0;obtain ⟨hu,hs⟩:=ahs ht hT w;unfold execOp;simp only [ho,Option.map,ac5 hA hx,ac5 hA hy,conc,Sem.run_bind,run_sliceAt_slice w T _ _ _ _ hu,run_slice_h w T p n c hu .i64 (m:Int) (by omega) (by omega),hs,Result.andThen_ok];simp only [sliced,Nat.zero_mul,Nat.sub_zero,Int.toNat_natCast];cases p<;>simp [anm]<;>rfl
theorem aea {h:Int}(m:Nat)(ht:ad6 C.P C.tt)(ho:o.op= .slice T x (some y) none none)(hT:ahc C.tt T=some kk)
  (hx:ev env x=some (.v (.slice p n c))) (hy:ev env y=some (.v (.int .i64 h))) (h0:h=(m:Int)) (h1:m<=n):aj0 C env o (.v (.slice (offP p c m kk) (n-m) (c-m))):=by
 intro a w bs hA;subst h0;obtain ⟨hu,hs⟩:=ahs ht hT w;unfold execOp;simp only [ho,Option.map,ac5 hA hx,ac5 hA hy,conc,Sem.run_bind,run_sliceAt_slice w T _ _ _ _ hu,run_slice_l w T p n c hu .i64 (m:Int) (by omega) (by omega),hs,Result.andThen_ok];simp only [sliced,Int.toNat_natCast,offP];rfl
theorem asr {P:Program}{T e b m:Nat}{M:Nat->Prop}{w:World}{G:GH}{src:Row}(hu:P.underlying T=some (.slice e))(hr:agm M w G b src)(hone:∀u∈src.xs,u.oneCell'=true)(hm:m<=src.n):Src P src.k T (.slice src.p m src.c) m (src.xs.take (m*src.k)) w:=by
 obtain ⟨h1,h2⟩:=hr;have hlen:(src.xs.take (m*src.k)).length=m*src.k:=by simp_all
 rcases h2 with ⟨hc,hn⟩|⟨o1,hp,_,_,_,_,cur,T',hh,_,htk⟩
 ·have hm0:m=0:=by omega
  subst hm0;simp only [Nat.zero_mul,List.take_zero];cases hpp:src.p with
  |none=>exact Src.ofNil w hu _
  |some ad=>exact Src.ofSlice w hu ad 0 _ [] (by simp) (λj u h=>by simp at h) (λu h=>by cases h)
 ·rw [hp]
  refine Src.ofSlice w hu _ m src.c _ hlen (λj u hj=>?_) (λu hu=>hone u (List.mem_of_mem_take hu));rw [Addr.add_lit,cell_of_row w _ _ cur T' _ hh]
  grind
theorem avx {P:Program}{T e b m:Nat}{M:Nat->Prop}{w:World}{G:GH}{src:Row}(hu:P.underlying T=some (.slice e))(hr:agm M w G b src)(hone:∀u∈src.xs,u.oneCell'=true)(hm:m<=src.n):Src P src.k T (.slice (offP src.p src.c m src.k) (src.n-m) (src.c-m)) (src.n-m) (src.xs.drop (m*src.k)) w:=by
 obtain ⟨h1,h2⟩:=hr;have hlen:(src.xs.drop (m*src.k)).length=(src.n-m)*src.k:=by rw [List.length_drop,h1,Nat.sub_mul]
 by_cases hmn:src.n-m=0
 ·have hnil:src.xs.drop (m*src.k)=[]:=List.eq_nil_of_length_eq_zero (by grind)
  rw [hnil,hmn];cases hpp:offP src.p src.c m src.k with
  |none=>exact Src.ofNil w hu _
  |some ad=>exact Src.ofSlice w hu ad 0 _ [] (by simp) (λj u h=>by simp at h) (λu h=>by cases h)
 ·rcases h2 with ⟨hc,hn⟩|⟨o1,hp,_,_,hnc,_,cur,T',hh,_,htk⟩
  ·omega
  ·have hoff:offP src.p src.c m src.k=some ⟨b,o1+m*src.k,none⟩:=by unfold offP;rw [if_neg (by omega),hp];simp [Addr.add_lit]
   rw [hoff];refine Src.ofSlice w hu _ (src.n-m) (src.c-m) _ hlen (λj u hj=>?_) (λu hu=>hone u (List.mem_of_mem_drop hu));rw [Addr.add_lit,cell_of_row w _ _ cur T' _ hh]
   grind
theorem WX.appPre (ρ σ m n':Nat)(ht:ad6 C.P C.tt)
  (hg:gd ops env o=some true) (hd:o.dst=some d) (hlt:Nat.blt d C.fn.ntmps=true) (ho:o.op= .call {callee:= .builtin .append,args:= #[x,y],argTypes:= #[T,T]})
  (hx:ev env x=some (.v (.slice row.p row.n row.c))) (hy:ev env y=some (.v (.slice src.p m src.c))) (hap:appO C.tt T=some (kk,by_,z)) (hz:z.cells.size=kk) (hρ:look R ρ=some row) (hσ:look R σ=some src) (hkk:row.k=kk) (hks:src.k=kk) (hfree:af6 ρ env=true)
  (hone:∀u∈src.xs,u.oneCell'=true) (hm:m<=src.n) (hn:row.n+m=n') (hroom:n'*by_<=140737488355328) (hmax:n'<=9223372036854775807)
  (hR:∀p' c',ah4 R ρ ⟨row.k,p',n',c',row.xs++src.xs.take (m*kk)⟩=some (R' p' c'))
  (k:∀p' c',WX C (.ops ops r::s) ((d,.v (.slice p' n' c'))::env) L (R' p' c') Γ):WX C (.ops ops (o::r)::s) env L R Γ:=by
 subst hn;refine WX.appX (ι:=Unit) ρ m (λ_=>src.xs.take (m*kk)) (λ_=>Γ) ht hg hd hlt ho hx hy hap hz hρ hkk hfree (λw G bs hI hΓ=>⟨(),?_,hΓ⟩) hroom (by simp only [maxLen];omega) (λ_ p' c'=>by grind [ag3]);obtain ⟨ti,e,te,hT,hde,hE,h1,_⟩:=afh hap;obtain ⟨hu,_⟩:=ht.get hT;rw [hde]at hu;subst hks;exact asr hu (hI.row σ src hσ) hone hm
theorem WX.appSuf (ρ σ m n':Nat)(ht:ad6 C.P C.tt)
  (hg:gd ops env o=some true) (hd:o.dst=some d) (hlt:Nat.blt d C.fn.ntmps=true) (ho:o.op= .call {callee:= .builtin .append,args:= #[x,y],argTypes:= #[T,T]})
  (hx:ev env x=some (.v (.slice row.p row.n row.c))) (hy:ev env y=some (.v (.slice (offP src.p src.c m kk) (src.n-m) (src.c-m)))) (hap:appO C.tt T=some (kk,by_,z)) (hz:z.cells.size=kk) (hρ:look R ρ=some row) (hσ:look R σ=some src) (hkk:row.k=kk) (hks:src.k=kk) (hfree:af6 ρ env=true)
  (hone:∀u∈src.xs,u.oneCell'=true) (hm:m<=src.n) (hn:row.n+(src.n-m)=n') (hroom:n'*by_<=140737488355328) (hmax:n'<=9223372036854775807)
  (hR:∀p' c',ah4 R ρ ⟨row.k,p',n',c',row.xs++src.xs.drop (m*kk)⟩=some (R' p' c'))
  (k:∀p' c',WX C (.ops ops r::s) ((d,.v (.slice p' n' c'))::env) L (R' p' c') Γ):WX C (.ops ops (o::r)::s) env L R Γ:=by
 subst hn;refine WX.appX (ι:=Unit) ρ (src.n-m) (λ_=>src.xs.drop (m*kk)) (λ_=>Γ) ht hg hd hlt ho hx hy hap hz hρ hkk hfree (λw G bs hI hΓ=>⟨(),?_,hΓ⟩) hroom (by simp only [maxLen];omega) (λ_ p' c'=>by grind [ag3]);obtain ⟨ti,e,te,hT,hde,hE,h1,_⟩:=afh hap;obtain ⟨hu,_⟩:=ht.get hT;rw [hde]at hu;subst hks;exact avx hu (hI.row σ src hσ) hone hm
section
variable {α : Type} [GoT α]
theorem afy {l:List α}(m:Nat)(hm:m<=l.length)(hs:Sep h [MF.ol xs l]):Sep h [MF.ol (xs.take (m*k α)) (l.take m),MF.ol (xs.drop (m*k α)) (l.drop m)]:=by
 have ho:OwL h xs l:=ag1 hs;rw [<-List.take_append_drop m l]at ho;obtain ⟨h1,h2,a1,a2,a3,a4,a5⟩:=ho.split;have hl:(l.take m).length=m:=by simp;omega
 rw [hl]at a4 a5;exact ⟨h1,h2,a1,a2,a3,a4,ae6 a5⟩
theorem amf {l:List α}{m:Nat}(hm:m<=m2)(hl:m2<=l.length)(hs:Sep h [MF.ol (xs.drop (m*k α)) (l.drop m)]):Sep h [MF.ol (xs.drop (m2*k α)) (l.drop m2)]:=by
 have h1:=afy (m2-m) (by grind) hs;obtain ⟨_,h2,_,a2,_,_,a5⟩:=h1;have e1:(xs.drop (m*k α)).drop ((m2-m)*k α)=xs.drop (m2*k α):=by rw [List.drop_drop,<-Nat.add_mul];congr 2;omega
 have e2:(l.drop m).drop (m2-m)=l.drop m2:=by simp_all
 rw [e1,e2]at a5;exact a5.mono a2
end
end Go.Stp
namespace Go.Stp
open GoT (X k ok sh fa oa)
variable {α ι : Type} {P : Program} {o oj : Oper} {C : Cx} {bs : Nat → Nat} {G0 G : GH} {L : Locs} {R : Rows} {w : World} {ops : Array Oper} {tl : List Nat} {s st : List It} {fuel d n e j : Nat} {listed : Array Bool} {env : Env} {Γ : Facts} {rest : List Oper} {l : Loc} {a : Act} {sv sf : SV} {f : Operand} {args : List Operand} {ats : Array TypeId} {g : FuncId} {svs : List SV} {caps : (Nat → Nat) → List Value} {Q : Prop}
def Gr {α:Type}(P:Program)(m:Sem α):Prop:=∀w v w',m.run P w= .ok v w'->Kp emp w w'
theorem Gr.bind {α β:Type}{P:Program}{m:Sem α}{f:α->Sem β}(hm:Gr P m)(hf:∀v,Gr P (f v)):Gr P (m>>=f):=λw v w' h=>by
 rw [Sem.run_bind]at h;cases hr:m.run P w with
 |ok x w1=>rw [hr]at h;exact (hm w x w1 hr).trans (hf x w1 v w' h)
 |_=>rw [hr]at h;cases h
theorem afo (x:α):Gr P (pure x:Sem α):=λw v w' h=>by
 rw [Sem.run_pure]at h;cases h;exact Kp.refl _ _
theorem ajl (x:Halt):Gr P (.halt x:Sem α):=λw v w' h=>by cases h
theorem alp:Gr P program:=λw v w' h=>by cases h;exact Kp.refl _ _
theorem am5 (t:TypeId):Gr P (underlying t):=Gr.bind alp λ_=>by
 split
 ·exact afo _
 ·exact ajl _
theorem aky (t:TypeId):Gr P (typeInfo t):=Gr.bind alp λ_=>by
 split
 ·exact afo _
 ·exact ajl _
theorem asd (t:TypeId):Gr P (Go.sizeOf t):=Gr.bind (aky t) λ_=>afo _
theorem agi (t:TypeId):Gr P (zeroValue t):=Gr.bind (aky t) λ_=>by
 split
 ·exact afo _
 ·exact ajl _
theorem akv (e:TypeId)(cs:Array Value):Gr P (newRow e cs):=Gr.bind (λw v w' h=>by
 have h':Result.ok w.heap.size (w.alloc (Obj.cells cs e))= .ok v w':=h;cases h';exact (Kp.refl emp w).alloc _) λ_=>afo _
theorem am6 {P : Program}(t : TypeId)(n : Nat)(ps : Array (Nat × Value)) : Gr P (Instr.buildSlice t n ps) := by
 unfold Instr.buildSlice
 refine Gr.bind (am5 _) λd => ?_
 split
 ·rename_i el
  refine Gr.bind (asd _) λsize => ?_
  have key : ∀ z : Array Value, Gr P (match Instr.fill (λi => some (i * size, size)) ((Array.range (n * size)).map (z[· % z.size]!)) ps.toList with
    | some cells => do pure (Value.slice (some (<- newRow el cells)) n n)
    | _ => stuck "buildSlice: a part of the wrong size") := λz => by
   split
   ·grind [Gr.bind, akv, afo]
   ·exact ajl _
  have rest : Gr P (do
    let zero <- if n * size = 0 then pure #[] else do pure (<- zeroValue el).cells
    match Instr.fill (λi => some (i * size, size)) ((Array.range (n * size)).map (zero[· % zero.size]!)) ps.toList with
    | some cells => do pure (Value.slice (some (<- newRow el cells)) n n)
    | _ => stuck "buildSlice: a part of the wrong size") := by
   by_cases h2 : n * size = 0
   ·rw [if_pos h2]; exact Gr.bind (afo _) λz => key z
   ·rw [if_neg h2]; first | exact Gr.bind (agi el) λv => key v.cells | exact Gr.bind (m := (do pure (<- zeroValue el).cells)) (Gr.bind (agi el) λ_ => afo _) λz => key z | exact Gr.bind (agi el) λv => Gr.bind (afo _) λz => key z
  by_cases h2 : n * size = 0
  ·grind
  ·simp only [if_neg h2] at rest ⊢
   by_cases h1 : n * size > 2 ^ 24
   ·rw [if_pos h1]; exact Gr.bind (ajl _) λ_ => rest
   ·grind
 ·exact ajl _
def am4:Op->Bool
 | .alloc _=>true
 | .box _ _=>true
 | .buildSlice _ _ _=>true
 |_=>false
theorem av4 {ev:Operand->Value}(h:am4 o.op=true):Gr P (execOp ev o):=by
 unfold execOp;cases ho:o.op<;>rw [ho]at h<;>simp only [am4,Bool.false_eq_true]at h
 ·exact Gr.bind (Gr.bind (agi _) λ_=>Gr.bind (akv _ _) λ_=>afo _) λ_=>afo _
 ·exact Gr.bind (Gr.bind (akv _ _) λ_=>afo _) λ_=>afo _
 ·grind [Gr.bind,am6,afo]
theorem anz {P:Program}{ev:Operand->Value}{o:Oper}(h:am4 o.op=true){w w':World}{x:Next}(hr:(execOp ev o).run P w= .ok x w'):∃v,x= .value v:=by
 unfold execOp at hr;cases ho:o.op<;>rw [ho]at h<;>simp only [am4,Bool.false_eq_true]at h<;>rw [ho]at hr<;>simp only [Sem.run_bind]at hr
 all_goals (
  revert hr
  generalize (Sem.run P _ w)=q;intro hr;cases q with
  |ok y w1=>simp only [Result.andThen_ok,Sem.run_pure]at hr;cases hr;exact ⟨_,rfl⟩
  |_=>cases hr)
theorem amq {P:Program}{ops:Array Oper}{Q:Exit->Act->World->Prop}{k:Nat}{o:Oper}(ho:ops[k]? =some o)(hp:am4 o.op=true){K:Act->World->Prop}{a:Act}{w:World}(h:wpOp P ops Q k K a w):wpOp P ops Q k (λa' w'=>Kp emp w w'/\K a' w') a w:=by
 unfold wpOp at h ⊢;simp only [ho]at h ⊢
 split at h
 ·rename_i hw
  rw [if_pos hw];refine h.imp (λh=>?_) id;unfold Oper.wp at h ⊢;generalize hr:(execOp a.eval o).run P w=r at h ⊢;cases r with
  |ok x w'=>
   obtain ⟨v,rfl⟩:=anz hp hr;exact ⟨av4 hp _ _ _ hr,h⟩
  |halt x w'=>cases x<;>exact h
 ·grind [Kp.refl]
def atv (ops:Array Oper)(k:Nat):Bool:=match getO ops.toList k with|some o=>am4 o.op|none=>false
def aoe (ops:Array Oper)(tl:List Nat):List Nat->Array Bool->Bool
 |[],listed=>(Region.ready .any ops listed).isEmpty
 |k::r,listed=>decide (Region.ready .any ops listed=[k])&& (tl.contains k||atv ops k)&&aoe ops tl r (listed.setIfInBounds k true)
theorem af8 {P:Program}{ops:Array Oper}{Q:Exit->Act->World->Prop}{S:World->Prop}{tl:List Nat}(hS:∀w w',Kp emp w w'->S w->S w'):∀(is:List Nat) (l:List Oper) (listed:Array Bool) (a:Act) (w:World),ake ops.toList is=some l->aoe ops tl is listed=true->wpList P ops Q l a w->aee P ops Q S tl is.length listed a w
 |[],l,_,_,_,hl,hB,h=>by simp [ake]at hl;subst hl;exact ⟨by simpa [aoe]using hB,h⟩
 |k::is,l,listed,a,w,hl,hB,h=>by
  simp only [ake]at hl
  split at hl
  ·rename_i o ho
   split at hl
   ·rename_i q hq
    simp at hl;subst hl;have ho2:=ho;rw [adh]at ho;have h0:ops[k]? =some o:=by simpa using ho
    simp only [aoe,Bool.and_eq_true,decide_eq_true_eq,Bool.or_eq_true]at hB;refine ⟨λh1=>(by grind),λi hi=>?_⟩;rw [hB.1.1]at hi;have hik:i=k:=by simpa using hi
    subst hik;have hw:wpOp P ops Q i (wpList P ops Q q) a w:=by unfold wpOp;simp only [h0];exact h
    rcases hB.1.2 with ht|hp
    ·exact wpOp_mono (λa' w' h'=>⟨λh=>(by grind),af8 hS is q _ a' w' hq hB.2 h'⟩) hw
    ·have hp':am4 o.op=true:=by unfold atv at hp;rw [ho2]at hp;exact hp
     exact wpOp_mono (λa' w' h'=>⟨λ_=>hS _ _ h'.1,af8 hS is q _ a' w' hq hB.2 h'.2⟩) (amq h0 hp' hw)
   ·cases hl
  ·cases hl
theorem SB.keep {w':World}(hb:Kp emp w w')(h:SB C bs G0 L R w):SB C bs G0 L R w':=by obtain ⟨G,hle,hI⟩:=h;exact ⟨_,hle.trans (acq (cut G emp) emp),(hI.called (acv _) (λ_ _ h=>by cases h) hb (acv _) (λ_ _ h=>by cases h)).1⟩
theorem DX.tail2 (is:List Nat)(hr:ake ops.toList is=some rest)(hf:fuel=is.length)(hs:aoe ops tl is listed=true)
  (k:WX C (.ops ops rest::s) env L R Γ):DX C ops tl s bs G0 fuel listed env L R Γ:=by
 intro _ a w G _ hS;subst hf;exact af8 (λ_ _ hb h=>h.keep hb) is rest listed a w hr hs (k a w ⟨G,bs,hS⟩)
def DXS (C:Cx)(ops:Array Oper)(tl:List Nat)(s:List It)(S:World->Prop)(bs:Nat->Nat)(G0:GH)(fuel:Nat)(listed:Array Bool)(env:Env)(L:Locs)(R:Rows)(Γ:Facts):Prop:=
 Closed ops listed->∀a w G,Le G0 G->SatB C env L R Γ G bs a w->aee C.P ops (cont C s) S tl fuel listed a w
structure DXA (C:Cx) (ops:Array Oper) (tl:List Nat) (s:List It) (bs:Nat->Nat) (G0:GH) (fuel:Nat) (listed:Array Bool) (env:Env) (L:Locs) (R:Rows) (Γ:Facts) (j d:Nat) (l:Loc):Prop where
 no:DXS C ops tl s (SB C bs G0 L R) bs G0 (fuel+1) listed env L R Γ
 yes:∀b,DXS C ops tl s (SB C bs G0 L R) (λi=>if i=d then b else bs i) G0 fuel (listed.setIfInBounds j true) ((d,.p d 0)::env) ((d,l)::L) R Γ
theorem DX.pend (j d:Nat)(l:Loc)(k:DXA C ops tl s bs G0 fuel listed env L R Γ j d l):DX C ops tl s bs G0 (fuel+1) listed env L R Γ:=k.no
theorem HInv.unalloc {b:Nat}(hI:HInv C w G (λi=>if i=d then b else bs i) ((d,l)::L) R)(hL:aho d L=false)(hR:aho d R=false)(h999:d≠999):HInv C w G bs L R:=by
 have hnL:∀ {i:Nat} {x:Loc},look L i=some x->i≠d:=λh=>adx hL h;have hnR:∀ {i:Nat} {x:Row},look R i=some x->i≠d:=λh=>adx hR h;have hup:∀ {i:Nat} {x:Loc},look L i=some x->look ((d,l)::L) i=some x:=λh=>by grind [acg]
 have hact:∀ {i:Nat},Acts L R i->Acts ((d,l)::L) R i/\i≠d:=λh=>by
  rcases h with ⟨x,hx⟩|⟨r,hr,hc⟩
  ·exact ⟨.inl ⟨x,hup hx⟩,hnL hx⟩
  ·exact ⟨.inr ⟨r,hr,hc⟩,hnR hr⟩
 refine ⟨hI.keep,hI.le,λi x hx=>?_,λi r hr=>?_,λi j hij hi hj=>?_,λi x r hx hr=>hI.dis i x r (hup hx) hr,λb' hb'=>?_,hI.nr⟩
 ·have:=hI.loc i x (hup hx)
  grind
 ·have:=hI.row i r hr
  grind
 ·obtain ⟨h1,h2⟩:=hact hi
  obtain ⟨h3,h4⟩:=hact hj;have:=hI.inj i j hij h1 h3
  grind
 ·have:=hI.pin b' hb'
  grind
theorem At.less {s:SV}(h:At n ((d,s)::env) bs a)(hd:look env d=none):At n env bs a:=by
 refine ⟨h.size,h.dfr,λe x hx=>h.slot e x ?_⟩
 grind [acg]
theorem At.swap {s t:SV}(h:At n ((e,t)::(d,s)::env) bs a)(hde:Nat.beq e d=false):At n ((d,s)::(e,t)::env) bs a:=by
 have hne:e≠d:=λh=>by subst h;simp at hde
 refine ⟨h.size,h.dfr,λi x hx=>h.slot i x ?_⟩
 grind [acg]
theorem an4 (ht:ad6 C.P C.tt)(hj:ops[j]? =some oj)(hd:oj.dst=some d)(hlt:d<C.fn.ntmps)(hg:gd ops env oj=some true)(hl:ladd C.tt env oj.op=some l)(hnl:afn d env L R=false)
  (hle:Le G0 G) (hS:SatB C env L R Γ G bs a w) (hc:Closed ops (listed.setIfInBounds j true))
  (k:∀b,DXS C ops tl s (SB C bs G0 L R) (λi=>if i=d then b else bs i) G0 fuel (listed.setIfInBounds j true) ((d,.p d 0)::env) ((d,l)::L) R Γ):
  wpOp C.P ops (cont C s) j (λa' w'=>(tl.contains j=false->SB C bs G0 L R w->SB C bs G0 L R w')/\aee C.P ops (cont C s) (SB C bs G0 L R) tl fuel (listed.setIfInBounds j true) a' w') a w:=by
 obtain ⟨hA,hI,hΓ⟩:=hS;unfold wpOp;simp only [hj];rw [if_pos (ad2 hA hg)];refine .inl ?_;unfold Oper.wp;rw [aje ht hA hl];simp only [Oper.upon,hd];have hI':=hI.alloc d (adm hnl).2.2.2 (adm hnl).2.1 (adm hnl).2.2.1 l;have hA':=(hA.notH (d:=d) (bs':=λj=>if j=d then w.heap.size else bs j) (adm hnl).1 (λi hi=>if_neg hi)).put hlt (.p d 0);simp only [conc,if_true]at hA';exact ⟨λ_ _=>⟨G,hle,hI'.unalloc (adm hnl).2.1 (adm hnl).2.2.1 (adm hnl).2.2.2⟩,k _ hc _ _ G hle ⟨hA',hI',hΓ⟩⟩
theorem DXA.tail (is:List Nat)(ht:ad6 C.P C.tt)(hj:getO ops.toList j=some oj)(hd:oj.dst=some d)(hlt:Nat.blt d C.fn.ntmps=true)(hg:gd ops env oj=some true)(hl:ladd C.tt env oj.op=some l)(hnl:afn d env L R=false)
  (hr:Region.ready .any ops listed=[j]) (hp:ake ops.toList is=some rest) (hf:fuel=is.length) (hs:aoe ops tl is (listed.setIfInBounds j true)=true) (k:WX C (.ops ops rest::s) ((d,.p d 0)::env) ((d,l)::L) R Γ):DXA C ops tl s bs G0 fuel listed env L R Γ j d l:=by
 rw [adh]at hj;have hj':ops[j]? =some oj:=by simpa using hj
 have yes:∀b,DXS C ops tl s (SB C bs G0 L R) (λi=>if i=d then b else bs i) G0 fuel (listed.setIfInBounds j true) ((d,.p d 0)::env) ((d,l)::L) R Γ:=λb _ a w G _ hS=>by
  subst hf;exact af8 (λ_ _ hb h=>h.keep hb) is rest _ a w hp hs (k a w ⟨G,_,hS⟩)
 refine ⟨λhc a w G hle hS=>⟨λh=>(by grind),λi hi=>?_⟩,yes⟩;have hc':=hc.set hi;rw [hr]at hi;obtain rfl:i=j:=by simpa using hi
 exact an4 ht hj' hd (by grind [Nat.blt_eq]) hg hl hnl hle hS hc' yes
theorem DXA.take (i:Nat)(hb:mayP ops listed i=true)(hb2:mayP ops (listed.setIfInBounds j true) i=true)(hij:Nat.beq i j=false)(hi:getO ops.toList i=some o)
  (hg:gd ops env o=some true) (hg2:gd ops ((d,.p d 0)::env) o=some true) (he:o.dst=some e) (hlt:Nat.blt e C.fn.ntmps=true) (hed:Nat.beq e d=false) (hnd:look env d=none) (hl:aj0 C env o sv)
  (k:DXA C ops tl s bs G0 fuel (listed.setIfInBounds i true) ((e,sv)::env) L R Γ j d l):DXA C ops tl s bs G0 (fuel+1) listed env L R Γ j d l:=by
 rw [adh]at hi;have hi':ops[i]? =some o:=by simpa using hi
 have hne:i≠j:=λh=>by subst h;simp at hij
 have hlt':e<C.fn.ntmps:=by grind [Nat.blt_eq]
 have first:∀ {bs':Nat->Nat} {env':Env} {L':Locs} {f:Nat} {li:Array Bool},mayP ops li i=true->gd ops env' o=some true->(∀a w bs'',At C.fn.ntmps env' bs'' a->(execOp a.eval o).run C.P w= .ok (.value (conc bs'' sv)) w)->
   DXS C ops tl s (SB C bs G0 L R) bs' G0 f (li.setIfInBounds i true) ((e,sv)::env') L' R Γ->DXS C ops tl s (SB C bs G0 L R) bs' G0 (f+1) li env' L' R Γ:=by
  intro bs' env' L' f li hm hgd hlk kk hcl a w G hle hS;obtain ⟨hA,hI,hΓ⟩:=hS;simp only [mayP,Bool.and_eq_true]at hm;obtain ⟨⟨h1,h4⟩,h5⟩:=hm;have hr:i∈Region.ready .any ops li:=by simpa using h5
  refine afs hi' (Region.noSelect_spec h1) (λc a w h=>(afv C s c _ _ h).elim) f li a w (Region.free_spec hi' h4) hr (v:=conc bs' sv) (.inl ⟨ad2 hA hgd,λw' _=>hlk a w' bs' hA⟩) ?_;rw [he];exact kk (hcl.set hr) _ _ G hle ⟨hA.put hlt' sv,hI,hΓ⟩
 refine ⟨first hb hg hl k.no,λb=>first hb2 hg2 (λa w bs'' hA=>hl a w bs'' (hA.less hnd)) ?_⟩;intro hcl a w G hle ⟨hA,hI,hΓ⟩;have:=k.yes b;rw [Array.setIfInBounds_comm _ _ (Ne.symm hne)]at hcl ⊢;exact this hcl a w G hle ⟨hA.swap hed,hI,hΓ⟩
theorem akk (ht:ad6 C.P C.tt)(h:al8 C.tt env [] o.op=some sv):aj0 C env o sv:=λ_ w _ hA=>aha ht w hA h
theorem DXA.der (m:Nat)(f:MF)(hk:f.k= .der)(h:∀G,AllK C.M G Γ->f.p G)
  (k:DXA C ops tl s bs G0 fuel listed env L R ((m,f)::Γ) j d l):DXA C ops tl s bs G0 fuel listed env L R Γ j d l:=
 ⟨λhcl a w G hle ⟨hA,hI,hΓ⟩=>k.no hcl a w G hle ⟨hA,hI,hΓ.der m f hk (h G hΓ)⟩,λb hcl a w G hle ⟨hA,hI,hΓ⟩=>k.yes b hcl a w G hle ⟨hA,hI,hΓ.der m f hk (h G hΓ)⟩⟩
theorem DXA.callG (i:Nat){val:ι->Value}{Γ':ι->Facts}{Ψ:World->Value->World->Prop}(ht:ad6 C.P C.tt)(hj:getO ops.toList j=some oj)(hd:oj.dst=some d)(hlt:Nat.blt d C.fn.ntmps=true)(hg:gd ops env oj=some true)(hl:ladd C.tt env oj.op=some l)(hnl:afn d env L R=false)(hnd:look env d=none)
  (hr:(Region.ready .any ops listed).all (λx=>Nat.beq x i||Nat.beq x j)=true) (hr1:(Region.ready .any ops listed).contains i=true) (hr2:Region.ready .any ops (listed.setIfInBounds j true)=[i]) (hij:Nat.beq i j=false)
  (hi:getO ops.toList i=some o) (hgi:gd ops env o=some true) (hgi2:gd ops ((d,.p d 0)::env) o=some true) (he:o.dst=some e) (hlte:Nat.blt e C.fn.ntmps=true) (hed:Nat.beq e d=false) (ho:o.op= .call {callee:= .value f,args:=args.toArray,argTypes:=ats})
  (hf:ev env f=some sf) (hf2:ev ((d,.p d 0)::env) f=some sf) (hsf:∀bs,conc bs sf= .func (.func g) #[] (caps bs).toArray) (hargs:evs env args=some svs) (hargs2:evs ((d,.p d 0)::env) args=some svs)
  (hc:∀w G bs,HInv C w G bs L R->AllK C.M (hp w) Γ->Does C.P g (svs.map (conc bs)++caps bs).toArray w emp (Ψ w))
  (hΨ:∀w v w' G bs (L:Locs) (R:Rows),HInv C w G bs L R->AllK C.M G Γ->Kp emp w w'->Ψ w v w'->∃x G',Q/\v=val x/\Le G G'/\HInv C w' G' bs L R/\AllK C.M G' (Γ' x))
  (k:∀x,Q->DXA C ops tl st bs G0 fuel (listed.setIfInBounds i true) ((e,.v (val x))::env) L R (Γ' x) j d l):DXA C ops tl st bs G0 (fuel+1) listed env L R Γ j d l:=by
 rw [adh]at hi hj;have hi':ops[i]? =some o:=by simpa using hi
 have hj':ops[j]? =some oj:=by simpa using hj
 have hne:i≠j:=λh=>by grind
 have hlte':e<C.fn.ntmps:=by grind [Nat.blt_eq]
 obtain ⟨l1,l2,l3,l4⟩:=adm hnl
 have step:∀ {bs':Nat->Nat} {env':Env} {L':Locs} {fu:Nat} {li:Array Bool} {a:Act} {w:World} {G:GH},gd ops env' o=some true->ev env' f=some sf->evs env' args=some svs->Le G0 G->SatB C env' L' R Γ G bs' a w->(∀w G,HInv C w G bs' L' R->HInv C w G bs' L R)->(∀w G,HInv C w G bs' L' R->HInv C w G bs L R)->Closed ops (li.setIfInBounds i true)->
   (∀x,Q->DXS C ops tl st (SB C bs G0 L R) bs' G0 fu (li.setIfInBounds i true) ((e,.v (val x))::env') L' R (Γ' x))->
   wpOp C.P ops (cont C st) i (λa' w'=>(tl.contains i=false->SB C bs G0 L R w->SB C bs G0 L R w')/\aee C.P ops (cont C st) (SB C bs G0 L R) tl fu (li.setIfInBounds i true) a' w') a w:=by
  intro bs' env' L' fu li a w G h1 h2 h3 hle hS hsub hsub2 hcl kk;obtain ⟨hA,hI,hΓ⟩:=hS;unfold wpOp;simp only [hi'];rw [if_pos (ad2 hA h1)];refine .inl ?_;unfold Oper.wp;obtain ⟨hen,hcalls⟩:=hc w G bs' (hsub w G hI) (hΓ.mono hI.le);rw [aet hen ho (by rw [ac5 hA h2,hsf]) (aeh hA args svs h3)];simp only [Oper.upon];refine hcalls.mono λee w' ⟨v,hv,hb,hψ⟩=>?_;subst hv;rw [he];obtain ⟨x,G',hq,hv,hGG,hI',hΓ'⟩:=hΨ w v w' G bs' L' R hI hΓ hb hψ;subst hv
  exact ⟨λ_ _=>⟨G',hle.trans hGG,hsub2 w' G' hI'⟩,kk x hq hcl _ _ G' (hle.trans hGG) ⟨hA.put hlte' (.v (val x)),hI',hΓ'⟩⟩
 have yes:∀b,DXS C ops tl st (SB C bs G0 L R) (λi=>if i=d then b else bs i) G0 (fuel+1) (listed.setIfInBounds j true) ((d,.p d 0)::env) ((d,l)::L) R Γ:=λb hcl a w G hle hS=>by
  refine ⟨λh=>(by grind),λx hx=>?_⟩;have hcl':=hcl.set hx;rw [hr2]at hx;obtain rfl:x=i:=by simpa using hx
  refine step hgi2 hf2 hargs2 hle hS (λw G h=>h.sub (λq y hy=>by grind [acg,adx,Sub.refl]) (Sub.refl _)) (λw G h=>h.unalloc l2 l3 l4) hcl' (λx hq=>?_);intro hcl2 a w G hle ⟨hA,hI,hΓ⟩;have:=(k x hq).yes b;rw [Array.setIfInBounds_comm _ _ (Ne.symm hne)]at hcl2 ⊢;exact this hcl2 a w G hle ⟨hA.swap hed,hI,hΓ⟩
 refine ⟨λhcl a w G hle hS=>⟨λh=>(by grind),λx hx=>?_⟩,yes⟩;have hcl':=hcl.set hx;have hx':=List.all_eq_true.1 hr x hx;simp only [Bool.or_eq_true]at hx';rcases hx' with h|h
 ·have:=Nat.eq_of_beq_eq_true h
  subst this;exact step hgi hf hargs hle hS (λ_ _ h=>h) (λ_ _ h=>h) hcl' (λx hq=>(k x hq).no)
 ·have:=Nat.eq_of_beq_eq_true h
  subst this;exact an4 ht hj' hd (by grind [Nat.blt_eq]) hg hl hnl hle hS hcl' yes
theorem DXA.callV (i:Nat)
  {c:Value} (ht:ad6 C.P C.tt) (hj:getO ops.toList j=some oj) (hd:oj.dst=some d) (hlt:Nat.blt d C.fn.ntmps=true) (hg:gd ops env oj=some true) (hl:ladd C.tt env oj.op=some l) (hnl:afn d env L R=false) (hnd:look env d=none)
  (hr:(Region.ready .any ops listed).all (λx=>Nat.beq x i||Nat.beq x j)=true) (hr1:(Region.ready .any ops listed).contains i=true) (hr2:Region.ready .any ops (listed.setIfInBounds j true)=[i]) (hij:Nat.beq i j=false)
  (hi:getO ops.toList i=some o) (hgi:gd ops env o=some true) (hgi2:gd ops ((d,.p d 0)::env) o=some true) (he:o.dst=some e) (hlte:Nat.blt e C.fn.ntmps=true) (hed:Nat.beq e d=false) (ho:o.op= .call {callee:= .value f,args:=args.toArray,argTypes:=ats})
  (hf:ev env f=some sf) (hf2:ev ((d,.p d 0)::env) f=some sf) (hsf:∀bs,conc bs sf= .func (.func g) #[] (caps bs).toArray) (hargs:evs env args=some svs) (hargs2:evs ((d,.p d 0)::env) args=some svs)
  (hc:∀w G bs,HInv C w G bs L R->AllK C.M (hp w) Γ->Does C.P g (svs.map (conc bs)++caps bs).toArray w emp λv _=>v=c/\Q)
  (k:Q->DXA C ops tl st bs G0 fuel (listed.setIfInBounds i true) ((e,.v c)::env) L R Γ j d l):DXA C ops tl st bs G0 (fuel+1) listed env L R Γ j d l:=
 DXA.callG (ι:=Unit) (Q:=Q) (val:=λ_=>c) (Γ':=λ_=>Γ) (Ψ:=λ_ v _=>v=c/\Q) i ht hj hd hlt hg hl hnl hnd hr hr1 hr2 hij hi hgi hgi2 he hlte hed ho hf hf2 hsf hargs hargs2 hc
  (λw v w' G bs L R hI hΓ hb ⟨hv,hq⟩=>⟨(),join (cut G emp) emp,hq,hv,acq (cut G emp) emp,(hI.called (acv _) (λ_ _ h=>by cases h) hb (acv _) (λ_ _ h=>by cases h)).1,hΓ.mono (acq (cut G emp) emp)⟩) (λ_=>k)
theorem DXA.callF (i m:Nat){val val':ι->Value}{gs ds:ι->List MF}{Γ':ι->Facts}(hds:∀i h,Sep h (gs i)->All h (ds i))(hdk:∀i,∀f∈ds i,f.k= .der)(ht:ad6 C.P C.tt)(hj:getO ops.toList j=some oj)(hd:oj.dst=some d)(hlt:Nat.blt d C.fn.ntmps=true)(hg:gd ops env oj=some true)(hl:ladd C.tt env oj.op=some l)(hnl:afn d env L R=false)(hnd:look env d=none)
  (hr:(Region.ready .any ops listed).all (λx=>Nat.beq x i||Nat.beq x j)=true) (hr1:(Region.ready .any ops listed).contains i=true) (hr2:Region.ready .any ops (listed.setIfInBounds j true)=[i]) (hij:Nat.beq i j=false)
  (hi:getO ops.toList i=some o) (hgi:gd ops env o=some true) (hgi2:gd ops ((d,.p d 0)::env) o=some true) (he:o.dst=some e) (hlte:Nat.blt e C.fn.ntmps=true) (hed:Nat.beq e d=false) (ho:o.op= .call {callee:= .value f,args:=args.toArray,argTypes:=ats})
  (hf:ev env f=some sf) (hf2:ev ((d,.p d 0)::env) f=some sf) (hsf:∀bs,conc bs sf= .func (.func g) #[] (caps bs).toArray) (hargs:evs env args=some svs) (hargs2:evs ((d,.p d 0)::env) args=some svs)
  (hc:∀w G bs,HInv C w G bs L R->AllK C.M (hp w) Γ->Does C.P g (svs.map (conc bs)++caps bs).toArray w emp (Post w emp val gs Q))
  (hv:∀i,afb (val i)=some (val' i)) (hΓ':∀i,addF m (ds i++gs i) Γ=some (Γ' i))
  (k:∀x,Q->DXA C ops tl st bs G0 fuel (listed.setIfInBounds i true) ((e,.v (val' x))::env) L R (Γ' x) j d l):DXA C ops tl st bs G0 (fuel+1) listed env L R Γ j d l:=
 DXA.callG (ι:=ι) (Q:=Q) (val:=val') (Γ':=Γ') (Ψ:=λw v w'=>Post w emp val gs Q v w') i ht hj hd hlt hg hl hnl hnd hr hr1 hr2 hij hi hgi hgi2 he hlte hed ho hf hf2 hsf hargs hargs2 hc
  (λw v w' G bs L R hI hΓ hb hv'=>by
   obtain ⟨x,h,rfl,hq,hle1,hdom,hs⟩:=hv';obtain ⟨hI',hdj⟩:=hI.called (acv _) (λ_ _ h=>by cases h) hb hle1 hdom;exact ⟨x,join (cut G emp) h,hq,(afi (hv x)).symm,acq (cut G emp) h,hI',hΓ.after hdj (λb o hb'=> .inl ((hdom b o hb').elim (Nat.le_trans hI.keep.size) (λh=>absurd rfl h))) hs (hdk x) (hds x h hs) (hΓ' x)⟩) k
end Go.Stp
namespace Go.Stp
open GoT (X k ok sh fa oa)
variable {C : Cx} {env : Env} {L : Locs} {R : Rows} {G : GH} {o : Oper} {x y : Operand} {T n e d kk by_ σ m v : Nat} {s : List It} {Γ : Facts} {row src : Row} {P : Program} {ops : Array Oper} {r : List Oper} {z xs ys : List Value} {w : World} {bs : Nat → Nat}
theorem aqk (w:World)(dT sT ty elem kk g o dLen dCap:Nat)(a:Addr)(sLen sCap:Nat)(cur:Array Value)(t:TypeId)(cs:List Value)(hu:P.underlying dT=some (.slice elem))(hs:(Go.sizeOf elem).run P w= .ok kk w)
  (hg:w.heap[g]? =some (.cells cur t (0,0))) (hn:cs.length=Nat.min sLen dLen*kk) (hsrc:∀j v,cs[j]? =some v->w.cell? (a.add j)=some v) (hfit:o+cs.length<=cur.size) (h1:∀v∈cs,v.oneCell'=true):
  (Builtin.copy_ #[dT,sT] ty #[.slice (some ⟨g,o,none⟩) dLen dCap,.slice (some a) sLen sCap]).run P w= .ok (goInt (Nat.min sLen dLen)) (w.setRow g (cur.toList.take o++cs++cur.toList.drop (o+cs.length)).toArray):=by
 have hl:=run_loadCells_list (P:=P) w a cs hsrc;have hst:=run_storeCells_at P g o t cs 0 cur w hg (by grind) h1;simp [Builtin.copy_,run_underlying hu,Builtin.lenOf,Builtin.firstCells,hs,<-hn,hl,hst]
theorem WX.cpy {R':Rows}{dl dc sl sc:Nat}{sp:Option Addr}(ρ i m:Nat)(news:List Value)(ht:ad6 C.P C.tt)
  (hg:gd ops env o=some true) (hd:o.dst=some d) (hlt:Nat.blt d C.fn.ntmps=true) (ho:o.op= .call {callee:= .builtin .copy,args:= #[x,y],argTypes:= #[T,T]}) (hel:elO C.tt T=some (e,kk,by_,z))
  (hx:ev env x=some (.v (.slice (offP row.p row.c i kk) dl dc))) (hy:ev env y=some (.v (.slice sp sl sc))) (hρ:look R ρ=some row) (hkk:row.k=kk) (hm:Nat.min sl dl=m) (him:i+m<=row.n) (hnl:news.length=m*kk) (hone:∀u∈news,u.oneCell'=true)
  (hsrc:∀w G bs,HInv C w G bs L R->AllK C.M G Γ->∀j u,news[j]? =some u->∃a,sp=some a/\w.cell? (a.add j)=some u) (hR:ah4 R ρ ⟨row.k,row.p,row.n,row.c,row.xs.take (i*kk)++news++row.xs.drop (i*kk+news.length)⟩=some R')
  (k:WX C (.ops ops r::s) ((d,.v (.int .i64 (m:Int)))::env) L R' Γ):WX C (.ops ops (o::r)::s) env L R Γ:=by
 refine WX.did (ι:=Unit) (env':=λ_=>((d,.v (.int .i64 (m:Int)))::env)) (R':=λ_=>R') (Γ':=λ_=>Γ) hg (λa w G bs hA hI hΓ=>?_) (λ_=>k);obtain ⟨hu,i',v,te,hE,hte,hi',h0,hs,_,hv,hzl,hpos⟩:=aiw ht hel;have hsz:∀w,(Go.sizeOf e).run C.P w= .ok kk w:=λw=>by rw [aej hi',hs]
 rw [ag3 hR,hd];subst hkk;have hlt':d<C.fn.ntmps:=by simp_all
 by_cases hm0:m=0
 ·have hn0:news=[]:=List.eq_nil_of_length_eq_zero (by grind)
  have hmin:min sl dl=0:=hm.trans hm0
  have hrun:(execOp a.eval o).run C.P w= .ok (.value (.int .i64 (m:Int))) w:=by
   unfold execOp;simp only [ho,resolve,invoke,builtin,Sem.run_bind,Sem.run_pure,Result.andThen_ok,List.map_toArray,List.map_cons,List.map_nil,ac5 hA hx,ac5 hA hy,aif];cases hpp:offP row.p row.c i row.k<;>cases hqq:sp<;>simp [Builtin.copy_,run_underlying hu,Builtin.lenOf,Builtin.firstCells,hsz,hmin,loadCells,loadCellsFrom,storeCells,goInt,hm0]
  have hrr:(⟨row.k,row.p,row.n,row.c,row.xs.take (i*row.k)++news++row.xs.drop (i*row.k+news.length)⟩:Row)=row:=by
   rw [hn0];simp
  exact ⟨_,w,(),hrun,G,bs,hA.put hlt' (.v (.int .i64 (m:Int))),by rw [hrr];exact hI.respell (ago hρ),hΓ⟩
 ·have hrow:=hI.row ρ row hρ
  obtain ⟨o1,hp',hc0,cur,T',hh,hcs,htk,hnc⟩:=hrow.some (by omega)
  have hoff:offP row.p row.c i row.k=some ⟨bs ρ,o1+i*row.k,none⟩:=by
   unfold offP;rw [if_neg (by omega),hp'];simp [Addr.add_lit]
  have hmk:0<m*row.k:=Nat.mul_pos (by omega) hpos;obtain ⟨u0,hu0⟩:∃u,news[0]? =some u:=⟨_,List.getElem?_eq_getElem (by omega)⟩;obtain ⟨sa,hsa,_⟩:=hsrc w G bs hI hΓ 0 u0 hu0;have hik:(i+m)*row.k<=row.n*row.k:=Nat.mul_le_mul_right _ him;have hck:row.n*row.k<=row.c*row.k:=Nat.mul_le_mul_right _ hnc;rw [Nat.add_mul]at hik
  have hcp:=aqk (P:=C.P) w T T o.type e row.k (bs ρ) (o1+i*row.k) dl dc sa sl sc cur T' news hu (hsz w) hh (by grind) (λj u hj=>by
   obtain ⟨a',h1,h2⟩:=hsrc w G bs hI hΓ j u hj;rw [hsa]at h1;cases h1;exact h2) (by omega) hone
  have hrun:(execOp a.eval o).run C.P w= .ok (.value (.int .i64 (m:Int))) (w.setRow (bs ρ) (cur.toList.take (o1+i*row.k)++news++cur.toList.drop (o1+i*row.k+news.length)).toArray):=by
   unfold execOp;simp only [ho,resolve,invoke,builtin,Sem.run_bind,Sem.run_pure,Result.andThen_ok,List.map_toArray,List.map_cons,List.map_nil,ac5 hA hx,ac5 hA hy,aif,hoff,hsa,hcp];simp [goInt,hm]
  refine ⟨_,_,(),hrun,G,bs,hA.put hlt' (.v (.int .i64 (m:Int))),?_,hΓ⟩;refine hI.wr hρ hp' hc0 hh hcs ?_ hnc ?_ ?_
  ·grind
  ·grind
  ·rw [<-htk]
   exact akn cur.toList news o1 (i*row.k) (row.n*row.k) (by omega) (by simp;omega)
theorem akm (hI:HInv C w G bs L R)(hσ:look R σ=some src)(j m:Nat)(hjm:j+m<=src.n):
  ∀q u,((src.xs.drop (j*src.k)).take (m*src.k))[q]? =some u->∃a,offP src.p src.c j src.k=some a/\w.cell? (a.add q)=some u:=λq u hq=>by
 have hlen:=(hI.row σ src hσ).1;rw [List.getElem?_take]at hq
 split at hq
 ·rename_i hqm
  have hm0:0<m:=by grind
  obtain ⟨o1,hp,hc0,cur,T,hh,hcs,htk,hnc⟩:=(hI.row σ src hσ).some (by omega);refine ⟨⟨bs σ,o1+j*src.k,none⟩,by unfold offP;rw [if_neg (by omega),hp];simp [Addr.add_lit],?_⟩;rw [Addr.add_lit,cell_of_row w _ _ cur T _ hh]
  grind
 ·cases hq
end Go.Stp
namespace Go.Stp
variable {C : Cx} {ops : Array Oper} {tl : List Nat} {s : List It} {fuel x : Nat} {listed : Array Bool} {env : Env} {L : Locs} {R : Rows} {Γ : Facts} {S : World → Prop} {o : Oper}
def TX (C:Cx)(ops:Array Oper)(tl:List Nat)(s:List It)(S:World->Prop)(fuel:Nat)(listed:Array Bool)(env:Env)(L:Locs)(R:Rows)(Γ:Facts):Prop:=
 (∀w w',Kp emp w w'->S w->S w')->∀a w,Sat C env L R Γ a w->aee C.P ops (cont C s) S tl fuel listed a w
theorem DX.toTX {bs:Nat->Nat}{G0:GH}(k:∀S,TX C ops tl s S fuel listed env L R Γ):DX C ops tl s bs G0 fuel listed env L R Γ:=
 λ_ a w G _ hS=>k _ (λ_ _ hb h=>h.keep hb) a w ⟨G,bs,hS⟩
def TXI (C:Cx)(ops:Array Oper)(tl:List Nat)(s:List It)(S:World->Prop)(fuel:Nat)(listed:Array Bool):Act->World->Prop:=λa w=>(∀w w',Kp emp w w'->S w->S w')->aee C.P ops (cont C s) S tl fuel listed a w
theorem an9 {P:Program}{o:Oper}{a:Act}{next I:Act->World->Prop}{Q:Exit->Act->World->Prop}{r:Result Next}(h:o.upon P a next (Exit.then I Q) r):o.upon P a next Q r:=by
 cases r with
 |ok x w=>cases x<;>exact h
 |halt x w=>cases x<;>exact h
theorem TX.step (hS:∀w w',Kp emp w w'->S w->S w')(hi:ops[x]? =some o)(hp:tl.contains x=true\/am4 o.op=true)
  (kx:WX C (.ops ops [o]:: .iter (TXI C ops tl s S fuel (listed.setIfInBounds x true))::s) env L R Γ) {a:Act} {w:World} (hSat:Sat C env L R Γ a w):
  wpOp C.P ops (cont C s) x (λa' w'=>(tl.contains x=false->S w->S w')/\aee C.P ops (cont C s) S tl fuel (listed.setIfInBounds x true) a' w') a w:=by
 have h:wpOp C.P ops (cont C s) x (TXI C ops tl s S fuel (listed.setIfInBounds x true)) a w:=by
  have h1:wpList C.P ops (Exit.then (TXI C ops tl s S fuel (listed.setIfInBounds x true)) (cont C s)) [o] a w:=kx a w hSat
  unfold wpOp;simp only [hi];unfold wpList at h1
  split at h1
  ·rename_i hw
   rw [if_pos hw];exact h1.imp (λh=>an9 (o:=o) h) id
  ·rename_i hw
   rw [if_neg hw];exact h1
 rcases hp with ht|hp
 ·exact wpOp_mono (λa' w' h'=>⟨λh=>(by grind),h' hS⟩) h
 ·exact wpOp_mono (λa' w' h'=>⟨λ_=>hS _ _ h'.1,h'.2 hS⟩) (amq hi hp h)
def tlB (ops:Array Oper)(tl:List Nat)(x:Nat):Bool:=tl.contains x||atv ops x
theorem ap1 (hi:getO ops.toList x=some o)(h:tlB ops tl x=true):ops[x]? =some o/\(tl.contains x=true\/am4 o.op=true):=by grind [tlB,atv,adh]
theorem TX.one (x:Nat)(hr:Region.ready .any ops listed=[x])(hi:getO ops.toList x=some o)(hp:tlB ops tl x=true)
  (kx:WX C (.ops ops [o]:: .iter (TXI C ops tl s S fuel (listed.setIfInBounds x true))::s) env L R Γ):TX C ops tl s S (fuel+1) listed env L R Γ:=λhS a w hSat=>by
 obtain ⟨h1,h2⟩:=ap1 hi hp;refine ⟨λh=>(by grind),λj hj=>?_⟩
 grind [TX.step]
theorem WX.back (k:TX C ops tl s S fuel listed env L R Γ):WX C (.ops ops []:: .iter (TXI C ops tl s S fuel listed)::s) env L R Γ:=
 λa w hSat hS=>k hS a w hSat
theorem WX.back0 (k:TX C ops tl s S fuel listed env L R Γ):WX C (.iter (TXI C ops tl s S fuel listed)::s) env L R Γ:=
 λa w hSat hS=>k hS a w hSat
theorem TX.tail {rest:List Oper}(is:List Nat)(hr:ake ops.toList is=some rest)(hf:fuel=is.length)(hs:aoe ops tl is listed=true)
  (k:WX C (.ops ops rest::s) env L R Γ):TX C ops tl s S fuel listed env L R Γ:=λhS a w hSat=>by
 subst hf;exact af8 hS is rest listed a w hr hs (k a w hSat)
end Go.Stp
namespace Go.Stp
variable {C : Cx} {ops : Array Oper} {tl : List Nat} {s st : List It} {S : World → Prop} {fuel d : Nat} {listed : Array Bool} {env : Env} {L : Locs} {R : Rows} {Γ : Facts} {o : Oper} {f : Operand} {args : List Operand} {ats : Array TypeId} {g : FuncId} {sf : SV} {svs : List SV} {caps : (Nat → Nat) → List Value} {Q : Prop}
def TS (C:Cx)(ops:Array Oper)(tl:List Nat)(s:List It)(S:World->Prop)(fuel:Nat)(listed:Array Bool)(env:Env)(L:Locs)(R:Rows)(Γ:Facts)(x:Nat):Prop:=
 (∀w w',Kp emp w w'->S w->S w')->∀a w,Sat C env L R Γ a w->wpOp C.P ops (cont C s) x (λa' w'=>(tl.contains x=false->S w->S w')/\aee C.P ops (cont C s) S tl fuel (listed.setIfInBounds x true) a' w') a w
theorem TS.op (x:Nat)(hi:getO ops.toList x=some o)(hp:tlB ops tl x=true)
  (kx:WX C (.ops ops [o]:: .iter (TXI C ops tl s S fuel (listed.setIfInBounds x true))::s) env L R Γ):TS C ops tl s S fuel listed env L R Γ x:=λhS a w hSat=>by
 obtain ⟨h1,h2⟩:=ap1 hi hp
 grind [TX.step]
theorem TX.all1 (x:Nat)(hr:Region.ready .any ops listed=[x])(kx:TS C ops tl s S fuel listed env L R Γ x):TX C ops tl s S (fuel+1) listed env L R Γ:=λhS a w hSat=>by
 refine ⟨λh=>(by grind),λj hj=>?_⟩;rw [hr]at hj;obtain rfl:j=x:=by simpa using hj
 exact kx hS a w hSat
theorem TX.all2 (x y:Nat)(hr:Region.ready .any ops listed=[x,y])(kx:TS C ops tl s S fuel listed env L R Γ x)(ky:TS C ops tl s S fuel listed env L R Γ y):TX C ops tl s S (fuel+1) listed env L R Γ:=λhS a w hSat=>by
 refine ⟨λh=>(by grind),λj hj=>?_⟩;rw [hr]at hj;rcases List.mem_cons.1 hj with rfl|hj
 ·exact kx hS a w hSat
 ·obtain rfl:j=y:=by simpa using hj
  exact ky hS a w hSat
theorem TX.all3 (x y z:Nat)(hr:Region.ready .any ops listed=[x,y,z])(kx:TS C ops tl s S fuel listed env L R Γ x)(ky:TS C ops tl s S fuel listed env L R Γ y)(kz:TS C ops tl s S fuel listed env L R Γ z):TX C ops tl s S (fuel+1) listed env L R Γ:=λhS a w hSat=>by
 refine ⟨λh=>(by grind),λj hj=>?_⟩;rw [hr]at hj;rcases List.mem_cons.1 hj with rfl|hj
 ·exact kx hS a w hSat
 rcases List.mem_cons.1 hj with rfl|hj
 ·exact ky hS a w hSat
 ·obtain rfl:j=z:=by simpa using hj
  exact kz hS a w hSat
theorem TS.callG (i:Nat)
  {Ψ:World->Value->World->Prop} (hi:getO ops.toList i=some o) (hg:gd ops env o=some true) (hd:o.dst=some d) (ho:o.op= .call {callee:= .value f,args:=args.toArray,argTypes:=ats})
  (hf:ev env f=some sf) (hsf:∀bs,conc bs sf= .func (.func g) #[] (caps bs).toArray) (hargs:evs env args=some svs)
  (hc:∀w G bs,HInv C w G bs L R->AllK C.M (hp w) Γ->Does C.P g (svs.map (conc bs)++caps bs).toArray w emp (Ψ w))
  (k:∀a w w' G bs v,(∀w w',Kp emp w w'->S w->S w')->At C.fn.ntmps env bs a->HInv C w G bs L R->AllK C.M G Γ->Kp emp w w'->Ψ w v w'->aee C.P ops (cont C st) S tl fuel (listed.setIfInBounds i true) (a.put (some d) v) w'):TS C ops tl st S fuel listed env L R Γ i:=by
 intro hS a w ⟨G,bs,hA,hI,hΓ⟩;rw [adh]at hi;have hi':ops[i]? =some o:=by simpa using hi
 unfold wpOp;simp only [hi'];rw [if_pos (ad2 hA hg)];refine .inl ?_;unfold Oper.wp;obtain ⟨he,hcalls⟩:=hc w G bs hI (hΓ.mono hI.le);rw [aet he ho (by rw [ac5 hA hf,hsf]) (aeh hA args svs hargs)];simp only [Oper.upon];refine hcalls.mono λe w' ⟨v,hv,hb,hψ⟩=>?_
 grind
theorem TS.callV (i:Nat)
  {c:Value} (hi:getO ops.toList i=some o) (hg:gd ops env o=some true) (hd:o.dst=some d) (hlt:Nat.blt d C.fn.ntmps=true) (ho:o.op= .call {callee:= .value f,args:=args.toArray,argTypes:=ats})
  (hf:ev env f=some sf) (hsf:∀bs,conc bs sf= .func (.func g) #[] (caps bs).toArray) (hargs:evs env args=some svs)
  (hc:∀w G bs,HInv C w G bs L R->AllK C.M (hp w) Γ->Does C.P g (svs.map (conc bs)++caps bs).toArray w emp λv _=>v=c/\Q)
  (k:Q->TX C ops tl st S fuel (listed.setIfInBounds i true) ((d,.v c)::env) L R Γ):TS C ops tl st S fuel listed env L R Γ i:=
 TS.callG (Ψ:=λ_ v _=>v=c/\Q) i hi hg hd ho hf hsf hargs hc λa w w' G bs v hS hA hI hΓ hb ⟨hv,hq⟩=>by
  subst hv;have hI':=(hI.called (acv _) (λ_ _ h=>by cases h) hb (acv _) (λ_ _ h=>by cases h)).1;exact k hq hS _ _ ⟨_,_,hA.put (by simpa [Nat.blt_eq]using hlt) (.v v),hI',hΓ.mono (acq (cut G emp) emp)⟩
theorem TS.callF (i m:Nat)
  {ι:Type} {val val':ι->Value} {gs ds:ι->List MF} {Γ':ι->Facts} (hds:∀i h,Sep h (gs i)->All h (ds i)) (hdk:∀i,∀f∈ds i,f.k= .der) (hi:getO ops.toList i=some o) (hg:gd ops env o=some true) (hd:o.dst=some d) (hlt:Nat.blt d C.fn.ntmps=true) (ho:o.op= .call {callee:= .value f,args:=args.toArray,argTypes:=ats})
  (hf:ev env f=some sf) (hsf:∀bs,conc bs sf= .func (.func g) #[] (caps bs).toArray) (hargs:evs env args=some svs)
  (hc:∀w G bs,HInv C w G bs L R->AllK C.M (hp w) Γ->Does C.P g (svs.map (conc bs)++caps bs).toArray w emp (Post w emp val gs Q))
  (hv:∀i,afb (val i)=some (val' i)) (hΓ':∀i,addF m (ds i++gs i) Γ=some (Γ' i))
  (k:∀j,Q->TX C ops tl st S fuel (listed.setIfInBounds i true) ((d,.v (val' j))::env) L R (Γ' j)):TS C ops tl st S fuel listed env L R Γ i:=
 TS.callG (Ψ:=λw v w'=>Post w emp val gs Q v w') i hi hg hd ho hf hsf hargs hc λa w w' G bs v hS hA hI hΓ hb hv'=>by
  obtain ⟨j,h,rfl,hq,hle1,hdom,hs⟩:=hv';rw [<-afi (hv j)];obtain ⟨hI',hdj⟩:=hI.called (acv _) (λ_ _ h=>by cases h) hb hle1 hdom;exact k j hq hS _ _ ⟨_,_,hA.put (by simpa [Nat.blt_eq]using hlt) (.v _),hI',hΓ.after hdj (λb o hb'=> .inl ((hdom b o hb').elim (Nat.le_trans hI.keep.size) (λh=>absurd rfl h))) hs (hdk j) (hds j h hs) (hΓ' j)⟩
theorem TX.der (m:Nat)(f:MF)(hk:f.k= .der)(h:∀G,AllK C.M G Γ->f.p G)
  (k:TX C ops tl s S fuel listed env L R ((m,f)::Γ)):TX C ops tl s S fuel listed env L R Γ:=λhS a w ⟨G,bs,hA,hI,hΓ⟩=>k hS a w ⟨G,bs,hA,hI,hΓ.der m f hk (h G hΓ)⟩
theorem TS.der {x:Nat}(m:Nat)(f:MF)(hk:f.k= .der)(h:∀G,AllK C.M G Γ->f.p G)
  (k:TS C ops tl s S fuel listed env L R ((m,f)::Γ) x):TS C ops tl s S fuel listed env L R Γ x:=λhS a w ⟨G,bs,hA,hI,hΓ⟩=>k hS a w ⟨G,bs,hA,hI,hΓ.der m f hk (h G hΓ)⟩
end Go.Stp
namespace Go.Stp
open GoT (X k ok sh fa oa)
variable {C : Cx} {ops : Array Oper} {tl : List Nat} {s : List It} {S : World → Prop} {fuel : Nat} {listed : Array Bool} {env : Env} {L : Locs} {R : Rows} {Γ : Facts} {o : Oper} {sv : SV}
def ai7 (C:Cx)(o:Oper)(a:Act)(w:World):Prop:=∀x w',(execOp a.eval o).run C.P w= .ok x w'->(∃v,x= .value v)/\Kp emp w w'
theorem aq9 {C:Cx}{ops:Array Oper}{Q:Exit->Act->World->Prop}{k:Nat}{o:Oper}(ho:ops[k]? =some o){K:Act->World->Prop}{a:Act}{w:World}(hp:ai7 C o a w)(h:wpOp C.P ops Q k K a w):wpOp C.P ops Q k (λa' w'=>Kp emp w w'/\K a' w') a w:=by
 unfold wpOp at h ⊢;simp only [ho]at h ⊢
 split at h
 ·rename_i hw
  rw [if_pos hw];refine h.imp (λh=>?_) id;unfold Oper.wp at h ⊢;generalize hr:(execOp a.eval o).run C.P w=r at h ⊢;cases r with
  |ok x w'=>
   obtain ⟨⟨v,rfl⟩,hk⟩:=hp _ _ hr;exact ⟨hk,h⟩
  |halt x w'=>cases x<;>exact h
 ·grind [Kp.refl]
theorem TX.stepK {x:Nat}(hS:∀w w',Kp emp w w'->S w->S w')(hi:ops[x]? =some o){a:Act}{w:World}(hp:ai7 C o a w)
  (kx:WX C (.ops ops [o]:: .iter (TXI C ops tl s S fuel (listed.setIfInBounds x true))::s) env L R Γ) (hSat:Sat C env L R Γ a w):
  wpOp C.P ops (cont C s) x (λa' w'=>(tl.contains x=false->S w->S w')/\aee C.P ops (cont C s) S tl fuel (listed.setIfInBounds x true) a' w') a w:=by
 have h:wpOp C.P ops (cont C s) x (TXI C ops tl s S fuel (listed.setIfInBounds x true)) a w:=by
  have h1:wpList C.P ops (Exit.then (TXI C ops tl s S fuel (listed.setIfInBounds x true)) (cont C s)) [o] a w:=kx a w hSat
  unfold wpOp;simp only [hi];unfold wpList at h1
  split at h1
  ·rename_i hw
   rw [if_pos hw];exact h1.imp (λh=>an9 (o:=o) h) id
  ·rename_i hw
   rw [if_neg hw];exact h1
 exact wpOp_mono (λa' w' h'=>⟨λ_=>hS _ _ h'.1,h'.2 hS⟩) (aq9 hi hp h)
theorem TS.opK (x:Nat)(hi:getO ops.toList x=some o)(hp:∀a w,Sat C env L R Γ a w->ai7 C o a w)
  (kx:WX C (.ops ops [o]:: .iter (TXI C ops tl s S fuel (listed.setIfInBounds x true))::s) env L R Γ):TS C ops tl s S fuel listed env L R Γ x:=λhS a w hSat=>by grind [adh,TX.stepK,hp]
theorem alx {x y:Operand}{T tx kk by_:Nat}{z:Value}{row:Row}(ρ m:Nat){ι:Type}(news:ι->List Value)(ht:ad6 C.P C.tt)
  (ho:o.op= .call {callee:= .builtin .append,args:= #[x,y],argTypes:= #[T,tx]})
  (hx:ev env x=some (.v (.slice row.p row.n row.c))) (hy:ev env y=some sv) (hap:appO C.tt T=some (kk,by_,z)) (hz:z.cells.size=kk) (hρ:look R ρ=some row) (hkk:row.k=kk)
  (hsrc:∀w G bs,HInv C w G bs L R->AllK C.M G Γ->∃i,Src C.P kk tx (conc bs sv) m (news i) w)
  (hroom:(row.n+m)*by_<=140737488355328) (hmax:row.n+m<=maxLen) (h0:row.c=0):∀a w,Sat C env L R Γ a w->ai7 C o a w:=by
 rintro a w ⟨G,bs,hA,hI,hΓ⟩ v w1 hv;obtain ⟨i,hs⟩:=hsrc w G bs hI hΓ;obtain ⟨ti,e,te,hT,hde,hE,rfl,rfl,rfl,hpos⟩:=afh hap;obtain ⟨p',c',w',b',hrun,hrow,honly,hnew⟩:=agn (ty:=o.type) ht hT hde hE hpos (hI.row ρ row hρ) hkk (.inl hI.keep.size) hI.le hs hmax hroom hz
 have hexec:(execOp a.eval o).run C.P w= .ok (.value (.slice p' (row.n+m) c')) w':=by
  unfold execOp;simp only [ho,resolve,invoke,builtin,Sem.run_bind,Sem.run_pure,Result.andThen_ok,List.map_toArray,List.map_cons,List.map_nil,ac5 hA hx,ac5 hA hy,aif,hrun]
 rw [hexec]at hv;cases hv;exact ⟨⟨_,rfl⟩,honly.os,honly.tape,honly.output,honly.size,λj hj _=>honly.block j hj (λh=>absurd h0 h)⟩
theorem adl {C:Cx}{o:Oper}{env:Env}{L:Locs}{R:Rows}{Γ:Facts}{x y:Operand}{T by_ q c:Nat}{z:Value}{row:Row}{α:Type}[GoT α]{kd:Kd}{p:Option Addr}{l:List α}(ρ ℓ n':Nat)(ht:ad6 C.P C.tt)
  (ho:o.op= .call {callee:= .builtin .append,args:= #[x,y],argTypes:= #[T,T]})
  (hx:ev env x=some (.v (.slice row.p row.n row.c))) (hy:ev env y=some (.v (.slice p q c))) (hq:q=l.length) (hap:appO C.tt T=some (GoT.k α,by_,z)) (hz:z.cells.size=GoT.k α) (hρ:look R ρ=some row) (hkk:row.k=GoT.k α)
  (hℓ:look Γ ℓ=some (MF.rs kd p c l)) (hn:row.n+l.length=n') (hroom:n'*by_<=140737488355328) (hmax:n'<=9223372036854775807) (h0:row.c=0):∀a w,Sat C env L R Γ a w->ai7 C o a w:=by
 subst hn hq;refine alx (ι:=List Value) ρ l.length (λxs=>xs) ht ho hx hy hap hz hρ hkk (λw G bs hI hΓ=>?_) hroom (by simp only [maxLen];omega) h0;obtain ⟨ti,e,te,hT,hde,hE,hks,_⟩:=afh hap;obtain ⟨hu,_⟩:=ht.get hT;rw [hde]at hu;obtain ⟨h1,h2,xs,h4,h5⟩:=(hΓ.get ℓ hℓ:RdSl G p c l);refine ⟨xs,?_⟩;simp only [conc];cases hl:l with
 |nil=>
  subst hl;have hxs:xs=[]:=h5;subst hxs;cases hp:p with
  |none=>exact Src.ofNil w hu c
  |some ad=>exact Src.ofSlice w hu ad 0 c [] (by simp) (λj u h=>by simp at h) (λu h=>by cases h)
 |cons a l'=>
  have hlen:=h5.len;have hpos:=GoT.pos (α:=α);obtain ⟨u,hu0⟩:∃u,xs[0]? =some u:=⟨_,List.getElem?_eq_getElem (by simp_all)⟩;obtain ⟨ad,had,_⟩:=h4 0 u hu0;subst had;rw [<-hl]
  exact Src.ofSlice w hu ad l.length c xs hlen (λj u hj=>by
   obtain ⟨ad',h',hg'⟩:=h4 j u hj;simp at h';subst h';exact hI.le.cell hg') h5.one
theorem adp (ht:ad6 C.P C.tt)(h:al8 C.tt env L o.op=some sv):∀a w,Sat C env L R Γ a w->ai7 C o a w:=by
 rintro a w ⟨G,bs,hA,hI,hΓ⟩ v w1 hv;rw [ag5 ht hA hI h]at hv
 grind [Kp.refl]
end Go.Stp
namespace Go.Stp
variable {b i T : Nat} {o : Obj} {G h : GH} {w : World} {C : Cx} {bs : Nat → Nat} {L : Locs} {R : Rows} {l : Loc} {Γ Γ1 : Facts} {cs : List Value}
def NN (x:Int):Prop:=0<=x/\x<=9223372036854775807
theorem NN.i64 {x:Int}(h:NN x): -9223372036854775808<=x/\x<=9223372036854775807:=⟨by have:=h.1;omega,h.2⟩
open GoT (X k ok sh fa oa)
def sgl (b:Nat)(o:Obj):GH:=λx=>if x=b then some o else none
theorem afk (b:Nat)(o:Obj):sgl b o b=some o:=by simp [sgl]
theorem afj {x:Nat}(o:Obj)(h:x≠b):sgl b o x=none:=by simp [sgl,h]
theorem aiq (h:G b=some o):Le (sgl b o) G:=λx q hx=>by grind [afk,afj]
theorem aep (h:G b=none):Dj (sgl b o) G:=λx=>by grind [afj]
theorem aef (hg:G b=none):cut G h b=none:=by grind [cut]
theorem akf (hg:h b=some o):cut G h b=none:=by grind [cut]
theorem agm.less {M:Nat->Prop}{G':GH}{r:Row}(h:agm M w G b r)(hg:r.c≠0->G b=none->G' b=none):agm M w G' b r:=by
 refine ⟨h.1,?_⟩;rcases h.2 with h0|⟨o,h1,h2,h3,h4⟩
 ·exact .inl h0
 ·grind
def delL:Locs->Nat->Locs
 |[],_=>[]
 |(j,l)::r,i=>(match Nat.beq j i with|true=>delL r i|false=>(j,l)::delL r i)
theorem aft:∀(L:Locs) (i j:Nat),look (delL L i) j=if i=j then none else look L j
 |[],i,j=>by simp [delL,look]
 |(m,l)::r,i,j=>by
  simp only [delL]
  split
  ·rename_i h
   have hm:m=i:=Nat.eq_of_beq_eq_true h;subst hm;rw [aft r,acg]
   grind
  ·rename_i h
   have hm:m≠i:=Nat.ne_of_beq_eq_false h;rw [acg,acg,aft r]
   grind
abbrev lobj (l:Loc):Obj:= .cells l.cs.toArray l.T (0,0)
theorem HInv.drop (hI:HInv C w G bs L R)(hl:look L i=some l):HInv C w (join G (sgl (bs i) (lobj l))) bs (delL L i) R:=by
 obtain ⟨h1,h2,h3⟩:=hI.loc i l hl;have up:∀ {j:Nat} {x:Loc},look (delL L i) j=some x->i≠j/\look L j=some x:=λ{j x} h=>by grind [aft]
 have act:∀ {j:Nat},Acts (delL L i) R j->Acts L R j:=λh=>by
  rcases h with ⟨x,hx⟩|h
  ·exact .inl ⟨x,(up hx).2⟩
  ·exact .inr h
 have none:∀ {j:Nat},i≠j->Acts L R j->G (bs j)=none->join G (sgl (bs i) (lobj l)) (bs j)=none:=λ{j} hij ha hg=>by
  unfold join;rw [hg];exact afj _ (λe=>hI.inj i j hij (.inl ⟨l,hl⟩) ha e.symm)
 refine ⟨hI.keep,ae0 hI.le (aiq h1),λj x hx=>?_,λj r hr=>?_,λj m hjm ha hb=>hI.inj j m hjm (act ha) (act hb),λj x r hx hr=>hI.dis j x r (up hx).2 hr,hI.pin,hI.nr⟩
 ·obtain ⟨hij,hx'⟩:=up hx
  obtain ⟨q1,q2,q3⟩:=hI.loc j x hx';exact ⟨q1,q2,none hij (.inl ⟨x,hx'⟩) q3⟩
 ·exact (hI.row j r hr).less λhc hg=>none (λe=>by subst e;exact hI.dis i l r hl hr) (.inr ⟨r,hr,hc⟩) hg
theorem HInv.take {L':Locs}(hI:HInv C w G bs L R)(hL:∀j,look L' j=if i=j then some l else look L j)(hR:∀r,look R i≠some r)(hg:G (bs i)=some (lobj l))(hM:C.M (bs i)):HInv C w (cut G (sgl (bs i) (lobj l))) bs L' R:=by
 have hcut:∀b,G b=none->cut G (sgl (bs i) (lobj l)) b=none:=λb h=>aef h;have ne:∀ {j:Nat},G (bs j)=none->bs i≠bs j:=λh e=>by grind
 have gn:∀ {j:Nat},Acts L R j->G (bs j)=none:=λ{j} ha=>by
  rcases ha with ⟨x,hx⟩|⟨r,hr,hc⟩
  ·exact (hI.loc j x hx).2.2
  ·rcases (hI.row j r hr).2 with ⟨h0,_⟩|⟨_,_,_,h3,_⟩
   ·grind
   ·exact h3
 have act:∀ {j:Nat},i≠j->Acts L' R j->Acts L R j:=λ{j} hij h=>by
  rcases h with ⟨x,hx⟩|h
  ·rw [hL,if_neg hij]at hx;exact .inl ⟨x,hx⟩
  ·exact .inr h
 refine ⟨hI.keep,(agb _ _).trans hI.le,λj x hx=>?_,λj r hr=>(hI.row j r hr).less λ_ h=>hcut _ h,λj m hjm ha hb=>?_,λj x r hx hr=>?_,hI.pin,hI.nr⟩
 ·rw [hL]at hx
  by_cases hij:i=j
  ·subst hij;simp at hx;subst hx
   exact ⟨hI.le _ _ hg,hM,akf (afk _ _)⟩
  ·simp [hij]at hx
   obtain ⟨q1,q2,q3⟩:=hI.loc j x hx
   grind
 ·by_cases hij:i=j
  ·grind
  ·by_cases him:i=m
   ·grind
   ·exact hI.inj j m hjm (act hij ha) (act him hb)
 ·rw [hL]at hx
  by_cases hij:i=j
  ·grind
  ·simp [hij]at hx;exact hI.dis j x r hx hr
theorem WX.callP {C:Cx}{ops:Array Oper}{o:Oper}{r:List Oper}{s:List It}{env:Env}{L:Locs}{R:Rows}{Γ:Facts}{f:Operand}{args:List Operand}{ats:Array TypeId}{g:FuncId}{sf:SV}{svs:List SV}{caps:(Nat->Nat)->List Value}{T:Nat}{cs:List Value}
    {ι:Type} {val val':ι->Value} {cs':ι->List Value} {gs ds:ι->List MF} {Q:Prop} {d:Nat} {Γ':ι->Facts} (lab n:Nat) (hl:look L lab=some ⟨T,cs⟩) (hds:∀i h,Sep h (gs i)->All h (ds i)) (hdk:∀i,∀f∈ds i,f.k= .der) (hg:gd ops env o=some true) (hd:o.dst=some d) (hlt:Nat.blt d C.fn.ntmps=true) (ho:o.op= .call {callee:= .value f,args:=args.toArray,argTypes:=ats})
    (hf:ev env f=some sf) (hsf:∀bs,conc bs sf= .func (.func g) #[] (caps bs).toArray) (hargs:evs env args=some svs)
    (hc:∀w G bs H,HInv C w G bs L R->Le H (hp w)->Sep H [MF.bx (bs lab) T cs]->AllK C.M (cut (hp w) H) Γ->Does C.P g (svs.map (conc bs)++caps bs).toArray w H (Post w H val (λi=>MF.bx (bs lab) T (cs' i)::gs i) Q))
    (hv:∀i,afb (val i)=some (val' i)) (hΓ':∀i,addF n (ds i++gs i) Γ=some (Γ' i))
    (k:∀i,Q->WX C (.ops ops r::s) ((d,.v (val' i))::env) (setL L lab (cs' i)) R (Γ' i)):WX C (.ops ops (o::r)::s) env L R Γ:=by
  rintro a w ⟨G,bs,hA,hI,hΓ⟩;show wpList C.P ops (cont C s) (o::r) a w;unfold wpList;rw [if_pos (ad2 hA hg)];refine .inl ?_;unfold Oper.wp;obtain ⟨h1,h2,h3⟩:=hI.loc lab _ hl;have hGH:Le G (cut (hp w) (sgl (bs lab) (lobj ⟨T,cs⟩))):=ael hI.le (aep h3).symm;obtain ⟨he,hcalls⟩:=hc w G bs (sgl (bs lab) (lobj ⟨T,cs⟩)) hI (aiq h1) ⟨_,emp,Le.refl _,acv _,(ade _).symm,afk _ _,trivial⟩ (hΓ.mono hGH);rw [aet he ho (by rw [ac5 hA hf,hsf]) (aeh hA args svs hargs)];simp only [Oper.upon]
  refine hcalls.mono λe w' ⟨v,hve,hb,hψ⟩=>?_;subst hve;obtain ⟨i,h,rfl,hq,hle,hdom,ha,hr,a1,a2,a3,a4,a5⟩:=hψ;have a4':ha (bs lab)=some (lobj ⟨T,cs' i⟩):=a4;rw [hd,<-afi (hv i)]
  obtain ⟨hI',hdj⟩:=(hI.drop hl).called (Hc:=sgl (bs lab) (lobj ⟨T,cs⟩)) (ad3 (aep h3).symm) (λb q hx=>by
    by_cases hbb:b=bs lab
    ·grind
    ·rw [afj _ hbb]at hx;cases hx) hb hle hdom
  have hG1:Le G (cut (join G (sgl (bs lab) (lobj ⟨T,cs⟩))) (sgl (bs lab) (lobj ⟨T,cs⟩))):=ael (acq _ _) (aep h3).symm;have hlab:h (bs lab)=some (lobj ⟨T,cs' i⟩):=a1 _ _ a4';have hG2:join (cut (join G (sgl (bs lab) (lobj ⟨T,cs⟩))) (sgl (bs lab) (lobj ⟨T,cs⟩))) h (bs lab)=some (lobj ⟨T,cs' i⟩):=ad3 hdj.symm _ _ hlab
  have hI2:=hI'.take (i:=lab) (l:=⟨T,cs' i⟩) (L':=setL L lab (cs' i)) (λj=>by
    rw [afp,aft]
    by_cases hij:lab=j
    ·grind
    ·simp [hij]) (λr hr'=>hI.dis lab _ r hl hr') hG2 h2
  have hdr:Dj hr G:=hdj.mono a2 hG1
  have hΓ2:=hΓ.after (h:=hr) (n:=n) (ds:=ds i) hdr (λb q hx=>by
    rcases hdom b q (a2 b q hx)with h4|h4
    ·exact .inl (Nat.le_trans hI.keep.size h4)
    ·by_cases hbb:b=bs lab
     ·grind
     ·exact absurd (afj _ hbb) h4) a5 (hdk i) (hds i hr a5) (hΓ' i)
  refine k i hq _ _ ⟨_,bs,hA.put (by simpa [Nat.blt_eq]using hlt) (.v _),hI2,hΓ2.mono (ae0 ?_ ?_)⟩
  ·exact ael (hG1.trans (acq _ _)) (aep h3).symm
  ·refine ael (a2.trans (ad3 hdj.symm)) (aep ?_).symm
   cases hx:hr (bs lab)with
   |none=>rfl
   |some q=>rcases a3 (bs lab)with h5|h5
            ·grind
            ·grind
theorem Post.ofL {ι:Type}{val:ι->Value}{gs:ι->List MF}{Q:Prop}{v:Value}{fs:List MF}(lab:Nat)(ks:List Nat)(i:ι)(hI:HInv C w G bs L R)(hΓ:AllK C.M G Γ)(hl:look L lab=some ⟨T,cs⟩)(hk:af4 ks Γ=some (fs,Γ1))(hv:v=val i)(hf:gs i=MF.bx (bs lab) T cs::fs)(hq:Q):Post C.w0 C.H val gs Q v w:=by
 obtain ⟨H,q1,q2,q3,q4⟩:=aek hk hΓ;obtain ⟨h1,h2,h3⟩:=hI.loc lab _ hl;have hd:Dj (sgl (bs lab) (lobj ⟨T,cs⟩)) H:=(aep h3).mono (Le.refl _) q1;refine ⟨i,join (sgl (bs lab) (lobj ⟨T,cs⟩)) H,hv,hq,ae0 (aiq h1) (q1.trans hI.le),λb o hx=>?_,?_⟩
 ·by_cases hbb:b=bs lab
  ·subst hbb;exact h2
  ·unfold join at hx;rw [afj _ hbb]at hx;exact q2 b o hx
 ·rw [hf]
  exact ⟨_,H,acq _ _,ad3 hd,hd,afk _ _,q3⟩
theorem WX.adopt {s:List It}{env:Env}(d n:Nat)(hsl:look env d=some (.v (.pointer (some ⟨b,0,none⟩))))(hn:afn d env L R=false)(hks:af4 [n] Γ=some ([MF.bx b T cs],Γ1))
  (k:WX C s ((d,.p d 0)::env) ((d,⟨T,cs⟩)::L) R Γ1):WX C s env L R Γ:=by
 rintro a w ⟨G,bs,hA,hI,hΓ⟩;obtain ⟨H,q1,q2,q3,q4⟩:=aek hks hΓ;obtain ⟨h1,_,a1,_,_,a4,_⟩:=q3;have a4':h1 b=some (lobj ⟨T,cs⟩):=a4;have hHb:=a1 _ _ a4';have hGb:=q1 _ _ hHb;obtain ⟨n1,n2,n3,n4⟩:=adm hn;have hnL:∀ {i:Nat} {x:Loc},look L i=some x->i≠d:=λh=>adx n2 h;have hnR:∀ {i:Nat} {x:Row},look R i=some x->i≠d:=λh=>adx n3 h
 have act:∀ {i:Nat},i≠d->Acts ((d,(⟨T,cs⟩:Loc))::L) R i->Acts L R i:=λ{i} hne h=>by
  rcases h with ⟨x,hx⟩|h
  ·rw [acg,if_neg (Ne.symm hne)]at hx;exact .inl ⟨x,hx⟩
  ·exact .inr h
 have gn:∀ {j:Nat},Acts L R j->G (bs j)=none:=λ{j} ha=>by
  rcases ha with ⟨x,hx⟩|⟨r,hr,hc⟩
  ·exact (hI.loc j x hx).2.2
  ·rcases (hI.row j r hr).2 with ⟨h0,_⟩|⟨_,_,_,h3,_⟩
   ·grind
   ·exact h3
 have ne:∀ {j:Nat},Acts L R j->b≠bs j:=λha e=>by grind
 refine k a w ⟨cut G H,λj=>if j=d then b else bs j,?_,⟨hI.keep,(agb _ _).trans hI.le,λi l hl=>?_,λi r hr=>?_,λi j hij hi hj=>?_,λi l r hl hr=>?_,λb' hb'=>by simp only [if_neg (Ne.symm n4)];exact hI.pin b' hb',hI.nr⟩,q4⟩
 ·have hA':=hA.notH (d:=d) (bs':=λj=>if j=d then b else bs j) n1 (λi hi=>if_neg hi)
  refine ⟨hA'.size,hA'.dfr,λe x hx=>?_⟩;rw [acg]at hx
  split at hx
  ·rename_i he;subst he
   simp at hx;subst hx;have:=hA.slot d _ hsl
   grind [conc]
  ·exact hA'.slot e x hx
 ·rw [acg]at hl
  split at hl
  ·rename_i he;subst he
   simp at hl;subst hl;simp only [if_true];exact ⟨hI.le _ _ hGb,q2 _ _ hHb,akf hHb⟩
  ·rename_i he
   obtain ⟨p1,p2,p3⟩:=hI.loc i l hl
   grind [aef]
 ·simp only [if_neg (hnR hr)]
  exact (hI.row i r hr).less λ_ h=>aef h
 ·by_cases hid:i=d
  ·grind
  ·by_cases hjd:j=d
   ·grind
   ·simp only [if_neg hid,if_neg hjd]
    exact hI.inj i j hij (act hid hi) (act hjd hj)
 ·rw [acg,if_neg (Ne.symm (hnR hr))]at hl
  exact hI.dis i l r hl hr
def resQ (env:Env):List ResultVar->Option (List SV)
 |[]=>some []
 | .tmp t::r=>(match look env t with
  |some sv=>(match resQ env r with|some q=>some (sv::q)|none=>none)
  |none=>none)
 | .cell _ _::_=>none
theorem alq {C:Cx}{env:Env}{bs:Nat->Nat}{a:Act}{w:World}(hA:At C.fn.ntmps env bs a):
  ∀(rs:List ResultVar) (ss:List SV),resQ env rs=some ss->
   (rs.mapM (m:=Sem) λ| .tmp t=>pure (a.tmps.getD t undef)| .cell x t=>do loadVar t (<-asAddr (a.tmps.getD x undef))).run C.P w= .ok (ss.map (conc bs)) w
 |[],ss,h=>by simp [resQ]at h;subst h;simp
 | .tmp t::r,ss,h=>by
  simp only [resQ]at h
  split at h
  ·rename_i sv hsv
   split at h
   ·rename_i q hq
    simp only [Option.some.injEq]at h;subst h;have ih:=alq (w:=w) hA r q hq;have hs:=hA.slot t _ hsv
    simp_all
   ·cases h
  ·cases h
 | .cell _ _::_,ss,h=>by simp [resQ]at h
theorem WX.retQ {C:Cx}{s:List It}{env:Env}{L:Locs}{R:Rows}{Γ:Facts}{ss:List SV}(hv:resQ env C.fn.results.toList=some ss)
  (k:∀w G bs,HInv C w G bs L R->AllK C.M G Γ->C.Φ (tup (ss.map (conc bs))) w):WX C (.code .ret::s) env L R Γ:=by
 rintro a w ⟨G,bs,hA,hI,hΓ⟩;show Code.ret.wp C.P (cont C s) a w;refine wp_ret ?_
 have key:∀s:List It,bodyPost C.P C.fn (Ret C.w0 C.H C.Φ) .ret a w->cont C s .ret a w:=by
  intro s h
  induction s with
  |nil=>exact h
  |cons x s ih=>cases x<;>exact ih
 exact key s ⟨hA.dfr,tup (ss.map (conc bs)),ai8 (alq hA _ _ hv),tup (ss.map (conc bs)),rfl,hI.keep,k w G bs hI hΓ⟩
end Go.Stp
namespace Go.Stp
variable {P : Program} {T T' : Nat} {b : BinOp} {f0 f1 f2 : Field} {a0 a1 b0 b1 a2 b2 : Int} {C : Cx} {env : Env} {L : Locs} {R : Rows} {G : GH} {o : Oper} {x y : Operand} {c : Bool} {ti t0 t1 : TI}
theorem aeq {d:Nat}{a b:Int}(w:World)(h:P.underlying T=some (.int .i64)):(Op.equalIn (d+1) T (.int .i64 a) (.int .i64 b)).run P w= .ok (a==b) w:=by simp [Op.equalIn,run_underlying h]
theorem ae4 {cs:Array Value}{off:Nat}{v:Value}(w:World)(h:P.underlying T=some (.int .i64))(hv:cs[off]? =some v):(part T cs off).run P w= .ok v w:=by simp [part,aku h,aggD,hv]
theorem aqf (w : World)(hu : P.underlying T = some (.struct #[f0, f1]))(hs : P.stoodInHeld T = false)(h0 : P.underlying f0.type = some (.int .i64))(h1 : P.underlying f1.type = some (.int .i64))(n0 : f0.name ≠ "_")(n1 : f1.name ≠ "_")(o0 : f0.offset = 0)(o1 : f1.offset = 1) :
  (Op.equal T (.agg #[.int .i64 a0, .int .i64 a1]) (.agg #[.int .i64 b0, .int .i64 b1])).run P w = .ok (bif a0 == b0 then a1 == b1 else false) w := by
 have p0 := ae4 (P := P) (cs := #[.int .i64 a0, .int .i64 a1]) (off := 0) (v := .int .i64 a0) w h0 rfl
 have p1 := ae4 (P := P) (cs := #[.int .i64 a0, .int .i64 a1]) (off := 1) (v := .int .i64 a1) w h1 rfl
 have q0 := ae4 (P := P) (cs := #[.int .i64 b0, .int .i64 b1]) (off := 0) (v := .int .i64 b0) w h0 rfl
 have q1 := ae4 (P := P) (cs := #[.int .i64 b0, .int .i64 b1]) (off := 1) (v := .int .i64 b1) w h1 rfl
 have e0 := aeq (P := P) (d := 9998) (a := a0) (b := b0) w h0
 have e1 := aeq (P := P) (d := 9998) (a := a1) (b := b1) w h1
 unfold Op.equal Op.maxDepth
 rw [Op.equalIn]
 cases h : (a0 == b0) <;> cases k : (a1 == b1) <;> simp [run_underlying hu, hs, n0, n1, o0, o1, p0, p1, q0, q1, e0, e1, h, k]
theorem aqe (w : World)(hu : P.underlying T = some (.struct #[f0, f1, f2]))(hs : P.stoodInHeld T = false)(h0 : P.underlying f0.type = some (.int .i64))(h1 : P.underlying f1.type = some (.int .i64))(h2 : P.underlying f2.type = some (.int .i64))(n0 : f0.name ≠ "_")(n1 : f1.name ≠ "_")(n2 : f2.name ≠ "_")(o0 : f0.offset = 0)(o1 : f1.offset = 1)(o2 : f2.offset = 2) :
  (Op.equal T (.agg #[.int .i64 a0, .int .i64 a1, .int .i64 a2]) (.agg #[.int .i64 b0, .int .i64 b1, .int .i64 b2])).run P w = .ok (bif a0 == b0 then (bif a1 == b1 then a2 == b2 else false) else false) w := by
 have p0 := ae4 (P := P) (cs := #[.int .i64 a0, .int .i64 a1, .int .i64 a2]) (off := 0) (v := .int .i64 a0) w h0 rfl
 have p1 := ae4 (P := P) (cs := #[.int .i64 a0, .int .i64 a1, .int .i64 a2]) (off := 1) (v := .int .i64 a1) w h1 rfl
 have p2 := ae4 (P := P) (cs := #[.int .i64 a0, .int .i64 a1, .int .i64 a2]) (off := 2) (v := .int .i64 a2) w h2 rfl
 have q0 := ae4 (P := P) (cs := #[.int .i64 b0, .int .i64 b1, .int .i64 b2]) (off := 0) (v := .int .i64 b0) w h0 rfl
 have q1 := ae4 (P := P) (cs := #[.int .i64 b0, .int .i64 b1, .int .i64 b2]) (off := 1) (v := .int .i64 b1) w h1 rfl
 have q2 := ae4 (P := P) (cs := #[.int .i64 b0, .int .i64 b1, .int .i64 b2]) (off := 2) (v := .int .i64 b2) w h2 rfl
 have e0 := aeq (P := P) (d := 9998) (a := a0) (b := b0) w h0
 have e1 := aeq (P := P) (d := 9998) (a := a1) (b := b1) w h1
 have e2 := aeq (P := P) (d := 9998) (a := a2) (b := b2) w h2
 unfold Op.equal Op.maxDepth
 rw [Op.equalIn]
 cases h : (a0 == b0) <;> cases k : (a1 == b1) <;> cases m : (a2 == b2) <;> simp [run_underlying hu, hs, n0, n1, n2, o0, o1, o2, p0, p1, p2, q0, q1, q2, e0, e1, e2, h, k, m]
def eqR (b:BinOp)(r:Bool):Option Bool:=match b with| .eql=>some r| .neq=>some (!r)|_=>none
theorem ang {p q:Array Value}{r:Bool}(ho:o.op= .binOp b T x y T')(hG:C.P.eqGuardType C.P.depth T=false)
  (hx:ev env x=some (.v (.agg p))) (hy:ev env y=some (.v (.agg q))) (he:∀w,(Op.equal T (.agg p) (.agg q)).run C.P w= .ok r w) (hq:eqR b r=some c):Looks C env L R G o (.v (.bool c)):=by
 intro a w G' bs _ hA hI
 have hq':(b= .eql/\c=r)\/(b= .neq/\c= !r):=by
  cases b<;>simp only [eqR,Option.some.injEq,reduceCtorEq]at hq
  ·grind
  ·grind
 have hg:∀op,(eqGuard op T x y (.agg p) (.agg q)).run C.P w= .ok () w:=λop=>by
  unfold eqGuard;cases op<;>simp [hG]
 unfold execOp;simp only [ho,ac5 hA hx,ac5 hA hy,conc];rcases hq' with ⟨rfl,rfl⟩|⟨rfl,rfl⟩
 ·simp [hg,binOp,Sem.run_bind,he]
 ·simp [hg,binOp,Sem.run_bind,he]
theorem aqn (ht : ad6 C.P C.tt)(ho : o.op = .binOp b T x y T')(hT : look C.tt T = some ti)(hd : ti.desc = .struct #[f0, f1])(hs : C.P.stoodInHeld T = false)(hG : C.P.eqGuardType C.P.depth T = false)
  (h0 : look C.tt f0.type = some t0) (d0 : t0.desc = .int .i64) (h1 : look C.tt f1.type = some t1) (d1 : t1.desc = .int .i64) (n0 : (f0.name == "_") = false) (n1 : (f1.name == "_") = false) (o0 : f0.offset = 0) (o1 : f1.offset = 1)
  (hx : ev env x = some (.v (.agg ⟨[.int .i64 a0, .int .i64 a1]⟩))) (hy : ev env y = some (.v (.agg ⟨[.int .i64 b0, .int .i64 b1]⟩))) (hq : eqR b (bif a0 == b0 then a1 == b1 else false) = some c) : Looks C env L R G o (.v (.bool c)) := by
 have hu : C.P.underlying T = some (.struct #[f0, f1]) := by rw [<- hd]; exact (ht.get hT).1
 have hu0 : C.P.underlying f0.type = some (.int .i64) := by rw [<- d0]; exact (ht.get h0).1
 have hu1 : C.P.underlying f1.type = some (.int .i64) := by rw [<- d1]; exact (ht.get h1).1
 grind [ang, aqf]
theorem arn {t2 : TI}(ht : ad6 C.P C.tt)(ho : o.op = .binOp b T x y T')(hT : look C.tt T = some ti)(hd : ti.desc = .struct #[f0, f1, f2])(hs : C.P.stoodInHeld T = false)(hG : C.P.eqGuardType C.P.depth T = false)
  (h0 : look C.tt f0.type = some t0) (d0 : t0.desc = .int .i64) (h1 : look C.tt f1.type = some t1) (d1 : t1.desc = .int .i64) (h2 : look C.tt f2.type = some t2) (d2 : t2.desc = .int .i64) (n0 : (f0.name == "_") = false) (n1 : (f1.name == "_") = false) (n2 : (f2.name == "_") = false) (o0 : f0.offset = 0) (o1 : f1.offset = 1) (o2 : f2.offset = 2)
  (hx : ev env x = some (.v (.agg ⟨[.int .i64 a0, .int .i64 a1, .int .i64 a2]⟩))) (hy : ev env y = some (.v (.agg ⟨[.int .i64 b0, .int .i64 b1, .int .i64 b2]⟩))) (hq : eqR b (bif a0 == b0 then (bif a1 == b1 then a2 == b2 else false) else false) = some c) : Looks C env L R G o (.v (.bool c)) := by
 have hu : C.P.underlying T = some (.struct #[f0, f1, f2]) := by rw [<- hd]; exact (ht.get hT).1
 have hu0 : C.P.underlying f0.type = some (.int .i64) := by rw [<- d0]; exact (ht.get h0).1
 have hu1 : C.P.underlying f1.type = some (.int .i64) := by rw [<- d1]; exact (ht.get h1).1
 have hu2 : C.P.underlying f2.type = some (.int .i64) := by rw [<- d2]; exact (ht.get h2).1
 grind [ang, aqe]
end Go.Stp
namespace Go.Stp
open GoT (X k ok sh fa oa)
variable {S D E T : Nat} {ts td te : TI} {C : Cx} {o : Oper} {env : Env} {L : Locs} {R : Rows} {Γ : Facts} {x y : Operand} {s : ByteArray} {G : GH}
theorem RdL.bytes (G:GH):∀(l:List UInt8),RdL G (l.map λb=>Value.int .u8 b.toNat) l
 |[]=>rfl
 |_::l=>⟨(),_,rfl,All.nil,RdL.bytes G l⟩
theorem av9 {P:Program}{tt:TT}(ht:ad6 P tt)(hS:look tt S=some ts)(hSd:ts.desc= .string)(hD:look tt D=some td)(hDd:td.desc= .slice E)(hE:look tt E=some te)(hEd:te.desc= .int .u8)(w:World)(s:ByteArray)(hmax:s.size<=9223372036854775807):
  ∃c w' h,(convert S D (.string s)).run P w= .ok (.slice (some ⟨w.heap.size,0,none⟩) s.size c) w'/\Kp emp w w'/\Le h (hp w')/\(∀x o,h x=some o->w.heap.size<=x)/\RdSl h (some ⟨w.heap.size,0,none⟩) c s.data.toList:=by
 have hu1:P.underlying S=some .string:=by rw [<-hSd];exact (ht.get hS).1
 have hu2:P.underlying D=some (.slice E):=by rw [<-hDd];exact (ht.get hD).1
 have hu3:P.underlying E=some (.int .u8):=by rw [<-hEd];exact (ht.get hE).1
 have hrun:=run_bytes_of_string (P:=P) w S D E s hu1 hu2 hu3;generalize hc:grownCap w s.size 0 E=c at hrun;have hge:s.size<=c:=hc▸grownCap_ge w s.size 0 E;generalize hob:Obj.cells (bytesRow s c) E ((bytesRow s c).size,(bytesRow s c).size+1)=ob at hrun
 have hk:Kp emp w (w.drew.alloc ob):=by
  have h1:Kp emp w w.drew:=⟨rfl,rfl,rfl,Nat.le_refl _,λ_ _ _=>rfl⟩;exact h1.trans ((Kp.refl emp w.drew).alloc _)
 have hat:hp (w.drew.alloc ob) w.heap.size=some ob:=by
  show (w.heap.push ob)[w.heap.size]? =some ob;simp
 refine ⟨c,w.drew.alloc ob,sgl w.heap.size ob,hrun,hk,aiq hat,λx o hx=>?_,hge,hmax,s.data.toList.map (λb=>Value.int .u8 b.toNat),λj u hj=>⟨_,rfl,?_⟩,RdL.bytes _ _⟩
 ·grind [afj]
 ·have hlt:j<s.data.size:=by grind
  subst hob;rw [Addr.add_lit];simp only [gcell,afk,bytesRow]
  grind
theorem WX.toB {ops:Array Oper}{r:List Oper}{st:List It}{d:Nat}(n:Nat)(ht:ad6 C.P C.tt)(hg:gd ops env o=some true)(hd:o.dst=some d)(hlt:Nat.blt d C.fn.ntmps=true)(ho:o.op= .convert S D x)
  (hS:look C.tt S=some ts) (hSd:ts.desc= .string) (hD:look C.tt D=some td) (hDd:td.desc= .slice E) (hE:look C.tt E=some te) (hEd:te.desc= .int .u8) (hx:ev env x=some (.v (.string s))) (hmax:s.size<=9223372036854775807)
  (k:∀p c,WX C (.ops ops r::st) ((d,.v (.slice (some p) (s.data.toList).length c))::env) L R ((n,MF.rs .stb (some p) c s.data.toList)::Γ)):WX C (.ops ops (o::r)::st) env L R Γ:=by
 rintro a w ⟨G,bs,hA,hI,hΓ⟩;show wpList C.P ops (cont C st) (o::r) a w;unfold wpList;rw [if_pos (ad2 hA hg)];refine .inl ?_;unfold Oper.wp;obtain ⟨c,w',h,hrun,hk,hle,hdom,hrd⟩:=av9 ht hS hSd hD hDd hE hEd w s hmax
 have hexec:(execOp a.eval o).run C.P w= .ok (.value (.slice (some ⟨w.heap.size,0,none⟩) s.size c)) w':=by
  unfold execOp;simp only [ho,ac5 hA hx,aif,Sem.run_bind,Sem.run_pure,Result.andThen_ok,hrun]
 rw [hexec];simp only [Oper.upon,hd];obtain ⟨hI',hdj⟩:=hI.called (acv _) (λ_ _ h=>by cases h) hk hle (λb o hb=> .inl (hdom b o hb));refine k _ c _ _ ⟨_,bs,hA.put (by grind [Nat.blt_eq]) (.v _),hI',?_⟩;exact AllK.new (G:=cut G emp) hΓ n (MF.rs .stb _ c s.data.toList) (acq _ _) (ad3 hdj.symm) (λ_=>hdj) (λhk=>by cases hk) hrd
end Go.Stp
namespace Go.Stp
variable {C : Cx} {env : Env} {L : Locs} {R : Rows} {G h : GH} {o : Oper} {x y : Operand} {T c fuel : Nat} {ti : TI} {s : List It} {l : Int} {p : Option Addr} {Γ : Facts} {ops : Array Oper} {tl : List Nat} {S : World → Prop} {listed : Array Bool} {ι : Type}
theorem alb {z:Operand}{s:Str}{h:Int}(m m2:Nat)(ht:ad6 C.P C.tt)(ho:o.op= .slice T x (some y) (some z) none)(hT:look C.tt T=some ti)(hk:ti.desc= .string)
  (hx:ev env x=some (.v (.string s))) (hy:ev env y=some (.v (.int .i64 l))) (hz:ev env z=some (.v (.int .i64 h))) (h0:l=(m:Int)) (h1:h=(m2:Int)) (h2:m<=m2) (h3:m2<=s.size):Looks C env L R G o (.v (.string (s.extract m m2))):=by
 intro a w G' bs _ hA hI;subst h0 h1;have hu:C.P.underlying T=some .string:=by rw [<-hk];exact (ht.get hT).1
 unfold execOp;simp only [ho,Option.map,ac5 hA hx,ac5 hA hy,ac5 hA hz,conc,Sem.run_bind,run_sliceAt_string w T _ _ _ _ hu];simp [Instr.slice,Instr.sliceBounds,run_underlying hu,run_sliceBound,Sem.run_bind,h2,h3]
section
open GoT (k X sh oa)
variable {α : Type} [GoT α]
theorem OwL.take {h:GH}:∀ {xs:List Value} {l:List α} (i:Nat),OwL h xs l->OwL h (xs.take (i*k α)) (l.take i)
 |xs,[],i,e=>by
  have:xs=[]:=e;subst this;simp only [List.take_nil];rfl
 |xs,a::l,0,_=>by simp only [Nat.zero_mul,List.take_zero];rfl
 |xs,a::l,i+1,⟨x,ys,h1,h2,e,q1,q2,q3,q4,q5⟩=>by
  refine ⟨x,ys.take (i*k α),h1,h2,?_,q1,q2,q3,q4,q5.take i⟩;rw [e,Nat.add_mul,Nat.one_mul,List.take_append,GoT.len,List.take_of_length_le (by rw [GoT.len];omega),Nat.add_sub_cancel]
theorem OwL.drop {h:GH}:∀ {xs:List Value} {l:List α} (i:Nat),OwL h xs l->OwL h (xs.drop (i*k α)) (l.drop i)
 |xs,[],i,e=>by
  have:xs=[]:=e;subst this;simp only [List.drop_nil];rfl
 |xs,a::l,0,e=>by simpa using e
 |xs,a::l,i+1,⟨x,ys,h1,h2,e,q1,q2,q3,q4,q5⟩=>by
  have:=(q5.drop i).mono q2;rw [e,Nat.add_mul,Nat.one_mul,List.drop_append,GoT.len,List.drop_eq_nil_of_le (by rw [GoT.len];omega),Nat.add_sub_cancel,List.nil_append];simpa using this
theorem ara {l:List α}(m:Nat)(hm:m<=l.length)(hs:Sep h [MF.os p c l]):Sep h [MF.os (offP p c m (k α)) (c-m) (l.drop m)]:=by
 refine ae6 (?_:OwSl h _ _ (l.drop m));rcases (ag1 hs:OwSl h p c l)with ⟨h1,h2⟩|⟨b,o,T,cur,h',k1,k2,k3,k4,k5,k6,k7,k8⟩
 ·exact .inl ⟨by omega,by grind⟩
 ·by_cases hc:c=m
  ·exact .inl ⟨by omega,List.drop_eq_nil_of_le (by omega)⟩
  ·subst k1
   have h0:m*k α+(c-m)*k α=c*k α:=by rw [<-Nat.add_mul];congr 1;omega
   refine .inr ⟨b,o+m*k α,T,cur,h',by unfold offP;rw [if_neg hc];show some (Addr.add ⟨b,o,none⟩ (m*k α))=_;rw [Addr.add_lit],k2,k3,k4,by rw [List.length_drop];omega,by omega,by omega,?_⟩;have:=k8.drop m
   grind [List.drop_take,List.drop_drop,List.length_drop,Nat.sub_mul]
end
theorem WX.meet {C:Cx}{c:Code}{s:List It}{env:Env}{L:Locs}{R:Rows}{Γ:Facts}{ι:Type}(H:Head ι)(k1:WX C (.code c:: .iter (H.I C 1)::s) env L R Γ)
  (k2:∀i,H.pre i->WX C s (H.env i) (H.L i) (H.R i) (H.Γ i)):WX C (.code c::s) env L R Γ:=by
 intro a w hS;show c.wp C.P (cont C s) a w;intro b kk cs;have hw:c.wp C.P (cont C (.iter (H.I C 1)::s)) a w:=k1 a w hS;obtain ⟨e,a',w',hq,harr⟩:=hw b kk cs;refine ⟨e,a',w',?_,harr⟩;cases e with
 |normal=>
  obtain ⟨i,hp,_,hs⟩:=(hq:H.I C 1 a' w');exact k2 i hp a' w' hs
 |exit id=>exact hq
 |goto l=>exact hq
 |ret=>exact hq
 |panic ch=>exact hq
 |outgrown=>exact hq
theorem TX.use {listed':Array Bool}{H:Head ι}(hN:∀i,H.pre i->TX C ops tl s S fuel listed' (H.env i) (H.L i) (H.R i) (H.Γ i))(i:ι)(hi:H.pre i)(hl:listed'=listed)
  (he:Sub (H.env i) env) (hL:Sub (H.L i) L) (hR:Sub (H.R i) R) (ks:List Nat) (hΓ:ag6 ks Γ=some (H.Γ i)):TX C ops tl s S fuel listed env L R Γ:=by
 subst hl;exact λhS a w h=>hN i hi hS a w (h.sub he hL hR hΓ)
end Go.Stp
namespace Go.Stp
variable {ops : Array Oper} {listed : Array Bool} {i : Nat} {tl : List Nat}
def aew (ops:Array Oper)(listed:Array Bool)(i:Nat):Bool:=
 !listed.getD i true&& (match ops[i]? with|some o=>o.after.all (λe=> !Region.binds .any e||listed.getD e.on false)|none=>false)
section
open GoT (X k ok sh fa oa)
theorem asu {α β:Type}[GoT α][GoT β]{G:GH}{xs:List Value}{l:List α}{a:α}{b:List β}{p:Option Addr}{c:Nat}(hk:k α=1)
  (hsh:∀x:X α,∃q:Option Addr×Nat,sh a x=[.slice q.1 b.length q.2]/\fa .der a x=[MF.rs .der q.1 q.2 b])
  (h:RdL G (xs++[.slice p b.length c]) (l++[a])):RdSl G p c b:=by
 have hl:=h.len;rw [List.length_append,List.length_append,hk]at hl;simp only [List.length_cons,List.length_nil]at hl;obtain ⟨x,h1,h2⟩:=h.get (i:=l.length) (a:=a) (by simp);obtain ⟨q,e1,e2⟩:=hsh x;rw [e1]at h2;rw [e2]at h1;have h3:=h2 0 _ rfl;have e3:l.length*k α+0=xs.length:=by rw [hk];omega
 rw [e3,List.getElem?_append_right (Nat.le_refl _)]at h3;simp only [Nat.sub_self,List.getElem?_cons_zero,Option.some.injEq]at h3;injection h3 with h4 h5 h6;have h7:RdSl G q.1 q.2 b:=h1 _ (List.mem_singleton.2 rfl)
 grind
end
end Go.Stp
namespace Go.Stp
open GoT (X k ok sh fa oa)
variable {C : Cx} {w w' : World} {G G0 : GH} {bs : Nat → Nat} {L L0 L' : Locs} {R : Rows} {b fuel d : Nat} {o : Oper} {ops : Array Oper} {s : List It} {env : Env} {Γ : Facts} {tl : List Nat} {listed : Array Bool} {S : World → Prop} {sv : SV}
def SY (C:Cx)(bs:Nat->Nat)(G0:GH)(L0:Locs)(R:Rows):World->Prop:=λw=>∃G,Le G0 G/\G (bs 999)=none/\HInv C w G bs L0 R
structure YOk (C:Cx) (bs:Nat->Nat) (L0 L:Locs) (R:Rows):Prop where
 act:∀j,Acts L0 R j->bs j≠bs 999
 sub:∀j x,look L0 j=some x->look L j=some x
 lab:∃l,look L 999=some l
theorem HInv.more (hI:HInv C w G bs L R){o:Obj}(hh:w.heap[b]? =some o)(ha:∀j,Acts L R j->bs j≠b):HInv C w (join G (sgl b o)) bs L R:=by
 have none:∀ {j:Nat},Acts L R j->G (bs j)=none->join G (sgl b o) (bs j)=none:=λ{j} h hg=>by grind [join,afj]
 refine ⟨hI.keep,ae0 hI.le (aiq hh),λj x hx=>?_,λj r hr=>?_,hI.inj,hI.dis,hI.pin,hI.nr⟩
 ·obtain ⟨q1,q2,q3⟩:=hI.loc j x hx
  exact ⟨q1,q2,none (.inl ⟨x,hx⟩) q3⟩
 ·exact (hI.row j r hr).less λhc hg=>none (.inr ⟨r,hr,hc⟩) hg
theorem SY.keep (hb:Kp emp w w')(h:SY C bs G0 L0 R w):SY C bs G0 L0 R w':=by obtain ⟨G,hle,hn,hI⟩:=h;refine ⟨join (cut G emp) emp,hle.trans (acq (cut G emp) emp),?_,(hI.called (acv _) (λ_ _ h=>by cases h) hb (acv _) (λ_ _ h=>by cases h)).1⟩;unfold join;rw [aef hn];rfl
theorem SY.cur {o:Obj}(ha:∀j,Acts L0 R j->bs j≠bs 999)(hb:bs 999=b)(hM:C.M b)(hh:w.heap[b]? =some o)(hk:Kp (sgl b o) w w')(h:SY C bs G0 L0 R w):SY C bs G0 L0 R w':=by
 subst hb;obtain ⟨G,hle,hn,hI⟩:=h
 have h1:=((hI.more hh ha).called (Hc:=sgl (bs 999) o) (h:=emp) (ad3 (aep hn).symm) (λb q hx=>by
  by_cases hbb:b=bs 999
  ·grind
  ·rw [afj _ hbb]at hx;cases hx) hk (acv _) (λ_ _ h=>by cases h)).1
 refine ⟨_,hle.trans ((ael (acq _ _) (aep hn).symm).trans (acq _ _)),?_,h1⟩;unfold join;rw [akf (afk _ _)];rfl
theorem SY.of (hy:YOk C bs L0 L R)(hle:Le G0 G)(hI:HInv C w G bs L R):SY C bs G0 L0 R w:=by obtain ⟨l,hl⟩:=hy.lab;exact ⟨G,hle,(hI.loc 999 l hl).2.2,hI.sub hy.sub (Sub.refl _)⟩
def DY (C:Cx)(ops:Array Oper)(tl:List Nat)(s:List It)(bs:Nat->Nat)(G0:GH)(L0:Locs)(fuel:Nat)(listed:Array Bool)(env:Env)(L:Locs)(R:Rows)(Γ:Facts):Prop:=
 YOk C bs L0 L R->Closed ops listed->∀a w G,Le G0 G->SatB C env L R Γ G bs a w->aee C.P ops (cont C s) (SY C bs G0 L0 R) tl fuel listed a w
theorem WX.drawY {id:Nat}{l:Loc}(tl:List Nat)(hm:C.P.follows .mixedOrders=true)(hl:look L 999=some l)
  (k:∀bs G0,AllK C.M G0 Γ->DY C ops tl s bs G0 (delL L 999) ops.size (Array.replicate ops.size false) env L R Γ):WX C (.code (.region id ops true)::s) env L R Γ:=by
 rintro a w ⟨G,bs,hA,hI,hΓ⟩;show (Code.region id ops true).wp C.P (cont C s) a w;have hsub:∀j x,look (delL L 999) j=some x->look L j=some x:=λj x hx=>by grind [aft]
 refine wp_region_any hm (ajb _ _ _ _ (k bs G hΓ ⟨λj hj=>?_,hsub,⟨l,hl⟩⟩ (ajp ops) a _ G (Le.refl _) ⟨hA,hI.drew,hΓ⟩))
 have hne:j≠999:=by
  rintro rfl;rcases hj with ⟨x,hx⟩|⟨r,hr,_⟩
  ·grind [aft]
  ·exact hI.nr r hr
 exact hI.inj j 999 hne (hj.imp (λ⟨x,hx⟩=>⟨x,hsub _ _ hx⟩) (λh=>h)) (.inl ⟨l,hl⟩)
theorem DY.take {C:Cx}{ops:Array Oper}{tl:List Nat}{s:List It}{bs:Nat->Nat}{G0:GH}{L0:Locs}{fuel:Nat}{listed:Array Bool}{env:Env}{L:Locs}{R:Rows}{Γ:Facts}{i d:Nat}{o:Oper}{sv:SV}{b:Bool}(hb:mayB ops tl listed i=true)(hi:ops[i]? =some o)(hd:o.dst=some d)(hlt:d<C.fn.ntmps)
  (hg:gd ops env o=some b) (hl:b=true->Looks C env L0 R G0 o sv) (hu:b=false->sv= .v undef)
  (k:DY C ops tl s bs G0 L0 fuel (listed.setIfInBounds i true) ((d,sv)::env) L R Γ):DY C ops tl s bs G0 L0 (fuel+1) listed env L R Γ:=by
 intro hy hcl a w G hle ⟨hA,hI,hΓ⟩;simp only [mayB,mayP,Bool.and_eq_true,Bool.not_eq_true',List.all_eq_true,Bool.or_eq_true]at hb;obtain ⟨⟨⟨⟨h1,h4⟩,h5⟩,h3⟩,h6⟩:=hb;have hr:i∈Region.ready .any ops listed:=by simpa using h5
 refine ajs hi h3 (Region.noSelect_spec h1) (λc a w h=>(afv C s c _ _ h).elim) fuel listed a w hcl (λj hj hun=>(h6 j hj).resolve_left (by rw [hun];simp)) (Region.free_spec hi h4) hr (v:=conc bs sv) ?_ (SY.of hy hle hI) ?_
 ·cases b with
  |true=>exact .inl ⟨ad2 hA hg,λw' ⟨G',hle',_,hI'⟩=>hl rfl a w' G' bs hle' hA hI'⟩
  |false=>exact .inr ⟨ad2 hA hg,by rw [hu rfl];rfl⟩
 ·rw [hd]
  exact k hy (hcl.set hr) _ _ G hle ⟨hA.put hlt sv,hI,hΓ⟩
theorem DY.takeP {C:Cx}{ops:Array Oper}{tl:List Nat}{s:List It}{bs:Nat->Nat}{G0:GH}{L0:Locs}{fuel:Nat}{listed:Array Bool}{env:Env}{L:Locs}{R:Rows}{Γ:Facts}{i d:Nat}{o:Oper}{sv:SV}{b:Bool}(hb:mayP ops listed i=true)(hi:ops[i]? =some o)(hd:o.dst=some d)(hlt:d<C.fn.ntmps)
  (hg:gd ops env o=some b) (hl:b=true->∀a w bs,At C.fn.ntmps env bs a->(execOp a.eval o).run C.P w= .ok (.value (conc bs sv)) w) (hu:b=false->sv= .v undef)
  (k:DY C ops tl s bs G0 L0 fuel (listed.setIfInBounds i true) ((d,sv)::env) L R Γ):DY C ops tl s bs G0 L0 (fuel+1) listed env L R Γ:=by
 intro hy hcl a w G hle ⟨hA,hI,hΓ⟩;simp only [mayP,Bool.and_eq_true]at hb;obtain ⟨⟨h1,h4⟩,h5⟩:=hb;have hr:i∈Region.ready .any ops listed:=by simpa using h5
 refine afs hi (Region.noSelect_spec h1) (λc a w h=>(afv C s c _ _ h).elim) fuel listed a w (Region.free_spec hi h4) hr (v:=conc bs sv) ?_ ?_
 ·cases b with
  |true=>exact .inl ⟨ad2 hA hg,λw' _=>hl rfl a w' bs hA⟩
  |false=>exact .inr ⟨ad2 hA hg,by rw [hu rfl];rfl⟩
 ·rw [hd]
  exact k hy (hcl.set hr) _ _ G hle ⟨hA.put hlt sv,hI,hΓ⟩
theorem DY.takes {C:Cx}{ops:Array Oper}{tl:List Nat}{s:List It}{bs:Nat->Nat}{G0:GH}{L0:Locs}{L:Locs}{R:Rows}{Γ:Facts}(ht:ad6 C.P C.tt):∀(is:List (Nat×Bool)) {fuel:Nat} {listed:Array Bool} {env env':Env},ai3 ops tl listed is=true->
  ag8 C.tt C.fn.ntmps ops L0 env is=some env'->DY C ops tl s bs G0 L0 fuel (aln listed is) env' L R Γ->DY C ops tl s bs G0 L0 (fuel+is.length) listed env L R Γ
 |[],_,_,_,_,_,h,k=>by simp [ag8]at h;subst h;exact k
 |(i,p)::r,fuel,listed,env,env',hb,h,k=>by
  simp only [ai3,Bool.and_eq_true]at hb;simp only [ag8]at h
  split at h
  ·rename_i o ho
   rw [adh]at ho;have ho':ops[i]? =some o:=by simpa using ho
   split at h
   ·rename_i d hd
    split at h
    ·rename_i hlt
     have hlt':d<C.fn.ntmps:=by simpa [Nat.blt_eq]using hlt
     split at h
     ·rename_i hg
      split at h
      ·rename_i sv hsv
       cases p with
       |true=>exact DY.takeP hb.1 ho' hd hlt' hg (λ_ a w bs' hA=>aha ht w hA hsv) (λh=>by cases h) (DY.takes ht r hb.2 h k)
       |false=>exact DY.take hb.1 ho' hd hlt' hg (λ_ a w G' bs' hle hA hI=>ag5 ht hA hI hsv) (λh=>by cases h) (DY.takes ht r hb.2 h k)
      ·cases h
     ·rename_i hg
      cases p with
      |true=>exact DY.takeP hb.1 ho' hd hlt' hg (λh=>by cases h) (λ_=>rfl) (DY.takes ht r hb.2 h k)
      |false=>exact DY.take hb.1 ho' hd hlt' hg (λh=>by cases h) (λ_=>rfl) (DY.takes ht r hb.2 h k)
     ·cases h
    ·cases h
   ·cases h
  ·cases h
def CurK (C:Cx)(S:World->Prop):Prop:=∀b w w' o,C.pin=some b->C.M b->w.heap[b]? =some o->Kp (sgl b o) w w'->S w->S w'
theorem DY.toTX (k:∀S,CurK C S->TX C ops tl s S fuel listed env L R Γ):DY C ops tl s bs G0 L0 fuel listed env L R Γ:=
 λhy _ a w G _ hS=>k _ (λb _ _ _ hp hM hh hk h=>h.cur hy.act (hS.2.1.pin b hp) hM hh hk) (λ_ _ hb h=>h.keep hb) a w ⟨G,bs,hS⟩
theorem TX.takeP {C:Cx}{ops:Array Oper}{tl:List Nat}{s:List It}{S:World->Prop}{fuel:Nat}{listed:Array Bool}{env:Env}{L:Locs}{R:Rows}{Γ:Facts}{i d:Nat}{o:Oper}{sv:SV}{b:Bool}(hb:mayP ops listed i=true)(hi:ops[i]? =some o)(hd:o.dst=some d)(hlt:d<C.fn.ntmps)
  (hg:gd ops env o=some b) (hl:b=true->∀a w bs,At C.fn.ntmps env bs a->(execOp a.eval o).run C.P w= .ok (.value (conc bs sv)) w) (hu:b=false->sv= .v undef)
  (k:TX C ops tl s S fuel (listed.setIfInBounds i true) ((d,sv)::env) L R Γ):TX C ops tl s S (fuel+1) listed env L R Γ:=by
 intro hS a w ⟨G,bs,hA,hI,hΓ⟩;simp only [mayP,Bool.and_eq_true]at hb;obtain ⟨⟨h1,h4⟩,h5⟩:=hb;have hr:i∈Region.ready .any ops listed:=by simpa using h5
 refine afs hi (Region.noSelect_spec h1) (λc a w h=>(afv C s c _ _ h).elim) fuel listed a w (Region.free_spec hi h4) hr (v:=conc bs sv) ?_ ?_
 ·cases b with
  |true=>exact .inl ⟨ad2 hA hg,λw' _=>hl rfl a w' bs hA⟩
  |false=>exact .inr ⟨ad2 hA hg,by rw [hu rfl];rfl⟩
 ·rw [hd]
  exact k hS _ _ ⟨G,bs,hA.put hlt sv,hI,hΓ⟩
theorem TX.takes {C:Cx}{ops:Array Oper}{tl:List Nat}{s:List It}{S:World->Prop}{L:Locs}{R:Rows}{Γ:Facts}(ht:ad6 C.P C.tt):∀(is:List Nat) {fuel:Nat} {listed:Array Bool} {env env':Env},ai3 ops tl listed (is.map λi=>(i,true))=true->
  ag8 C.tt C.fn.ntmps ops [] env (is.map λi=>(i,true))=some env'->TX C ops tl s S fuel (aln listed (is.map λi=>(i,true))) env' L R Γ->TX C ops tl s S (fuel+is.length) listed env L R Γ
 |[],_,_,_,_,_,h,k=>by simp [ag8]at h;subst h;exact k
 |i::r,fuel,listed,env,env',hb,h,k=>by
  simp only [List.map_cons,ai3,Bool.and_eq_true]at hb;simp only [List.map_cons,ag8]at h
  split at h
  ·rename_i o ho
   rw [adh]at ho;have ho':ops[i]? =some o:=by simpa using ho
   split at h
   ·rename_i d hd
    split at h
    ·rename_i hlt
     have hlt':d<C.fn.ntmps:=by grind [Nat.blt_eq]
     split at h
     ·rename_i hg
      split at h
      ·rename_i sv hsv
       exact TX.takeP hb.1 ho' hd hlt' hg (λ_ a w bs' hA=>aha ht w hA hsv) (λh=>by cases h) (TX.takes ht r hb.2 h k)
      ·cases h
     ·rename_i hg
      exact TX.takeP hb.1 ho' hd hlt' hg (λh=>by cases h) (λ_=>rfl) (TX.takes ht r hb.2 h k)
     ·cases h
    ·cases h
   ·cases h
  ·cases h
theorem TX.seeP (i:Nat)(hb:mayP ops listed i=true)(hi:getO ops.toList i=some o)(hg:gd ops env o=some true)(hd:o.dst=some d)(hlt:Nat.blt d C.fn.ntmps=true)
  (hl:aj0 C env o sv) (k:TX C ops tl s S fuel (listed.setIfInBounds i true) ((d,sv)::env) L R Γ):TX C ops tl s S (fuel+1) listed env L R Γ:=by
 rw [adh]at hi;exact TX.takeP hb (by simpa using hi) hd (by grind [Nat.blt_eq]) hg (λ_ a w bs hA=>hl a w bs hA) (λh=>by cases h) k
theorem TS.peek (i:Nat)(hi:getO ops.toList i=some o)(hg:gd ops env o=some true)(hd:o.dst=some d)(hlt:Nat.blt d C.fn.ntmps=true)
  (k:∀G,AllK C.M G Γ->∃sv Γ',Looks C env L R G o sv/\(AllK C.M G Γ->AllK C.M G Γ')/\TX C ops tl s S fuel (listed.setIfInBounds i true) ((d,sv)::env) L R Γ'):TS C ops tl s S fuel listed env L R Γ i:=by
 intro hS a w ⟨G,bs,hA,hI,hΓ⟩;obtain ⟨sv,Γ',hl,hΓ',hk⟩:=k G hΓ;rw [adh]at hi;have hi':ops[i]? =some o:=by simpa using hi
 unfold wpOp;simp only [hi'];rw [if_pos (ad2 hA hg)];refine .inl ?_;unfold Oper.wp;rw [hl a w G bs (Le.refl _) hA hI];simp only [Oper.upon,hd];exact ⟨λ_ h=>h,hk hS _ _ ⟨G,bs,hA.put (by grind [Nat.blt_eq]) sv,hI,hΓ' hΓ⟩⟩
theorem TS.see (i:Nat)(hi:getO ops.toList i=some o)(hg:gd ops env o=some true)(hd:o.dst=some d)(hlt:Nat.blt d C.fn.ntmps=true)
  (hl:∀G,AllK C.M G Γ->Looks C env L R G o sv) (k:TX C ops tl s S fuel (listed.setIfInBounds i true) ((d,sv)::env) L R Γ):TS C ops tl s S fuel listed env L R Γ i:=
 TS.peek i hi hg hd hlt λG hΓ=>⟨sv,Γ,hl G hΓ,λh=>h,k⟩
theorem TS.callP {C:Cx}{ops:Array Oper}{tl:List Nat}{st:List It}{S:World->Prop}{fuel:Nat}{listed:Array Bool}{env:Env}{L:Locs}{R:Rows}{Γ:Facts}{o:Oper}(hcur:CurK C S)(i:Nat){f:Operand}{args:List Operand}{ats:Array TypeId}{g:FuncId}{sf:SV}{svs:List SV}{caps:(Nat->Nat)->List Value}{T:Nat}{cs:List Value}
    {ι:Type} {val val':ι->Value} {cs':ι->List Value} {gs ds:ι->List MF} {Q:Prop} {d:Nat} {Γ':ι->Facts} (n:Nat) (hpin:∃b,C.pin=some b) (hl:look L 999=some ⟨T,cs⟩) (hds:∀i h,Sep h (gs i)->All h (ds i)) (hdk:∀i,∀f∈ds i,f.k= .der) (hi:getO ops.toList i=some o) (hg:gd ops env o=some true) (hd:o.dst=some d) (hlt:Nat.blt d C.fn.ntmps=true) (ho:o.op= .call {callee:= .value f,args:=args.toArray,argTypes:=ats})
    (hf:ev env f=some sf) (hsf:∀bs,conc bs sf= .func (.func g) #[] (caps bs).toArray) (hargs:evs env args=some svs)
    (hc:∀w G bs H,HInv C w G bs L R->Le H (hp w)->Sep H [MF.bx (bs 999) T cs]->AllK C.M (cut (hp w) H) Γ->Does C.P g (svs.map (conc bs)++caps bs).toArray w H (Post w H val (λi=>MF.bx (bs 999) T (cs' i)::gs i) Q))
    (hv:∀i,afb (val i)=some (val' i)) (hΓ':∀i,addF n (ds i++gs i) Γ=some (Γ' i))
    (k:∀j,Q->TX C ops tl st S fuel (listed.setIfInBounds i true) ((d,.v (val' j))::env) (setL L 999 (cs' j)) R (Γ' j)):TS C ops tl st S fuel listed env L R Γ i:=by
  intro hS a w ⟨G,bs,hA,hI,hΓ⟩;rw [adh]at hi;have hi':ops[i]? =some o:=by simpa using hi
  unfold wpOp;simp only [hi'];rw [if_pos (ad2 hA hg)];refine .inl ?_;unfold Oper.wp;obtain ⟨h1,h2,h3⟩:=hI.loc 999 _ hl;have hGH:Le G (cut (hp w) (sgl (bs 999) (lobj ⟨T,cs⟩))):=ael hI.le (aep h3).symm;obtain ⟨he,hcalls⟩:=hc w G bs (sgl (bs 999) (lobj ⟨T,cs⟩)) hI (aiq h1) ⟨_,emp,Le.refl _,acv _,(ade _).symm,afk _ _,trivial⟩ (hΓ.mono hGH);rw [aet he ho (by rw [ac5 hA hf,hsf]) (aeh hA args svs hargs)];simp only [Oper.upon];refine hcalls.mono λe w' ⟨v,hve,hb,hψ⟩=>?_;subst hve;refine ⟨λ_ hs=>?_,?_⟩
  ·obtain ⟨b,hpb⟩:=hpin
   have:=hI.pin b hpb;subst this;exact hcur _ _ _ _ hpb h2 h1 hb hs
  obtain ⟨j,h,rfl,hq,hle,hdom,ha,hr,a1,a2,a3,a4,a5⟩:=hψ;have a4':ha (bs 999)=some (lobj ⟨T,cs' j⟩):=a4;rw [hd,<-afi (hv j)]
  obtain ⟨hI',hdj⟩:=(hI.drop hl).called (Hc:=sgl (bs 999) (lobj ⟨T,cs⟩)) (ad3 (aep h3).symm) (λb q hx=>by
    by_cases hbb:b=bs 999
    ·grind
    ·rw [afj _ hbb]at hx;cases hx) hb hle hdom
  have hG1:Le G (cut (join G (sgl (bs 999) (lobj ⟨T,cs⟩))) (sgl (bs 999) (lobj ⟨T,cs⟩))):=ael (acq _ _) (aep h3).symm;have hlab:h (bs 999)=some (lobj ⟨T,cs' j⟩):=a1 _ _ a4';have hG2:join (cut (join G (sgl (bs 999) (lobj ⟨T,cs⟩))) (sgl (bs 999) (lobj ⟨T,cs⟩))) h (bs 999)=some (lobj ⟨T,cs' j⟩):=ad3 hdj.symm _ _ hlab
  have hI2:=hI'.take (i:=999) (l:=⟨T,cs' j⟩) (L':=setL L 999 (cs' j)) (λx=>by
    rw [afp,aft]
    by_cases hij:999=x
    ·grind
    ·simp [hij]) (λr hr'=>hI.dis 999 _ r hl hr') hG2 h2
  have hdr:Dj hr G:=hdj.mono a2 hG1
  have hΓ2:=hΓ.after (h:=hr) (n:=n) (ds:=ds j) hdr (λb q hx=>by
    rcases hdom b q (a2 b q hx)with h4|h4
    ·exact .inl (Nat.le_trans hI.keep.size h4)
    ·by_cases hbb:b=bs 999
     ·grind
     ·exact absurd (afj _ hbb) h4) a5 (hdk j) (hds j hr a5) (hΓ' j)
  refine k j hq hS _ _ ⟨_,bs,hA.put (by simpa [Nat.blt_eq]using hlt) (.v _),hI2,hΓ2.mono (ae0 ?_ ?_)⟩
  ·exact ael (hG1.trans (acq _ _)) (aep h3).symm
  ·refine ael (a2.trans (ad3 hdj.symm)) (aep ?_).symm
   cases hx:hr (bs 999)with
   |none=>rfl
   |some q=>rcases a3 (bs 999)with h5|h5
            ·grind
            ·grind
def ao2:List Value->Nat->Nat->Option (Nat×List Value)
 | .slice p n c::r,0,m=>some (n,.slice p m c::r)
 |v::r,o+1,m=>(match ao2 r o m with
  |some (n,q)=>some (n,v::q)
  |none=>none)
 |_,_,_=>none
theorem api:∀ {l:List Value}{o m n:Nat}{q:List Value},ao2 l o m=some (n,q)->n=m->q=l
 |[],0,_,_,_,h,_=>by simp [ao2]at h
 |[],_+1,_,_,_,h,_=>by simp [ao2]at h
 |v::r,o+1,m,n,q,h,e=>by
  cases v<;>simp only [ao2]at h<;>split at h<;>first|(rename_i n' q' h';cases h;rw [api h' e])|cases h
 |v::r,0,m,n,q,h,e=>by
  cases v<;>simp only [ao2]at h<;>first|(cases h;rw [e])|cases h
def ar6:Locs->Nat->Nat->Nat->Option (Nat×Locs)
 |[],_,_,_=>none
 |(i,l)::r,b,o,m=>(match Nat.beq i b with
  |true=>(match ao2 l.cs o m with
   |some (n,q)=>some (n,(i,⟨l.T,q⟩)::r)
   |none=>none)
  |false=>(match ar6 r b o m with
   |some (n,q)=>some (n,(i,l)::q)
   |none=>none))
theorem apq:∀ {L:Locs}{b o m n:Nat}{L':Locs},ar6 L b o m=some (n,L')->n=m->L'=L
 |[],_,_,_,_,_,h,_=>by simp [ar6]at h
 |(i,l)::r,b,o,m,n,L',h,e=>by
  simp only [ar6]at h
  split at h
  ·split at h
   ·rename_i n' q' h'
    cases h;rw [api h' e]
   ·cases h
  ·split at h
   ·rename_i n' q' h'
    cases h;rw [apq h' e]
   ·cases h
theorem WX.lsl {n:Nat}(b o m:Nat)(h:ar6 L b o m=some (n,L'))(e:n=m)(k:WX C s env L' R Γ):WX C s env L R Γ:=(apq h e)▸k
end Go.Stp
namespace Go.Stp
open GoT (X k ok sh fa oa)
variable {l : Loc} {i j d fuel c T kk : Nat} {ops : Array Oper} {listed : Array Bool} {D : Nat → Option Nat} {y x sv sf : SV} {v : Value} {C : Cx} {G : GH} {bs : Nat → Nat} {L : Locs} {R : Rows} {a : Act} {tl : List Nat} {s st : List It} {S : World → Prop} {env e0 : Env} {Γ : Facts} {o : Oper} {f : Operand} {args : List Operand} {ats : Array TypeId} {g : FuncId} {svs : List SV} {caps : (Nat → Nat) → List Value} {Q : Prop} {cs : List Value} {parts : Array (Nat × Operand)} {α : Type} {kd : Kd}
structure PI where
 j:Nat
 d:Nat
 obj:Obj
 val:Nat->Value
 env:Env:=[]
variable {P : List PI}
def PIok (C:Cx)(ops:Array Oper)(it:PI):Prop:=
 ∃o,ops[it.j]? =some o/\gd ops [] o=some true/\o.dst=some it.d/\it.d<C.fn.ntmps/\∀(a:Act) (w:World) (bs:Nat->Nat),At C.fn.ntmps it.env bs a->(execOp a.eval o).run C.P w= .ok (.value (it.val w.heap.size)) (w.alloc it.obj)
structure POk (C:Cx) (ops:Array Oper) (listed:Array Bool) (env:Env) (P:List PI):Prop where
 ok:∀it∈P,PIok C ops it
 free:∀it∈P,look env it.d=none
 sub:∀it∈P,Sub it.env env
 rdy:∀it∈P,aew ops listed it.j=true
 dis:P.Pairwise (λx y=>x.j≠y.j/\x.d≠y.d)
def ae1 (listed:Array Bool)(D:Nat->Option Nat):List PI->Array Bool
 |[]=>listed
 |it::P=>match D it.j with
  |some _=>(ae1 listed D P).setIfInBounds it.j true
  |none=>ae1 listed D P
def left (D:Nat->Option Nat):List PI->Nat
 |[]=>0
 |it::P=>match D it.j with
  |some _=>left D P
  |none=>left D P+1
def upd (D:Nat->Option Nat)(j b:Nat):Nat->Option Nat:=λi=>if i=j then some b else D i
theorem aml {l:Array Bool}:(l.setIfInBounds i true).getD i true=true:=by simp_all
theorem ajw {listed:Array Bool}{D:Nat->Option Nat}{i:Nat}:∀ {P:List PI},(ae1 listed D P).getD i true=false->listed.getD i true=false/\∀it∈P,it.j=i->D i=none
 |[],h=>⟨h,λ_ h=>by cases h⟩
 |it::P,h=>by
  unfold ae1 at h
  split at h
  ·rename_i b hb
   by_cases hi:it.j=i
   ·grind [aml]
   ·rw [getD_set_ne true hi]at h
    obtain ⟨h1,h2⟩:=ajw h
    grind
  ·rename_i hb
   obtain ⟨h1,h2⟩:=ajw h
   grind
theorem ahu {listed:Array Bool}{D:Nat->Option Nat}{i:Nat}(h:listed.getD i false=true):∀ {P:List PI},(ae1 listed D P).getD i false=true
 |[]=>h
 |it::P=>by
  unfold ae1
  split
  ·exact getD_set_true (ahu h)
  ·exact ahu h
theorem ak0 {listed:Array Bool}{D:Nat->Option Nat}{i:Nat}(x:Bool):∀ {P:List PI},(∀it∈P,it.j≠i)->(ae1 listed D P).getD i x=listed.getD i x
 |[],_=>rfl
 |it::P,h=>by
  unfold ae1
  split
  ·rw [getD_set_ne x (h it List.mem_cons_self)];exact ak0 x λy hy=>h y (List.mem_cons_of_mem _ hy)
  ·exact ak0 x λy hy=>h y (List.mem_cons_of_mem _ hy)
theorem ahb {listed:Array Bool}{D:Nat->Option Nat}{y:Nat}:∀ {P:List PI},(∀it∈P,it.j≠y)->ae1 (listed.setIfInBounds y true) D P=(ae1 listed D P).setIfInBounds y true
 |[],_=>rfl
 |it::P,h=>by
  unfold ae1
  split
  ·rw [ahb λx hx=>h x (List.mem_cons_of_mem _ hx)];grind
  ·exact ahb λx hx=>h x (List.mem_cons_of_mem _ hx)
theorem aib {listed:Array Bool}{D D':Nat->Option Nat}:∀ {P:List PI},(∀it∈P,D' it.j=D it.j)->ae1 listed D' P=ae1 listed D P/\left D' P=left D P
 |[],_=>⟨rfl,rfl⟩
 |it::P,h=>by
  obtain ⟨h1,h2⟩:=aib (listed:=listed) (P:=P) λx hx=>h x (List.mem_cons_of_mem _ hx);unfold ae1 left
  grind
theorem al1 {listed:Array Bool}{D:Nat->Option Nat}{it:PI}{b:Nat}(hD:D it.j=none):∀ {P:List PI},P.Pairwise (λx y=>x.j≠y.j/\x.d≠y.d)->it∈P->ae1 listed (upd D it.j b) P=(ae1 listed D P).setIfInBounds it.j true/\left D P=left (upd D it.j b) P+1
 |[],_,h=>by cases h
 |x::P,hd,h=>by
  rw [List.pairwise_cons]at hd;rcases List.mem_cons.1 h with rfl|h
  ·grind [aib,upd,ae1,left]
  ·obtain ⟨h1,h2⟩:=al1 (listed:=listed) hD hd.2 h
   have h3:upd D it.j b x.j=D x.j:=if_neg (hd.1 it h).1;unfold ae1 left;rw [h3,h1]
   grind
def aun (ops:Array Oper)(listed:Array Bool)(P:List PI)(i:Nat):Bool:=
 match ops[i]? with
 |some o=>o.after.any λe=>Region.binds .any e&& !listed.getD e.on false&&P.all λit=> !Nat.beq it.j e.on
 |none=>true
def aij (ops:Array Oper)(listed:Array Bool)(P P':List PI)(y:Nat):Bool:=
 (List.range ops.size).all λi=>Nat.beq i y||listed.getD i true||(P.any λit=>Nat.beq it.j i)||aun ops listed P' i
theorem amw {P':List PI}{y:Nat}(hn:aij ops listed P P' y=true)(hD:ae1 listed D P=ae1 listed D P')(hr:i∈Region.ready .any ops (ae1 listed D P)):i=y\/∃it∈P,it.j=i/\D it.j=none:=by
 obtain ⟨hun,o,ho,hall⟩:=mem_ready.1 hr;obtain ⟨u1,u2⟩:=ajw hun;have h1:=List.all_eq_true.1 hn i (List.mem_range.2 (Array.getElem?_eq_some_iff.1 ho).1);simp only [Bool.or_eq_true]at h1;rcases h1 with ((h1|h1)|h1)|h1
 ·exact .inl (Nat.eq_of_beq_eq_true h1)
 ·grind
 ·grind [List.any_eq_true.1,Nat.eq_of_beq_eq_true]
 ·exfalso
  unfold aun at h1;rw [ho]at h1;obtain ⟨e,he,hb⟩:=Array.any_eq_true'.1 h1;simp only [Bool.and_eq_true,Bool.not_eq_true',List.all_eq_true]at hb;have h2:=hall e he hb.1.1;rw [hD,ak0 false λit hit h=>by have:=hb.2 it hit;rw [h]at this;simp at this]at h2
  grind
theorem amp {ops:Array Oper}{listed:Array Bool}{D:Nat->Option Nat}{P:List PI}{y:Nat}(hy:aew ops listed y=true)(hP:∀it∈P,it.j=y->D it.j=none):y∈Region.ready .any ops (ae1 listed D P):=by
 have h:=hy;unfold aew at h;cases ho:ops[y]? with
 |none=>simp [ho]at h
 |some o=>
  simp only [ho,Bool.and_eq_true,Bool.not_eq_true']at h;refine mem_ready.2 ⟨?_,o,ho,λe he hb=>?_⟩
  ·have key:∀ {P:List PI},(∀it∈P,it.j=y->D it.j=none)->(ae1 listed D P).getD y true=listed.getD y true:=by
    intro P
    induction P with
    |nil=>exact λ_=>rfl
    |cons it P ih=>
     intro hP;have ih:=ih λx hx=>hP x (List.mem_cons_of_mem _ hx);unfold ae1
     split
     ·rename_i b hb
      by_cases he:it.j=y
      ·grind
      ·rw [getD_set_ne true he];exact ih
     ·exact ih
   grind
  ·grind [Array.all_eq_true_iff_forall_mem.1,ahu]
theorem aoh {α:Type}{R:α->α->Prop}(hs:∀x y,R x y->R y x):∀ {l:List α},l.Pairwise R->∀x∈l,∀y∈l,x=y\/R x y
 |[],_,x,hx,_,_=>by cases hx
 |z::l,h,x,hx,y,hy=>by
  rw [List.pairwise_cons]at h;rcases List.mem_cons.1 hx with e1|h1<;>rcases List.mem_cons.1 hy with e2|h2
  ·grind
  ·grind
  ·grind
  ·exact aoh hs h.2 x h1 y h2
theorem am9 {l:Array Value}{x:Value}(h:i≠j):(l.setIfInBounds i v).getD j x=l.getD j x:=by simp [Array.getD_eq_getD_getElem?,h]
def Fr (C:Cx)(w:World)(G:GH)(bs:Nat->Nat)(L:Locs)(R:Rows)(a:Act)(D:Nat->Option Nat)(P:List PI):Prop:=
 ∀it∈P,∀b,D it.j=some b->a.tmps.getD it.d undef=it.val b/\w.heap[b]? =some it.obj/\C.w0.heap.size<=b/\G b=none/\(∀i,Acts L R i->bs i≠b)/\(∀it'∈P,∀b',D it'.j=some b'->it'.j≠it.j->b'≠b)
def SatD (C:Cx)(env:Env)(L:Locs)(R:Rows)(Γ:Facts)(a:Act)(w:World)(D:Nat->Option Nat)(P:List PI):Prop:=
 ∃G bs,At C.fn.ntmps env bs a/\HInv C w G bs L R/\AllK C.M G Γ/\Fr C w G bs L R a D P
def TXP (C:Cx)(ops:Array Oper)(tl:List Nat)(s:List It)(S:World->Prop)(P:List PI)(fuel:Nat)(listed:Array Bool)(env:Env)(L:Locs)(R:Rows)(Γ:Facts):Prop:=
 (∀w w',Kp emp w w'->S w->S w')->POk C ops listed env P->∀D a w,SatD C env L R Γ a w D P->aee C.P ops (cont C s) S tl (fuel+left D P) (ae1 listed D P) a w
theorem Fr.keep {w w':World}{G' Hc:GH}{L':Locs}(h:Fr C w G bs L R a D P)(hb:Kp Hc w w')(hc:∀b,G b=none->(∀i,Acts L R i->bs i≠b)->Hc b=none)(hG:∀b,G b=none->b<w.heap.size->(∀i,Acts L R i->bs i≠b)->G' b=none)(hL:∀i,Acts L' R i->Acts L R i)(hd:∀it∈P,it.d≠d):Fr C w' G' bs L' R (a.put (some d) v) D P:=by
 intro it hit b hD;obtain ⟨h1,h2,h3,h4,h5,h6⟩:=h it hit b hD;have hlt:b<w.heap.size:=(Array.getElem?_eq_some_iff.1 h2).1;refine ⟨?_,?_,h3,hG b h4 hlt h5,λi hi=>h5 i (hL i hi),h6⟩
 ·show (a.tmps.setIfInBounds d v).getD it.d undef=_
  rw [am9 (Ne.symm (hd it hit))];exact h1
 ·rw [hb.block b hlt (hc b h4 h5)];exact h2
theorem avm {C:Cx}{ops:Array Oper}{listed:Array Bool}{env:Env}{L:Locs}{R:Rows}{Γ:Facts}{P:List PI}{it:PI}{D:Nat->Option Nat}{Q:Exit->Act->World->Prop}{a:Act}{w:World}(hP:POk C ops listed env P)(hit:it∈P)(hS:SatD C env L R Γ a w D P):
  wpOp C.P ops Q it.j (λa' w'=>Kp emp w w'/\∃b,SatD C env L R Γ a' w' (upd D it.j b) P) a w:=by
 obtain ⟨G,bs,hA,hI,hΓ,hF⟩:=hS;obtain ⟨o,ho,hg,hd,hlt,hx⟩:=hP.ok it hit;unfold wpOp;simp only [ho];rw [if_pos (ad2 (env:=[]) (bs:=bs) ⟨hA.size,hA.dfr,λ_ _ h=>by simp [look]at h⟩ hg)];refine .inl ?_;unfold Oper.wp;rw [hx a w bs ⟨hA.size,hA.dfr,λd s h=>hA.slot d s (hP.sub it hit d s h)⟩];simp only [Oper.upon,hd];have hk:Kp emp w (w.alloc it.obj):=(Kp.refl emp w).alloc _
 refine ⟨hk,w.heap.size,join (cut G emp) emp,bs,⟨?_,hA.dfr,λe x hex=>?_⟩,(hI.called (acv _) (λ_ _ h=>by cases h) hk (acv _) (λ_ _ h=>by cases h)).1,hΓ.mono (acq (cut G emp) emp),?_⟩
 ·show (a.tmps.setIfInBounds _ _).size=_
  rw [Array.size_setIfInBounds];exact hA.size
 ·show (a.tmps.setIfInBounds it.d _).getD e undef=_
  have hne:it.d≠e:=λh=>by subst h;rw [hP.free it hit]at hex;cases hex
  rw [am9 hne];exact hA.slot e x hex
 ·have hGn:∀b,G b=none->join (cut G emp) emp b=none:=λb h=>by unfold join;rw [aef h];rfl
  have hlt':∀i,Acts L R i->bs i<w.heap.size:=by
   intro i h;rcases h with ⟨x,hx⟩|⟨r,hr,hc⟩
   ·exact (Array.getElem?_eq_some_iff.1 (hI.loc i x hx).1).1
   ·rcases (hI.row i r hr).2 with ⟨h0,_⟩|⟨_,_,_,_,_,_,cur,T,hh,_⟩
    ·grind
    ·grind
  have hGs:G w.heap.size=none:=by
   cases hg':G w.heap.size with
   |none=>rfl
   |some q=>have:=hI.le.lt hg';omega
  intro x hx b hb
  by_cases hj:x.j=it.j
  ·have hxi:x=it:=(aoh (λ_ _ h=>⟨Ne.symm h.1,Ne.symm h.2⟩) hP.dis x hx it hit).resolve_right λh=>h.1 hj
   subst hxi;have hb':w.heap.size=b:=by grind [upd]
   subst hb';refine ⟨?_,heap_alloc_new w _,hI.keep.size,hGn _ hGs,λi hi=>Nat.ne_of_lt (hlt' i hi),λy hy b' hb' hne=>?_⟩
   ·show (a.tmps.setIfInBounds x.d _).getD x.d undef=_
    rw [Array.getD_eq_getD_getElem?];simp [hA.size,hlt]
   ·have h2:upd D x.j w.heap.size y.j=D y.j:=if_neg hne
    rw [h2]at hb';have:=(Array.getElem?_eq_some_iff.1 (hF y hy b' hb').2.1).1;omega
  ·have h2:upd D it.j w.heap.size x.j=D x.j:=if_neg hj
   rw [h2]at hb;obtain ⟨q1,q2,q3,q4,q5,q6⟩:=hF x hx b hb;have hlt2:b<w.heap.size:=(Array.getElem?_eq_some_iff.1 q2).1;have hxd:it.d≠x.d:=λh=>(aoh (λ_ _ h=>⟨Ne.symm h.1,Ne.symm h.2⟩) hP.dis x hx it hit).elim (λe=>hj (by rw [e])) (λe=>e.2 h.symm);refine ⟨?_,by rw [hk.block b hlt2 rfl];exact q2,q3,hGn _ q4,q5,λy hy b' hb' hne=>?_⟩
   ·show (a.tmps.setIfInBounds it.d _).getD x.d undef=_
    rw [am9 hxd];exact q1
   ·grind [upd]
theorem TXP.core {C:Cx}{ops:Array Oper}{tl:List Nat}{s:List It}{S:World->Prop}{P:List PI}{fuel y:Nat}{listed:Array Bool}{env:Env}{L:Locs}{R:Rows}{Γ:Facts}(hS:∀w w',Kp emp w w'->S w->S w')(hP:POk C ops listed env P)(ok:(Nat->Option Nat)->Prop)
  (hn:∀D,ok D->∀i∈Region.ready .any ops (ae1 listed D P),i=y\/∃it∈P,it.j=i/\D it.j=none) (hne:∀D,ok D->Region.ready .any ops (ae1 listed D P)≠ [])
  (stop:∀D a w,¬ok D->SatD C env L R Γ a w D P->aee C.P ops (cont C s) S tl (fuel+left D P) (ae1 listed D P) a w)
  (step:∀D a w,ok D->SatD C env L R Γ a w D P->y∈Region.ready .any ops (ae1 listed D P)->∃f,fuel+left D P=f+1/\wpOp C.P ops (cont C s) y (λa' w'=>(tl.contains y=false->S w->S w')/\aee C.P ops (cont C s) S tl f ((ae1 listed D P).setIfInBounds y true) a' w') a w):
  ∀n D a w,left D P=n->SatD C env L R Γ a w D P->aee C.P ops (cont C s) S tl (fuel+left D P) (ae1 listed D P) a w:=by
 intro n
 induction n with
 |zero=>
  intro D a w hn0 hSat
  by_cases hok:ok D
  ·have hnone:∀it∈P,D it.j≠none:=λit hit h=>by have:=(al1 (listed:=listed) (b:=0) h hP.dis hit).2;omega
   have hy:y∈Region.ready .any ops (ae1 listed D P):=by
    cases hr:Region.ready .any ops (ae1 listed D P)with
    |nil=>exact absurd hr (hne D hok)
    |cons i r=>
     rcases hn D hok i (by grind)with rfl|⟨it,hit,_,h⟩
     ·grind
     ·grind
   obtain ⟨f,hf,hs⟩:=step D a w hok hSat hy;rw [hf];refine ⟨λh=>absurd h (hne D hok),λi hi=>?_⟩
   grind
  ·grind
 |succ n ih=>
  intro D a w hn0 hSat
  by_cases hok:ok D
  ·have hf:fuel+left D P=(fuel+n)+1:=by omega
   rw [hf];refine ⟨λh=>absurd h (hne D hok),λi hi=>?_⟩;rcases hn D hok i hi with rfl|⟨it,hit,rfl,h⟩
   ·grind
   ·refine wpOp_mono (λa' w' ⟨hk,b,hSat'⟩=>⟨λ_ h=>hS _ _ hk h,?_⟩) (avm (Q:=cont C s) hP hit hSat)
    obtain ⟨e1,e2⟩:=al1 (listed:=listed) (b:=b) h hP.dis hit
    grind
  ·grind
theorem TX.toP (k:TXP C ops tl s S [] fuel listed env L R Γ):TX C ops tl s S fuel listed env L R Γ:=λhS a w ⟨G,bs,hA,hI,hΓ⟩=>
 k hS ⟨(λ_ h=>by cases h),(λ_ h=>by cases h),(λ_ h=>by cases h),(λ_ h=>by cases h),.nil⟩ (λ_=>none) a w ⟨G,bs,hA,hI,hΓ,λ_ h=>by cases h⟩
theorem TXP.done (k:TX C ops tl s S fuel listed env L R Γ):TXP C ops tl s S [] fuel listed env L R Γ:=λhS _ _ a w ⟨G,bs,hA,hI,hΓ,_⟩=>k hS a w ⟨G,bs,hA,hI,hΓ⟩
def amn (d:Nat)(e:Env):Bool:=e.all λx=> !Nat.beq x.1 d
def afz (P:List PI)(j d:Nat):Bool:=P.all λit=> !Nat.beq it.j j&& !Nat.beq it.d d&&amn d it.env
theorem aeo (h:afz P j d=true):∀it∈P,it.j≠j/\it.d≠d:=λit hit=>by
 have:=List.all_eq_true.1 h it hit
 grind [Nat.ne_of_beq_eq_false]
theorem aqd (h:afz P j d=true):∀it∈P,amn d it.env=true:=λit hit=>by
 have:=List.all_eq_true.1 h it hit
 grind
theorem an8 {e:Env}(h:amn d e=true)(hs:Sub e env):Sub e ((d,sv)::env):=λi x hx=>by
 have h1:=List.all_eq_true.1 h (i,x) (aj6 hx);simp only [Bool.not_eq_true']at h1;rw [acg,if_neg (Ne.symm (Nat.ne_of_beq_eq_false h1))];exact hs i x hx
theorem TXP.pend (it:PI)(hok:PIok C ops it)(hsb:Sub it.env env)(hf:look env it.d=none)(hr:aew ops listed it.j=true)(hd:afz P it.j it.d=true)
  (k:TXP C ops tl s S (it::P) fuel listed env L R Γ):TXP C ops tl s S P (fuel+1) listed env L R Γ:=by
 intro hS hP D a w ⟨G,bs,hA,hI,hΓ,hF⟩;have hdd:=aeo hd
 let D':Nat->Option Nat:=λi=>if i=it.j then none else D i
 have hD0:D' it.j=none:=if_pos rfl;have hD1:∀x∈P,D' x.j=D x.j:=λx hx=>if_neg (hdd x hx).1;obtain ⟨e1,e2⟩:=aib (listed:=listed) hD1;have key:=k hS ⟨λx hx=>(List.mem_cons.1 hx).elim (λe=>e▸hok) (hP.ok x),λx hx=>(List.mem_cons.1 hx).elim (λe=>e▸hf) (hP.free x),λx hx=>(List.mem_cons.1 hx).elim (λe=>e▸hsb) (hP.sub x),λx hx=>(List.mem_cons.1 hx).elim (λe=>e▸hr) (hP.rdy x),List.pairwise_cons.2 ⟨λx hx=>⟨Ne.symm (hdd x hx).1,Ne.symm (hdd x hx).2⟩,hP.dis⟩⟩ D' a w ⟨G,bs,hA,hI,hΓ,λx hx b hb=>?_⟩
 ·grind [ae1,left]
 ·rcases List.mem_cons.1 hx with e|hx
  ·grind
  ·rw [hD1 x hx]at hb
   obtain ⟨q1,q2,q3,q4,q5,q6⟩:=hF x hx b hb
   grind
theorem akt {ops:Array Oper}{listed:Array Bool}{i j:Nat}(h:aew ops listed j=true)(hij:j≠i):aew ops (listed.setIfInBounds i true) j=true:=by
 unfold aew at h ⊢;rw [getD_set_ne true (Ne.symm hij)];cases ho:ops[j]? with
 |none=>simp [ho]at h
 |some o=>
  simp only [ho,Bool.and_eq_true]at h ⊢;refine ⟨h.1,Array.all_eq_true_iff_forall_mem.2 λe he=>?_⟩;have:=Array.all_eq_true_iff_forall_mem.1 h.2 e he;simp only [Bool.or_eq_true]at this ⊢;exact this.imp id getD_set_true
theorem ao8 (h:i∈Region.ready .any ops listed)(hP:∀it∈P,it.j≠i):i∈Region.ready .any ops (ae1 listed D P):=by obtain ⟨hun,o,ho,hall⟩:=mem_ready.1 h;exact mem_ready.2 ⟨by rw [ak0 true hP];exact hun,o,ho,λe he hb=>ahu (hall e he hb)⟩
theorem POk.step (hP:POk C ops listed env P)(ha:afz P i d=true):POk C ops (listed.setIfInBounds i true) ((d,sv)::env) P:=
 have h:=aeo ha
 ⟨hP.ok,λx hx=>by rw [acg,if_neg (Ne.symm (h x hx).2)];exact hP.free x hx,λx hx=>an8 (aqd ha x hx) (hP.sub x hx),λx hx=>akt (hP.rdy x hx) (h x hx).1,hP.dis⟩
theorem TXP.takeP {C:Cx}{ops:Array Oper}{tl:List Nat}{s:List It}{S:World->Prop}{P:List PI}{fuel:Nat}{listed:Array Bool}{env:Env}{L:Locs}{R:Rows}{Γ:Facts}{i d:Nat}{o:Oper}{sv:SV}{b:Bool}(hb:mayP ops listed i=true)(hi:ops[i]? =some o)(hd:o.dst=some d)(hlt:d<C.fn.ntmps)(ha:afz P i d=true)
  (hg:gd ops env o=some b) (hl:b=true->∀a w bs,At C.fn.ntmps env bs a->(execOp a.eval o).run C.P w= .ok (.value (conc bs sv)) w) (hu:b=false->sv= .v undef)
  (k:TXP C ops tl s S P fuel (listed.setIfInBounds i true) ((d,sv)::env) L R Γ):TXP C ops tl s S P (fuel+1) listed env L R Γ:=by
 intro hS hP D a w ⟨G,bs,hA,hI,hΓ,hF⟩;have hap:=aeo ha;simp only [mayP,Bool.and_eq_true]at hb;obtain ⟨⟨h1,h4⟩,h5⟩:=hb;have hr:i∈Region.ready .any ops (ae1 listed D P):=ao8 (by simpa using h5) λit hit=>(hap it hit).1;rw [show fuel+1+left D P=(fuel+left D P)+1 by omega];refine afs hi (Region.noSelect_spec h1) (λc a w h=>(afv C s c _ _ h).elim) (fuel+left D P) (ae1 listed D P) a w (λj oj hj hne hun hno=>Region.free_spec hi h4 j oj hj hne (ajw hun).1 hno) hr (v:=conc bs sv) ?_ ?_
 ·cases b with
  |true=>exact .inl ⟨ad2 hA hg,λw' _=>hl rfl a w' bs hA⟩
  |false=>exact .inr ⟨ad2 hA hg,by rw [hu rfl];rfl⟩
 ·rw [hd,<-ahb λit hit=>(hap it hit).1]
  refine k hS (hP.step ha) D _ _ ⟨G,bs,hA.put hlt sv,hI,hΓ,λx hx b hb=>?_⟩;obtain ⟨q1,q⟩:=hF x hx b hb;exact ⟨by rw [<-q1];exact am9 (Ne.symm (hap x hx).2),q⟩
def auo (ops:Array Oper)(P:List PI)(is:List Nat):Bool:=is.all λi=>match getO ops.toList i with|some o=>(match o.dst with|some d=>afz P i d|none=>false)|none=>false
theorem TXP.takes {C:Cx}{ops:Array Oper}{tl:List Nat}{s:List It}{S:World->Prop}{P:List PI}{L:Locs}{R:Rows}{Γ:Facts}(ht:ad6 C.P C.tt):∀(is:List Nat) {fuel:Nat} {listed:Array Bool} {env env':Env},auo ops P is=true->ai3 ops tl listed (is.map λi=>(i,true))=true->
  ag8 C.tt C.fn.ntmps ops [] env (is.map λi=>(i,true))=some env'->TXP C ops tl s S P fuel (aln listed (is.map λi=>(i,true))) env' L R Γ->TXP C ops tl s S P (fuel+is.length) listed env L R Γ
 |[],_,_,_,_,_,_,h,k=>by simp [ag8]at h;subst h;exact k
 |i::r,fuel,listed,env,env',ha,hb,h,k=>by
  simp only [auo,List.all_cons,Bool.and_eq_true]at ha;simp only [List.map_cons,ai3,Bool.and_eq_true]at hb;simp only [List.map_cons,ag8]at h
  split at h
  ·rename_i o ho
   simp only [ho]at ha;rw [adh]at ho;have ho':ops[i]? =some o:=by simpa using ho
   split at h
   ·rename_i d hd
    simp only [hd]at ha
    split at h
    ·rename_i hlt
     have hlt':d<C.fn.ntmps:=by grind [Nat.blt_eq]
     split at h
     ·rename_i hg
      split at h
      ·rename_i sv hsv
       exact TXP.takeP hb.1 ho' hd hlt' ha.1 hg (λ_ a w bs' hA=>aha ht w hA hsv) (λh=>by cases h) (TXP.takes ht r ha.2 hb.2 h k)
      ·cases h
     ·rename_i hg
      exact TXP.takeP hb.1 ho' hd hlt' ha.1 hg (λh=>by cases h) (λ_=>rfl) (TXP.takes ht r ha.2 hb.2 h k)
     ·cases h
    ·cases h
   ·cases h
  ·cases h
theorem TXP.seeP (i:Nat)(hb:mayP ops listed i=true)(hi:getO ops.toList i=some o)(hg:gd ops env o=some true)(hd:o.dst=some d)(hlt:Nat.blt d C.fn.ntmps=true)(ha:afz P i d=true)
  (hl:aj0 C env o sv) (k:TXP C ops tl s S P fuel (listed.setIfInBounds i true) ((d,sv)::env) L R Γ):TXP C ops tl s S P (fuel+1) listed env L R Γ:=by
 rw [adh]at hi;exact TXP.takeP hb (by simpa using hi) hd (by grind [Nat.blt_eq]) ha hg (λ_ a w bs hA=>hl a w bs hA) (λh=>by cases h) k
theorem TXP.next (hn:aij ops listed P P i=true)(hr:aew ops listed i=true)(ha:afz P i d=true)
  (step:(∀w w',Kp emp w w'->S w->S w')->POk C ops listed env P->∀D a w,SatD C env L R Γ a w D P->wpOp C.P ops (cont C s) i (λa' w'=>(tl.contains i=false->S w->S w')/\aee C.P ops (cont C s) S tl (fuel+left D P) (ae1 (listed.setIfInBounds i true) D P) a' w') a w):TXP C ops tl s S P (fuel+1) listed env L R Γ:=by
 intro hS hP D a w hSat
 have hap:=aeo ha;have hin:∀D,i∈Region.ready .any ops (ae1 listed D P):=λD=>amp hr λit hit h=>absurd h (hap it hit).1;refine TXP.core (y:=i) hS hP (λ_=>True) (λD _ j hj=>amw hn rfl hj) (λD _ h=>by grind) (λ_ _ _ h=>absurd trivial h) (λD a w _ hSat _=>⟨fuel+left D P,by omega,?_⟩) _ D a w rfl hSat
 grind [ahb]
theorem TXP.callG (i:Nat)
  {Ψ:World->Value->World->Prop} (hn:aij ops listed P P i=true) (hr:aew ops listed i=true) (ha:afz P i d=true) (hi:getO ops.toList i=some o) (hg:gd ops env o=some true) (hd:o.dst=some d) (ho:o.op= .call {callee:= .value f,args:=args.toArray,argTypes:=ats})
  (hf:ev env f=some sf) (hsf:∀bs,conc bs sf= .func (.func g) #[] (caps bs).toArray) (hargs:evs env args=some svs)
  (hc:∀w G bs,HInv C w G bs L R->AllK C.M (hp w) Γ->Does C.P g (svs.map (conc bs)++caps bs).toArray w emp (Ψ w))
  (k:∀a w w' G bs v D,(∀w w',Kp emp w w'->S w->S w')->POk C ops listed env P->At C.fn.ntmps env bs a->HInv C w G bs L R->AllK C.M G Γ->Fr C w G bs L R a D P->Kp emp w w'->Ψ w v w'->aee C.P ops (cont C st) S tl (fuel+left D P) (ae1 (listed.setIfInBounds i true) D P) (a.put (some d) v) w'):TXP C ops tl st S P (fuel+1) listed env L R Γ:=by
 refine TXP.next (d:=d) hn hr ha λhS hP D a w ⟨G,bs,hA,hI,hΓ,hF⟩=>?_;rw [adh]at hi;have hi':ops[i]? =some o:=by simpa using hi
 unfold wpOp;simp only [hi'];rw [if_pos (ad2 hA hg)];refine .inl ?_;unfold Oper.wp;obtain ⟨he,hcalls⟩:=hc w G bs hI (hΓ.mono hI.le);rw [aet he ho (by rw [ac5 hA hf,hsf]) (aeh hA args svs hargs)];simp only [Oper.upon];refine hcalls.mono λe w' ⟨v,hv,hb,hψ⟩=>?_
 grind
theorem agq {h:GH}{b:Nat}(h1:G b=none)(h2:h b=none):join G h b=none:=by grind [join]
theorem TXP.callV (i:Nat)
  {c:Value} (hn:aij ops listed P P i=true) (hr:aew ops listed i=true) (hi:getO ops.toList i=some o) (hg:gd ops env o=some true) (hd:o.dst=some d) (ha:afz P i d=true) (hlt:Nat.blt d C.fn.ntmps=true) (ho:o.op= .call {callee:= .value f,args:=args.toArray,argTypes:=ats})
  (hf:ev env f=some sf) (hsf:∀bs,conc bs sf= .func (.func g) #[] (caps bs).toArray) (hargs:evs env args=some svs)
  (hc:∀w G bs,HInv C w G bs L R->AllK C.M (hp w) Γ->Does C.P g (svs.map (conc bs)++caps bs).toArray w emp λv _=>v=c/\Q)
  (k:Q->TXP C ops tl st S P fuel (listed.setIfInBounds i true) ((d,.v c)::env) L R Γ):TXP C ops tl st S P (fuel+1) listed env L R Γ:=
 TXP.callG (Ψ:=λ_ v _=>v=c/\Q) i hn hr ha hi hg hd ho hf hsf hargs hc λa w w' G bs v D hS hP hA hI hΓ hF hb ⟨hv,hq⟩=>by
  subst hv;have hI':=(hI.called (acv _) (λ_ _ h=>by cases h) hb (acv _) (λ_ _ h=>by cases h)).1;exact k hq hS (hP.step ha) D _ _ ⟨_,bs,hA.put (by simpa [Nat.blt_eq]using hlt) (.v v),hI',hΓ.mono (acq (cut G emp) emp),hF.keep hb (λ_ _ _=>rfl) (λb h _ _=>agq (aef h) rfl) (λ_ h=>h) λit hit=>(aeo ha it hit).2⟩
theorem TXP.callF {C:Cx}{ops:Array Oper}{tl:List Nat}{st:List It}{S:World->Prop}{P:List PI}{fuel:Nat}{listed:Array Bool}{env:Env}{L:Locs}{R:Rows}{Γ:Facts}{o:Oper}(i m:Nat){f:Operand}{args:List Operand}{ats:Array TypeId}{g:FuncId}{sf:SV}{svs:List SV}{caps:(Nat->Nat)->List Value}
    {ι:Type} {val val':ι->Value} {gs ds:ι->List MF} {Q:Prop} {d:Nat} {Γ':ι->Facts} (hds:∀i h,Sep h (gs i)->All h (ds i)) (hdk:∀i,∀f∈ds i,f.k= .der) (hn:aij ops listed P P i=true) (hr:aew ops listed i=true) (hi:getO ops.toList i=some o) (hg:gd ops env o=some true) (hd:o.dst=some d) (ha:afz P i d=true) (hlt:Nat.blt d C.fn.ntmps=true) (ho:o.op= .call {callee:= .value f,args:=args.toArray,argTypes:=ats})
    (hf:ev env f=some sf) (hsf:∀bs,conc bs sf= .func (.func g) #[] (caps bs).toArray) (hargs:evs env args=some svs)
    (hc:∀w G bs,HInv C w G bs L R->AllK C.M (hp w) Γ->Does C.P g (svs.map (conc bs)++caps bs).toArray w emp (Post w emp val gs Q))
    (hv:∀i,afb (val i)=some (val' i)) (hΓ':∀i,addF m (ds i++gs i) Γ=some (Γ' i))
    (k:∀j,Q->TXP C ops tl st S P fuel (listed.setIfInBounds i true) ((d,.v (val' j))::env) L R (Γ' j)):TXP C ops tl st S P (fuel+1) listed env L R Γ:=
  TXP.callG (Ψ:=λw v w'=>Post w emp val gs Q v w') i hn hr ha hi hg hd ho hf hsf hargs hc λa w w' G bs v D hS hP hA hI hΓ hF hb hv'=>by
    obtain ⟨j,h,rfl,hq,hle1,hdom,hs⟩:=hv';rw [<-afi (hv j)];obtain ⟨hI',hdj⟩:=hI.called (acv _) (λ_ _ h=>by cases h) hb hle1 hdom;refine k j hq hS (hP.step ha) D _ _ ⟨_,bs,hA.put (by simpa [Nat.blt_eq]using hlt) (.v _),hI',hΓ.after hdj (λb o hb'=> .inl ((hdom b o hb').elim (Nat.le_trans hI.keep.size) (λh=>absurd rfl h))) hs (hdk j) (hds j h hs) (hΓ' j),hF.keep hb (λ_ _ _=>rfl) (λb h1 h2 _=>agq (aef h1) ?_) (λ_ h=>h) λit hit=>(aeo ha it hit).2⟩;cases hx:h b with
    |none=>rfl
    |some q=>rcases hdom b q hx with h3|h3
             ·omega
             ·exact absurd rfl h3
theorem asy {C:Cx}{w w':World}{G:GH}{bs:Nat->Nat}{L:Locs}{R:Rows}{Γ:Facts}{T:Nat}{cs:List Value}{ι:Type}{val val':ι->Value}{cs':ι->List Value}{gs ds:ι->List MF}{Q:Prop}{Γ':ι->Facts}{v:Value}(n:Nat)(hI:HInv C w G bs L R)(hΓ:AllK C.M G Γ)(hl:look L 999=some ⟨T,cs⟩)(hds:∀i h,Sep h (gs i)->All h (ds i))(hdk:∀i,∀f∈ds i,f.k= .der)
    (hv:∀i,afb (val i)=some (val' i)) (hΓ':∀i,addF n (ds i++gs i) Γ=some (Γ' i)) (hb:Kp (sgl (bs 999) (lobj ⟨T,cs⟩)) w w') (hψ:Post w (sgl (bs 999) (lobj ⟨T,cs⟩)) val (λi=>MF.bx (bs 999) T (cs' i)::gs i) Q v w'):
    ∃j G2,Q/\v=val' j/\HInv C w' G2 bs (setL L 999 (cs' j)) R/\AllK C.M G2 (Γ' j)/\∀b,G b=none->b<w.heap.size->bs 999≠b->G2 b=none:=by
  obtain ⟨h1,h2,h3⟩:=hI.loc 999 _ hl;obtain ⟨j,h,rfl,hq,hle,hdom,ha,hr,a1,a2,a3,a4,a5⟩:=hψ;have a4':ha (bs 999)=some (lobj ⟨T,cs' j⟩):=a4
  obtain ⟨hI',hdj⟩:=(hI.drop hl).called (Hc:=sgl (bs 999) (lobj ⟨T,cs⟩)) (ad3 (aep h3).symm) (λb q hx=>by
    by_cases hbb:b=bs 999
    ·grind
    ·rw [afj _ hbb]at hx;cases hx) hb hle hdom
  have hG1:Le G (cut (join G (sgl (bs 999) (lobj ⟨T,cs⟩))) (sgl (bs 999) (lobj ⟨T,cs⟩))):=ael (acq _ _) (aep h3).symm;have hlab:h (bs 999)=some (lobj ⟨T,cs' j⟩):=a1 _ _ a4';have hG2:join (cut (join G (sgl (bs 999) (lobj ⟨T,cs⟩))) (sgl (bs 999) (lobj ⟨T,cs⟩))) h (bs 999)=some (lobj ⟨T,cs' j⟩):=ad3 hdj.symm _ _ hlab
  have hI2:=hI'.take (i:=999) (l:=⟨T,cs' j⟩) (L':=setL L 999 (cs' j)) (λx=>by
    rw [afp,aft]
    by_cases hij:999=x
    ·grind
    ·simp [hij]) (λr hr'=>hI.dis 999 _ r hl hr') hG2 h2
  have hdr:Dj hr G:=hdj.mono a2 hG1
  have hΓ2:=hΓ.after (h:=hr) (n:=n) (ds:=ds j) hdr (λb q hx=>by
    rcases hdom b q (a2 b q hx)with h4|h4
    ·exact .inl (Nat.le_trans hI.keep.size h4)
    ·by_cases hbb:b=bs 999
     ·grind
     ·exact absurd (afj _ hbb) h4) a5 (hdk j) (hds j hr a5) (hΓ' j)
  refine ⟨j,_,hq,(afi (hv j)).symm,hI2,hΓ2.mono (ae0 ?_ ?_),λb hgb hlt hne=>?_⟩
  ·exact ael (hG1.trans (acq _ _)) (aep h3).symm
  ·refine ael (a2.trans (ad3 hdj.symm)) (aep ?_).symm
   cases hx:hr (bs 999)with
   |none=>rfl
   |some q=>rcases a3 (bs 999)with h5|h5
            ·grind
            ·grind
  ·refine aef (agq (aef (agq hgb (afj _ (Ne.symm hne)))) ?_)
   cases hx:h b with
   |none=>rfl
   |some q=>rcases hdom b q hx with h4|h4
            ·omega
            ·grind [afj]
theorem TXP.callP (hcur:CurK C S)(i:Nat)
  {ι:Type} {val val':ι->Value} {cs':ι->List Value} {gs ds:ι->List MF} {Γ':ι->Facts} (n:Nat) (hpin:∃b,C.pin=some b) (hl:look L 999=some ⟨T,cs⟩) (hds:∀i h,Sep h (gs i)->All h (ds i)) (hdk:∀i,∀f∈ds i,f.k= .der) (hn:aij ops listed P P i=true) (hr:aew ops listed i=true) (hi:getO ops.toList i=some o) (hg:gd ops env o=some true) (hd:o.dst=some d) (ha:afz P i d=true) (hlt:Nat.blt d C.fn.ntmps=true) (ho:o.op= .call {callee:= .value f,args:=args.toArray,argTypes:=ats})
  (hf:ev env f=some sf) (hsf:∀bs,conc bs sf= .func (.func g) #[] (caps bs).toArray) (hargs:evs env args=some svs)
  (hc:∀w G bs H,HInv C w G bs L R->Le H (hp w)->Sep H [MF.bx (bs 999) T cs]->AllK C.M (cut (hp w) H) Γ->Does C.P g (svs.map (conc bs)++caps bs).toArray w H (Post w H val (λi=>MF.bx (bs 999) T (cs' i)::gs i) Q))
  (hv:∀i,afb (val i)=some (val' i)) (hΓ':∀i,addF n (ds i++gs i) Γ=some (Γ' i))
  (k:∀j,Q->TXP C ops tl st S P fuel (listed.setIfInBounds i true) ((d,.v (val' j))::env) (setL L 999 (cs' j)) R (Γ' j)):TXP C ops tl st S P (fuel+1) listed env L R Γ:=by
 refine TXP.next (d:=d) hn hr ha λhS hP D a w ⟨G,bs,hA,hI,hΓ,hF⟩=>?_;rw [adh]at hi;have hi':ops[i]? =some o:=by simpa using hi
 unfold wpOp;simp only [hi'];rw [if_pos (ad2 hA hg)];refine .inl ?_;unfold Oper.wp;obtain ⟨h1,h2,h3⟩:=hI.loc 999 _ hl;have hGH:Le G (cut (hp w) (sgl (bs 999) (lobj ⟨T,cs⟩))):=ael hI.le (aep h3).symm;obtain ⟨he,hcalls⟩:=hc w G bs (sgl (bs 999) (lobj ⟨T,cs⟩)) hI (aiq h1) ⟨_,emp,Le.refl _,acv _,(ade _).symm,afk _ _,trivial⟩ (hΓ.mono hGH);rw [aet he ho (by rw [ac5 hA hf,hsf]) (aeh hA args svs hargs)];simp only [Oper.upon];refine hcalls.mono λe w' ⟨v,hve,hb,hψ⟩=>?_;subst hve;rw [hd]
 refine ⟨λ_ hs=>?_,?_⟩
 ·obtain ⟨b,hpb⟩:=hpin
  have:=hI.pin b hpb;subst this;exact hcur _ _ _ _ hpb h2 h1 hb hs
 obtain ⟨j,G2,hq,rfl,hI2,hΓ2,hGn⟩:=asy n hI hΓ hl hds hdk hv hΓ' hb hψ;have hact:Acts L R 999:= .inl ⟨_,hl⟩;refine k j hq hS (hP.step ha) D _ _ ⟨G2,bs,hA.put (by simpa [Nat.blt_eq]using hlt) (.v _),hI2,hΓ2,hF.keep hb (λb hgb hx=>afj _ (Ne.symm (hx 999 hact))) (λb hgb hlt hx=>hGn b hgb hlt (hx 999 hact)) (λx hx=>?_) λit hit=>(aeo ha it hit).2⟩;rcases hx with ⟨y,hy⟩|hx
 ·rw [afp]at hy
  by_cases h9:999=x
  ·grind
  ·rw [if_neg h9]at hy;exact .inl ⟨y,hy⟩
 ·exact .inr hx
def getP:List PI->Nat->Option PI
 |[],_=>none
 |it::_,0=>some it
 |_::P,k+1=>getP P k
def rmP:List PI->Nat->List PI
 |[],_=>[]
 |_::P,0=>P
 |it::P,k+1=>it::rmP P k
theorem aer {it x:PI}:∀ {P:List PI} {k:Nat},x∈rmP P k->x∈P
 |[],_,h=>h
 |_::P,0,h=>List.mem_cons_of_mem _ h
 |y::P,k+1,h=>(List.mem_cons.1 h).elim (λe=>e▸List.mem_cons_self) λh=>List.mem_cons_of_mem _ (aer (it:=it) h)
theorem aiz {it:PI}:∀ {P:List PI} {k:Nat},getP P k=some it->it∈P
 |[],_,h=>by cases h
 |_::P,0,h=>by cases h;grind
 |y::P,k+1,h=>List.mem_cons_of_mem _ (aiz h)
theorem aph {P:List PI}(h:P.Pairwise (λx y=>x.j≠y.j/\x.d≠y.d)):∀ {k:Nat} {it:PI},getP P k=some it->(rmP P k).Pairwise (λx y=>x.j≠y.j/\x.d≠y.d)/\∀x∈rmP P k,x.j≠it.j/\x.d≠it.d:=by
 induction P with
 |nil=>exact λh=>by cases h
 |cons y P ih=>
  intro k it hk;rw [List.pairwise_cons]at h;cases k with
  |zero=>cases hk;exact ⟨h.2,λx hx=>⟨Ne.symm (h.1 x hx).1,Ne.symm (h.1 x hx).2⟩⟩
  |succ k=>
   obtain ⟨i1,i2⟩:=ih h.2 hk;refine ⟨List.pairwise_cons.2 ⟨λx hx=>h.1 x (aer (it:=it) hx),i1⟩,λx hx=>?_⟩;rcases List.mem_cons.1 hx with rfl|hx
   ·exact h.1 it (aiz hk)
   ·exact i2 x hx
theorem ah9 {listed:Array Bool}{D:Nat->Option Nat}{it:PI}:∀ {P:List PI} {k:Nat},P.Pairwise (λx y=>x.j≠y.j/\x.d≠y.d)->getP P k=some it->(D it.j=none->ae1 listed D P=ae1 listed D (rmP P k))/\(∀b,D it.j=some b->ae1 listed D P=ae1 (listed.setIfInBounds it.j true) D (rmP P k)/\left D P=left D (rmP P k))
 |[],_,_,h=>by cases h
 |y::P,0,hd,h=>by
  cases h;rw [List.pairwise_cons]at hd;refine ⟨λh=>?_,λb h=>?_⟩
  ·show ae1 listed D (_::P)=ae1 listed D P
   grind [ae1]
  ·show ae1 listed D (_::P)=ae1 _ D P/\left D (_::P)=left D P
   grind [ahb,ae1,left]
 |y::P,k+1,hd,h=>by
  rw [List.pairwise_cons]at hd;obtain ⟨i1,i2⟩:=ah9 (listed:=listed) (D:=D) hd.2 (show getP P k=some it from h)
  grind [ae1,rmP,left]
def Stop (C:Cx)(ops:Array Oper)(tl:List Nat)(s:List It)(S:World->Prop)(P:List PI)(fuel:Nat)(listed:Array Bool)(env:Env)(L:Locs)(R:Rows)(Γ:Facts)(it:PI)(k:Nat):Prop:=
 (∀w w',Kp emp w w'->S w->S w')->POk C ops listed env P->∀D a w b,D it.j=some b->SatD C env L R Γ a w D P->aee C.P ops (cont C s) S tl (fuel+left D (rmP P k)) (ae1 (listed.setIfInBounds it.j true) D (rmP P k)) a w
theorem TXP.settle {C:Cx}{ops:Array Oper}{tl:List Nat}{s:List It}{S:World->Prop}{P:List PI}{fuel:Nat}{listed:Array Bool}{env:Env}{L:Locs}{R:Rows}{Γ:Facts}{it:PI}(k:Nat)(hk:getP P k=some it)(hn:aij ops listed P (rmP P k) ops.size=true)
  (stop:Stop C ops tl s S P fuel listed env L R Γ it k):TXP C ops tl s S P fuel listed env L R Γ:=by
 intro hS hP D a w hSat
 have hit:=aiz hk
 refine TXP.core (y:=ops.size) hS hP (λD=>D it.j=none) (λD hD i hi=>amw hn ((ah9 hP.dis hk).1 hD) hi) (λD hD h=>by
  have:=amp (D:=D) (P:=P) (hP.rdy it hit) λx hx he=>by grind
  rw [h]at this;cases this) (λD a w hD hSat=>?_) (λD a w _ _ hy=>by
  obtain ⟨_,o,ho,_⟩:=mem_ready.1 hy;have:=(Array.getElem?_eq_some_iff.1 ho).1;omega) _ D a w rfl hSat
 cases hb:D it.j with
 |none=>exact absurd hb hD
 |some b=>
  obtain ⟨e1,e2⟩:=(ah9 (listed:=listed) (D:=D) hP.dis hk).2 b hb;rw [e1,e2];exact stop hS hP D a w b hb hSat
theorem aos {D:Nat->Option Nat}{it:PI}(hD:D it.j=none):∀ {P:List PI} {k:Nat},getP P k=some it->left D P=left D (rmP P k)+1
 |[],_,h=>by cases h
 |y::P,0,h=>by
  cases h;show left D (_::P)=left D P+1
  grind [left]
 |y::P,k+1,h=>by
  have ih:=aos hD (show getP P k=some it from h)
  grind [left,rmP]
theorem TXP.split {C:Cx}{ops:Array Oper}{tl:List Nat}{s:List It}{S:World->Prop}{P:List PI}{fuel:Nat}{listed:Array Bool}{env:Env}{L:Locs}{R:Rows}{Γ:Facts}{it:PI}(k:Nat)(hk:getP P k=some it)(no:TXP C ops tl s S (rmP P k) (fuel+1) listed env L R Γ)
  (stop:Stop C ops tl s S P fuel listed env L R Γ it k):TXP C ops tl s S P fuel listed env L R Γ:=by
 intro hS hP D a w hSat
 cases hb:D it.j with
 |none=>
  obtain ⟨G,bs,hA,hI,hΓ,hF⟩:=hSat
  have:=no hS ⟨λx hx=>hP.ok x (aer (it:=it) hx),λx hx=>hP.free x (aer (it:=it) hx),λx hx=>hP.sub x (aer (it:=it) hx),λx hx=>hP.rdy x (aer (it:=it) hx),(aph hP.dis hk).1⟩ D a w ⟨G,bs,hA,hI,hΓ,λx hx b hb=>by
   obtain ⟨q1,q2,q3,q4,q5,q6⟩:=hF x (aer (it:=it) hx) b hb;exact ⟨q1,q2,q3,q4,q5,λy hy=>q6 y (aer (it:=it) hy)⟩⟩
  rw [aos hb hk,(ah9 hP.dis hk).1 hb,show fuel+(left D (rmP P k)+1)=fuel+1+left D (rmP P k) by omega];exact this
 |some b=>
  obtain ⟨e1,e2⟩:=(ah9 (listed:=listed) (D:=D) hP.dis hk).2 b hb;rw [e1,e2];exact stop hS hP D a w b hb hSat
theorem POk.rm {k:Nat}{it:PI}(hP:POk C ops listed env P)(hk:getP P k=some it)(hz:((rmP P k).all λx=>amn it.d x.env)=true):POk C ops (listed.setIfInBounds it.j true) ((it.d,sv)::env) (rmP P k):=by obtain ⟨p1,p2⟩:=aph hP.dis hk;exact ⟨λx hx=>hP.ok x (aer (it:=it) hx),λx hx=>by rw [acg,if_neg (Ne.symm (p2 x hx).2)];exact hP.free x (aer (it:=it) hx),λx hx=>an8 (List.all_eq_true.1 hz x hx) (hP.sub x (aer (it:=it) hx)),λx hx=>akt (hP.rdy x (aer (it:=it) hx)) (p2 x hx).1,p1⟩
def PI.loc (j d:Nat)(l:Loc):PI:=⟨j,d,lobj l,λb=> .pointer (some ⟨b,0,none⟩),[]⟩
def PI.lit (j d c T:Nat)(cs:List Value)(env:Env):PI:=⟨j,d,.cells cs.toArray T (0,0),λb=> .slice (some ⟨b,0,none⟩) c c,env⟩
theorem ail (ht:ad6 C.P C.tt)(hi:getO ops.toList j=some o)(hg:gd ops [] o=some true)(hd:o.dst=some d)(hlt:Nat.blt d C.fn.ntmps=true)(hl:ladd C.tt [] o.op=some l):PIok C ops (PI.loc j d l):=by rw [adh]at hi;exact ⟨o,show ops[j]? =some o by simpa using hi,hg,hd,show d<C.fn.ntmps by simpa [Nat.blt_eq]using hlt,λa w bs hA=>aje (bs:=bs) (env:=[]) ht hA hl⟩
theorem axh (k:Nat)(hk:getP P k=some (PI.loc j d l))(hl:afn d env L R=false)(hz:((rmP P k).all λx=>amn d x.env)=true)
  (kk:TXP C ops tl s S (rmP P k) fuel (listed.setIfInBounds j true) ((d,.p d 0)::env) ((d,l)::L) R Γ):Stop C ops tl s S P fuel listed env L R Γ (PI.loc j d l) k:=by
 refine λhS hP D a w b hb ⟨G,bs,hA,hI,hΓ,hF⟩=>?_;have hit:=aiz hk;obtain ⟨q1,q2,q3,q4,q5,q6⟩:=hF _ hit b hb;obtain ⟨n1,n2,n3,n4⟩:=adm hl;have hnL:∀ {i:Nat} {x:Loc},look L i=some x->i≠d:=λh=>adx n2 h;have hnR:∀ {i:Nat} {x:Row},look R i=some x->i≠d:=λh=>adx n3 h
 have act:∀ {i:Nat},i≠d->Acts ((d,l)::L) R i->Acts L R i:=λ{i} hne h=>by
  rcases h with ⟨x,hx⟩|h
  ·rw [acg,if_neg (Ne.symm hne)]at hx;exact .inl ⟨x,hx⟩
  ·exact .inr h
 refine kk hS (hP.rm hk hz) D a w ⟨G,λi=>if i=d then b else bs i,?_,⟨hI.keep,hI.le,λi x hx=>?_,λi r hr=>?_,λi j hij hi hj=>?_,λi x r hx hr=>?_,λb' hb'=>by simp only [if_neg (Ne.symm n4)];exact hI.pin b' hb',hI.nr⟩,hΓ,λx hx b' hb'=>?_⟩
 ·have hA':=hA.notH (d:=d) (bs':=λj=>if j=d then b else bs j) n1 (λi hi=>if_neg hi)
  refine ⟨hA'.size,hA'.dfr,λe x hx=>?_⟩;rw [acg]at hx
  split at hx
  ·rename_i he;subst he
   cases hx;simp only [conc,if_true];exact q1
  ·exact hA'.slot e x hx
 ·rw [acg]at hx
  split at hx
  ·rename_i he;subst he
   cases hx;simp only [if_true];exact ⟨q2,.inl q3,q4⟩
  ·rename_i he
   simp only [if_neg (Ne.symm he)];exact hI.loc i x hx
 ·simp only [if_neg (hnR hr)]
  exact hI.row i r hr
 ·by_cases hid:i=d
  ·grind
  ·by_cases hjd:j=d
   ·grind
   ·simp only [if_neg hid,if_neg hjd]
    exact hI.inj i j hij (act hid hi) (act hjd hj)
 ·rw [acg,if_neg (Ne.symm (hnR hr))]at hx
  exact hI.dis i x r hx hr
 ·obtain ⟨r1,r2,r3,r4,r5,r6⟩:=hF x (aer (it:=x) hx) b' hb'
  have hne:=(aph hP.dis hk).2 x hx;refine ⟨r1,r2,r3,r4,λi hi=>?_,λy hy=>r6 y (aer (it:=y) hy)⟩
  grind
theorem TXP.settleL (k:Nat)(hk:getP P k=some (PI.loc j d l))(hl:afn d env L R=false)(hn:aij ops listed P (rmP P k) ops.size=true)(hz:((rmP P k).all λx=>amn d x.env)=true)
  (kk:TXP C ops tl s S (rmP P k) fuel (listed.setIfInBounds j true) ((d,.p d 0)::env) ((d,l)::L) R Γ):TXP C ops tl s S P fuel listed env L R Γ:=
 TXP.settle k hk hn (axh k hk hl hz kk)
def elT (tt:TT)(T:Nat):Option Nat:=match elO tt T with|some (e,_)=>some e|none=>none
theorem atw {P:Program}{tt:TT}(ht:ad6 P tt){n:Nat}(hA:At n env bs a){len e:Nat}(h:bldO tt env T len parts.toList=some (kk,cs))(he:elT tt T=some e)(w:World):
  (Instr.buildSlice T len (parts.map λx=>(x.1,a.eval x.2))).run P w= .ok (.slice (some ⟨w.heap.size,0,none⟩) len len) (w.alloc (.cells cs.toArray e)):=by
 unfold bldO at h;unfold elT at he
 split at h
 ·rename_i e' kk' by_ z hel
  rw [hel]at he;cases he
  split at h
  ·rename_i hle
   split at h
   ·rename_i q hq
    split at h
    ·rename_i cs' hcs
     simp only [Option.some.injEq,Prod.mk.injEq]at h;obtain ⟨rfl,rfl⟩:=h;obtain ⟨hu,i,v,te,hE,hte,hi,h0,hs,_,hv,hzl,hpos⟩:=aiw ht hel;have hq':=amc hq;have hle':len*kk'<=16777216:=Nat.le_of_ble_eq_true hle
     have hfill:=ah5 ht hA (place:=λi=>some (i*kk',e)) (place':=λi=>some (i*kk',kk')) (λj off T' ti' h1 h2=>by
      simp only [Option.some.injEq,Prod.mk.injEq]at h1;obtain ⟨rfl,rfl⟩:=h1;rw [hE]at h2;simp at h2;subst h2;rw [hte]) _ _ _ hcs
     have hvs:v.cells.size=kk':=by grind
     by_cases hl0:len=0
     ·subst hl0
      have:q=[]:=by rw [hq'];rfl
      subst this;have hf':Instr.fill (λi=>some (i*kk',kk')) #[] (List.map (λx=>(x.1,a.eval x.2)) parts.toList)=some cs'.toArray:=hfill;simp [Instr.buildSlice,run_underlying hu,sizeOf,typeInfo,hi,newRow,hs,Array.range_zero',hf']
     ·have hne:¬(len*kk'=0):=by grind [Nat.mul_eq_zero.1]
      have hr:=agu v.cells (by omega) len;rw [hvs,hv,<-hq']at hr;have hq2:(Array.range (len*kk')).map (λi=>v.cells[i%v.cells.size]!)=q.toArray:=Array.ext' (by grind);have hsm:¬(16777216<len*kk'):=by omega
      have hf':Instr.fill (λi=>some (i*kk',kk')) ((Array.range (len*kk')).map (λi=>v.cells[i%v.cells.size]!)) (List.map (λx=>(x.1,a.eval x.2)) parts.toList)=some cs'.toArray:=by grind
      simp only [Instr.buildSlice,Sem.run_bind,run_underlying hu,Result.andThen_ok,aej hi,hs,newRow];simp [hsm,hne,zeroValue,typeInfo,hi,h0,hf']
    ·cases h
   ·cases h
  ·cases h
 ·cases h
theorem auc {T0:Nat}(ht:ad6 C.P C.tt)(hi:getO ops.toList j=some o)(hg:gd ops [] o=some true)(hd:o.dst=some d)(hlt:Nat.blt d C.fn.ntmps=true)(ho:o.op= .buildSlice T0 c parts)(hb:bldO C.tt env T0 c parts.toList=some (kk,cs))(he:elT C.tt T0=some T):PIok C ops (PI.lit j d c T cs env):=by rw [adh]at hi;refine ⟨o,show ops[j]? =some o by simpa using hi,hg,hd,show d<C.fn.ntmps by simpa [Nat.blt_eq]using hlt,λa w bs hA=>?_⟩;have hrun:=atw (bs:=bs) ht hA hb he w;unfold execOp;simp only [ho,Sem.run_bind,hrun,Result.andThen_ok,Sem.run_pure];rfl
theorem axi [GoT α]{l:List α}(k m:Nat)(hk:getP P k=some (PI.lit j d c T cs e0))(hlen:l.length=c)(hmax:Nat.ble c 1048576=true)(hw:OwL emp cs l)(hz:((rmP P k).all λx=>amn d x.env)=true)
  (kk:∀p,TXP C ops tl s S (rmP P k) fuel (listed.setIfInBounds j true) ((d,.v (.slice p c c))::env) L R ((m,MF.rs .stb p c l)::Γ)):Stop C ops tl s S P fuel listed env L R Γ (PI.lit j d c T cs e0) k:=by
 refine λhS hP D a w b hb ⟨G,bs,hA,hI,hΓ,hF⟩=>?_;have hit:=aiz hk;obtain ⟨q1,q2,q3,q4,q5,q6⟩:=hF _ hit b hb;have q2':w.heap[b]? =some (.cells cs.toArray T (0,0)):=q2;refine kk (some ⟨b,0,none⟩) hS (hP.rm hk hz) D a w ⟨join G (sgl b (.cells cs.toArray T (0,0))),bs,⟨hA.size,hA.dfr,λe x hx=>?_⟩,hI.more q2' q5,?_,λx hx b' hb'=>?_⟩
 ·rw [acg]at hx
  split at hx
  ·rename_i he
   cases he;cases hx;exact q1
  ·exact hA.slot e x hx
 ·refine hΓ.new m _ (h:=sgl b (.cells cs.toArray T (0,0))) (acq _ _) (ad3 (aep q4).symm) (λ_=>aep q4) (λh=>by cases h) ?_
  have hc:=Nat.le_of_ble_eq_true hmax;have hx:=al0 (G:=sgl b (.cells cs.toArray T (0,0))) (o:=0) (afk b _) cs.length;simp only [List.drop_zero,List.take_length]at hx;exact (⟨by omega,by omega,cs,hx,hw.rd.mono (acv _)⟩:RdSl _ (some ⟨b,0,none⟩) c l)
 ·obtain ⟨r1,r2,r3,r4,r5,r6⟩:=hF x (aer (it:=x) hx) b' hb'
  have hne:=(aph hP.dis hk).2 x hx;exact ⟨r1,r2,r3,agq r4 (afj _ (q6 x (aer (it:=x) hx) b' hb' hne.1)),r5,λy hy=>r6 y (aer (it:=y) hy)⟩
theorem TXP.settleS [GoT α]{l:List α}(k m:Nat)(hk:getP P k=some (PI.lit j d c T cs e0))(hlen:l.length=c)(hmax:Nat.ble c 1048576=true)(hw:OwL emp cs l)(hn:aij ops listed P (rmP P k) ops.size=true)(hz:((rmP P k).all λx=>amn d x.env)=true)
  (kk:∀p,TXP C ops tl s S (rmP P k) fuel (listed.setIfInBounds j true) ((d,.v (.slice p c c))::env) L R ((m,MF.rs .stb p c l)::Γ)):TXP C ops tl s S P fuel listed env L R Γ:=
 TXP.settle k hk hn (axi k m hk hlen hmax hw hz kk)
theorem TXP.der (m:Nat)(f:MF)(hk:f.k= .der)(h:∀G,AllK C.M G Γ->f.p G)
  (k:TXP C ops tl s S P fuel listed env L R ((m,f)::Γ)):TXP C ops tl s S P fuel listed env L R Γ:=λhS hP D a w ⟨G,bs,hA,hI,hΓ,hF⟩=>k hS hP D a w ⟨G,bs,hA,hI,hΓ.der m f hk (h G hΓ),hF⟩
theorem TX.slot (d:Nat)(h:look env d=some x)(e:∀bs,conc bs x=conc bs y)(k:TX C ops tl s S fuel listed ((d,y)::env) L R Γ):TX C ops tl s S fuel listed env L R Γ:=by
 intro hS a w ⟨G,bs,hA,hI,hΓ⟩;refine k hS a w ⟨G,bs,⟨hA.size,hA.dfr,λi x' hx=>?_⟩,hI,hΓ⟩;rw [acg]at hx
 split at hx
 ·rename_i hi;subst hi;simp at hx;subst hx;rw [<-e bs];exact hA.slot d x h
 ·exact hA.slot i x' hx
theorem TS.slot (d:Nat)(h:look env d=some x)(e:∀bs,conc bs x=conc bs y)(k:TS C ops tl s S fuel listed ((d,y)::env) L R Γ i):TS C ops tl s S fuel listed env L R Γ i:=by
 intro hS a w ⟨G,bs,hA,hI,hΓ⟩;refine k hS a w ⟨G,bs,⟨hA.size,hA.dfr,λi x' hx=>?_⟩,hI,hΓ⟩;rw [acg]at hx
 split at hx
 ·rename_i hi;subst hi;simp at hx;subst hx;rw [<-e bs];exact hA.slot d x h
 ·exact hA.slot i x' hx
theorem TS.idx [GoT α]{x y:Operand}{q:Nat}{m:Int}{p:Option Addr}{l:List α}(i ℓ j:Nat)(ht:ad6 C.P C.tt)
  (hi:getO ops.toList i=some o) (hg:gd ops env o=some true) (hd:o.dst=some d) (hlt:Nat.blt d C.fn.ntmps=true) (ho:o.op= .indexAddr T x y)
  (hx:ev env x=some (.v (.slice p q c))) (hy:ev env y=some (.v (.int .i64 m))) (hk:ahc C.tt T=some kk) (hℓ:look Γ ℓ=some (MF.rs kd p c l)) (hq:q=l.length) (hm:m=(j:Int)) (hj:j<l.length)
  (k:∀ad,p=some ad->TX C ops tl s S fuel (listed.setIfInBounds i true) ((d,.e (some ad) j kk 0)::env) L R Γ):TS C ops tl s S fuel listed env L R Γ i:=
 TS.peek i hi hg hd hlt λG hΓ=>by
  obtain ⟨x',ad,rfl,_⟩:=RdSl.get (i:=j) (hΓ.get ℓ hℓ:RdSl G p c l) (List.getElem?_eq_getElem hj)
  grind [aja]
theorem TS.ldE [GoT α]{x:Operand}{off:Nat}{ti:TI}{ad:Addr}{l:List α}(i ℓ m:Nat)(a:α){val:X α->Value}{Γ':X α->Facts}(ht:ad6 C.P C.tt)
  (hi:getO ops.toList i=some o) (hg:gd ops env o=some true) (hd:o.dst=some d) (hlt:Nat.blt d C.fn.ntmps=true) (ho:o.op= .load T x)
  (hx:ev env x=some (.e (some ad) j (GoT.k α) off)) (hT:look C.tt T=some ti) (hℓ:look Γ ℓ=some (MF.rs kd (some ad) c l)) (ha:l[j]? =some a)
  (hv:∀x,asm ti (sh a x) off=some (val x)) (hf:∀x,addF m (fa .der a x) Γ=some (Γ' x))
  (k:∀x,TX C ops tl s S fuel (listed.setIfInBounds i true) ((d,.v (val x))::env) L R (Γ' x)):TS C ops tl s S fuel listed env L R Γ i:=
 TS.peek i hi hg hd hlt λG hΓ=>by
  obtain ⟨x',ad',had,hfa,hc⟩:=RdSl.get (i:=j) (hΓ.get ℓ hℓ:RdSl G (some ad) c l) ha;simp at had;subst had;exact ⟨_,Γ' x',aii ht ho hx hT hc (hv x'),λh=>AllK.ders (hf x') (λf hf=>GoT.fak f hf) hfa h,k x'⟩
end Go.Stp
namespace Go.Stp
open GoT (X k ok sh fa oa)
theorem TXP.appF {C:Cx}{ops:Array Oper}{tl:List Nat}{st:List It}{S:World->Prop}{P:List PI}{fuel:Nat}{listed:Array Bool}{env:Env}{L:Locs}{R:Rows}{Γ:Facts}{o:Oper}(i m:Nat){x y:Operand}{T by_ q c d:Nat}{z:Value}{p0 p:Option Addr}{α:Type}[GoT α][Flat α]{kd:Kd}{l:List α}(ht:ad6 C.P C.tt)
  (hn:aij ops listed P P i=true) (hr:aew ops listed i=true) (hi:getO ops.toList i=some o) (hg:gd ops env o=some true) (hd:o.dst=some d) (ha:afz P i d=true) (hlt:Nat.blt d C.fn.ntmps=true) (ho:o.op= .call {callee:= .builtin .append,args:= #[x,y],argTypes:= #[T,T]})
  (hx:ev env x=some (.v (.slice p0 0 0))) (hy:ev env y=some (.v (.slice p q c))) (hq:q=l.length) (hap:appO C.tt T=some (GoT.k α,by_,z)) (hz:z.cells.size=GoT.k α) (ℓ:Nat) (hℓ:look Γ ℓ=some (MF.rs kd p c l)) (hroom:l.length*by_<=140737488355328) (hmax:l.length<=9223372036854775807)
  (k:∀p' c',TXP C ops tl st S P fuel (listed.setIfInBounds i true) ((d,.v (.slice p' l.length c'))::env) L R ((m,MF.rs .der p' c' l)::(m+1,MF.os p' c' l)::Γ)):TXP C ops tl st S P (fuel+1) listed env L R Γ:=by
 subst hq;refine TXP.next (d:=d) hn hr ha λhS hP D a w ⟨G,bs,hA,hI,hΓ,hF⟩=>?_;rw [adh]at hi;have hi':ops[i]? =some o:=by simpa using hi
 obtain ⟨ti,e,te,hT,hde,hE,hks,rfl,rfl,hpos⟩:=afh hap;obtain ⟨hu,_⟩:=ht.get hT;rw [hde]at hu
 obtain ⟨xs,hs,hrd⟩:∃xs,Src C.P te.size T (.slice p l.length c) l.length xs w/\RdL G xs l:=by
  obtain ⟨h1,h2,xs,h4,h5⟩:=(hΓ.get ℓ hℓ:RdSl G p c l);refine ⟨xs,?_,h5⟩;rw [hks];cases hl:l with
  |nil=>
   subst hl;have hxs:xs=[]:=h5;subst hxs;cases hp:p with
   |none=>exact Src.ofNil w hu c
   |some ad=>exact Src.ofSlice w hu ad 0 c [] (by simp) (λj u h=>by simp at h) (λu h=>by cases h)
  |cons a l'=>
   have hlen:=h5.len;have hpos:=GoT.pos (α:=α);obtain ⟨u,hu0⟩:∃u,xs[0]? =some u:=⟨_,List.getElem?_eq_getElem (by simp_all)⟩;obtain ⟨ad,had,_⟩:=h4 0 u hu0;subst had;rw [<-hl]
   exact Src.ofSlice w hu ad l.length c xs hlen (λj u hj=>by
    obtain ⟨ad',h',hg'⟩:=h4 j u hj;simp at h';subst h';exact hI.le.cell hg') h5.one
 have hrow:agm C.M w G 0 ⟨te.size,p0,0,0,[]⟩:=⟨by simp,.inl ⟨rfl,rfl⟩⟩;obtain ⟨p',c',w',b',hrun,⟨hr1,hr2⟩,honly,hnew⟩:=agn (ty:=o.type) ht hT hde hE hpos hrow rfl (.inl hI.keep.size) hI.le hs (by simp only [maxLen];omega) (by grind) (by rw [hz,hks])
 have hexec:(execOp a.eval o).run C.P w= .ok (.value (.slice p' l.length c')) w':=by
  unfold execOp;simp only [Nat.zero_add]at hrun;simp only [ho,resolve,invoke,builtin,Sem.run_bind,Sem.run_pure,Result.andThen_ok,List.map_toArray,List.map_cons,List.map_nil,ac5 hA hx,ac5 hA hy,aif,hrun]
 have hb:Kp emp w w':=⟨honly.os,honly.tape,honly.output,honly.size,λj hj _=>honly.block j hj (λh=>absurd rfl h)⟩
 obtain ⟨h,hle1,hdom,how⟩:∃h,Le h (hp w')/\(∀b o,h b=some o->w.heap.size<=b)/\OwSl h p' c' l:=by
  have triv:c'=0->l.length=0->∃h,Le h (hp w')/\(∀b o,h b=some o->w.heap.size<=b)/\OwSl h p' c' l:=λhc hn0=>⟨emp,acv _,(λ_ _ h=>by cases h),.inl ⟨hc,List.eq_nil_of_length_eq_zero hn0⟩⟩;rcases hr2 with ⟨hc,hn0⟩|⟨o1,hpp,hB,hGb,hnc,hcm,cur,T',hh,hcs,htk⟩
  ·grind
  ·by_cases hc0:c'=0
   ·grind
   ·have hnb:w.heap.size<=b':=by grind
    refine ⟨sgl b' (.cells cur T' (0,0)),aiq hh,λb q hx=>?_,.inr ⟨b',o1,T',cur,emp,hpp,afk _ _,acv _,rfl,by simpa using hnc,hcm,by rw [<-hks];exact hcs,?_⟩⟩
    ·grind [afj]
    ·have h9:(cur.toList.drop o1).take ((0+l.length)*te.size)=[]++xs:=htk
     rw [<-hks];rw [Nat.zero_add,List.nil_append]at h9;rw [h9];exact hrd.flat emp
 unfold wpOp;simp only [hi'];rw [if_pos (ad2 hA hg)];refine .inl ?_;unfold Oper.wp;rw [hexec];show (_->_)/\_;rw [hd];refine ⟨λ_ hs=>hS _ _ hb hs,?_⟩;obtain ⟨hI',hdj⟩:=hI.called (acv _) (λ_ _ h=>by cases h) hb hle1 (λb o h=> .inl (hdom b o h))
 refine k p' c' hS (hP.step ha) D _ _ ⟨_,bs,hA.put (by simp_all) (.v _),hI',hΓ.after (n:=m) (gs:=[MF.os p' c' l]) (ds:=[MF.rs .der p' c' l]) hdj (λb o hb'=> .inl (Nat.le_trans hI.keep.size (hdom b o hb'))) (ae6 how) (λf hf=>by cases List.mem_singleton.1 hf;rfl) (All.cons how.rd All.nil) rfl,hF.keep hb (λ_ _ _=>rfl) (λb h1 h2 _=>agq (aef h1) ?_) (λ_ h=>h) λit hit=>(aeo ha it hit).2⟩;cases hx:h b with
 |none=>rfl
 |some q=>have:=hdom b q hx;omega
end Go.Stp
namespace Go.Stp
variable {C : Cx} {env : Env} {L : Locs} {R : Rows} {G : GH} {o : Oper} {x y : Operand} {T T' : Nat} {k : IntKind} {m n : Int}
def bkO (b:BinOp)(k:IntKind)(m n:Int):Option Int:=
 match b with
 | .add=>some (k.wrap (m+n))
 | .sub=>some (k.wrap (m-n))
 | .mul=>some (k.wrap (m*n))
 | .and=>some (k.wrap ((BitVec.ofInt k.bits m&&&BitVec.ofInt k.bits n).toNat:Int))
 |_=>none
theorem afa {b:BinOp}(q:Int)(ho:o.op= .binOp b T x y T')
  (hx:ev env x=some (.v (.int k m))) (hy:ev env y=some (.v (.int k n))) (hq:bkO b k m n=some q):Looks C env L R G o (.v (.int k q)):=by
 intro a w G' bs _ hA hI;unfold execOp;simp only [ho,ac5 hA hx,ac5 hA hy,conc];cases b<;>simp [bkO]at hq<;>subst hq<;>simp [eqGuard,binOp,Op.intArith,Op.intBits]
theorem ahk {kq:IntKind}(q:Int)(ho:o.op= .binOp .shr T x y T')(hx:ev env x=some (.v (.int k m)))(hy:ev env y=some (.v (.int kq n)))(h0:0<=n)(hq:m.fdiv (2^ (min n.toNat k.bits))=q):Looks C env L R G o (.v (.int k q)):=by
 intro a w G' bs _ hA hI;unfold execOp;have h1:¬n<0:=by omega
 simp [ho,ac5 hA hx,ac5 hA hy,conc,eqGuard,binOp,Op.shift,h1,hq]
theorem akc {S:Nat}{si ti:TI}{sd:TypeDesc}{k':IntKind}(q:Int)(ht:ad6 C.P C.tt)(ho:o.op= .convert S T x)(hS:look C.tt S=some si)(hs:si.desc=sd)(hT:look C.tt T=some ti)(hk:ti.desc= .int k')
  (hx:ev env x=some (.v (.int k n))) (hq:k'.wrap n=q):Looks C env L R G o (.v (.int k' q)):=by
 have h:=akj (L:=L) (R:=R) (G:=G) ht ho hS hs hT hk hx
 rwa [hq]at h
theorem ans (ho:o.op= .binOp .gtr T x y T')(hx:ev env x=some (.v (.int k m)))(hy:ev env y=some (.v (.int k n)))(h:¬m>n):Looks C env L R G o .F:=by intro a w G' bs _ hA hI;unfold execOp;simp [ho,ac5 hA hx,ac5 hA hy,conc,eqGuard,binOp,Op.intCmp];omega
theorem aig (p:Option Addr)(c kk:Nat):offP p c 0 kk=p:=by
 unfold offP
 split
 ·rfl
 ·cases p with
  |none=>rfl
  |some a=>simp [Addr.add]
theorem atn {α:Type}[GoT α]{p:Option Addr}{c:Nat}{l:List α}(h:RdSl G p c l):∃xs,aia G p xs/\RdL G xs l:=by
 obtain ⟨_,_,xs,h1,h2⟩:=h
 grind
end Go.Stp
namespace Go.Stp
open Go.RowKit (Below)
theorem WX.callPM {C:Cx}{ops:Array Oper}{o:Oper}{r:List Oper}{s:List It}{env:Env}{L:Locs}{R:Rows}{Γ Γ1:Facts}{fs:List MF}{f:Operand}{args:List Operand}{ats:Array TypeId}{g:FuncId}{sf:SV}{svs:List SV}{caps:(Nat->Nat)->List Value}{T:Nat}{cs:List Value}
    {ι:Type} {val val':ι->Value} {cs':ι->List Value} {gs ds:ι->List MF} {Q:Prop} {d:Nat} {Γ':ι->Facts} (lab:Nat) (ks:List Nat) (n:Nat) (hl:look L lab=some ⟨T,cs⟩) (hks:af4 ks Γ=some (fs,Γ1)) (hds:∀i h,Sep h (gs i)->All h (ds i)) (hdk:∀i,∀f∈ds i,f.k= .der) (hg:gd ops env o=some true) (hd:o.dst=some d) (hlt:Nat.blt d C.fn.ntmps=true) (ho:o.op= .call {callee:= .value f,args:=args.toArray,argTypes:=ats})
    (hf:ev env f=some sf) (hsf:∀bs,conc bs sf= .func (.func g) #[] (caps bs).toArray) (hargs:evs env args=some svs)
    (hc:∀w G bs H,HInv C w G bs L R->Le H (hp w)->Sep H (MF.bx (bs lab) T cs::fs)->AllK C.M (cut (hp w) H) Γ1->Does C.P g (svs.map (conc bs)++caps bs).toArray w H (Post w H val (λi=>MF.bx (bs lab) T (cs' i)::gs i) Q))
    (hv:∀i,afb (val i)=some (val' i)) (hΓ':∀i,addF n (ds i++gs i) Γ1=some (Γ' i))
    (k:∀i,Q->WX C (.ops ops r::s) ((d,.v (val' i))::env) (setL L lab (cs' i)) R (Γ' i)):WX C (.ops ops (o::r)::s) env L R Γ:=by
  rintro a w ⟨G,bs,hA,hI,hΓ⟩;show wpList C.P ops (cont C s) (o::r) a w;unfold wpList;rw [if_pos (ad2 hA hg)];refine .inl ?_;unfold Oper.wp;obtain ⟨H,q1,q2,q3,q4⟩:=aek hks hΓ;obtain ⟨h1,h2,h3⟩:=hI.loc lab _ hl;have hBG:Dj (sgl (bs lab) (lobj ⟨T,cs⟩)) G:=aep h3;have hBH:Dj (sgl (bs lab) (lobj ⟨T,cs⟩)) H:=hBG.mono (Le.refl _) q1;have hHw:Le H (hp w):=q1.trans hI.le
  have hcut:Le (cut G H) (cut (hp w) (join (sgl (bs lab) (lobj ⟨T,cs⟩)) H)):=ael ((agb _ _).trans hI.le) (λb=>by
    unfold join;cases hx:sgl (bs lab) (lobj ⟨T,cs⟩) b with
    |some q=>exact .inl (aef ((hBG b).resolve_left (by rw [hx];simp)))
    |none=>exact ahg G H b)
  obtain ⟨he,hcalls⟩:=hc w G bs (join (sgl (bs lab) (lobj ⟨T,cs⟩)) H) hI (ae0 (aiq h1) hHw) ⟨_,H,acq _ _,ad3 hBH,hBH,afk _ _,q3⟩ (q4.mono hcut);rw [aet he ho (by rw [ac5 hA hf,hsf]) (aeh hA args svs hargs)];simp only [Oper.upon];refine hcalls.mono λe w' ⟨v,hve,hb,hψ⟩=>?_;subst hve;obtain ⟨i,h,rfl,hq,hle,hdom,ha,hr,a1,a2,a3,a4,a5⟩:=hψ;have a4':ha (bs lab)=some (lobj ⟨T,cs' i⟩):=a4;rw [hd,<-afi (hv i)];have hM:∀b q,join (sgl (bs lab) (lobj ⟨T,cs⟩)) H b=some q->C.M b:=λb q hx=>by grind [join,afj]
  obtain ⟨hI',hdj⟩:=(hI.drop hl).called (Hc:=join (sgl (bs lab) (lobj ⟨T,cs⟩)) H) (ae0 (ad3 hBG.symm) (q1.trans (acq _ _))) hM hb hle hdom
  have hG1:Le (cut G H) (cut (join G (sgl (bs lab) (lobj ⟨T,cs⟩))) (join (sgl (bs lab) (lobj ⟨T,cs⟩)) H)):=ael ((agb _ _).trans (acq _ _)) (λb=>by
    unfold join;cases hx:sgl (bs lab) (lobj ⟨T,cs⟩) b with
    |some q=>exact .inl (aef ((hBG b).resolve_left (by rw [hx];simp)))
    |none=>exact ahg G H b)
  have hlab:h (bs lab)=some (lobj ⟨T,cs' i⟩):=a1 _ _ a4';have hG2:join (cut (join G (sgl (bs lab) (lobj ⟨T,cs⟩))) (join (sgl (bs lab) (lobj ⟨T,cs⟩)) H)) h (bs lab)=some (lobj ⟨T,cs' i⟩):=ad3 hdj.symm _ _ hlab
  have hI2:=hI'.take (i:=lab) (l:=⟨T,cs' i⟩) (L':=setL L lab (cs' i)) (λj=>by
    rw [afp,aft]
    by_cases hij:lab=j
    ·grind
    ·simp [hij]) (λr hr'=>hI.dis lab _ r hl hr') hG2 h2
  have hdr:Dj hr (cut G H):=hdj.mono a2 hG1
  have hΓ2:=q4.after (h:=hr) (n:=n) (ds:=ds i) hdr (λb q hx=>by
    rcases hdom b q (a2 b q hx)with h4|h4
    ·exact .inl (Nat.le_trans hI.keep.size h4)
    ·cases hy:join (sgl (bs lab) (lobj ⟨T,cs⟩)) H b with
     |none=>exact absurd hy h4
     |some z=>exact hM b z hy) a5 (hdk i) (hds i hr a5) (hΓ' i)
  refine k i hq _ _ ⟨_,bs,hA.put (by simp_all) (.v _),hI2,hΓ2.mono (ae0 ?_ ?_)⟩
  ·refine ael (hG1.trans (acq _ _)) (aep ?_).symm
   exact aef h3
  ·refine ael (a2.trans (ad3 hdj.symm)) (aep ?_).symm
   cases hx:hr (bs lab)with
   |none=>rfl
   |some q=>rcases a3 (bs lab)with h5|h5
            ·grind
            ·grind
theorem WX.fin {C:Cx}{env:Env}{L:Locs}{R:Rows}{Γ:Facts}(ht:ad6 C.P C.tt){vs:List Value}(hv:resV C.tt env L C.fn.results.toList=some vs)
  (k:∀w G bs,HInv C w G bs L R->AllK C.M G Γ->C.Φ (tup vs) w):WX C [] env L R Γ:=by
 rintro a w ⟨G,bs,hA,hI,hΓ⟩;exact ⟨hA.dfr,tup vs,ai8 (ahv ht hA hI _ _ hv),tup vs,rfl,hI.keep,k w G bs hI hΓ⟩
end Go.Stp
