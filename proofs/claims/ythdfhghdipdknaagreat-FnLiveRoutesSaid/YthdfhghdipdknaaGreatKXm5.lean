/-
  What the proof of one law needs: rules of the program logic, functions as Lean functions, contracts. No condition but what each says. Written by a program (pack.py) out of my own texts.
-/
import Derived.Test.YthdfhghdipdknaaGreatKXm4
open Go.IntKind (i64)
set_option linter.unusedVariables false
set_option linter.unusedSimpArgs false
namespace Go.Proofs.YthdfhghdipdknaaGreat
open Go.Stp
open Go.Stp.GoT (ok)
variable {w : World} (n : Nat) {K0 K1 : Option Addr} {M0 M1 : Nat}
theorem f88 (hn:n+1<=9){l:List aB}(N0:Rd w K0 M0 l)(r:aB)(N1:Rd w K1 M1 r.pfx.parts)(a1:ok n l)(a0:ok n r):
 DP 88 #[vS K0 l M0,.agg #[vS K1 r.pfx.parts M1,vI r.face,vI r.cost]] w (pSB w n (a1a l r)):=by
 have hb:=bS1 hn;refine EN Tryz.func88 Z (aS2 N0 N1) ?_;refine KF Z 2 Z O (λw Y=>f77 n Q0 (Y.q 0 Z) a1) ?_;rintro ⟨p1,c1⟩ a3;have q1:=congrArg List.length (afm l);refine KV Z Z O (λw Y=>f87 n Q0 (Y.q 0 Z) r.pfx (Y.q 1 Z) a1 (a0.1) (a0.2.1)) λa9=>?_;have q2:=as3 l r.pfx r.face;refine yKD 17 ?_ ?_<;>intro h1 ai;have r1:=a1.1;have r3:=i8 a9;refine R0 ?_;refine SI 19 ?_;refine zN (kk:=3) 501 3 4 λaa ag=>?_
 have a7:(a0x l r.pfx r.face).toNat<(a0g l).length:=Q4;refine zR 501 _ a7 ?_;rintro af rfl;obtain ⟨e1,a6,a5,ae⟩:=gO a3 _;refine R0 ?_;refine zO 501 4 5 _ a6 ?_;rintro A1 B1 ⟨⟨p2,c2⟩,_⟩ ad ak;refine zS 501 ad a7 ?_;refine R0 ?_;refine WX.turn [6,7,8] 9 Z (λh hs=>ae8 (e:=(aB.mk e1.pfx e1.face r.cost)) (x:=((p2,c2),(),())) ae hs) Z ?_
 refine zE 501 9 10 (hn:=(by first|(simp;done)|(simp;omega))) ?_;refine SL 35 ((a0g l).set (((a0x l r.pfx r.face)).toNat) (aB.mk e1.pfx e1.face r.cost)).length ?_;refine SL 18 ((a0g l).set (((a0x l r.pfx r.face)).toNat) (aB.mk e1.pfx e1.face r.cost)).length ?_;refine SL 6 ((a0g l).set (((a0x l r.pfx r.face)).toNat) (aB.mk e1.pfx e1.face r.cost)).length ?_
 refine SL 9 ((a0g l).set (((a0x l r.pfx r.face)).toNat) (aB.mk e1.pfx e1.face r.cost)).length ?_;have r5:=a3.1;refine CV Z O (λw Y=>f139 n Q0 (Y.q 10 Z) (aby Q5 (adz (okl a3).2 (show ok n ((aB.mk e1.pfx e1.face r.cost):aB)from (An (ack a5).1 (An (ack a5).2.1 (ack a0).2.2)))))) λa8=>?_
 refine yKA 37 ?_ ?_<;>intro h2;refine KF Z 12 Z O (λw Y=>f77 n Q0 (Y.q 0 Z) a1) ?_;rintro ⟨p3,c3⟩ ac;have a2:a1a l r=(a0g l,false):=by simp only [a1a,h1,a6,h2,cC]
 refine R0 ?_;rw [a2];exact zX [13] (p3,c3) (by have z_:=air a1 a0;rw [a2]at z_;exact GoT.okm Q0 z_);have a2:a1a l r=((a0g l).set ((a0x l r.pfx r.face).toNat) (aB.mk e1.pfx e1.face r.cost),true):=by simp only [a1a,h1,a6,h2,cC]
 refine R0 ?_;rw [a2];exact zX [11] ((some af),c1) (by have z_:=air a1 a0;rw [a2]at z_;exact GoT.okm Q0 z_);refine yD [10,11] λbs G0 ah=>?_;refine dT 5 [1,3,4,9,10,13,14] ?_;refine DXF 3 4 Z J Z O (λw Y=>f35 n Q0 r.pfx (Y.q 1 Z) (a0.1)) ?_;rintro ⟨p2,c2⟩ a8;refine dT 3 [17] ?_;refine DX.tail2 [9,10,11] Z Z J ?_;refine zB λp3=>?_;refine zN (kk:=3) 501 3 6 λaa ag=>?_;refine zT [5] 7 (aB.mk (a0l r.pfx) r.face r.cost) ((p2,c2),(),()) λ_=>?_
 have r1:=a1.1;have r3:=i8 (a0.2.2);refine WX.know (λG hΓ=>(hΓ.get 7 Z).rd.one) λab=>?_;refine zP 501 33 ((a0g l)++[(aB.mk (a0l r.pfx) r.face r.cost)]).length ab λp4 c3=>?_;refine zV [6,7] 8 ?_;refine yE 501 8 9 ?_
 refine CV Z O (λw Y=>f139 _ Q0 (Y.q 9 Z) (aby Q5 (λa ha=>GoT.okm (show n<=(n+1) by omega) ((ac2 (okl a3).2 (all_cons (α:=aB) (An a8 (An (ack a0).2.1 (ack a0).2.2)) nA)) a ha)))) λac=>?_;refine yKA 37 ?_ ?_<;>intro h2;refine KF Z 11 Z O (λw Y=>f77 n Q0 (Y.q 0 Z) a1) ?_;rintro ⟨p5,c4⟩ aj
 have a2:a1a l r=(a0g l,false):=by simp only [a1a,h1,h2,cC]
 refine R0 ?_;rw [a2];exact zX [12] (p5,c4) (by have z_:=air a1 a0;rw [a2]at z_;exact GoT.okm Q0 z_);have a2:a1a l r=((a0g l)++[(aB.mk (a0l r.pfx) r.face r.cost)],true):=by simp only [a1a,h1,h2,cC]
 refine R0 ?_;rw [a2];exact zX [10] (p4,c3) (by have z_:=air a1 a0;rw [a2]at z_;exact GoT.okm Q0 z_)
theorem f130 (hn:n+1<=9){l:List aB}(N0:Rd w K0 M0 l)(r:aB)(N1:Rd w K1 M1 r.pfx.parts)(a1:ok n l)(a0:ok n r):
 DP 130 #[vS K0 l M0,.agg #[vS K1 r.pfx.parts M1,vI r.face,vI r.cost]] w (pSB w n (a29 l r)):=by
 have hb:=bS1 hn;refine EN Tryz.func130 Z (aS2 N0 N1) ?_;refine KF Z 2 Z O (λw Y=>f115 n Q0 (Y.q 0 Z) a1) ?_;rintro ⟨p1,c1⟩ a3;have q1:=congrArg List.length (ahp l);refine KV Z Z O (λw Y=>f129 n Q0 (Y.q 0 Z) r.pfx (Y.q 1 Z) a1 (a0.1) (a0.2.1)) λa9=>?_;have q2:=asj l r.pfx r.face;refine yKD 18 ?_ ?_<;>intro h1 ah;have r1:=a1.1;have r3:=i8 a9;refine R0 ?_;refine SI 20 ?_;refine zN (kk:=3) 501 3 4 λaa ag=>?_
 have a7:(a18 l r.pfx r.face).toNat<(a1d l).length:=Q4;refine zR 501 _ a7 ?_;rintro af rfl;obtain ⟨e1,a6,a5,ae⟩:=gO a3 _;refine R0 ?_;refine zO 501 4 5 _ a6 ?_;rintro A1 B1 ⟨⟨p2,c2⟩,_⟩ ad aj;refine zS 501 ad a7 ?_;refine R0 ?_;refine WX.turn [6,7,8] 9 Z (λh hs=>ae8 (e:=(aB.mk e1.pfx e1.face r.cost)) (x:=((p2,c2),(),())) ae hs) Z ?_
 refine zE 501 9 10 (hn:=(by first|(simp;done)|(simp;omega))) ?_;refine SL 37 ((a1d l).set (((a18 l r.pfx r.face)).toNat) (aB.mk e1.pfx e1.face r.cost)).length ?_;refine SL 19 ((a1d l).set (((a18 l r.pfx r.face)).toNat) (aB.mk e1.pfx e1.face r.cost)).length ?_;refine SL 6 ((a1d l).set (((a18 l r.pfx r.face)).toNat) (aB.mk e1.pfx e1.face r.cost)).length ?_
 refine SL 10 ((a1d l).set (((a18 l r.pfx r.face)).toNat) (aB.mk e1.pfx e1.face r.cost)).length ?_;have r5:=a3.1;refine CV Z O (λw Y=>f174 n Q0 (Y.q 10 Z) (aby Q5 (adz (okl a3).2 (show ok n ((aB.mk e1.pfx e1.face r.cost):aB)from (An (ack a5).1 (An (ack a5).2.1 (ack a0).2.2)))))) λa8=>?_
 refine yKA 39 ?_ ?_<;>intro h2;refine KF Z 12 Z O (λw Y=>f115 n Q0 (Y.q 0 Z) a1) ?_;rintro ⟨p3,c3⟩ ac;have a2:a29 l r=(a1d l,false):=by simp only [a29,h1,a6,h2,cC]
 refine R0 ?_;rw [a2];exact zX [13] (p3,c3) (by have z_:=aio a1 a0;rw [a2]at z_;exact GoT.okm Q0 z_);have a2:a29 l r=((a1d l).set ((a18 l r.pfx r.face).toNat) (aB.mk e1.pfx e1.face r.cost),true):=by simp only [a29,h1,a6,h2,cC]
 refine R0 ?_;rw [a2];exact zX [11] ((some af),c1) (by have z_:=aio a1 a0;rw [a2]at z_;exact GoT.okm Q0 z_);refine KF Z 4 Z O (λw Y=>f110 n Q0 r.pfx (Y.q 1 Z) (a0.1)) ?_;rintro ⟨p2,c2⟩ a8;refine yB λp3=>?_;refine zN (kk:=3) 501 3 6 λaa ag=>?_;refine zT [5] 7 (aB.mk (a05 r.pfx) r.face r.cost) ((p2,c2),(),()) λ_=>?_;have r1:=a1.1;have r3:=i8 (a0.2.2)
 refine WX.know (λG hΓ=>(hΓ.get 7 Z).rd.one) λab=>?_;refine zP 501 35 ((a1d l)++[(aB.mk (a05 r.pfx) r.face r.cost)]).length ab λp4 c3=>?_;refine zV [6,7] 8 ?_;refine yE 501 8 9 ?_
 refine CV Z O (λw Y=>f174 _ Q0 (Y.q 9 Z) (aby Q5 (λa ha=>GoT.okm (show n<=(n+1) by omega) ((ac2 (okl a3).2 (all_cons (α:=aB) (An a8 (An (ack a0).2.1 (ack a0).2.2)) nA)) a ha)))) λac=>?_;refine yKA 39 ?_ ?_<;>intro h2;refine KF Z 11 Z O (λw Y=>f115 n Q0 (Y.q 0 Z) a1) ?_;rintro ⟨p5,c4⟩ ai
 have a2:a29 l r=(a1d l,false):=by simp only [a29,h1,h2,cC]
 refine R0 ?_;rw [a2];exact zX [12] (p5,c4) (by have z_:=aio a1 a0;rw [a2]at z_;exact GoT.okm Q0 z_);have a2:a29 l r=((a1d l)++[(aB.mk (a05 r.pfx) r.face r.cost)],true):=by simp only [a29,h1,h2,cC]
 refine R0 ?_;rw [a2];exact zX [10] (p4,c3) (by have z_:=aio a1 a0;rw [a2]at z_;exact GoT.okm Q0 z_)
theorem f86 (hn:n+0<=9)(n_:aV)(N0:Rd w K0 M0 n_.links){a:Int}{b:Int}(a0:ok n n_)(a1:ok n a)(a2:ok n b):
 DP 86 #[adv n_ K0 M0,vI a,vI b] w (pI n (a0s n_ a b)):=by
 refine EN Tryz.func86 Z (aS1 N0) ?_;refine KF Z 1 Z O (λw Y=>f34 n Q0 n_ (Y.q 0 Z) a0 a1) ?_;rintro ⟨p1,c1⟩ a3;refine KV Z Z O (λw Y=>f89 n Q0 (Y.q 1 Z) a3 a2) λa4=>?_;refine SW0 ?_;rw [show a0s n_ a b=(i64.wrap ((adb (a1w n_ a) b)+1)) by simp only [a0s]];exact R6r Z Z (ad0 _)
theorem f128 (hn:n+0<=9)(n_:aV)(N0:Rd w K0 M0 n_.links){a:Int}{b:Int}(a0:ok n n_)(a1:ok n a)(a5:ok n b):
 DP 128 #[adv n_ K0 M0,vI a,vI b] w (pI n (a1j n_ a b)):=by
 have hb:=bS0 hn;refine EN Tryz.func128 Z (aS1 N0) ?_;refine KF Z 1 Z O (λw Y=>f121 n Q0 n_ (Y.q 0 Z) a0 a1) ?_;rintro ⟨p1,c1⟩ a4;have r2:=a4.1;refine LM Z 0 (λi=>((i<=((a1f n_ a)).length)/\(a6j b (a1f n_ a) 0=a6j b (((a1f n_ a)).drop i) i),((a1f n_ a)).length-i,[(8,.v (vI i))],[],[],[])) ⟨zl,Z⟩ [7,2] [] [0,2] [0,2] ?_;rintro i ⟨v1,v2⟩;refine yKD 15 ?_ ?_<;>intro h1 ab;obtain ⟨e1,a2,a9,a7⟩:=gO a4 i;refine zW 3 2 ?_;refine yI 3 i a7 ?_;rintro aa rfl
 refine zL 3 4 e1 a2 ?_;rintro ⟨⟩;refine yKE 23 ?_ ?_<;>intro h2 a8;refine SA ?_;have a6:=v2.trans (show _=(some ((i:Int)+1)) by rw [abu a2];simp only [a6j,h2,cC]);rw [show a1j n_ a b=(((i:Nat):Int)+1) by simp only [a1j,a6]];exact R6r Z Z (i6 ((i:Nat)+1));refine SA ?_;exact ITr Z (i+1) ⟨Q0,(by rw [v2,abu a2];simp only [a6j,h2,cC])⟩ Q1 [0,2];have a3:=v2.trans (show _=none by rw [dn];simp only [a6j];omega)
 rw [show a1j n_ a b=0 by simp only [a1j,a3]];exact R6r Z Z (i6 0)
theorem f39 (hn:n+1<=9)(n_:aV)(N0:Rd w K0 M0 n_.links){l:List aN}(N1:Rd w K1 M1 l){a:Int}(ac:ok n n_)(a9:ok n l)(ab:ok n a):
 DP 39 #[adv n_ K0 M0,vS K1 l M1,vI a] w (pS w n (a2s n_ l a)):=by
 have hb:=bS1 hn;refine EN Tryz.func39 Z (aS2 N0 N1) ?_;refine yB λp1=>?_;refine KF Z 2 Z O (λw Y=>f14 n Q0 (Y.q 1 Z) a9 ab) ?_;rintro ⟨p2,c1⟩ aw;refine F0 4 aB ?_;refine yE 17 4 5 ?_;have r3:=(okl aw).1
 refine WX.loop (ι:=(Option Addr)×Nat×(List aB)×Nat) ⟨λ|(a6,a7,a8,i)=>(i<=((a1h l a)).length)/\(a8.length<=bd n/\∀z_∈a8,ok n z_)/\(a2r n_ l a (a1h l a) ([]:List aB)=a2r n_ l a (((a1h l a)).drop i) a8),λ|(a6,a7,a8,i)=>((a1h l a)).length-i,λ|(a6,a7,a8,i)=>[(7,.v (.slice a6 (a8.length) a7)),(22,.v (.int .i64 (((i:Nat):Int)))),(21,.v (.int .i64 ((((a1h l a)).length:Int)))),(20,.v (.slice p2 (((a1h l a)).length) c1)),(3,.p 3 0),(1,.v (.slice K1 (l.length) M1)),(2,.v (.int .i64 a))],λ|(a6,a7,a8,i)=>[(3,⟨26,[.int .i64 (n_.size),.slice K0 (n_.links.length) M0]⟩)],λ|(a6,a7,a8,i)=>[],λ|(a6,a7,a8,i)=>[(0,MF.rs .stb K0 M0 n_.links),(1,MF.rs .stb K1 M1 l),(3,MF.os p2 c1 (a1h l a)),(6,MF.os a6 a7 a8)]⟩ (p1,0,([]:List aB),0) ⟨zl,(aby zl nA:ok n ([]:List aB)),Z⟩
   (.cons Z (.cons Z (.cons Z (.cons Z (.cons Z (.cons Z (.cons Z (.nil)))))))) (.cons Z (.nil)) .nil [0,1,3,6] Z ?_
 rintro ⟨a6,a7,a8,i⟩ ⟨v1,v2,v3⟩;refine yKD 23 ?_ ?_<;>intro h1 b7;obtain ⟨e1,af,ae,ay⟩:=gO aw i;have ba:=ar7 af;refine zW 7 3 ?_;refine yI 7 i ay ?_;rintro ah rfl;refine zL 7 8 e1 af ?_;rintro ⟨⟩;refine yKE 28 ?_ ?_<;>intro h2 b5;refine SA ?_;refine R0 ?_;exact WX.iter (a6,a7,a8,i+1) ⟨Q0,(acp v2),(by rw [v3,abu af];simp only [a2r,h2,cC])⟩ Q1 (.cons Z (.cons Z (.cons Z (.cons Z (.cons Z (.cons Z (.cons Z (.nil)))))))) (.cons Z (.nil)) .nil [0,1,3,6] Z
 refine KV Z Z O (λw Y=>f15 n Q0 (Y.q 1 Z) a9 ab ae) λam=>?_;refine KV Z Z O (λw Y=>f84 n Q0 (Y.q 1 Z) a9 ae) λb0=>?_;have r5:=i8 b0;refine SI 36 ?_;obtain ⟨e2,aq,ao,b3⟩:=gO a9 (((a14 l e1)).toNat);refine zI 1 (((a14 l e1)).toNat) b3 ?_;rintro ag rfl;refine yL 1 8 e2 aq ?_;rintro ⟨_,_,⟨p3,c2⟩,p4,c3⟩;have r6:=(okl (ae2 ao).2.2.2).1;refine R0 ?_
 refine WX.loop (ι:=(Option Addr)×Nat×(List aB)×Nat) ⟨λ|(a3,a2,a5,i2)=>(i2<=e2.cG.length)/\(a5.length<=bd n/\∀z_∈a5,ok n z_)/\(a48 n_ l a e1 e2.cG (a8:List aB)=a48 n_ l a e1 (e2.cG.drop i2) a5),λ|(a3,a2,a5,i2)=>e2.cG.length-i2,λ|(a3,a2,a5,i2)=>[(7,.v (.slice a3 (a5.length) a2)),(41,.v (.int .i64 (((i2:Nat):Int)))),(40,.v (.int .i64 ((e2.cG.length:Int)))),(39,.v (.slice p4 (e2.cG.length) c3)),(10,.v (.int .i64 ((a0f l a e1)))),(9,.v (.int .i64 e1)),(22,.v (.int .i64 (((i:Nat):Int)))),(21,.v (.int .i64 ((((a1h l a)).length:Int)))),(20,.v (.slice (some ah) (((a1h l a)).length) c1)),(3,.p 3 0),(1,.v (.slice (some ag) (l.length) M1)),(2,.v (.int .i64 a))],λ|(a3,a2,a5,i2)=>[(3,⟨26,[.int .i64 (n_.size),.slice K0 (n_.links.length) M0]⟩)],λ|(a3,a2,a5,i2)=>[],λ|(a3,a2,a5,i2)=>[(0,MF.rs .stb K0 M0 n_.links),(1,MF.rs .stb (some ag) M1 l),(3,MF.os (some ah) c1 (a1h l a)),(6,MF.os a3 a2 a5),(8,MF.rs .stb p3 c2 e2.cP),(9,MF.rs .stb p4 c3 e2.cG)]⟩ (a6,a7,(a8:List aB),0) ⟨zl,(acp v2),Z⟩
   (.cons Z (.cons Z (.cons Z (.cons Z (.cons Z (.cons Z (.cons Z (.cons Z (.cons Z (.cons Z (.cons Z (.cons Z (.nil))))))))))))) (.cons Z (.nil)) .nil [0,1,3,6,8,9] Z ?_
 rintro ⟨a3,a2,a5,i2⟩ ⟨v4,v5,v6⟩;refine yKD 42 ?_ ?_<;>intro h3 b4;obtain ⟨e3,ar,ak,b1⟩:=gO (ae2 ao).2.2.2 i2;refine yI 9 i2 b1 ?_;rintro av rfl;refine zL 9 10 e3 ar ?_;rintro ⟨p5,c4⟩;refine KF Z 11 Z O (λw Y=>f85 n Q0 (Y.q 1 Z) a9 ab ae) ?_;rintro ⟨p6,c5⟩ ap;have r7:=(okl ap).1;refine R0 ?_
 refine WX.loop (ι:=(Option Addr)×Nat×(List aB)×Nat) ⟨λ|(a4,a1,a0,i3)=>(i3<=((a28 l a e1)).length)/\(a0.length<=bd n/\∀z_∈a0,ok n z_)/\(a1y n_ l a e1 e3 (a28 l a e1) (a5:List aB)=a1y n_ l a e1 e3 (((a28 l a e1)).drop i3) a0),λ|(a4,a1,a0,i3)=>((a28 l a e1)).length-i3,λ|(a4,a1,a0,i3)=>[(7,.v (.slice a4 (a0.length) a1)),(50,.v (.int .i64 (((i3:Nat):Int)))),(49,.v (.int .i64 ((((a28 l a e1)).length:Int)))),(48,.v (.slice p6 (((a28 l a e1)).length) c5)),(12,.p 12 0),(41,.v (.int .i64 (((i2:Nat):Int)))),(40,.v (.int .i64 ((e2.cG.length:Int)))),(39,.v (.slice (some av) (e2.cG.length) c3)),(10,.v (.int .i64 ((a0f l a e1)))),(9,.v (.int .i64 e1)),(22,.v (.int .i64 (((i:Nat):Int)))),(21,.v (.int .i64 ((((a1h l a)).length:Int)))),(20,.v (.slice (some ah) (((a1h l a)).length) c1)),(3,.p 3 0),(1,.v (.slice (some ag) (l.length) M1)),(2,.v (.int .i64 a))],λ|(a4,a1,a0,i3)=>[(12,⟨49,[.slice p5 (e3.parts.length) c4]⟩),(3,⟨26,[.int .i64 (n_.size),.slice K0 (n_.links.length) M0]⟩)],λ|(a4,a1,a0,i3)=>[],λ|(a4,a1,a0,i3)=>[(0,MF.rs .stb K0 M0 n_.links),(1,MF.rs .stb (some ag) M1 l),(3,MF.os (some ah) c1 (a1h l a)),(6,MF.os a4 a1 a0),(8,MF.rs .stb p3 c2 e2.cP),(9,MF.rs .stb (some av) c3 e2.cG),(10,MF.rs .stb p5 c4 e3.parts),(12,MF.os p6 c5 (a28 l a e1))]⟩ (a3,a2,(a5:List aB),0) ⟨zl,(acp v5),Z⟩
   (.cons Z (.cons Z (.cons Z (.cons Z (.cons Z (.cons Z (.cons Z (.cons Z (.cons Z (.cons Z (.cons Z (.cons Z (.cons Z (.cons Z (.cons Z (.cons Z (.nil))))))))))))))))) (.cons Z (.cons Z (.nil))) .nil [0,1,3,6,8,9,10,12] Z ?_
 rintro ⟨a4,a1,a0,i3⟩ ⟨v7,v8,v9⟩;refine yKD 51 ?_ ?_<;>intro h4 b6;obtain ⟨e4,ad,au,b2⟩:=gO ap i3;refine zW 13 12 ?_;refine yI 13 i3 b2 ?_;rintro be rfl;refine zL 13 14 e4 ad ?_;rintro ⟨⟩;refine KV Z Z O (λw Y=>f86 n Q0 n_ (Y.q 0 Z) ac ab au) λai=>?_;refine zW 14 6 ?_;refine KV Z Z O (λw Y=>f87 n Q0 (Y.q 14 Z) e3 (Y.q 10 Z) (acp v8) ak ai) λax=>?_;have q2:=as3 a0 e3 (a0s n_ a e4);refine yKM 64 ?_ ?_<;>intro h5 bb;refine yKD 67 ?_ ?_<;>intro h6 bh
 refine KF Z 15 Z O (λw Y=>f88 n Q0 (Y.q 14 Z) (aB.mk e3 (a0s n_ a e4) (a0f l a e1)) (Y.q 10 Z) (acp v8) (An ak (An ai am))) ?_;rintro ⟨p7,c6⟩ al;refine SA ?_;refine zU [16] 6 ?_;refine R0 ?_
 exact WX.iter (p7,c6,(a1a a0 (aB.mk e3 (a0s n_ a e4) (a0f l a e1))).1,i3+1) ⟨Q0,al,(by rw [v9,abu ad];simp only [a1y,h5,h6,cC])⟩ Q1 (.cons Z (.cons Z (.cons Z (.cons Z (.cons Z (.cons Z (.cons Z (.cons Z (.cons Z (.cons Z (.cons Z (.cons Z (.cons Z (.cons Z (.cons Z (.cons Z (.nil))))))))))))))))) (.cons Z (.cons Z (.nil))) .nil [0,1,3,6,8,9,10,12] Z;have b8:=i8 ax;refine R0 ?_;refine SI 69 ?_
 have an:((a0x a0 e3 (a0s n_ a e4))).toNat<a0.length:=Q4;obtain ⟨e5,aj⟩:=gE an;refine zI 14 (((a0x a0 e3 (a0s n_ a e4))).toNat) an ?_;rintro az rfl;refine yL 14 15 e5 aj ?_;rintro ⟨⟨p7,c6⟩,_⟩;refine yKD 76 ?_ ?_<;>intro h7 bf;refine KF Z 16 Z O (λw Y=>f88 n Q0 (Y.q 14 Z) (aB.mk e3 (a0s n_ a e4) (a0f l a e1)) (Y.q 10 Z) (acp v8) (An ak (An ai am))) ?_;rintro ⟨p8,c7⟩ al;refine SA ?_;refine zU [17] 6 ?_;refine R0 ?_
 exact WX.iter (p8,c7,(a1a a0 (aB.mk e3 (a0s n_ a e4) (a0f l a e1))).1,i3+1) ⟨Q0,al,(by rw [v9,abu ad];simp only [a1y,h5,h6,aj,h7,cC])⟩ Q1 (.cons Z (.cons Z (.cons Z (.cons Z (.cons Z (.cons Z (.cons Z (.cons Z (.cons Z (.cons Z (.cons Z (.cons Z (.cons Z (.cons Z (.cons Z (.cons Z (.nil))))))))))))))))) (.cons Z (.cons Z (.nil))) .nil [0,1,3,6,8,9,10,12] Z;refine SA ?_;refine R0 ?_
 exact WX.iter ((some az),a1,a0,i3+1) ⟨Q0,(acp v8),(by rw [v9,abu ad];simp only [a1y,h5,h6,aj,h7,cC])⟩ Q1 (.cons Z (.cons Z (.cons Z (.cons Z (.cons Z (.cons Z (.cons Z (.cons Z (.cons Z (.cons Z (.cons Z (.cons Z (.cons Z (.cons Z (.cons Z (.cons Z (.nil))))))))))))))))) (.cons Z (.cons Z (.nil))) .nil [0,1,3,6,8,9,10,12] Z;refine SA ?_;refine R0 ?_
 exact WX.iter (a4,a1,a0,i3+1) ⟨Q0,(acp v8),(by rw [v9,abu ad];simp only [a1y,h5,cC])⟩ Q1 (.cons Z (.cons Z (.cons Z (.cons Z (.cons Z (.cons Z (.cons Z (.cons Z (.cons Z (.cons Z (.cons Z (.cons Z (.cons Z (.cons Z (.cons Z (.cons Z (.nil))))))))))))))))) (.cons Z (.cons Z (.nil))) .nil [0,1,3,6,8,9,10,12] Z;have aa:=v9.trans (show _=(a0:List aB) by rw [dn];simp only [a1y];omega);refine SA ?_;refine R0 ?_
 exact WX.iter (a4,a1,a0,i2+1) ⟨Q0,(acp v8),(by rw [v6,abu ar];simp only [a48,aa])⟩ Q1 (.cons Z (.cons Z (.cons Z (.cons Z (.cons Z (.cons Z (.cons Z (.cons Z (.cons Z (.cons Z (.cons Z (.cons Z (.nil))))))))))))) (.cons Z (.nil)) .nil [0,1,3,6,8,9] Z;have aa:=v6.trans (show _=(a5:List aB) by rw [dn];simp only [a48];omega);refine SA ?_;refine R0 ?_
 exact WX.iter (a3,a2,a5,i+1) ⟨Q0,(acp v5),(by rw [v3,abu af];simp only [a2r,h2,aq,aa,cC])⟩ Q1 (.cons Z (.cons Z (.cons Z (.cons Z (.cons Z (.cons Z (.cons Z (.nil)))))))) (.cons Z (.nil)) .nil [0,1,3,6] Z;have aa:=v3.trans (show _=(a8:List aB) by rw [dn];simp only [a2r];omega);rw [show a2s n_ l a=a8 by simp only [a2s,aa]];exact yX [6] (a6,a7) (acp v2)
theorem f72 (hn:n+1<=9)(n_:aV)(N0:Rd w K0 M0 n_.links){l:List aN}(N1:Rd w K1 M1 l){a:Int}(af:ok n n_)(a6:ok n l)(aa:ok n a):
 DP 72 #[adv n_ K0 M0,vS K1 l M1,vI a] w (pS w n (a49 n_ l a)):=by
 have hb:=bS1 hn;refine EN Tryz.func72 Z (aS2 N0 N1) ?_;refine yB λp1=>?_;refine KF Z 2 Z O (λw Y=>f124 n Q0 (Y.q 1 Z) a6 aa) ?_;rintro ⟨p2,c1⟩ b2;refine F0 4 aB ?_;refine yE 19 4 5 ?_;have r3:=(okl b2).1
 refine LK (p1,0,([]:List aB),0) (λ|(a8,a9,ab,i)=>((i<=((a3i l a)).length)/\JL n ab/\(a6k n_ l a (a3i l a) ([]:List aB)=a6k n_ l a (((a3i l a)).drop i) ab),((a3i l a)).length-i,[(7,.v (vS a8 ab a9)),(9,.v (vI i))],[],[],[(6,MF.os a8 a9 ab)])) ⟨zl,(aby zl nA:ok n ([]:List aB)),Z⟩ [8,3,1,2] [3] [0,1,3] [0,1,3,6] ?_;rintro ⟨a8,a9,ab,i⟩ ⟨v1,v2,v3⟩;refine yKA 26 ?_ ?_<;>intro h1
 have b7:(((i:Nat):Int)<(((a3i l a)).length:Int)):=B.dt h1;obtain ⟨e1,ac,aj,ak⟩:=gO b2 i;have bo:=aq0 ac;refine zW 7 3 ?_;refine yI 7 i ak ?_;rintro bm rfl;refine zL 7 8 e1 ac ?_;rintro ⟨⟩;refine CV Z O (λw Y=>f125 n Q0 (Y.q 1 Z) a6 aj) λb3=>?_;refine yI 7 i ak ?_;rintro bl ⟨⟩;refine zL 7 8 e1 ac ?_;rintro ⟨⟩;refine CF 8 Z O (λw Y=>f126 n Q0 (Y.q 1 Z) a6 aa aj) ?_;rintro ⟨p3,c2⟩ az;refine yI 7 i ak ?_;rintro bv ⟨⟩;refine zL 7 10 e1 ac ?_;rintro ⟨⟩
 refine CV Z O (λw Y=>f127 n Q0 (Y.q 1 Z) a6 aa aj) λaw=>?_
 refine LM Z (a8,a9,(ab:List aB),0) (λ|(a3,a2,a1,i2)=>(JL n a1/\(i2<=pfxL l (a0r l e1))/\(pfxL l (a0r l e1)<=bd n)/\(a5r n_ l a e1 0 (ab:List aB)=a5r n_ l a e1 i2 a1),pfxL l (a0r l e1)+1-i2,[(7,.v (vS a3 a1 a2)),(13,.v (vI i2))],[],[],[(6,MF.os a3 a2 a1),(9,MF.os p3 c2 (a47 l a e1))])) ⟨(acp v2),zl,(avt a6 _),Z⟩ [12,11,10,9,8,3,1,2] [3] [0,1,3] [0,1,3,6,9] ?_;rintro ⟨a3,a2,a1,i2⟩ ⟨v4,v5,v6,v7⟩
 have r5:=i8 b3;refine R0 ?_;refine SI 51 ?_;obtain ⟨e2,ad,b4,am⟩:=gO a6 (((a0r l e1)).toNat);refine zI 1 (((a0r l e1)).toNat) am ?_;rintro br rfl;refine yL 1 10 e2 ad ?_;rintro ⟨_,_,⟨p4,c3⟩,p5,c4⟩;refine yKA 57 ?_ ?_<;>intro h2;have ai:(((i2:Nat):Int)<(e2.cG.length:Int)):=B.dt h2;refine zW 12 3 ?_;refine yI 12 i ak ?_;rintro bq ⟨⟩;refine zL 12 13 e1 ac ?_;rintro ⟨⟩;refine yKM 64 ?_ ?_<;>intro h3 bj;have r6:=(okl az).1
 refine LM Z (a3,a2,(a1:List aB),0) (λ|(a5,a4,a0,i3)=>((i3<=((a47 l a e1)).length)/\JL n a0/\(a3w n_ l a e1 e2 i2 (a47 l a e1) (a1:List aB)=a3w n_ l a e1 e2 i2 (((a47 l a e1)).drop i3) a0),((a47 l a e1)).length-i3,[(7,.v (vS a5 a0 a4)),(14,.v (vI i3))],[],[],[(6,MF.os a5 a4 a0),(9,MF.os p3 c2 (a47 l a e1)),(10,MF.rs .stb p4 c3 e2.cP),(11,MF.rs .stb p5 c4 e2.cG)])) ⟨zl,(acp v4),Z⟩ [63,62,61,60,59,58,13,12,11,10,9,8,3,1,2] [3] [0,1,3] [0,1,3,6,9,10,11] ?_
 rintro ⟨a5,a4,a0,i3⟩ ⟨v8,v9,ag⟩;refine yKA 70 ?_ ?_<;>intro h4;have b6:(((i3:Nat):Int)<(((a47 l a e1)).length:Int)):=B.dt h4;obtain ⟨e3,ah,au,bg⟩:=gO az i3;refine zW 13 9 ?_;refine yD [] λbs G0 ax=>?_;refine dT 4 [0,3,5,7] ?_;refine zDI 4 13 i3 ax Z bg ?_;rintro bx rfl;refine zDL 5 13 14 e3 ax ah ?_;rintro ⟨⟩;refine DXV 6 Z J Z O (λw Y=>f128 n Q0 n_ (Y.q 0 Z) af aa au) λal=>?_;refine dT 0 [15] ?_;refine DX.tail2 [] Z Z J ?_;refine R0 ?_;refine SI 82 ?_
 refine zI 1 (((a0r l e1)).toNat) am ?_;rintro bk ⟨⟩;refine yL 1 14 e2 ad ?_;rintro ⟨_,_,⟨p6,c5⟩,p7,c6⟩;obtain ⟨e4,ae,aq,ar⟩:=gO (ae2 b4).2.2.2 i2;refine yI 15 i2 ar ?_;rintro bw rfl;refine zL 15 16 e4 ae ?_;rintro ⟨p8,c7⟩;refine zW 17 6 ?_;refine KV Z Z O (λw Y=>f129 n Q0 (Y.q 17 Z) e4 (Y.q 16 Z) (acp v9) aq al) λb5=>?_;have q2:=asj a0 e4 (a1j n_ a e3);refine yKA 93 ?_ ?_<;>intro h5;refine yKA 96 ?_ ?_<;>intro h6
 have bh:((a18 a0 e4 (a1j n_ a e3))<0):=B.dt h6;refine R0 ?_;refine SI 109 ?_;refine zI 1 (((a0r l e1)).toNat) am ?_;rintro b1 ⟨⟩;refine yL 1 18 e2 ad ?_;rintro ⟨_,_,⟨p9,c8⟩,b8,c9⟩;refine yI 19 i2 ar ?_;rintro ap rfl;refine zL 19 20 e4 ae ?_;rintro ⟨bc,be⟩;refine KF Z 21 Z O (λw Y=>f130 n Q0 (Y.q 17 Z) (aB.mk e4 (a1j n_ a e3) (a1q l a e1)) (Y.q 20 Z) (acp v9) (An aq (An al aw))) ?_;rintro ⟨ay,b0⟩ ao;refine SA ?_;refine zU [22] 6 ?_
 exact ITr Z (ay,b0,(a29 a0 (aB.mk e4 (a1j n_ a e3) (a1q l a e1))).1,i3+1) ⟨Q0,ao,(by rw [ag,abu ah];simp only [a3w,ae,h5,h6,cC])⟩ Q1 [0,1,3,6,9,10,11];have bh:¬((a18 a0 e4 (a1j n_ a e3))<0):=B.df h6;have r9:=i8 b5;refine R0 ?_;refine SI 98 ?_;have av:((a18 a0 e4 (a1j n_ a e3))).toNat<a0.length:=Q4;obtain ⟨e5,an⟩:=gE av
 refine zI 17 (((a18 a0 e4 (a1j n_ a e3))).toNat) av ?_;rintro b1 rfl;refine yL 17 18 e5 an ?_;rintro ⟨⟨p9,c8⟩,_⟩;refine yKA 105 ?_ ?_<;>intro h7;refine R0 ?_;refine SI 109 ?_;refine zI 1 (((a0r l e1)).toNat) am ?_;rintro ap ⟨⟩;refine yL 1 19 e2 ad ?_;rintro ⟨_,_,⟨b8,c9⟩,bc,be⟩;refine yI 20 i2 ar ?_;rintro ba rfl;refine zL 20 21 e4 ae ?_;rintro ⟨ay,b0⟩
 refine KF Z 22 Z O (λw Y=>f130 n Q0 (Y.q 17 Z) (aB.mk e4 (a1j n_ a e3) (a1q l a e1)) (Y.q 21 Z) (acp v9) (An aq (An al aw))) ?_;rintro ⟨bi,b9⟩ ao;refine SA ?_;refine zU [23] 6 ?_;exact ITr Z (bi,b9,(a29 a0 (aB.mk e4 (a1j n_ a e3) (a1q l a e1))).1,i3+1) ⟨Q0,ao,(by rw [ag,abu ah];simp only [a3w,ae,h5,h6,an,h7,cC])⟩ Q1 [0,1,3,6,9,10,11];refine SA ?_
 exact ITr Z ((some b1),a4,a0,i3+1) ⟨Q0,(acp v9),(by rw [ag,abu ah];simp only [a3w,ae,h5,h6,an,h7,cC])⟩ Q1 [0,1,3,6,9,10,11];refine SA ?_;exact ITr Z (a5,a4,a0,i3+1) ⟨Q0,(acp v9),(by rw [ag,abu ah];simp only [a3w,ae,h5,cC])⟩ Q1 [0,1,3,6,9,10,11];have b6:¬(((i3:Nat):Int)<(((a47 l a e1)).length:Int)):=B.df h4
 have a7:=ag.trans (show _=(a0:List aB) by rw [dn];simp only [a3w];omega);refine SA ?_;exact ITr Z (a5,a4,a0,i2+1) ⟨(acp v9),(by have z_:=as7 (show l[(a0r l e1).toNat]? =some _ by assumption);omega),Q12,(by rw [v7];rw [a5r];simp only [(show i2<=pfxL l (a0r l e1) by omega),ad,ai,h3,a7,↓reduceIte])⟩ Q1 [0,1,3,6,9]
 have a7:=v7.trans (show _=(i2,(a1:List aB)) by rw [a5r];simp only [(show i2<=pfxL l (a0r l e1) by omega),ad,ai,h3,↓reduceIte,Bool.false_eq_true]);refine SA ?_;exact ITr Z (a3,a2,a1,i+1) ⟨Q0,(acp v4),(by rw [v3,abu ac];simp only [a6k,a7])⟩ Q1 [0,1,3,6];have ai:¬(((i2:Nat):Int)<(e2.cG.length:Int)):=B.df h2
 have a7:=v7.trans (show _=(i2,(a1:List aB)) by rw [a5r];simp only [(show i2<=pfxL l (a0r l e1) by omega),ad,ai,↓reduceIte]);refine SA ?_;exact ITr Z (a3,a2,a1,i+1) ⟨Q0,(acp v4),(by rw [v3,abu ac];simp only [a6k,a7])⟩ Q1 [0,1,3,6];have b7:¬(((i:Nat):Int)<(((a3i l a)).length:Int)):=B.df h1
 have a7:=v3.trans (show _=(ab:List aB) by rw [dn];simp only [a6k];omega);rw [show a49 n_ l a=ab by simp only [a49,a7]];exact yX [6] (a8,a9) (acp v2)
theorem f9 (hn:n+0<=9)(n_:aV)(N0:Rd w K0 M0 n_.links){aM:List aK}(N1:Rd w K1 M1 aM){version:Int}(a6:ok n n_)(a1:ok n aM)(a0:ok n version):
 DP 9 #[adv n_ K0 M0,vS K1 aM M1,vI version] w (pS w n (a08 n_ aM version)):=by
 have hb:=bS0 hn;refine EN Tryz.func9 Z (aS2 N0 N1) ?_;refine KV Z Z O (λw Y=>f32 n Q0 n_ (Y.q 0 Z) a6) λaw=>?_;refine yKN 15 ?_ ?_<;>intro h1 ax;refine F1 2 aN ?_;rw [show a08 n_ aM version=([]:List aN) by simp only [a08,h1,cC]];exact yX [2] (none,0) (acd (α:=aN));refine KV Z Z O (λw Y=>f33 n Q0 a0 (i6 1) (i6 1000)) λak=>?_;refine yKN 19 ?_ ?_<;>intro h2 ao;refine F1 2 aN ?_
 rw [show a08 n_ aM version=([]:List aN) by simp only [a08,h1,h2,cC]];exact yX [2] (none,0) (acd (α:=aN));refine yB λp1=>?_;refine F0 2 aN ?_;have r1:=i8 ((acm a6).1);have az:=aty (show a5k n_=true by assumption)
 refine LM Z (p1,0,[],([]:List aN),0) (λ|(a4,a5,a2,a3,i)=>((i<=n_.size.toNat)/\JE n a3/\(a3.length<=i)/\(a4q n_ aM version (n_.size.toNat) 0 ([]:List aN)=a4q n_ aM version (n_.size.toNat-i) i a3),n_.size.toNat-i,[(7,.v (vS a4 a3 a5)),(23,.v (vI i))],[],[(20,⟨4,a4,a3.length,a5,a2⟩)],[(2,MF.ol a2 (a3:List aN))])) ⟨zl,nA,Q10,Z⟩ [22,3,1,2] [3] [0,1] [0,1,2] ?_;rintro ⟨a4,a5,a2,a3,i⟩ ⟨v1,v2,v3,v4⟩;refine yKD 24 ?_ ?_<;>intro h3 am
 refine KF Z 3 Z O (λw Y=>f34 n Q0 n_ (Y.q 0 Z) a6 (i6 ((i:Nat):Int))) ?_;rintro ⟨p2,c1⟩ ad;refine R0 ?_;refine WX.row0 501 1 none Z ?_;refine F0 5 aA ?_;have r2:=(okl a1).1
 refine LK (0,none,0,[],([]:List aA)) (λ|(i2,aa,a9,a7,x_)=>((i2<=aM.length)/\JE n x_/\(x_.length<=i2)/\(a2k i aM ([]:List aA)=a2k i (aM.drop i2) x_),aM.length-i2,[(34,.v (vI i2))],[(9,⟨92,[.int .i64 (((i:Nat):Int)),.int .i64 version,.slice p2 (((a1w n_ ((i:Nat):Int))).length) c1,.slice aa (x_.length) a9]⟩)],[(20,⟨4,a4,a3.length,a5,a2⟩),(501,⟨1,aa,x_.length,a9,a7⟩)],[(5,MF.ol a7 (x_:List aA))])) ⟨zl,nA,Q10,Z⟩ [33,32,9,8,7,23,22,3,1,2] [3] [0,1,2,4] [0,1,2,4,5] ?_
 rintro ⟨i2,aa,a9,a7,x_⟩ ⟨v5,v6,v7,v8⟩;refine yKD 35 ?_ ?_<;>intro h4 ap;obtain ⟨e1,ab,ah,ai⟩:=gO a1 i2;refine yI 1 i2 ai ?_;rintro au rfl;refine zL 1 6 e1 ab ?_;rintro ⟨⟨p3,c2⟩,_⟩;refine yKE 42 ?_ ?_<;>intro h5 aq;refine yKD 47 ?_ ?_<;>intro h6 an;refine zW 7 4 ?_;refine yD [6,7,8] λbs G0 ar=>?_;refine dT 5 [1,2,5,6] ?_;refine DXF 4 8 Z J Z O (λw Y=>f35 n Q0 e1.name (Y.q 6 Z) ((acs ah).1)) ?_;rintro ⟨p4,c3⟩ ag;refine DX.tail2 [5,6,7,8] Z Z J ?_;refine zB λp5=>?_
 refine zT (α:=aA) [9] 10 (a0l e1.name) (p4,c3) λaf=>?_;refine zP 501 53 ((x_++[(a0l e1.name)]):List aA).length af λp6 c4=>?_;refine zV [5,10] 11 ?_;refine SA ?_;refine zU [11] 5 ?_;exact ITr Z (i2+1,p6,c4,_,((x_++[(a0l e1.name)]):List aA)) ⟨Q0,(ac2 v6 (all_cons (α:=aA) ag nA)),Q3,(by rw [v8,abu ab];simp only [a2k,h5,h6,cC])⟩ Q1 [0,1,2,4,5];refine SA ?_
 exact ITr Z (i2+1,aa,a9,a7,(x_:List aA)) ⟨Q0,v6,Q3,(by rw [v8,abu ab];simp only [a2k,h5,h6,cC])⟩ Q1 [0,1,2,4,5];refine SA ?_;exact ITr Z (i2+1,aa,a9,a7,(x_:List aA)) ⟨Q0,v6,Q3,(by rw [v8,abu ab];simp only [a2k,h5,cC])⟩ Q1 [0,1,2,4,5]
 have a8:=v8.trans (show _=(x_:List aA) by rw [dn];simp only [a2k];omega);refine yE 501 5 18 ?_;refine zB λay=>?_;refine zT (α:=aN) [4,19] 20 (aN.mk ((i:Nat):Int) version (a1w n_ ((i:Nat):Int)) x_) ((),(),(p2,c1),(aa,a9)) λ_=>?_;refine WX.know (λG hΓ=>(hΓ.get 20 Z:OwL _ _ _).rd.one) λac=>?_
 refine zP 20 59 ((a3++[(aN.mk ((i:Nat):Int) version (a1w n_ ((i:Nat):Int)) x_)]):List aN).length ac λae aj=>?_;refine zV [2,20] 21 ?_;refine SA ?_;refine zU [21] 2 ?_
 exact ITr Z (ae,aj,_,((a3++[(aN.mk ((i:Nat):Int) version (a1w n_ ((i:Nat):Int)) x_)]):List aN),i+1) ⟨Q0,(ac2 v2 (all_cons (α:=aN) (An (i6 ((i:Nat):Int)) (An a0 (An ad (aby Q0 v6:ok n (x_:List aA))))) nA)),Q3,(by rw [v4,show n_.size.toNat-i=(n_.size.toNat- (i+1))+1 by omega];simp only [a4q,a8])⟩ Q1 [0,1,2]
 have a8:=v4.trans (show _=(a3:List aN) by rw [show n_.size.toNat-i=0 by omega];simp only [a4q]);refine yE 20 2 15 ?_;rw [show a08 n_ aM version=a3 by simp only [a08,h1,h2,a8,cC]];exact zX [16] (a4,a5) (aby Q0 v2:ok n (a3:List aN))
theorem f69 (hn:n+0<=9)(n_:aV)(N0:Rd w K0 M0 n_.links){names:List aK}(N1:Rd w K1 M1 names){ver:Int}(a6:ok n n_)(a0:ok n names)(a1:ok n ver):
 DP 69 #[adv n_ K0 M0,vS K1 names M1,vI ver] w (pS w n (a2t n_ names ver)):=by
 have hb:=bS0 hn;refine EN Tryz.func69 Z (aS2 N0 N1) ?_;refine yB λp1=>?_;refine KV Z Z O (λw Y=>f119 n Q0 n_ (Y.q 0 Z) a6) λax=>?_;refine yKN 15 ?_ ?_<;>intro h1 ay;refine F0 2 aN ?_;refine yE 11 2 3 ?_;rw [show a2t n_ names ver=([]) by simp only [a2t,h1,cC]];exact zX [4] (p1,0) (aby zl nA:ok n ([]:List aN));refine KV Z Z O (λw Y=>f120 n Q0 a1 (i6 1) (i6 1000)) λal=>?_;refine yKN 19 ?_ ?_<;>intro h2 ap;refine F0 2 aN ?_;refine yE 11 2 3 ?_
 rw [show a2t n_ names ver=([]) by simp only [a2t,h1,h2,cC]];exact zX [4] (p1,0) (aby zl nA:ok n ([]:List aN));refine F0 2 aN ?_;have r1:=i8 ((acm a6).1);have b0:=aor (show a4j n_=true by assumption)
 refine LM Z (p1,0,[],([]:List aN),0) (λ|(a4,a5,a2,a3,i)=>((i<=n_.size.toNat)/\JE n a3/\(a3.length<=i)/\(a7i n_ names ver (n_.size.toNat) 0 ([]:List aN)=a7i n_ names ver (n_.size.toNat-i) i a3),n_.size.toNat-i,[(7,.v (vS a4 a3 a5)),(8,.v (vI i))],[],[(11,⟨4,a4,a3.length,a5,a2⟩)],[(2,MF.ol a2 (a3:List aN))])) ⟨zl,nA,Q10,Z⟩ [3,1,2] [3] [0,1] [0,1,2] ?_;rintro ⟨a4,a5,a2,a3,i⟩ ⟨v1,v2,v3,v4⟩;refine yKD 24 ?_ ?_<;>intro h3 an
 refine KF Z 3 Z O (λw Y=>f121 n Q0 n_ (Y.q 0 Z) a6 (i6 ((i:Nat):Int))) ?_;rintro ⟨p2,c1⟩ af;refine R0 ?_;refine WX.row0 501 1 none Z ?_;refine F0 5 aA ?_;have r2:=(okl a0).1
 refine LK (0,none,0,[],([]:List aA)) (λ|(i2,aa,a9,a7,x_)=>((i2<=names.length)/\JE n x_/\(x_.length<=i2)/\(a4r i names ([]:List aA)=a4r i (names.drop i2) x_),names.length-i2,[(10,.v (vI i2))],[(9,⟨92,[.int .i64 (((i:Nat):Int)),.int .i64 ver,.slice p2 (((a1f n_ ((i:Nat):Int))).length) c1,.slice aa (x_.length) a9]⟩)],[(11,⟨4,a4,a3.length,a5,a2⟩),(501,⟨1,aa,x_.length,a9,a7⟩)],[(5,MF.ol a7 (x_:List aA))])) ⟨zl,nA,Q10,Z⟩ [9,7,8,3,1,2] [3] [0,1,2,4] [0,1,2,4,5] ?_
 rintro ⟨i2,aa,a9,a7,x_⟩ ⟨v5,v6,v7,v8⟩
 ·skip
  refine yKD 37 ?_ ?_<;>intro h4 aq;obtain ⟨e1,ab,aj,ad⟩:=gO a0 i2;refine yKD 42 ?_ ?_<;>intro h5 ar;refine yI 1 i2 ad ?_;rintro av rfl;refine yL 1 6 e1 ab ?_;rintro ⟨⟨p3,c2⟩,_⟩;refine yKE 51 ?_ ?_<;>intro h6 ao;refine zW 7 4 ?_;refine yD [9,10,11] λbs G0 ae=>?_;refine dT 8 [1,2,5,7] ?_;refine zDI 4 1 i2 ae Z ad ?_;rintro au ⟨⟩;refine dT 6 [11] ?_;refine zDL 6 1 8 e1 ae ab ?_;rintro ⟨⟨p4,c3⟩,_⟩;refine DXF 7 9 Z J Z O (λw Y=>f110 n Q0 e1.name (Y.q 8 Z) ((acs aj).1)) ?_;rintro ⟨p5,c4⟩ ai;refine DX.tail2 [8,9,10,11] Z Z J ?_
  refine zB λp6=>?_;refine zT (α:=aA) [10] 11 (a05 e1.name) (p5,c4) λah=>?_;refine zP 501 60 ((x_++[(a05 e1.name)]):List aA).length ah λp7 c5=>?_;refine zV [5,11] 12 ?_;refine SA ?_;refine zU [12] 5 ?_;exact ITr Z (i2+1,p7,c5,_,((x_++[(a05 e1.name)]):List aA)) ⟨Q0,(ac2 v6 (all_cons (α:=aA) ai nA)),Q3,(by rw [v8,abu ab];simp only [a4r,h5,h6,cC])⟩ Q1 [0,1,2,4,5];refine SA ?_
  exact ITr Z (i2+1,aa,a9,a7,(x_:List aA)) ⟨Q0,v6,Q3,(by rw [v8,abu ab];simp only [a4r,h5,h6,cC])⟩ Q1 [0,1,2,4,5];have a8:=v8.trans (show _=(x_:List aA) by rw [abu ab];simp only [a4r,h5,cC]);rotate_left;have a8:=v8.trans (show _=(x_:List aA) by rw [dn];simp only [a4r];omega);rotate_left
  all_goals
   refine yE 501 5 18 ?_;refine zB λaz=>?_;refine zT (α:=aN) [4,19] 20 (aN.mk ((i:Nat):Int) ver (a1f n_ ((i:Nat):Int)) x_) ((),(),(p2,c1),(aa,a9)) λ_=>?_;refine WX.know (λG hΓ=>(hΓ.get 20 Z:OwL _ _ _).rd.one) λac=>?_;refine zP 11 65 ((a3++[(aN.mk ((i:Nat):Int) ver (a1f n_ ((i:Nat):Int)) x_)]):List aN).length ac λag ak=>?_;refine zV [2,20] 21 ?_;refine SA ?_;refine zU [21] 2 ?_
   exact ITr Z (ag,ak,_,((a3++[(aN.mk ((i:Nat):Int) ver (a1f n_ ((i:Nat):Int)) x_)]):List aN),i+1) ⟨Q0,(ac2 v2 (all_cons (α:=aN) (An (i6 ((i:Nat):Int)) (An a1 (An af (aby Q0 v6:ok n (x_:List aA))))) nA)),Q3,(by rw [v4,show n_.size.toNat-i=(n_.size.toNat- (i+1))+1 by omega];simp only [a7i,a8])⟩ Q1 [0,1,2]
 have a8:=v4.trans (show _=(a3:List aN) by rw [show n_.size.toNat-i=0 by omega];simp only [a7i]);refine yE 11 2 15 ?_;rw [show a2t n_ names ver=a3 by simp only [a2t,h1,h2,a8,cC]];exact zX [16] (a4,a5) (aby Q0 v2:ok n (a3:List aN))
end Go.Proofs.YthdfhghdipdknaaGreat
namespace Go.Stp
def a4a (w_:aD):List aH->Nat->(List aH)->(List aH)|[],i,wNodes=>((wNodes):List aH)|_::rest_,i,wNodes=>bif (a58 (aD.mk w_.aG w_.aF w_.aM wNodes w_.aY w_.aU w_.aL w_.aE w_.now w_.aP) ((i:Nat):Int))then match (wNodes)[i]? with|none=>default|some e2=>a4a w_ rest_ (i+1) (((wNodes.set i (aH.mk e2.bF e2.bG e2.bH e2.bS (a2s w_.aG (a08 (a0z w_) w_.aM 1) ((i:Nat):Int)) e2.bQ e2.aP))):List aH)else a4a w_ rest_ (i+1) ((wNodes):List aH)
def a7j (w_:aD):aD:=match a4a w_ w_.aI 0 (w_.aI:List aH)with|wNodes=>(aD.mk w_.aG w_.aF w_.aM wNodes w_.aY w_.aU w_.aL w_.aE w_.now w_.aP)
def a4b (w_:aD)(i:Nat)(wNodes:List aH):Nat×(List aH):=if i<=w_.aI.length then if ((i:Nat):Int)<((wNodes).length:Int)then if (a3u (aD.mk w_.aG w_.aF w_.aM wNodes w_.aY w_.aU w_.aL w_.aE w_.now w_.aP) ((i:Nat):Int))=true then match (wNodes)[i]? with|none=>default|some e1=>a4b w_ (i+1) (((wNodes.set i (aH.mk e1.bF e1.bG e1.bH e1.bS (a49 w_.aG (a2t (a3v w_) w_.aM 1) ((i:Nat):Int)) e1.bQ e1.aP))):List aH)else a4b w_ (i+1) ((wNodes):List aH)else (i,((wNodes):List aH))else default
termination_by w_.aI.length + 1 - i
decreasing_by all_goals (simp_wf; omega)
def a2a (w_:aD):aD:=match a4b w_ 0 (w_.aI:List aH)with|(i,wNodes)=>(aD.mk w_.aG w_.aF w_.aM wNodes w_.aY w_.aU w_.aL w_.aE w_.now w_.aP)
def a0y (w_:aD):aD:=(a7j (a8p w_))
def aa4 (w_:aD):aD:=(a2a (a0b w_))
def a6l (caps:Int):Nat->(List aH)->(List aH)|0,w_=>((w_):List aH)|m_+1,w_=>a6l caps m_ (((w_++[(a6e caps)])):List aH)
def a0c (g:aV)(t:bU)(h_:(List aK))(caps:Int):aD:=bif (!(a4j g))then (aD.mk (aV.mk 0 ([])) (bU.mk ([]) ([]) ([]) ([])) ([]) ([]) 0 ([]) ([]) ([]) 0 0)else bif (!(a42 t))then (aD.mk (aV.mk 0 ([])) (bU.mk ([]) ([]) ([]) ([])) ([]) ([]) 0 ([]) ([]) ([]) 0 0)else bif (!(aag h_ g.size))then (aD.mk (aV.mk 0 ([])) (bU.mk ([]) ([]) ([]) ([])) ([]) ([]) 0 ([]) ([]) ([]) 0 0)else match a6l caps ((g.size).toNat) ((a0b (aD.mk g t h_ ([]) 0 ([]) ([]) ([]) 0 0)).aI:List aH)with|w_=>(a2a (aD.mk ((a0b (aD.mk g t h_ ([]) 0 ([]) ([]) ([]) 0 0)).aG) ((a0b (aD.mk g t h_ ([]) 0 ([]) ([]) ([]) 0 0)).aF) ((a0b (aD.mk g t h_ ([]) 0 ([]) ([]) ([]) 0 0)).aM) w_ ((a0b (aD.mk g t h_ ([]) 0 ([]) ([]) ([]) 0 0)).aY) ((a0b (aD.mk g t h_ ([]) 0 ([]) ([]) ([]) 0 0)).aU) ((a0b (aD.mk g t h_ ([]) 0 ([]) ([]) ([]) 0 0)).aL) ((a0b (aD.mk g t h_ ([]) 0 ([]) ([]) ([]) 0 0)).aE) ((a0b (aD.mk g t h_ ([]) 0 ([]) ([]) ([]) 0 0)).now) ((a0b (aD.mk g t h_ ([]) 0 ([]) ([]) ([]) 0 0)).aP)))
end Go.Stp
namespace Go.Proofs.YthdfhghdipdknaaGreat
open Go.Stp
open Go.Stp.GoT (ok)
variable {w : World} (n : Nat) {K0 K1 K2 K3 K4 K5 K6 K7 K8 K9 : Option Addr} {M0 M1 M2 M3 M4 M5 M6 M7 M8 M9 : Nat}
theorem f18 (hn:n+1<=9){H:GH}(hH:Le H (hp w))(bw_:Nat)(w_:aD)(K0:OA)(M0:Nat)(K1:OA)(M1:Nat)(K2:OA)(M2:Nat)(K3:OA)(M3:Nat)(K4:OA)(M4:Nat)(K5:OA)(M5:Nat)(K6:OA)(M6:Nat)(K7:OA)(M7:Nat)(K8:OA)(M8:Nat)(K9:OA)(M9:Nat)(hown:Sep H (bN bw_ w_ (nT K0 M0 K1 M1 K2 M2 K3 M3 K4 M4 K5 M5 K6 M6 K7 M7 K8 M8 K9 M9)))(a0:ok n w_):
 Does Tryz.prog 18 #[.pointer (some ⟨bw_,0,none⟩)] w H (Post w H (λx:GoT.X (aD)=> .tuple #[]) (bN bw_ (a7j w_)) (ok n ((a7j w_):aD))):=by
 have hb:=bS1 hn;refine EP 10 Tryz.func18 Z J Z ac8 hH hown ?_;refine zW 20 10 ?_;refine zW 21 11 ?_;refine zW 22 12 ?_;refine zW 23 13 ?_;refine zW 24 14 ?_;refine zW 25 15 ?_;refine zW 26 16 ?_;refine zW 27 17 ?_;refine zW 28 18 ?_;refine zW 29 19 ?_;refine yD [] λbs G0 ae=>?_;refine dT 3 [1,3,4,9,11,13,14] ?_;refine DXF 3 30 Z J Z O (λw Y=>f10 n Q0 w_ (Y.q 20 Z) (Y.q 21 Z) (Y.q 22 Z) (Y.q 23 Z) (Y.q 24 Z) (Y.q 25 Z) (Y.q 26 Z) (Y.q 27 Z) (Y.q 28 Z) (Y.q 29 Z) a0) ?_;rintro ⟨_,p1,c1⟩ ag;dsimp only
 refine DXF 8 32 Z J Z O (λw Y=>f9 n Q0 _ (Y.q 30 Z) (Y.q 25 Z) ag (a0.2.2.1) (i6 1)) ?_;rintro ⟨p2,c2⟩ a8;dsimp only
 refine dT 0 [19] ?_;refine DX.tail2 [] Z Z J ?_
 refine LM Z (0,K6,M6,w_.aI) (λ|(i,a3,a2,a1)=>((i<=w_.aI.length)/\JL n a1/\(a1.length=w_.aI.length)/\(a4a w_ w_.aI 0 w_.aI=a4a w_ (w_.aI.drop i) i a1),w_.aI.length-i,[(18,.v (vI i))],[(999,⟨39,[.int .i64 (w_.aG.size),.slice K0 (w_.aG.links.length) M0,.slice K1 (w_.aF.keys.length) M1,.slice K2 (w_.aF.bR.length) M2,.slice K3 (w_.aF.bV.length) M3,.slice K4 (w_.aF.bW.length) M4,.slice K5 (w_.aM.length) M5,.slice a3 (a1.length) a2,.int .i64 (w_.aY),.slice K7 (w_.aU.length) M7,.slice K8 (w_.aL.length) M8,.slice K9 (w_.aE.length) M9,.int .i64 (w_.now),.int .i64 (w_.aP)]⟩)],[],[(16,MF.os a3 a2 a1),(17,MF.os K7 M7 w_.aU),(18,MF.os K8 M8 w_.aL),(19,MF.os K9 M9 w_.aE),_])) ⟨zl,a0.2.2.2.1,Z,Z⟩ [17,2,0] [] [10,11,12,13,14,15] [10,11,12,13,14,15,16,17,18,19,33] ?_
 rintro ⟨i,a3,a2,a1⟩ ⟨v1,v2,v3,v4⟩;have an:=v2.1;refine yKD 19 ?_ ?_<;>intro h1 al;obtain ⟨e1,ac,ai,aj⟩:=gO a0.2.2.2.1 i;refine zW 34 10 ?_;refine zW 35 11 ?_;refine zW 36 12 ?_;refine zW 37 13 ?_;refine zW 38 14 ?_;refine zW 39 15 ?_;refine zW 40 16 ?_;refine zW 41 17 ?_;refine zW 42 18 ?_;refine zW 43 19 ?_
 refine KV Z Z O (λw Y=>f11 n Q0 (aD.mk w_.aG w_.aF w_.aM a1 w_.aY w_.aU w_.aL w_.aE w_.now w_.aP) (Y.q 34 Z) (Y.q 35 Z) (Y.q 36 Z) (Y.q 37 Z) (Y.q 38 Z) (Y.q 39 Z) (Y.q 40 Z) (Y.q 41 Z) (Y.q 42 Z) (Y.q 43 Z) (An a0.1 (An a0.2.1 (An a0.2.2.1 (An (acp v2) (An a0.2.2.2.2.1 (An a0.2.2.2.2.2.1 (An a0.2.2.2.2.2.2.1 (An a0.2.2.2.2.2.2.2.1 (An a0.2.2.2.2.2.2.2.2.1 a0.2.2.2.2.2.2.2.2.2))))))))) (i6 (i:Nat))) λak=>?_
 refine yKA 25 ?_ ?_<;>intro h2;refine zW 44 33 ?_;refine yD [12,13,14] λbs G0 ae=>?_;refine dT 4 [1,3,5,6,9,11,13,15,16,19,21] ?_;refine DXF 11 45 Z J Z O (λw Y=>f39 n Q0 w_.aG (Y.q 34 Z) (Y.q 44 Z) (a0.1) a8 (i6 (i:Nat))) ?_;rintro ⟨p3,c3⟩ a9;refine DX.tail2 [12,13,14] Z Z J ?_;refine zN (kk:=8) 501 16 47 λah ao=>?_;have ab:i<a1.length:=Q4;refine zR 501 i ab ?_;rintro af rfl;have aa:i<a1.length:=Q4;obtain ⟨e2,a6⟩:=gE aa
 have a4:=v2.2 _ (List.mem_of_getElem? a6);refine R0 ?_;refine zO 501 47 48 i a6 ?_;rintro A1 B1 ⟨⟨p4,c4⟩,⟨_,p5,c5⟩,⟨p6,c6⟩,⟨p7,c7⟩,⟨p8,c8⟩,⟨p9,c9⟩,_⟩ ad am;refine zS 501 ad ab ?_;refine SA ?_;refine R0 ?_
 refine WX.turn [54,55,56,57,46,59,60,61] 62 Z (λh hs=>ae8 (e:=(aH.mk e2.bF e2.bG e2.bH e2.bS (a2s w_.aG (a08 (a0z w_) w_.aM 1) ((i:Nat):Int)) e2.bQ e2.aP)) (x:=((p4,c4),((),(p5,c5)),(p6,c6),(p7,c7),(p3,c3),(p9,c9),())) aa hs) Z ?_
 refine zE 501 62 63 (hn:=(by first|(simp;done)|(simp;omega))) ?_;refine WX.lsl 999 7 ((a1.set i (aH.mk e2.bF e2.bG e2.bH e2.bS (a2s w_.aG (a08 (a0z w_) w_.aM 1) (i:Nat)) e2.bQ e2.aP))).length Z Q14 ?_
 refine SL 29 ((a1.set i (aH.mk e2.bF e2.bG e2.bH e2.bS (a2s w_.aG (a08 (a0z w_) w_.aM 1) (i:Nat)) e2.bQ e2.aP))).length ?_;refine zU [64] 16 ?_
 exact IT (i+1,(some af),a2,(a1.set i (aH.mk e2.bF e2.bG e2.bH e2.bS (a2s w_.aG (a08 (a0z w_) w_.aM 1) (i:Nat)) e2.bQ e2.aP))) ⟨Q0,(aby Q3 (adz v2.2 (show ok n ((aH.mk e2.bF e2.bG e2.bH e2.bS (a2s w_.aG (a08 (a0z w_) w_.aM 1) ((i:Nat):Int)) e2.bQ e2.aP):aH)from (An (abw a4).1 (An (abw a4).2.1 (An (abw a4).2.2.1 (An (abw a4).2.2.2.1 (An a9 (An (abw a4).2.2.2.2.2.1 (abw a4).2.2.2.2.2.2))))))))),Q5,(by rw [v4,abu ac];simp only [a4a,h2,a6,cC])⟩ Q1 [10,11,12,13,14,15,16,17,18,19,33]
 refine SA ?_;exact ITr Z (i+1,a3,a2,a1) ⟨Q0,(acp v2),Q5,(by rw [v4,abu ac];simp only [a4a,h2,cC])⟩ Q1 [10,11,12,13,14,15,16,17,18,19,33];have a7:=v4.trans (show _=a1 by rw [dn];simp only [a4a];omega);have a5:a7j w_=(aD.mk w_.aG w_.aF w_.aM a1 w_.aY w_.aU w_.aL w_.aE w_.now w_.aP):=by simp only [a7j,a7]
 refine R0 ?_;refine WX.fin ttOk Z λw1 G bs hI hΓ=>?_;rw [a5];exact Post.ofL 999 [10,11,12,13,14,15,16,17,18,19] (nT K0 M0 K1 M1 K2 M2 K3 M3 K4 M4 K5 M5 a3 a2 K7 M7 K8 M8 K9 M9) hI hΓ Z Z Z (by rw [hI.pin _ rfl];first|done|rfl) (An a0.1 (An a0.2.1 (An a0.2.2.1 (An (acp v2) (An a0.2.2.2.2.1 (An a0.2.2.2.2.2.1 (An a0.2.2.2.2.2.2.1 (An a0.2.2.2.2.2.2.2.1 (An a0.2.2.2.2.2.2.2.2.1 a0.2.2.2.2.2.2.2.2.2)))))))))
theorem f31 (hn:n+1<=9){H:GH}(hH:Le H (hp w))(bw_:Nat)(w_:aD)(K0:OA)(M0:Nat)(K1:OA)(M1:Nat)(K2:OA)(M2:Nat)(K3:OA)(M3:Nat)(K4:OA)(M4:Nat)(K5:OA)(M5:Nat)(K6:OA)(M6:Nat)(K7:OA)(M7:Nat)(K8:OA)(M8:Nat)(K9:OA)(M9:Nat)(hown:Sep H (bN bw_ w_ (nT K0 M0 K1 M1 K2 M2 K3 M3 K4 M4 K5 M5 K6 M6 K7 M7 K8 M8 K9 M9)))(a1:ok n w_):
 Does Tryz.prog 31 #[.pointer (some ⟨bw_,0,none⟩)] w H (Post w H (λx:GoT.X (aD)=> .tuple #[]) (bN bw_ (a2a w_)) (ok n ((a2a w_):aD))):=by
 have hb:=bS1 hn;refine EP (Γ:=[]) 10 Tryz.func31 Z J Z ac8 hH hown ?_;refine zW 20 10 ?_;refine zW 21 11 ?_;refine zW 22 12 ?_;refine zW 23 13 ?_;refine zW 24 14 ?_;refine zW 25 15 ?_;refine zW 26 16 ?_;refine zW 27 17 ?_;refine zW 28 18 ?_;refine zW 29 19 ?_;refine yD [] λbs G0 ai=>?_;refine dT 3 [1,3,4,9,11,13,14] ?_;refine DXF 3 30 Z J Z O (λw Y=>f70 n Q0 w_ (Y.q 20 Z) (Y.q 21 Z) (Y.q 22 Z) (Y.q 23 Z) (Y.q 24 Z) (Y.q 25 Z) (Y.q 26 Z) (Y.q 27 Z) (Y.q 28 Z) (Y.q 29 Z) a1) ?_;rintro ⟨_,p1,c1⟩ af;dsimp only
 refine DXF 8 32 Z J Z O (λw Y=>f69 n Q0 (a3v w_) (Y.q 30 Z) (Y.q 25 Z) af ((abt a1).2.2.1) (i6 1)) ?_;rintro ⟨p2,c2⟩ a9;dsimp only
 refine dT 0 [19] ?_;refine DX.tail2 [] Z Z J ?_
 refine LM Z (0,K6,M6,(w_.aI:List aH)) (λ|(i,a3,a2,a0)=>(JL n a0/\(a0.length=w_.aI.length)/\(i<=w_.aI.length)/\(a4b w_ 0 (w_.aI:List aH)=a4b w_ i a0),w_.aI.length+1-i,[(3,.v (vI i))],[(999,⟨39,[.int .i64 (w_.aG.size),.slice K0 (w_.aG.links.length) M0,.slice K1 (w_.aF.keys.length) M1,.slice K2 (w_.aF.bR.length) M2,.slice K3 (w_.aF.bV.length) M3,.slice K4 (w_.aF.bW.length) M4,.slice K5 (w_.aM.length) M5,.slice a3 (a0.length) a2,.int .i64 (w_.aY),.slice K7 (w_.aU.length) M7,.slice K8 (w_.aL.length) M8,.slice K9 (w_.aE.length) M9,.int .i64 (w_.now),.int .i64 (w_.aP)]⟩)],[],[(16,MF.os a3 a2 a0),(17,MF.os K7 M7 w_.aU),(18,MF.os K8 M8 w_.aL),(19,MF.os K9 M9 w_.aE),(33,MF.os p2 c2 (a2t (a3v w_) w_.aM 1))])) ⟨(abt a1).2.2.2.1,Z,zl,Z⟩ [2,0] [] [10,11,12,13,14,15] [10,11,12,13,14,15,16,17,18,19,33] ?_
 rintro ⟨i,a3,a2,a0⟩ ⟨v1,v2,v3,v4⟩;have ah:=v1.1;refine yKD 20 ?_ ?_<;>intro h1 a7;refine zW 34 10 ?_;refine zW 35 11 ?_;refine zW 36 12 ?_;refine zW 37 13 ?_;refine zW 38 14 ?_;refine zW 39 15 ?_;refine zW 40 16 ?_;refine zW 41 17 ?_;refine zW 42 18 ?_;refine zW 43 19 ?_
 refine KV Z Z O (λw Y=>f71 n Q0 (aD.mk w_.aG w_.aF w_.aM a0 w_.aY w_.aU w_.aL w_.aE w_.now w_.aP) (Y.q 34 Z) (Y.q 35 Z) (Y.q 36 Z) (Y.q 37 Z) (Y.q 38 Z) (Y.q 39 Z) (Y.q 40 Z) (Y.q 41 Z) (Y.q 42 Z) (Y.q 43 Z) (An (abt a1).1 (An (abt a1).2.1 (An (abt a1).2.2.1 (An (acp v1) (An (abt a1).2.2.2.2.1 (An (abt a1).2.2.2.2.2.1 (An (abt a1).2.2.2.2.2.2.1 (An (abt a1).2.2.2.2.2.2.2.1 (An (abt a1).2.2.2.2.2.2.2.2.1 (abt a1).2.2.2.2.2.2.2.2.2))))))))) (i6 ((i:Nat):Int))) λaj=>?_
 refine yKA 27 ?_ ?_<;>intro h2;refine zW 44 33 ?_;refine KF Z 45 Z O (λw Y=>f72 n Q0 w_.aG (Y.q 34 Z) (Y.q 44 Z) ((abt a1).1) a9 (i6 ((i:Nat):Int))) ?_;rintro ⟨p3,c3⟩ aa;refine R0 ?_;refine zN (kk:=8) 501 16 47 λag al=>?_;have ac:i<a0.length:=Q4;refine zR 501 i ac ?_;rintro ae rfl;have ab:i<a0.length:=Q4;obtain ⟨e1,a6⟩:=gE ab;have a4:ok n e1:=v1.2 _ (List.mem_of_getElem? a6);refine R0 ?_;refine zO (α:=aH) (e:=e1) 501 47 48 i a6 ?_
 rintro A1 B1 ⟨⟨p4,c4⟩,⟨_,p5,c5⟩,⟨p6,c6⟩,⟨p7,c7⟩,⟨p8,c8⟩,⟨p9,c9⟩,_⟩ ad ak;refine zS 501 ad ac ?_;refine SA ?_;refine R0 ?_;refine WX.turn [54,55,56,57,46,59,60,61] 62 Z (λh hs=>ae8 (α:=aH) (e:=(aH.mk e1.bF e1.bG e1.bH e1.bS (a49 w_.aG (a2t (a3v w_) w_.aM 1) ((i:Nat):Int)) e1.bQ e1.aP)) (x:=((p4,c4),((),(p5,c5)),(p6,c6),(p7,c7),(p3,c3),(p9,c9),())) ab hs) Z ?_
 refine zE 501 62 63 (hn:=(show a0.length=((a0.set i (aH.mk e1.bF e1.bG e1.bH e1.bS (a49 w_.aG (a2t (a3v w_) w_.aM 1) ((i:Nat):Int)) e1.bQ e1.aP))).length from by first|(simp;done)|(simp;omega))) ?_;refine WX.lsl 999 7 ((a0.set i (aH.mk e1.bF e1.bG e1.bH e1.bS (a49 w_.aG (a2t (a3v w_) w_.aM 1) ((i:Nat):Int)) e1.bQ e1.aP))).length Z Q14 ?_
 refine SL 38 ((a0.set i (aH.mk e1.bF e1.bG e1.bH e1.bS (a49 w_.aG (a2t (a3v w_) w_.aM 1) ((i:Nat):Int)) e1.bQ e1.aP))).length ?_;refine SL 18 ((a0.set i (aH.mk e1.bF e1.bG e1.bH e1.bS (a49 w_.aG (a2t (a3v w_) w_.aM 1) ((i:Nat):Int)) e1.bQ e1.aP))).length ?_;refine zU [64] 16 ?_
 exact IT (i+1,(some ae),a2,(a0.set i (aH.mk e1.bF e1.bG e1.bH e1.bS (a49 w_.aG (a2t (a3v w_) w_.aM 1) ((i:Nat):Int)) e1.bQ e1.aP))) ⟨(aby Q3 (adz v1.2 (show ok n ((aH.mk e1.bF e1.bG e1.bH e1.bS (a49 w_.aG (a2t (a3v w_) w_.aM 1) ((i:Nat):Int)) e1.bQ e1.aP):aH)from (An (abw a4).1 (An (abw a4).2.1 (An (abw a4).2.2.1 (An (abw a4).2.2.2.1 (An aa (An (abw a4).2.2.2.2.2.1 (abw a4).2.2.2.2.2.2)))))))):ok n ((a0.set i (aH.mk e1.bF e1.bG e1.bH e1.bS (a49 w_.aG (a2t (a3v w_) w_.aM 1) ((i:Nat):Int)) e1.bQ e1.aP)):List aH)),Q5,Q0,(by rw [v4];rw [a4b];simp only [(show i<=w_.aI.length by omega),a7,h2,a6,↓reduceIte])⟩ Q1 [10,11,12,13,14,15,16,17,18,19,33]
 refine SA ?_;exact ITr Z (i+1,a3,a2,a0) ⟨(acp v1),Q5,Q0,(by rw [v4];rw [a4b];simp only [(show i<=w_.aI.length by omega),a7,h2,↓reduceIte,Bool.false_eq_true])⟩ Q1 [10,11,12,13,14,15,16,17,18,19,33];have a8:=v4.trans (show _=(i,(a0:List aH)) by rw [a4b];simp only [(show i<=w_.aI.length by omega),a7,↓reduceIte])
 have a5:a2a w_=(aD.mk w_.aG w_.aF w_.aM a0 w_.aY w_.aU w_.aL w_.aE w_.now w_.aP):=by simp only [a2a,a8]
 refine R0 ?_;refine WX.fin ttOk Z λw1 G bs hI hΓ=>?_;rw [a5];exact Post.ofL 999 [10,11,12,13,14,15,16,17,18,19] (nT K0 M0 K1 M1 K2 M2 K3 M3 K4 M4 K5 M5 a3 a2 K7 M7 K8 M8 K9 M9) hI hΓ Z Z Z (by rw [hI.pin _ rfl];first|done|rfl) (An (abt a1).1 (An (abt a1).2.1 (An (abt a1).2.2.1 (An (acp v1) (An (abt a1).2.2.2.2.1 (An (abt a1).2.2.2.2.2.1 (An (abt a1).2.2.2.2.2.2.1 (An (abt a1).2.2.2.2.2.2.2.1 (An (abt a1).2.2.2.2.2.2.2.2.1 (abt a1).2.2.2.2.2.2.2.2.2)))))))))
theorem f5 (hn:n+1<=9)(w_:aD)(N0:Rd w K0 M0 w_.aG.links)(N1:Rd w K1 M1 w_.aF.keys)(N2:Rd w K2 M2 w_.aF.bR)(N3:Rd w K3 M3 w_.aF.bV)(N4:Rd w K4 M4 w_.aF.bW)(N5:Rd w K5 M5 w_.aM)(N6:Rd w K6 M6 w_.aI)(N7:Rd w K7 M7 w_.aU)(N8:Rd w K8 M8 w_.aL)(N9:Rd w K9 M9 w_.aE)(a0:ok n w_):
 DP 5 #[af9 w_ K0 M0 K1 M1 K2 M2 K3 M3 K4 M4 K5 M5 K6 M6 K7 M7 K8 M8 K9 M9] w (pA w n (a0y w_)):=by
 refine EN Tryz.func5 Z (aC 0 N0 (aC 1 N1 (aC 2 N2 (aC 3 N3 (aC 4 N4 (aC 5 N5 (aC 6 N6 (aC 7 N7 (aC 8 N8 (aC 9 N9 ac8)))))))))) ?_;refine KF Z 10 Z O (λw Y=>f17 n Q0 w_ (Y.q 0 Z) (Y.q 1 Z) (Y.q 2 Z) (Y.q 3 Z) (Y.q 4 Z) (Y.q 5 Z) (Y.q 6 Z) (Y.q 7 Z) (Y.q 8 Z) (Y.q 9 Z) a0) ?_;rintro ⟨⟨_,p1,c1⟩,⟨⟨p2,c2⟩,⟨p3,c3⟩,⟨p4,c4⟩,p5,c5⟩,⟨p6,c6⟩,⟨p7,c7⟩,_,⟨p8,c8⟩,⟨p9,c9⟩,⟨a6,af⟩,_⟩ aj;dsimp only
 refine R0 ?_;refine CU _ 3 [20,21,22,23,24,25,26,27,28,29] 30 Z Z Z Z Z Z Z O Z (λw β H η σ Y=>f18 n Q0 η _ _ p1 c1 p2 c2 p3 c3 p4 c4 p5 c5 p6 c6 p7 c7 p8 c8 p9 c9 a6 af σ aj) O ?_;rintro ⟨⟨_,ah,a4⟩,⟨⟨a2,a9⟩,⟨al,ak⟩,⟨ao,ae⟩,ab,aa⟩,⟨ag,an⟩,⟨am,a1⟩,_,⟨a7,ai⟩,⟨ac,ad⟩,⟨a5,a8⟩,_⟩ a3;dsimp only
 rw [show a0y w_=(a7j (a8p w_)) by simp only [a0y]];exact yX [40,41,42,43,44,45,46,47,48,49] (nT ah a4 a2 a9 al ak ao ae ab aa ag an am a1 a7 ai ac ad a5 a8) a3
theorem f8 (hn:n+1<=9)(w_:aD)(N0:Rd w K0 M0 w_.aG.links)(N1:Rd w K1 M1 w_.aF.keys)(N2:Rd w K2 M2 w_.aF.bR)(N3:Rd w K3 M3 w_.aF.bV)(N4:Rd w K4 M4 w_.aF.bW)(N5:Rd w K5 M5 w_.aM)(N6:Rd w K6 M6 w_.aI)(N7:Rd w K7 M7 w_.aU)(N8:Rd w K8 M8 w_.aL)(N9:Rd w K9 M9 w_.aE)(a0:ok n w_):
 DP 8 #[af9 w_ K0 M0 K1 M1 K2 M2 K3 M3 K4 M4 K5 M5 K6 M6 K7 M7 K8 M8 K9 M9] w (pA w n (aa4 w_)):=by
 refine EN Tryz.func8 Z (aC 0 N0 (aC 1 N1 (aC 2 N2 (aC 3 N3 (aC 4 N4 (aC 5 N5 (aC 6 N6 (aC 7 N7 (aC 8 N8 (aC 9 N9 ac8)))))))))) ?_;refine KF Z 10 Z O (λw Y=>f30 n Q0 w_ (Y.q 0 Z) (Y.q 1 Z) (Y.q 2 Z) (Y.q 3 Z) (Y.q 4 Z) (Y.q 5 Z) (Y.q 6 Z) (Y.q 7 Z) (Y.q 8 Z) (Y.q 9 Z) a0) ?_;rintro ⟨⟨_,p1,c1⟩,⟨⟨p2,c2⟩,⟨p3,c3⟩,⟨p4,c4⟩,p5,c5⟩,⟨p6,c6⟩,⟨p7,c7⟩,_,⟨p8,c8⟩,⟨p9,c9⟩,⟨a6,af⟩,_⟩ aj;dsimp only
 have q1:=l32n w_;try dsimp only at q1
 try simp only [List.length_nil]at q1
 refine R0 ?_;refine CU _ 3 [20,21,22,23,24,25,26,27,28,29] 30 Z Z Z Z Z Z Z O Z (λw β H η σ Y=>f31 n Q0 η _ _ p1 c1 p2 c2 p3 c3 p4 c4 p5 c5 p6 c6 p7 c7 p8 c8 p9 c9 a6 af σ aj) O ?_;rintro ⟨⟨_,ah,a4⟩,⟨⟨a2,a9⟩,⟨al,ak⟩,⟨ao,ae⟩,ab,aa⟩,⟨ag,an⟩,⟨am,a1⟩,_,⟨a7,ai⟩,⟨ac,ad⟩,⟨a5,a8⟩,_⟩ a3;dsimp only
 rw [show aa4 w_=(a2a (a0b w_)) by simp only [aa4]];exact yX [40,41,42,43,44,45,46,47,48,49] (nT ah a4 a2 a9 al ak ao ae ab aa ag an am a1 a7 ai ac ad a5 a8) a3
theorem f149 (hn:n+1<=9)(g:aV)(N0:Rd w K0 M0 g.links)(t:bU)(N1:Rd w K1 M1 t.keys)(N2:Rd w K2 M2 t.bR)(N3:Rd w K3 M3 t.bV)(N4:Rd w K4 M4 t.bW){h_:List aK}(N5:Rd w K5 M5 h_){caps:Int}(a2:ok n g)(a4:ok n t)(a3:ok n h_)(a0:ok n caps):
 DP 149 #[adv g K0 M0,ado t K1 M1 K2 M2 K3 M3 K4 M4,vS K5 h_ M5,vI caps] w (pA w n (a0c g t h_ caps)):=by
 have hb:=bS1 hn;refine EN Tryz.func149 Z (aS6 N0 N1 N2 N3 N4 N5) ?_;refine KV Z Z O (λw Y=>f119 n Q0 g (Y.q 0 Z) a2) λbp=>?_;refine yKN 14 ?_ ?_<;>intro h1 bj;refine F1 6 aQ ?_;refine F1 7 Key ?_;refine F1 8 bO ?_;refine F1 9 aA ?_;refine F1 10 aJ ?_;refine F1 11 aK ?_;refine F1 12 aH ?_;refine F1 13 Int ?_;refine F1 14 aZ ?_;refine F1 15 aX ?_;rw [show a0c g t h_ caps=(aD.mk (aV.mk 0 ([])) (bU.mk ([]) ([]) ([]) ([])) ([]) ([]) 0 ([]) ([]) ([]) 0 0) by simp only [a0c,h1,cC]]
 rotate_left;refine KV Z Z O (λw Y=>f186 n Q0 t (Y.q 1 Z) (Y.q 2 Z) (Y.q 3 Z) (Y.q 4 Z) a4) λbe=>?_;refine yKN 19 ?_ ?_<;>intro h2 bg;refine F1 6 aQ ?_;refine F1 7 Key ?_;refine F1 8 bO ?_;refine F1 9 aA ?_;refine F1 10 aJ ?_;refine F1 11 aK ?_;refine F1 12 aH ?_;refine F1 13 Int ?_;refine F1 14 aZ ?_;refine F1 15 aX ?_;rw [show a0c g t h_ caps=(aD.mk (aV.mk 0 ([])) (bU.mk ([]) ([]) ([]) ([])) ([]) ([]) 0 ([]) ([]) ([]) 0 0) by simp only [a0c,h1,h2,cC]];rotate_left
 refine KV Z Z O (λw Y=>f187 n Q0 (Y.q 5 Z) a3 ((acm a2).1)) λbl=>?_;refine yKN 25 ?_ ?_<;>intro h3 bf;refine F1 6 aQ ?_;refine F1 7 Key ?_;refine F1 8 bO ?_;refine F1 9 aA ?_;refine F1 10 aJ ?_;refine F1 11 aK ?_;refine F1 12 aH ?_;refine F1 13 Int ?_;refine F1 14 aZ ?_;refine F1 15 aX ?_;rw [show a0c g t h_ caps=(aD.mk (aV.mk 0 ([])) (bU.mk ([]) ([]) ([]) ([])) ([]) ([]) 0 ([]) ([]) ([]) 0 0) by simp only [a0c,h1,h2,h3,cC]];rotate_left
 refine KF Z 6 Z O (λw Y=>f30 n Q0 (aD.mk g t h_ ([]) 0 ([]) ([]) ([]) 0 0) (Y.q 0 Z) (Y.q 1 Z) (Y.q 2 Z) (Y.q 3 Z) (Y.q 4 Z) (Y.q 5 Z) (ah8 _ _ _) (ah8 _ _ _) (ah8 _ _ _) (ah8 _ _ _) (An a2 (An a4 (An a3 (An (acd (α:=aH)) (An (i6 0) (An (acd (α:=Int)) (An (acd (α:=aZ)) (An (acd (α:=aX)) (An (i6 0) (i6 0))))))))))) ?_;rintro ⟨⟨_,p1,c1⟩,⟨⟨p2,c2⟩,⟨p3,c3⟩,⟨p4,c4⟩,p5,c5⟩,⟨p6,c6⟩,⟨p7,c7⟩,_,⟨p8,c8⟩,⟨p9,c9⟩,⟨a8,aa⟩,_⟩ a1;dsimp only
 have q1:=l32n (aD.mk g t h_ ([]) 0 ([]) ([]) ([]) 0 0);try dsimp only at q1
 try simp only [List.length_nil]at q1
 have r1:=i8 ((acm a2).1);have bm:=aor (show a4j g=true by assumption)
 refine LM Z (0,p7,c7,((a0b (aD.mk g t h_ ([]) 0 ([]) ([]) ([]) 0 0)).aI:List aH)) (λ|(i,a5,a6,w_)=>((i<=g.size.toNat)/\JL n w_/\(w_.length<=i+((a0b (aD.mk g t h_ ([]) 0 ([]) ([]) ([]) 0 0)).aI).length)/\(a6l caps (g.size.toNat) ((a0b (aD.mk g t h_ ([]) 0 ([]) ([]) ([]) 0 0)).aI:List aH)=a6l caps (g.size.toNat-i) w_),g.size.toNat-i,[(10,.v (vI i))],[(9,⟨39,[.int .i64 ((a0b (aD.mk g t h_ ([]) 0 ([]) ([]) ([]) 0 0)).aG.size),.slice p1 (((a0b (aD.mk g t h_ ([]) 0 ([]) ([]) ([]) 0 0)).aG.links).length) c1,.slice p2 (((a0b (aD.mk g t h_ ([]) 0 ([]) ([]) ([]) 0 0)).aF.keys).length) c2,.slice p3 (((a0b (aD.mk g t h_ ([]) 0 ([]) ([]) ([]) 0 0)).aF.bR).length) c3,.slice p4 (((a0b (aD.mk g t h_ ([]) 0 ([]) ([]) ([]) 0 0)).aF.bV).length) c4,.slice p5 (((a0b (aD.mk g t h_ ([]) 0 ([]) ([]) ([]) 0 0)).aF.bW).length) c5,.slice p6 (((a0b (aD.mk g t h_ ([]) 0 ([]) ([]) ([]) 0 0)).aM).length) c6,.slice a5 (w_.length) a6,.int .i64 ((a0b (aD.mk g t h_ ([]) 0 ([]) ([]) ([]) 0 0)).aY),.slice p8 (((a0b (aD.mk g t h_ ([]) 0 ([]) ([]) ([]) 0 0)).aU).length) c8,.slice p9 (((a0b (aD.mk g t h_ ([]) 0 ([]) ([]) ([]) 0 0)).aL).length) c9,.slice a8 (((a0b (aD.mk g t h_ ([]) 0 ([]) ([]) ([]) 0 0)).aE).length) aa,.int .i64 ((a0b (aD.mk g t h_ ([]) 0 ([]) ([]) ([]) 0 0)).now),.int .i64 ((a0b (aD.mk g t h_ ([]) 0 ([]) ([]) ([]) 0 0)).aP)]⟩)],[],[(22,MF.os a5 a6 w_),(23,MF.os p8 c8 ((a0b (aD.mk g t h_ ([]) 0 ([]) ([]) ([]) 0 0)).aU)),(24,MF.os p9 c9 ((a0b (aD.mk g t h_ ([]) 0 ([]) ([]) ([]) 0 0)).aL)),(25,MF.os a8 aa ((a0b (aD.mk g t h_ ([]) 0 ([]) ([]) ([]) 0 0)).aE))])) ⟨zl,(abt a1).2.2.2.1,Q10,Z⟩ [9,8,4,3] [8,4] [0,1,2,3,4,5,16,17,18,19,20,21] [0,1,2,3,4,5,16,17,18,19,20,21,22,23,24,25] ?_
 rintro ⟨i,a5,a6,w_⟩ ⟨v1,v2,v3,v4⟩;refine yKD 35 ?_ ?_<;>intro h4 bh;refine zW 26 16 ?_;refine zW 27 17 ?_;refine zW 28 18 ?_;refine zW 29 19 ?_;refine zW 30 20 ?_;refine zW 31 21 ?_;refine zW 32 22 ?_;refine zW 33 23 ?_;refine zW 34 24 ?_;refine zW 35 25 ?_;refine yD [5,6,7] λbs G0 bi=>?_;refine dT 5 [1,2,5] ?_;refine DXF 3 36 Z J Z O (λw Y=>f188 n Q0 a0) ?_;rintro ⟨⟨am,b2⟩,⟨_,ai,aj⟩,⟨bb,b0⟩,⟨ap,aw⟩,⟨ak,ag⟩,⟨b6,ah⟩,_⟩ az;refine DX.tail2 [4,5,6,7] Z Z J ?_;refine zB λbn=>?_;refine zN (kk:=8) 501 22 48 λbk bq=>?_
 refine zT (α:=aH) [42,43,44,45,46,47] 49 (a6e caps) ((am,b2),((),(ai,aj)),(bb,b0),(ap,aw),(ak,ag),(b6,ah),()) λ_=>?_;refine WX.know (λG hΓ=>(hΓ.get 49 Z:OwL _ _ _).rd.one) λau=>?_;refine zP 501 42 ((w_++[(a6e caps)]):List aH).length au λb1 ac=>?_;refine zV [48,49] 50 ?_;refine SA ?_;refine yE 501 50 51 ?_;refine zU [52] 22 ?_
 exact IT (i+1,b1,ac,(w_++[(a6e caps)])) ⟨Q0,(aby Q5 (ac2 v2.2 (all_cons (α:=aH) az nA)):ok n ((w_++[(a6e caps)]):List aH)),Q3,(by rw [v4,show g.size.toNat-i=(g.size.toNat- (i+1))+1 by omega];simp only [a6l])⟩ Q1 [0,1,2,3,4,5,16,17,18,19,20,21,22,23,24,25]
 have a7:=v4.trans (show _=(w_:List aH) by rw [show g.size.toNat-i=0 by omega];simp only [a6l]);refine R0 ?_
 refine CU (a2a (aD.mk ((a0b (aD.mk g t h_ ([]) 0 ([]) ([]) ([]) 0 0)).aG) ((a0b (aD.mk g t h_ ([]) 0 ([]) ([]) ([]) 0 0)).aF) ((a0b (aD.mk g t h_ ([]) 0 ([]) ([]) ([]) 0 0)).aM) w_ ((a0b (aD.mk g t h_ ([]) 0 ([]) ([]) ([]) 0 0)).aY) ((a0b (aD.mk g t h_ ([]) 0 ([]) ([]) ([]) 0 0)).aU) ((a0b (aD.mk g t h_ ([]) 0 ([]) ([]) ([]) 0 0)).aL) ((a0b (aD.mk g t h_ ([]) 0 ([]) ([]) ([]) 0 0)).aE) ((a0b (aD.mk g t h_ ([]) 0 ([]) ([]) ([]) 0 0)).now) ((a0b (aD.mk g t h_ ([]) 0 ([]) ([]) ([]) 0 0)).aP))) 9 [16,17,18,19,20,21,22,23,24,25] 38 Z Z Z Z Z Z Z O Z (λw β H η σ Y=>f31 n Q0 η (β 9) (aD.mk ((a0b (aD.mk g t h_ ([]) 0 ([]) ([]) ([]) 0 0)).aG) ((a0b (aD.mk g t h_ ([]) 0 ([]) ([]) ([]) 0 0)).aF) ((a0b (aD.mk g t h_ ([]) 0 ([]) ([]) ([]) 0 0)).aM) w_ ((a0b (aD.mk g t h_ ([]) 0 ([]) ([]) ([]) 0 0)).aY) ((a0b (aD.mk g t h_ ([]) 0 ([]) ([]) ([]) 0 0)).aU) ((a0b (aD.mk g t h_ ([]) 0 ([]) ([]) ([]) 0 0)).aL) ((a0b (aD.mk g t h_ ([]) 0 ([]) ([]) ([]) 0 0)).aE) ((a0b (aD.mk g t h_ ([]) 0 ([]) ([]) ([]) 0 0)).now) ((a0b (aD.mk g t h_ ([]) 0 ([]) ([]) ([]) 0 0)).aP)) p1 c1 p2 c2 p3 c3 p4 c4 p5 c5 p6 c6 a5 a6 p8 c8 p9 c9 a8 aa σ (An (abt a1).1 (An (abt a1).2.1 (An (abt a1).2.2.1 (An (acp v2) (An (abt a1).2.2.2.2.1 (An (abt a1).2.2.2.2.2.1 (An (abt a1).2.2.2.2.2.2.1 (An (abt a1).2.2.2.2.2.2.2.1 (An (abt a1).2.2.2.2.2.2.2.2.1 (abt a1).2.2.2.2.2.2.2.2.2)))))))))) O ?_
 rintro ⟨⟨_,ad,b3⟩,⟨⟨b7,ax⟩,⟨ba,av⟩,⟨ay,b5⟩,ab,ar⟩,⟨aq,bc⟩,⟨al,an⟩,_,⟨af,b9⟩,⟨b8,ao⟩,⟨b4,ae⟩,_⟩ a9;dsimp only
 rw [show a0c g t h_ caps=(a2a (aD.mk ((a0b (aD.mk g t h_ ([]) 0 ([]) ([]) ([]) 0 0)).aG) ((a0b (aD.mk g t h_ ([]) 0 ([]) ([]) ([]) 0 0)).aF) ((a0b (aD.mk g t h_ ([]) 0 ([]) ([]) ([]) 0 0)).aM) w_ ((a0b (aD.mk g t h_ ([]) 0 ([]) ([]) ([]) 0 0)).aY) ((a0b (aD.mk g t h_ ([]) 0 ([]) ([]) ([]) 0 0)).aU) ((a0b (aD.mk g t h_ ([]) 0 ([]) ([]) ([]) 0 0)).aL) ((a0b (aD.mk g t h_ ([]) 0 ([]) ([]) ([]) 0 0)).aE) ((a0b (aD.mk g t h_ ([]) 0 ([]) ([]) ([]) 0 0)).now) ((a0b (aD.mk g t h_ ([]) 0 ([]) ([]) ([]) 0 0)).aP))) by simp only [a0c,h1,h2,h3,a7,cC]]
 exact yX [48,49,50,51,52,53,54,55,56,57] (nT ad b3 b7 ax ba av ay b5 ab ar aq bc al an af b9 b8 ao b4 ae) a9
 all_goals
  exact yX [6,7,8,9,10,11,12,13,14,15] (nT none 0 none 0 none 0 none 0 none 0 none 0 none 0 none 0 none 0 none 0) (An (An (i6 0) (acd (α:=aQ))) (An (An (acd (α:=Key)) (An (acd (α:=bO)) (An (acd (α:=aA)) (acd (α:=aJ))))) (An (acd (α:=aK)) (An (acd (α:=aH)) (An (i6 0) (An (acd (α:=Int)) (An (acd (α:=aZ)) (An (acd (α:=aX)) (An (i6 0) (i6 0))))))))))
end Go.Proofs.YthdfhghdipdknaaGreat
namespace Go.Stp
def a5s (a:aA)(p_:aA):Bool:=bif decide (((p_.parts).length:Int)<=((a.parts).length:Int))then (adj (List.take (p_.parts).length a.parts) p_.parts)else false
def a32 (l:(List aB))(n_:aA):List aB->Nat->Int->Int|[],i,best=>best|e1::rest_,i,best=>bif (a5s n_ e1.pfx)then bif decide (best<0)then a32 l n_ rest_ (i+1) ((i:Nat):Int)else match (l)[(best).toNat]? with|none=>default|some e2=>bif decide (((e1.pfx.parts).length:Int)>((e2.pfx.parts).length:Int))then a32 l n_ rest_ (i+1) ((i:Nat):Int)else a32 l n_ rest_ (i+1) best else a32 l n_ rest_ (i+1) best
def a0t (l:(List aB))(n_:aA):aA×Bool:=match a32 l n_ l 0 (-1)with|best=>bif decide (best<0)then ((aA.mk ([])),false)else match (l)[(best).toNat]? with|none=>default|some e3=>((a0l e3.pfx),true)
def a2l (n_:aV)(a:Int)(face:Int):Int×Int:=bif (!(a0o face 1 (((a1w n_ a)).length:Int)))then ((-1),0)else match ((a1w n_ a))[(face-1).toNat]? with|none=>default|some e1=>(e1,(a0s n_ e1 a))
def a1z (n_:aV)(a:Int)(side:Int):Int×Int:=bif (!(a07 side 1 (((a1f n_ a)).length:Int)))then ((-1),0)else match ((a1f n_ a))[(side-1).toNat]? with|none=>default|some e1=>(e1,(a1j n_ e1 a))
end Go.Stp
namespace Go.Proofs.YthdfhghdipdknaaGreat
open Go.Stp
open Go.Stp.GoT (ok)
variable {w : World} (n : Nat) {K0 K1 : Option Addr} {M0 M1 : Nat}
theorem f131 (hn:n+0<=9)(a:aA)(N0:Rd w K0 M0 a.parts)(p_:aA)(N1:Rd w K1 M1 p_.parts)(a1:ok n a)(a0:ok n p_):
 DP 131 #[adu a K0 M0,adu p_ K1 M1] w (pB (a5s a p_)):=by
 refine EN Tryz.func131 Z (aS2 N0 N1) ?_;refine yD [] λbs G0 a3=>?_;refine dT 11 [1,2,5,7,8,11,13,15] ?_;refine zDC 12 ?_ ?_<;>intro h1;have a2:=B.dt h1;refine dT 6 [17,18,21,22,25] ?_;have r2:=(okl (adf a0)).1;refine DX.seeP 13 J Z Z Z Z (adg p_.parts.length ttOk Z Z Z Z Q10 (Nat.le_trans Q0 (a3.get 0 Z:RdSl _ _ _ _).1)) ?_
 refine DX.slot 18 (y:= .v (.slice K0 (((List.take p_.parts.length a.parts)).length) M0)) Z (λ_=>by rw [show ((List.take p_.parts.length a.parts)).length=p_.parts.length from (by simp only [List.length_take];have z_:=Q0;omega)]) ?_;refine DX.der 2 (MF.rs .der K0 M0 (List.take p_.parts.length a.parts)) Z (λ_ hΓ=>RdSl.pre (hΓ.get 0 Z) p_.parts.length) ?_;refine dT 3 [29,30] ?_
 refine DXV 16 Z J Z O (λw Y=>f133 n Q0 (Y.q 2 Z) (Y.q 1 Z) (aby Q3 (λa ha=>(okl (adf a1)).2 a (List.mem_of_mem_take ha))) (adf a0)) λa4=>?_;refine dT 0 [35,37] ?_;refine DX.tail2 [] Z Z J ?_;exact R4r Z Z (by simp only [a5s,h1,cC]);have a2:=B.df h1;refine dT 0 [17,19,21,23,25,27,29,31,33,35,37] ?_;refine DX.tail2 [] Z Z J ?_;exact R4r Z Z (by simp only [a5s,h1,cC])
theorem f75 (hn:n+0<=9){l:List aB}(N0:Rd w K0 M0 l)(n_:aA)(N1:Rd w K1 M1 n_.parts)(a1:ok n l)(a2:ok n n_):
 DP 75 #[vS K0 l M0,adu n_ K1 M1] w (pAB w n (a0t l n_)):=by
 have hb:=bS0 hn;refine EN Tryz.func75 Z (aS2 N0 N1) ?_;have r1:=a1.1;refine LM Z ((-1),0) (λ|(a0,i)=>((i<=l.length)/\J6 a0/\(-1<=a0/\a0<i)/\(a32 l n_ l 0 (-1)=a32 l n_ (l.drop i) i a0),l.length-i,[(6,.v (vI a0)),(11,.v (vI i))],[],[],[])) ⟨zl,Q4,Q0,Z⟩ [10,9,4,3,0] [4,3] [0,1] [0,1] ?_;rintro ⟨a0,i⟩ ⟨v1,v2,v3,v4⟩;refine yKD 12 ?_ ?_<;>intro h1 ap;obtain ⟨e1,a3,af,ah⟩:=gO a1 i;refine yI 0 i ah ?_;rintro an rfl;refine zL 0 2 e1 a3 ?_;rintro ⟨⟨p1,c1⟩,_⟩
 refine yD [] λbs G0 a9=>?_;refine dT 19 [0,3,4] ?_;refine DXV 3 Z J Z O (λw Y=>f131 n Q0 n_ (Y.q 1 Z) e1.pfx (Y.q 2 Z) a2 (af.1)) λao=>?_;refine dT 17 [9] ?_;refine zDC 20 ?_ ?_<;>intro h2;refine dT 14 [11,13,15] ?_;refine zDC 23 ?_ ?_<;>intro h3;have ac:=B.dt h3;refine dT 0 [17,19,21,23,25,27,29,31,33,35,37,39,41,43] ?_;refine DX.tail2 [] Z Z J ?_;refine SA ?_
 exact ITr Z ((i:Nat),i+1) ⟨Q0,Q4,Q0,(by rw [v4,abu a3];simp only [a32,h2,h3,cC])⟩ Q1 [0,1];have ac:=B.df h3;refine dT 8 [17,19,20,23,25,27] ?_;refine DI 29 ?_;obtain ⟨e2,a6,ak,ad⟩:=gO a1 a0.toNat;refine zDI 14 0 _ a9 Z ad ?_;rintro am ⟨⟩;refine dT 5 [31,33] ?_;refine zDL 17 0 3 e2 a9 a6 ?_;rintro ⟨⟨p2,c2⟩,_⟩;refine dT 0 [37,39,41,43] ?_;refine DX.tail2 [] Z Z J ?_;refine yKD 37 ?_ ?_<;>intro h4 al;refine SA ?_
 exact ITr Z ((i:Nat),i+1) ⟨Q0,Q4,Q0,(by rw [v4,abu a3];simp only [a32,h2,h3,a6,h4,cC])⟩ Q1 [0,1];refine SA ?_;exact ITr Z (a0,i+1) ⟨Q0,v2,Q0,(by rw [v4,abu a3];simp only [a32,h2,h3,a6,h4,cC])⟩ Q1 [0,1];refine dT 0 [11,13,15,17,19,21,23,25,27,29,31,33,35,37,39,41,43] ?_;refine DX.tail2 [] Z Z J ?_;refine SA ?_
 exact ITr Z (a0,i+1) ⟨Q0,v2,Q0,(by rw [v4,abu a3];simp only [a32,h2,cC])⟩ Q1 [0,1];have a4:=v4.trans (show _=a0 by rw [dn];simp only [a32];omega);refine yKD 41 ?_ ?_<;>intro a8 ai;refine F1 14 Str ?_;rw [show a0t l n_=(aA.mk ([]),false) by simp only [a0t,a4,a8,cC]];exact yX [14] (none,0) (acd);refine R0 ?_;refine SI 44 ?_;obtain ⟨e3,aa,a7,aj⟩:=gO a1 a0.toNat;refine zI 0 _ aj ?_;rintro ab rfl
 refine yL 0 14 e3 aa ?_;rintro ⟨⟨ar,aq⟩,_⟩;refine CF 15 Z O (λw Y=>f35 n Q0 e3.pfx (Y.q 14 Z) (a7.1)) ?_;rintro ⟨ae,ag⟩ a5;rw [show a0t l n_=(a0l e3.pfx,true) by simp only [a0t,a4,a8,aa,cC]];exact yX [16] _ a5
theorem f40 (hn:n+0<=9)(n_:aV)(N0:Rd w K0 M0 n_.links){a:Int}{face:Int}(a1:ok n n_)(a2:ok n a)(a0:ok n face):
 DP 40 #[adv n_ K0 M0,vI a,vI face] w (λ(rv:Value) (_:World)=>rv= .tuple #[.int .i64 ((a2l n_ a face).1),.int .i64 ((a2l n_ a face).2)]/\ok n ((a2l n_ a face).1:Int)/\ok n ((a2l n_ a face).2:Int)):=by
 have hb:=bS0 hn;refine EN Tryz.func40 Z (aS1 N0) ?_;refine KF Z 1 Z O (λw Y=>f34 n Q0 n_ (Y.q 0 Z) a1 a2) ?_;rintro ⟨p1,c1⟩ a5;have r2:=a5.1;refine KV Z Z O (λw Y=>f33 n Q0 a0 (i6 1) (i6 (((a1w n_ a)).length))) λa8=>?_;refine yKN 17 ?_ ?_<;>intro h1 ab;rw [show a2l n_ a face=(-1,0) by simp only [a2l,h1,cC]];exact R6r Z Z ⟨(i6 (-1)),(i6 0)⟩;have a9:=afl (B.nf h1);have r3:=i8 a0;refine SA ?_;refine SI 20 ?_;obtain ⟨e1,a4,a3,a6⟩:=gO a5 ((face-1).toNat)
 refine zI 1 _ a6 ?_;rintro aa rfl;refine zL 1 3 e1 a4 ?_;rintro ⟨⟩;refine KV Z Z O (λw Y=>f86 n Q0 n_ (Y.q 0 Z) a1 a3 a2) λa7=>?_;rw [show a2l n_ a face=(e1,a0s n_ e1 a) by simp only [a2l,h1,a4,cC]];exact R6r Z Z ⟨a3,a7⟩
theorem f267 (hn:n+0<=9)(n_:aV)(N0:Rd w K0 M0 n_.links){a:Int}{side:Int}(a1:ok n n_)(a2:ok n a)(a0:ok n side):
 DP 267 #[adv n_ K0 M0,vI a,vI side] w (λ(rv:Value) (_:World)=>rv= .tuple #[.int .i64 ((a1z n_ a side).1),.int .i64 ((a1z n_ a side).2)]/\ok n ((a1z n_ a side).1:Int)/\ok n ((a1z n_ a side).2:Int)):=by
 have hb:=bS0 hn;refine EN Tryz.func267 Z (aS1 N0) ?_;refine KF Z 1 Z O (λw Y=>f121 n Q0 n_ (Y.q 0 Z) a1 a2) ?_;rintro ⟨p1,c1⟩ a7;have r2:=a7.1;refine KV Z Z O (λw Y=>f120 n Q0 a0 (i6 1) (i6 (((a1f n_ a)).length))) λa9=>?_;refine yKN 16 ?_ ?_<;>intro h1 ad;rw [show a1z n_ a side=(-1,0) by simp only [a1z,h1,cC]];exact R6r Z Z ⟨(i6 (-1)),(i6 0)⟩;have aa:=ad8 (B.nf h1);refine yD [] λbs G0 a3=>?_;refine dT 13 [1,3] ?_;have r3:=i8 a0
 refine DX.seeP 2 J Z Z Z Z (ad7 Z Z Z Z Q6) ?_;refine DI 19 ?_;obtain ⟨e1,a4,a5,a6⟩:=gO a7 ((side-1).toNat);refine zDI 3 1 _ a3 Z a6 ?_;rintro ac rfl;refine zDL 4 1 3 e1 a3 a4 ?_;rintro ⟨⟩;refine dT 7 [10,13,15] ?_;refine DX.seeP 8 J Z Z Z Z (ad7 Z Z Z Z Q6) ?_;refine DI 25 ?_;refine zDI 9 1 _ a3 Z a6 ?_;rintro ab ⟨⟩;refine zDL 10 1 3 e1 a3 a4 ?_;rintro ⟨⟩;refine dT 3 [23] ?_
 refine DXV 12 Z J Z O (λw Y=>f128 n Q0 n_ (Y.q 0 Z) a1 a5 a2) λa8=>?_;refine dT 0 [27,29] ?_;refine DX.tail2 [] Z Z J ?_;rw [show a1z n_ a side=(e1,a1j n_ e1 a) by simp only [a1z,h1,a4,cC]];exact R6r Z Z ⟨a5,a8⟩
end Go.Proofs.YthdfhghdipdknaaGreat
namespace Go.Stp
open GoT (X k ok sh fa oa)
structure Opq where
instance:Inhabited Opq:=⟨⟨⟩⟩
instance:GoT Opq where
 X:=Option Addr×Nat×Nat
 k:=1
 ok _ _:=True
 sh _ x:=[.slice x.1 x.2.1 x.2.2]
 fa _ _ _:=[]
 oa _ _:=[]
 pos:=by omega
 len _ _:=rfl
 one _ _ v h:=by simp at h;subst h;rfl
 fak f h:=by cases h
 oak f h:=by cases h
 ow_rd _:=All.nil
 kdp _:=All.nil
 okm _ _:=trivial
instance:Flat Opq:=⟨λ_ _=>rfl,λ_ _=>rfl⟩
structure RouteK where
 pfx:Opq
 face:Int
 cost:Int
instance:Inhabited RouteK:=⟨⟨default,default,default⟩⟩
instance:GoT RouteK:=GoT.via λe=>(e.pfx,e.face,e.cost)
theorem adc {n:Nat}{a:RouteK}(h:GoT.ok n a):GoT.ok n a.pfx/\GoT.ok n a.face/\GoT.ok n a.cost:=h
instance:Flat RouteK:=⟨λa x=>Flat.f (let e:=a;(e.pfx,e.face,e.cost)) x,λa x=>Flat.o (let e:=a;(e.pfx,e.face,e.cost)) x⟩
end Go.Stp
namespace Go.Stp
open GoT (X k ok sh fa oa)
def aB.toK (r:aB):RouteK:=⟨⟨⟩,r.face,r.cost⟩
theorem OwL.toK:∀ {h:GH}{xs:List Value}{l:List aB},OwL h xs l->OwL h xs (l.map aB.toK)
 |_,_,[],e=>e
 |_,_,a::l,⟨x,ys,h1,h2,e,q1,q2,q3,_,q5⟩=>⟨((x.1.1,a.pfx.parts.length,x.1.2),x.2),ys,emp,h2,e,acv _,q2,ade _,trivial,OwL.toK q5⟩
theorem OwSl.toK {h:GH}{p:Option Addr}{c:Nat}{l:List aB}(ho:OwSl h p c l):OwSl h p c (l.map aB.toK):=by
 rcases ho with ⟨h1,h2⟩|⟨b,o,T,cur,h',k1,k2,k3,k4,k5,k6,k7,k8⟩
 ·exact .inl ⟨h1,by rw [h2];rfl⟩
 ·refine .inr ⟨b,o,T,cur,h',k1,k2,k3,k4,by rw [List.length_map];exact k5,k6,k7,?_⟩
  rw [List.length_map];exact k8.toK
theorem avl {n:Nat}{l:List aB}(h:∀a∈l,GoT.ok n a):∀a∈l.map aB.toK,GoT.ok n a:=λa ha=>by
 obtain ⟨r,hr,rfl⟩:=List.mem_map.1 ha;obtain ⟨_,h2,h3⟩:=ack (h r hr);exact ⟨trivial,h2,h3⟩
end Go.Stp
namespace Go.Stp
def a0q (prefix_:aA)(r:aB):Bool:=(!(a8c r.pfx prefix_))
theorem af2 (f:aB->Bool):∀(l:List aB) (i:Nat),ac1 f l i=none->∀a∈l,f a=false
 |[],i,h,a,ha=>by cases ha
 |x::l,i,h,a,ha=>by
  simp only [ac1]at h;cases hx:f x
  ·rw [hx,cond_false]at h
   rcases List.mem_cons.1 ha with rfl|ha
   ·exact hx
   ·exact af2 f l (i+1) h a ha
  ·grind
theorem ae9 (f:aB->Bool):∀(l:List aB) (i:Nat) (j:Int),ac1 f l i=some j->∃m a,j=((i+m:Nat):Int)/\l[m]? =some a/\f a=true/\∀b∈l.take m,f b=false
 |[],i,j,h=>by cases h
 |x::l,i,j,h=>by
  simp only [ac1]at h;cases hx:f x
  ·rw [hx,cond_false]at h
   obtain ⟨m,a,h1,h2,h3,h4⟩:=ae9 f l (i+1) j h;refine ⟨m+1,a,by rw [h1];congr 1;omega,by simpa using h2,h3,λb hb=>?_⟩
   grind
  ·rw [hx,cond_true]at h
   cases h;exact ⟨0,x,rfl,rfl,hx,λb hb=>by simp at hb⟩
theorem agc {f:aB->Bool}{l:List aB}(h:aci l f= -1):∀a∈l,f a=false:=by grind [aci,ac1,af2,ae9]
theorem agd {f:aB->Bool}{l:List aB}(h:¬aci l f= -1):∃(m:Nat) (a:aB),aci l f=(m:Int)/\l[m]? =some a/\f a=true/\∀b∈l.take m,f b=false:=by
 unfold aci at h ⊢;cases hx:ac1 f l 0 with
 |none=>rw [hx]at h;exact absurd rfl h
 |some j=>
  obtain ⟨m,a,h1,h2⟩:=ae9 f l 0 j hx;exact ⟨m,a,by grind⟩
def abv (s:List aB)(delq:aB->Bool):List aB:=s.filter λa=> !delq a
def abj (a:RouteK)(b:RouteK):Int:=(af0 ([(abz a.cost b.cost),(abz a.face b.face)]))
def ac9 (a:Int)(data3:List RouteK)(j:Int):(List RouteK)×Int:=if j>a then match (data3)[(j).toNat]? with|none=>default|some e1=>match (data3)[(j-1).toNat]? with|none=>default|some e2=>if (abj e1 e2)<0 then match ((data3.set ((j).toNat) e2))[(j-1).toNat]? with|none=>default|some e3=>ac9 a ((((data3.set ((j).toNat) e2).set ((j-1).toNat) e1)):List RouteK) (j-1)else (((data3):List RouteK),j)else (((data3):List RouteK),j)
termination_by (j - a).toNat
decreasing_by all_goals (simp_wf; omega)
def acb (a:Int)(b:Int)(data2:List RouteK)(i:Int):(List RouteK)×Int:=if i<b then match ac9 a (data2:List RouteK) i with|(data3,j)=>acb a b ((data3):List RouteK) (i+1)else (((data2):List RouteK),i)
termination_by (b - i).toNat
decreasing_by all_goals (simp_wf; omega)
def acn (data:(List RouteK))(a:Int)(b:Int):(List RouteK):=match acb a b (data:List RouteK) (a+1)with|(data2,i)=>data2
def adr (blockSize:Int):Int:=blockSize
def adt (a:Int)(b:Int):Int×Int:=(a,b)
def acw (data:(List RouteK))(n_:Int):(List RouteK):=match adt 0 20 with|(a,b)=>match adr 20 with|blockSize=>(acn data a n_)
def ac3 (x_:(List RouteK)):(List RouteK):=(acw x_ ((x_).length:Int))
def a7k (l:(List aB))(n_:aA):Nat->Nat->(List Int)->(List Int)|0,i,out=>((out):List Int)|m_+1,i,out=>match ((ac3 (List.map aB.toK (abv (a0g l) (λe0_=>(a0q ((a0t l n_).1) e0_))))))[i]? with|none=>default|some e1=>a7k l n_ m_ (i+1) (((out++[e1.face])):List Int)
def a59 (l:(List aB))(n_:aA):(List Int):=bif (!((a0t l n_).2))then ([]:List Int)else match a7k l n_ (((abv (a0g l) (λe0_=>(a0q ((a0t l n_).1) e0_)))).length) 0 ([]:List Int)with|out=>out
def a3j (n_:aV)(l:(List aN))(x_:aA)(out:List Int):(List Int):=if ((out).length:Int)<6 then match (out)[(((out).length:Int)-1).toNat]? with|none=>default|some e1=>if ((((a59 (a2s n_ l e1) x_)).length:Int)==0)=true then ((out):List Int)else match ((a59 (a2s n_ l e1) x_))[0]? with|none=>default|some e2=>if (a2l n_ e1 e2).1<0 then ((out):List Int)else if (acz out ((a2l n_ e1 e2).1))=true then ((out):List Int)else a3j n_ l x_ (((out++[((a2l n_ e1 e2).1)])):List Int)else ((out):List Int)
termination_by 6 - out.length
decreasing_by all_goals (simp_wf; omega)
def a1u (n_:aV)(l:(List aN))(a:Int)(x_:aA):(List Int):=bif (!(a0o a 0 (n_.size-1)))then ([]:List Int)else match a3j n_ l x_ ([a]:List Int)with|out=>out
end Go.Stp
namespace Go.Stp
theorem ah2 (a b c:Int):a0o a b c=a07 a b c:=rfl
theorem ak4:∀(a b p:List Str),a.length=b.length->ad9 (p++b) a p.length=(if a.map (λz:Str=>z.toList)=b.map (λz:Str=>z.toList)then none else some false)
 |[],[],p,_=>by simp [ad9]
 |x::a,y::b,p,h=>by
  have ih:=ak4 a b (p++[y]) (by simpa using h);rw [arj,arq]at ih;simp only [ad9,mid]
  grind
theorem alv (a b:List Str):adj a b=decide (a.map (λz:Str=>z.toList)=b.map (λz:Str=>z.toList)):=by
 unfold adj
 by_cases hl:a.length=b.length
 ·have h:=ak4 a b [] hl
  grind
 ·have hne:a.map (λz:Str=>z.toList)≠b.map (λz:Str=>z.toList):=λh=>hl (by simpa using congrArg List.length h)
  grind
theorem cNL:∀(a b p:List Str),match a4h ⟨p++b⟩ a p.length with
  |some k=>k≠0/\a.map (λz:Str=>z.toList)≠b.map (λz:Str=>z.toList)
  |none=>a.length=b.length->a.map (λz:Str=>z.toList)=b.map (λz:Str=>z.toList)
 |[],b,p=>by
  simp only [a4h]
  grind
 |x::a,[],p=>by simp [a4h]
 |x::a,y::b,p=>by
  have ih:=cNL a b (p++[y]);rw [arj,arq]at ih;have hlt:decide ((p.length:Int)<((p++y::b).length:Int))=true:=by simp;omega
  simp only [a4h,hlt,cond_true,mid]
  by_cases hk:a3p x y=0
  ·have e:x.toList=y.toList:=(ar2 _ _).1 hk
   grind
  ·have hn:(a3p x y !=0)=true:=by simpa using hk
   simp only [hn,cond_true];exact ⟨hk,λh=>hk ((ar2 _ _).2 (by grind))⟩
theorem al3 (a b:aA):a8c a b=a1i a b:=by
 unfold a8c a1i a4i;rw [alv]
 have h:match a4h b a.parts 0 with
  |some k=>k≠0/\a.parts.map (λz:Str=>z.toList)≠b.parts.map (λz:Str=>z.toList)
  |none=>a.parts.length=b.parts.length->a.parts.map (λz:Str=>z.toList)=b.parts.map (λz:Str=>z.toList):=cNL a.parts b.parts []
 revert h
 cases a4h b a.parts 0 with
 |some k=>intro ⟨h1,h2⟩;simp [h1,h2]
 |none=>
  intro h
  by_cases hl:a.parts.length=b.parts.length
  ·grind
  ·have ne:a.parts.map (λz:Str=>z.toList)≠b.parts.map (λz:Str=>z.toList):=λh=>hl (by simpa using congrArg List.length h)
   grind
theorem vPL:∀l:List UInt8,a22 l=a3q l/\(a3q l=none\/a3q l=some false)
 |[]=>⟨rfl,.inl rfl⟩
 |c::l=>by
  obtain ⟨h1,h2⟩:=vPL l;simp only [a22,a3q,h1,a07,ge_iff_le]
  grind
theorem al9 (s:Str):a8d s=a2z s:=by
 unfold a8d a2z
 grind [vPL,ah2]
theorem amo:∀(f:Str->Bool) (l:List Str)(i:Nat),(aco f l i=none/\l.any f=false)\/∃j:Nat,aco f l i=some (j:Int)/\l.any f=true
 |f,[],i=> .inl ⟨rfl,rfl⟩
 |f,x::l,i=>by
  simp only [aco,List.any_cons];cases hx:f x
  ·simpa using amo f l (i+1)
  ·grind
theorem as0 (l:List Str)(f:Str->Bool):adn l f=l.any f:=by
 unfold adn ad4
 grind [amo]
theorem vNL:∀l:List Str,a3d l=bif l.any (λe=> !(a2z e))then some false else none
 |[]=>rfl
 |x::l=>by
  simp only [a3d,List.any_cons];cases (!(a2z x))<;>simp [vNL l]
theorem al5 (a:aA):a5i a=a1e a:=by
 unfold a5i a1e ab3
 grind [as0,vNL,al9]
theorem ale (a i:Int):a26 a i=a7g a i:=by
 simp only [a26,a7g,ah2]
 grind
theorem aq1 (w:aD)(k:Int):a58 w k=a3u w k:=by simp only [a58,a3u,ah2,ale]
theorem ixiL (v:Int):∀(l:List Int) (i:Nat),(acy v l i=none/\a7h v l=none)\/(∃j:Nat,acy v l i=some (j:Int))/\a7h v l=some true
 |[],i=> .inl ⟨rfl,rfl⟩
 |x::l,i=>by
  simp only [acy,a7h];have e:(v==x)=(x==v):=BEq.comm;rw [e];cases x==v
  ·exact ixiL v l (i+1)
  ·grind
theorem apd (l:List Int)(v:Int):acz l v=a6f l v:=by
 unfold acz adb a6f
 grind [ixiL]
theorem rfL (f:List Int)(d:Int):∀(l:List aQ) (i:Nat) (o:List aQ),a2h f d l i o=a45 f d l i o
 |[],i,o=>rfl
 |x::l,i,o=>by
  simp only [a2h,a45,apd,ale,rfL f d l]
theorem ajf (n_:aV)(f:List Int)(d:Int):aa1 n_ f d=aa2 n_ f d:=by simp only [aa1,aa2,rfL]
theorem ait (w_:aD):a0z w_=a3v w_:=ajf _ _ _
end Go.Stp
namespace Go.Stp
theorem aqy {n:Nat}(h:n<=9223372036854775807):i64.wrap ((n:Int)-1)=(n:Int)-1:=by simp [IntKind.wrap,IntKind.bits,IntKind.signed];omega
end Go.Stp
namespace Go.Stp
theorem inR' {n a b:Int}(h:a07 n a b=true):a<=n/\n<=b:=by
 unfold a07 at h
 grind
theorem awy {x y:Int}(h:x<y):abz x y= -1:=by grind [aec,abz]
theorem axf {x y:Int}(h:x>y):abz x y=1:=by grind [aec,abz]
theorem awk {x y:Int}(h:x=y):abz x y=0:=by grind [aec,abz]
theorem aqp (a b:aQ):decide (aaf a b>=0)= !(a52 a b):=by
 unfold aaf a52;rcases Int.lt_trichotomy a.a b.a with h|h|h
 ·rw [awy h,decide_eq_true h];rfl
 ·rw [awk h,decide_eq_false (show¬a.a<b.a by omega),beq_iff_eq.2 h]
  rcases Int.lt_trichotomy a.b b.b with k|k|k
  ·rw [awy k,decide_eq_true k];rfl
  ·rw [awk k,decide_eq_false (show¬a.b<b.b by omega)];rfl
  ·rw [axf k,decide_eq_false (show¬a.b<b.b by omega)];rfl
 ·rw [axf h,decide_eq_false (show¬a.a<b.a by omega),beq_eq_false_iff_ne.2 (show a.a≠b.a by omega)];rfl
theorem vtL (n_:aV)(hs:1<=n_.size/\n_.size<=6):∀(l:List aQ) (i:Nat),a3e n_ l i=a35 n_ l i
 |[],i=>rfl
 |x::l,i=>by
  have ih:=vtL n_ hs l (i+1);have w1:i64.wrap (n_.size-1)=n_.size-1:=by simp [IntKind.wrap,IntKind.bits,IntKind.signed];omega
  simp only [a3e,a35,ah2,aqp,ih,w1];cases ha:a07 x.a 0 (n_.size-1)
  ·rfl
  ·have ha':0<=x.a/\x.a<=n_.size-1:=inR' ha
   have w2:i64.wrap (x.a+1)=x.a+1:=by simp [IntKind.wrap,IntKind.bits,IntKind.signed];omega
   rw [w2]
   have e:a07 x.b (x.a+1) (n_.size-1)=(a07 x.b 0 (n_.size-1)&& !(decide (x.a>=x.b))):=by
    unfold a07
    grind
   grind
theorem vtI (n_:aV):∀(l:List aQ) (i:Nat),NT (a3e n_ l i)
 |[],i=> .no
 |x::l,i=>by
  have ih:=vtI n_ l (i+1);simp only [a3e];refine ntc .sf (ntc .sf (ntc ?_ ih));cases (n_.links)[(((i:Nat):Int)-1).toNat]? with
  |none=>exact .no
  |some e2=>exact ntc .sf ih
theorem agj (n_:aV):a5k n_=a4j n_:=by
 unfold a5k a4j;cases hs:a07 n_.size 1 6
 ·rw [ah2,hs]
  rcases vtI n_ n_.links 0 with h1|h1<;>rcases vtN n_ n_.links 0 with h2|h2<;>rw [h1,h2]
 ·have hs':1<=n_.size/\n_.size<=6:=inR' hs
  rw [vtL n_ hs',ah2,hs]
theorem liL (a b:Int):∀(l:List aQ) (i:Nat),acr (λe0_=>(a3f a b e0_)) l i=a36 a b l i
 |[],i=>rfl
 |x::l,i=>by
  have ih:=liL a b l (i+1)
  grind [acr,a36,a3f]
theorem al4 (n_:aV)(a b:Int):a3r n_ a b=a63 n_ a b:=by grind [a3r,ad1,a63,liL,a36]
theorem nbL (n_:aV)(a:Int):∀(m i:Nat) (o:List Int),i<=6->a41 n_ a (min m (6-i)) i o=a3s n_ a m i o
 |0,i,o,_=>by rw [Nat.zero_min];rfl
 |m+1,i,o,h=>by
  by_cases hi:i<6
  ·rw [show min (m+1) (6-i)=min m (6- (i+1))+1 by omega]
   have d:decide (((i:Nat):Int)<6)=true:=decide_eq_true (by omega);simp only [a41,a3s,al4,d,cond_true,nbL n_ a m (i+1) _ (by omega)]
  ·rw [show min (m+1) (6-i)=0 by omega]
   grind [a41,a3s]
theorem ag2 (n_:aV)(a:Int):a1w n_ a=a1f n_ a:=by
 have h:=nbL n_ a n_.size.toNat 0 [] (by omega)
 grind [a1w,a1f]
theorem rtL (n_:aA)(s:Int):∀(l:List aB) (i:Nat),ac1 (λe0_=>(a54 s n_ e0_)) l i=a4m n_ s l i
 |[],i=>rfl
 |x::l,i=>by
  have ih:=rtL n_ s l (i+1)
  grind [ac1,a4m,a54,al3]
theorem ahj (l:List aB)(n_:aA)(s:Int):a0x l n_ s=a18 l n_ s:=by grind [a0x,aci,a18,rtL,a4m]
theorem roL (l:List aB):∀(r:List aB) (i:Nat),a2f l r i=a43 l r i
 |[],i=>rfl
 |x::r,i=>by
  simp only [a2f,a43,al5,ah2,ahj,roL l r]
theorem aju (l:List aB):a16 l=a3t l:=by simp only [a16,a3t,roL]
theorem cpL {α:Type}(L:List α->List α->List α)(h0:∀o,L [] o=o)(h1:∀e l o,L (e::l) o=L l (o++[e])):∀(l o:List α),L l o=o++l
 |[],o=>by grind
 |e::l,o=>by rw [h1,cpL L h0 h1 l,List.append_assoc];rfl
theorem apj (l:List aJ):a7b l=l:=cpL a9q (λ_=>rfl) (λ_ _ _=>rfl) l []
theorem aw2 (l:List Key):a9s l=l:=cpL a9r (λ_=>rfl) (λ_ _ _=>rfl) l []
theorem atg (l:List aA):a9u l=l:=cpL a9t (λ_=>rfl) (λ_ _ _=>rfl) l []
theorem avv (l:List bA):aam l=l:=cpL a9v (λ_=>rfl) (λ_ _ _=>rfl) l []
theorem av0 (l:List aS):aan l=l:=cpL a9w (λ_=>rfl) (λ_ _ _=>rfl) l []
theorem avk (l:List aO):aao l=l:=cpL a9x (λ_=>rfl) (λ_ _ _=>rfl) l []
theorem at8 (c:bX):aaq c=c:=by show bX.mk c.cA (a6b _ c.bB [])=c;rw [cpL (a6b λe0_=>aap e0_) (λ_=>rfl) (λ_ _ _=>rfl)];rfl
theorem aw3 (x:aH):a8j x=x:=by show aH.mk _ _ _ _ _ _ _=x;rw [apj,at8,avk,avv,afm,av0]
theorem atq (l:List aK):a56 l=l:=cpL (a55 λe0_=>a8h e0_) (λ_=>rfl) (λ_ _ _=>rfl) l []
theorem atm (t:bU):a30 t=t:=by show bU.mk _ (a8k t.bR []) _ _=t;rw [aw2,atg,apj,cpL a8k (λ_=>rfl) (λ_ _ _=>rfl)];rfl
theorem alg (w:aD):a8p w=w:=by show aD.mk _ _ _ (a7f w.aI []) _ _ (a8o w.aL []) (a8n w.aE []) _ _=w;rw [atm,atq,cpL a7f (λ_=>rfl) (λe l o=>by simp only [a7f,aw3]),cpL a8o (λ_=>rfl) (λ_ _ _=>rfl),cpL a8n (λ_=>rfl) (λ_ _ _=>rfl)];rfl
theorem aw7 (l:List Key):a8i l=l:=cpL a9y (λ_=>rfl) (λ_ _ _=>rfl) l []
theorem anh (l:List aJ):a6c l=l:=cpL a9z (λ_=>rfl) (λ_ _ _=>rfl) l []
theorem ak8 (l:List aO):a0k l=l:=cpL a5m (λ_=>rfl) (λ_ _ _=>rfl) l []
theorem aux (l:List bA):a2g l=l:=cpL a6d (λ_=>rfl) (λ_ _ _=>rfl) l []
theorem aw9 (l:List aS):a0h l=l:=cpL a5n (λ_=>rfl) (λ_ _ _=>rfl) l []
theorem amk (c:bX):a12 c=c:=by show bX.mk c.cA (a57 c.bB [])=c;rw [cpL a57 (λ_=>rfl) (λ_ _ _=>rfl)];rfl
theorem ahn (x:aH):a00 x=x:=by show aH.mk _ _ _ _ _ _ _=x;rw [anh,amk,ak8,aux,ahp,aw9]
theorem at4 (t:bU):a31 t=t:=by show bU.mk _ (a8m t.bR []) (a8l t.bV []) _=t;rw [aw7,anh,cpL a8m (λ_=>rfl) (λ_ _ _=>rfl),cpL a8l (λ_=>rfl) (λ_ _ _=>rfl)];rfl
theorem ata (l:List aK):a0d l=l:=cpL a6a (λ_=>rfl) (λ_ _ _=>rfl) l []
theorem agw (w:aD):a0b w=w:=by show aD.mk _ _ _ (a4n w.aI []) _ _ (a8r w.aL []) (a8q w.aE []) _ _=w;rw [at4,ata,cpL a4n (λ_=>rfl) (λe l o=>by simp only [a4n,ahn]),cpL a8r (λ_=>rfl) (λ_ _ _=>rfl),cpL a8q (λ_=>rfl) (λ_ _ _=>rfl)];rfl
theorem aie (l:List aN)(f:Int):a14 l f=a0r l f:=by
 have e:∀(l:List aN) (i:Nat),ac7 (λe0_=>(a6g f e0_)) l i=a6h f l i:=λl=>by
  induction l with
  |nil=>intro i;rfl
  |cons x l ih=>intro i;simp only [ac7,a6h];rw [ih];simp only [a6g]
 unfold a14 ach a0r;rw [e]
theorem amg (l:List aN)(f:Int)(h:0<=a0r l f):∃e,l[(a0r l f).toNat]? =some e:=⟨_,List.getElem?_eq_getElem (by have:=an1 l f;omega)⟩
theorem anp (l:List aN)(a b:Int):a15 l a b=a1x l a b:=by grind [a15,a1x,aa3,aie,a0r,amg,apd]
theorem ai1 (l:List aN)(a:Int):a19 l a=a2i l a:=by
 by_cases h:(0<=a/\a<=5)/\0<=a0r l a
 ·have h1:=ahf l h.1 (by rw [aie];exact h.2)
  have h2:=aiu l h.1 h.2;rw [show a15 l=a1x l from funext λa=>funext λb=>anp l a b]at h1;exact h1.1.eq h2.1 (by omega) (by omega) h1.2 h2.2
 ·grind [ajz,aom,aie]
theorem aix (l:List aN)(a b:Int):a0f l a b=a1q l a b:=by unfold a0f a1q;rw [ah2,ai1]
theorem aqh (l:List aN)(a:Int):a1h l a=a3i l a:=by unfold a1h a3i;rw [ai1,rchL]
theorem clL (l:List aN)(a b:Int)(h:0<a1q l a b):∀(m i:Nat) (o:List Int),a2q l a b m i o=a46 l a b m i o
 |0,i,o=>by simp only [a2q,a46]
 |m+1,i,o=>by
  simp only [a2q,a46,aix,anp,clL l a b h m,decide_eq_true h,decide_eq_true (show a1q l a b>=0 by omega),cond_true]
theorem ao6 (l:List aN)(a b:Int)(h:0<a1q l a b):a28 l a b=a47 l a b:=by grind [a28,a47,clL]
theorem as6 {l:List aN}{a b:Int}(h:b∈a3i l a)(hn:b≠a):0<a1q l a b:=by
 have h':b∈a2j (a2i l a) 0 []:=by rw [rchL];exact h
 rcases rchM _ 0 [] b h' with h|⟨j,e,rfl,h2,h3⟩
 ·cases h
 ·rw [Nat.zero_add]at hn ⊢
  have hj:=(List.getElem?_eq_some_iff.1 h2).1;rw [aih]at hj;have hin:a07 (j:Int) 0 5=true:=by unfold a07;grind
  unfold a1q;rw [hin,Int.toNat_natCast,h2];show 0<e
  by_cases hf:(0<=a/\a<=5)/\0<=a0r l a
  ·have hg:=(aiu l hf.1 hf.2).1
   by_cases he:e=0
   ·subst he;exact absurd (hg.zero j h2) hn
   ·omega
  ·rw [ajz l hf]at h2
   grind
theorem ar1 (n_:aV)(a:Int):∀(m i:Nat) (o:List Int),(a3s n_ a m i o).length<=o.length+(6-i)
 |0,i,o=>by grind [a3s]
 |m+1,i,o=>by
  simp only [a3s];cases h:decide (((i:Nat):Int)<6)
  ·grind
  ·have hi:i<6:=by have:=of_decide_eq_true h;omega
   rw [cond_true];cases decide (a63 n_ a ((i:Nat):Int)>=0)
   ·rw [cond_false];have:=ar1 n_ a m (i+1) o;omega
   ·rw [cond_true];have:=ar1 n_ a m (i+1) (o++[((i:Nat):Int)]);grind
theorem ar4 (n_:aV)(a:Int):(a1f n_ a).length<=6:=ar1 n_ a n_.size.toNat 0 []
theorem ftL (b:Int):∀(l:List Int) (i:Nat),i+l.length<=9223372036854775806->(match acy b l i with|some r=>i64.wrap (r+1)|none=>0)=(match a6j b l i with|some r=>r|none=>0)/\0<=(match a6j b l i with|some r=>r|none=>0)
 |[],i,_=>⟨rfl,Int.le_refl _⟩
 |x::l,i,h=>by
  simp only [List.length_cons]at h;simp only [acy,a6j];rw [show (b==x)=(x==b)from Bool.beq_comm];cases hx:(x==b)
  ·exact ftL b l (i+1) (by omega)
  ·refine ⟨?_,?_⟩
   ·show i64.wrap (((i:Nat):Int)+1)=((i:Nat):Int)+1
    simp [IntKind.wrap,IntKind.bits,IntKind.signed];omega
   ·grind
theorem aok (n_:aV)(a b:Int):a0s n_ a b=a1j n_ a b/\0<=a1j n_ a b:=by have h:=ftL b (a1f n_ a) 0 (by grind [ar4]);unfold a0s a1j adb;rw [ag2];refine ⟨?_,h.2⟩;refine Eq.trans ?_ h.1;cases acy b (a1f n_ a) 0<;>rfl
theorem amd (l:List aB)(r:aB):a1a l r=a29 l r:=by unfold a1a a29;rw [ahj,afm,ahp];simp only [aju];rfl
theorem crC (n_:aV)(l:List aN)(a b:Int)(p:aA)(e2:aN)(i2:Nat)(hp:e2.cG[i2]? =some p):∀(c:List Int) (o:List aB),a1y n_ l a b p c o=a3w n_ l a b e2 i2 c o
 |[],o=>by simp only [a1y,a3w]
 |x::c,o=>by
  have hf:=aok n_ a x;have hd:(a1j n_ a x !=0)=decide (a1j n_ a x>0):=by grind
  simp only [a1y,a3w,hp,hf.1,hd,ahj,aix,amd,crC n_ l a b p e2 i2 hp c]
theorem crP (n_:aV)(l:List aN)(a b:Int)(e2:aN)(hl:l[(a0r l b).toNat]? =some e2)(hb:b≠a)(hpos:0<a1q l a b):∀(k i:Nat) (o:List aB),k=e2.cG.length-i->i<=e2.cG.length->(a5r n_ l a b i o).2=a48 n_ l a b (e2.cG.drop i) o
 |k,i,o,hk,hi=>by
  rw [a5r,if_pos (by grind [as7]),hl];dsimp only
  by_cases h:i<e2.cG.length
  ·obtain ⟨p,hp⟩:∃p,e2.cG[i]? =some p:=⟨_,List.getElem?_eq_getElem h⟩
   rw [if_pos (by omega),if_pos (by simpa using hb),abu hp];simp only [a48,crC n_ l a b p e2 i hp,ao6 l a b hpos];exact crP n_ l a b e2 hl hb hpos (e2.cG.length- (i+1)) (i+1) _ rfl (by omega)
  ·grind [List.drop_eq_nil_of_le,a48]
 termination_by k=>k
 decreasing_by omega
theorem crA (n_:aV)(l:List aN)(a:Int)(hf:0<=a0r l a)(o:List aB):(a5r n_ l a a 0 o).2=o:=by
 obtain ⟨e,he⟩:=amg l a hf;rw [a5r,if_pos (Nat.zero_le _),he]
 grind
theorem crL (n_:aV)(l:List aN)(a:Int):∀(r:List Int) (o:List aB),(∀x∈r,x∈a3i l a)->a2r n_ l a r o=a6k n_ l a r o
 |[],o,_=>by simp only [a2r,a6k]
 |x::r,o,h=>by
  have hx:=h x List.mem_cons_self;have hf:=(ajt hx).2;have ih:=λo'=>crL n_ l a r o' (λy hy=>h y (List.mem_cons_of_mem _ hy));simp only [a2r,a6k,ih,aie];cases h0:(x==a)
  ·have hne:x≠a:=by simpa using h0
   obtain ⟨e,he⟩:=amg l x hf;rw [cond_false,he];dsimp only;rw [crP n_ l a x e he hne (as6 hx hne) _ 0 o rfl (Nat.zero_le _),List.drop_zero]
  ·grind [crA]
theorem aid (n_:aV)(l:List aN)(a:Int):a2s n_ l a=a49 n_ l a:=by grind [a2s,a49,aqh,crL]
theorem adF (i:Nat):∀(l:List aK) (x:List aA),4<=x.length->a2k i l x=x
 |[],x,_=>by simp only [a2k]
 |e::l,x,h=>by
  have d:decide ((x.length:Int)<4)=false:=decide_eq_false (by omega);simp only [a2k,d,cond_false,adF i l x h]
  grind
theorem adL2 (i:Nat):∀(l:List aK) (x:List aA),a2k i l x=a4r i l x
 |[],x=>by simp only [a2k,a4r]
 |e::l,x=>by
  cases h:decide ((x.length:Int)<4)
  ·grind [adF,a4r]
  ·simp only [a2k,a4r,h,cond_true,adL2 i l]
   rfl
theorem adL1 (n_:aV)(p:List aK)(v:Int):∀(m i:Nat) (o:List aN),a4q n_ p v m i o=a7i n_ p v m i o
 |0,i,o=>by simp only [a4q,a7i]
 |m+1,i,o=>by simp only [a4q,a7i,adL2,ag2,adL1 n_ p v m]
theorem atr (n_:aV)(p:List aK)(v:Int):a08 n_ p v=a2t n_ p v:=by unfold a08 a2t;rw [agj,ah2,adL1]
theorem rrL (w:aD):∀(k i:Nat) (o:List aH),k=w.aI.length-i->i<=w.aI.length->o.length=w.aI.length->(a4b w i o).2=a4a w (w.aI.drop i) i o
 |k,i,o,hk,hi,ho=>by
  rw [a4b,if_pos hi]
  by_cases h:i<w.aI.length
  ·obtain ⟨e,he⟩:∃e,w.aI[i]? =some e:=⟨_,List.getElem?_eq_getElem h⟩
   obtain ⟨f,hf⟩:∃f,o[i]? =some f:=⟨_,List.getElem?_eq_getElem (by omega)⟩;rw [if_pos (by omega),abu he];simp only [a4a,aq1,aid,atr,ait,hf]
   split
   ·rename_i hu
    rw [hu,cond_true];exact rrL w (w.aI.length- (i+1)) (i+1) _ rfl (by omega) (by simpa using ho)
   ·rename_i hu
    rw [Bool.eq_false_iff.2 hu,cond_false];exact rrL w (w.aI.length- (i+1)) (i+1) o rfl (by omega) ho
  ·rw [if_neg (by omega),List.drop_eq_nil_of_le (by omega)]
   simp only [a4a]
 termination_by k=>k
 decreasing_by all_goals omega
theorem amz (w:aD):a7j w=a2a w:=by have h:=rrL w w.aI.length 0 w.aI rfl (Nat.zero_le _) rfl;rw [List.drop_zero]at h;unfold a7j a2a;rw [<-h]
theorem ai0 (w:aD):a0y w=aa4 w:=by unfold a0y aa4;rw [alg,agw,amz]
end Go.Stp
namespace Go.Stp
theorem asc:∀(m:Nat) (l:List Int),l.Nodup->(∀x∈l,1<=x/\x<=m)->l.length<=m
 |0,l,_,h=>by
  cases l with
  |nil=>exact Nat.le_refl _
  |cons a l=>have:=h a List.mem_cons_self;omega
 |m+1,l,hn,h=>by
  by_cases hm:((m+1:Nat):Int)∈l
  ·have h1:=asc m (l.erase ((m+1:Nat):Int)) (hn.erase _) (λx hx=>by
    have h2:=(List.Nodup.mem_erase_iff hn).1 hx;have h3:=h x h2.2;have h4:=h2.1;omega)
   grind
  ·have:=asc m l hn (λx hx=>by
    have h3:=h x hx;have:x≠((m+1:Nat):Int):=λe=>hm (e▸hx);omega)
   omega
theorem atl {x y:Str}(h:x.toList=y.toList):x=y:=by
 cases x with
 |mk a=>
  cases y with
  |mk b=>
   rw [ByteArray.toList_mk,ByteArray.toList_mk]at h;rw [Array.toList_inj.1 h]
theorem ap4:∀ {a b:List Str},a.map (λz:Str=>z.toList)=b.map (λz:Str=>z.toList)->a=b
 |[],[],_=>rfl
 |[],_::_,h=>by cases h
 |_::_,[],h=>by cases h
 |x::a,y::b,h=>by
  simp only [List.map_cons,List.cons.injEq]at h;rw [atl h.1,ap4 h.2]
theorem ajj {a b:aA}:a8c a b=true↔a=b:=by
 unfold a8c;rw [alv,decide_eq_true_eq];cases a with
 |mk a=>
  cases b with
  |mk b=>exact ⟨λh=>by rw [show a=b from ap4 h],λh=>by grind⟩
def RtOk (x:aB):Prop:=a5i x.pfx=true/\a0o x.face 1 6=true/\a0o x.cost 0 1000=true
def RtAp (y x:aB):Prop:=¬(y.face=x.face/\y.pfx=x.pfx)
theorem aua {f:Int}{p:aA}{r:aB}:a54 f p r=true↔r.face=f/\r.pfx=p:=by
 unfold a54
 by_cases h:r.face=f
 ·rw [beq_iff_eq.2 h,cond_true];exact ajj.trans ⟨λe=>⟨h,e⟩,λe=>e.2⟩
 ·grind
theorem ixR {fq:aB->Bool}:∀ {l:List aB} {i:Nat},(ac1 fq l i=none/\∀y∈l,fq y=false)\/∃(j:Nat) (y:aB),ac1 fq l i=some (((i+j:Nat):Int))/\l[j]? =some y/\fq y=true
 |[],i=> .inl ⟨rfl,λy h=>by cases h⟩
 |x::l,i=>by
  cases hx:fq x with
  |true=>exact .inr ⟨0,x,by simp only [ac1,hx,cond_true,Nat.add_zero],rfl,hx⟩
  |false=>
   rcases ixR (fq:=fq) (l:=l) (i:=i+1)with ⟨h1,h2⟩|⟨j,y,h1,h2,h3⟩
   ·grind [ac1,List.mem_cons.1]
   ·refine .inr ⟨j+1,y,?_,by grind⟩
    grind [ac1]
theorem ahx (l:List aB)(p:aA)(f:Int):(a0x l p f= -1/\∀y∈l,¬(y.face=f/\y.pfx=p))\/∃(j:Nat) (y:aB),a0x l p f=(j:Int)/\l[j]? =some y/\y.face=f/\y.pfx=p:=by
 unfold a0x aci;rcases ixR (fq:=λe0_=>(a54 f p e0_)) (l:=l) (i:=0)with ⟨h1,h2⟩|⟨j,y,h1,h2,h3⟩
 ·rw [h1]
  exact .inl ⟨rfl,λy hy he=>by have:=h2 y hy;rw [aua.2 he]at this;cases this⟩
 ·rw [h1]
  have:=aua.1 h3
  grind
theorem aum {l:List aB}{p:aA}{f:Int}:decide (a0x l p f>=0)=false↔∀y∈l,¬(y.face=f/\y.pfx=p):=by grind [ahx,List.mem_of_getElem?]
theorem vrL (l:List aB):∀(r:List aB) (i:Nat),a2f l r i=none↔∀(k:Nat) (x:aB),r[k]? =some x->RtOk x/\∀y∈l.take (i+k),¬(y.face=x.face/\y.pfx=x.pfx)
 |[],i=>⟨λ_ k x h=>by simp at h,λ_=>rfl⟩
 |e::r,i=>by
  have ih:=vrL l r (i+1)
  have key:(RtOk e/\∀y∈l.take i,¬(y.face=e.face/\y.pfx=e.pfx))->((∀(k:Nat) (x:aB),r[k]? =some x->RtOk x/\∀y∈l.take (i+1+k),¬(y.face=x.face/\y.pfx=x.pfx))↔∀(k:Nat) (x:aB),(e::r)[k]? =some x->RtOk x/\∀y∈l.take (i+k),¬(y.face=x.face/\y.pfx=x.pfx)):=λhe=>by
   constructor
   ·grind
   ·intro h k x hx
    have:=h (k+1) x (by simpa using hx);rw [show i+(k+1)=i+1+k by omega]at this;exact this
  simp only [a2f];cases h1:a5i e.pfx with
  |false=>exact ⟨λh=>(by cases h),λh=>by have:=(h 0 e rfl).1.1;grind⟩
  |true=>
  cases h2:a0o e.face 1 6 with
  |false=>exact ⟨λh=>(by cases h),λh=>by have:=(h 0 e rfl).1.2.1;grind⟩
  |true=>
  cases h3:a0o e.cost 0 1000 with
  |false=>exact ⟨λh=>(by cases h),λh=>by have:=(h 0 e rfl).1.2.2;grind⟩
  |true=>
  cases h4:decide (a0x (List.take i l) e.pfx e.face>=0)with
  |true=>exact ⟨λh=>(by cases h),λh=>absurd (h4.symm.trans (aum.2 (h 0 e rfl).2)) (by decide)⟩
  |false=>
   simp only [Bool.not_true,cond_false];exact ih.trans (key ⟨⟨h1,h2,h3⟩,aum.1 h4⟩)
theorem vrF (l:List aB):∀(r:List aB) (i:Nat),a2f l r i≠some true
 |[],i=>λh=>by cases h
 |e::r,i=>λh=>by
  simp only [a2f]at h;cases h1:a5i e.pfx<;>rw [h1]at h
  ·cases h
  cases h2:a0o e.face 1 6<;>rw [h2]at h
  ·cases h
  cases h3:a0o e.cost 0 1000<;>rw [h3]at h
  ·cases h
  cases h4:decide (a0x (List.take i l) e.pfx e.face>=0)<;>rw [h4]at h
  ·exact vrF l r (i+1) h
  ·cases h
theorem arw {l:List aB}:a16 l=true↔(∀x∈l,RtOk x)/\l.Pairwise RtAp/\l.length<=24:=by
 have h0:a16 l=true↔a2f l l 0=none/\l.length<=24:=by grind [a16,a2f,vrF]
 rw [h0,vrL];constructor
 ·rintro ⟨h1,h2⟩
  refine ⟨λx hx=>?_,List.pairwise_iff_getElem.2 λi j hi hj hij=>?_,h2⟩
  ·grind [List.getElem?_of_mem]
  ·refine (h1 j _ (List.getElem?_eq_getElem hj)).2 _ ?_
   rw [Nat.zero_add];exact List.mem_iff_getElem.2 ⟨i,by grind⟩
 ·rintro ⟨h1,h2,h3⟩
  refine ⟨λk x hx=>⟨h1 x (List.mem_of_getElem? hx),λy hy=>?_⟩,h3⟩;rw [Nat.zero_add]at hy;obtain ⟨i,hi,rfl⟩:=List.mem_iff_getElem.1 hy;rw [List.length_take]at hi;obtain ⟨hk,rfl⟩:=List.getElem?_eq_some_iff.1 hx;rw [List.getElem_take];exact List.pairwise_iff_getElem.1 h2 i k (by omega) hk (by omega)
theorem inR6 {n a b:Int}(h:a0o n a b=true):a<=n/\n<=b:=by
 unfold a0o at h
 grind
theorem hop6 {l:List aB}(h:a16 l=true)(p:aA):(abv l (λe0_=>(a0q p e0_))).length<=6:=by
 obtain ⟨h1,h2,_⟩:=arw.1 h;unfold abv
 have hp:∀x∈l.filter (λa=> !a0q p a),x∈l/\x.pfx=p:=λx hx=>by
  obtain ⟨a,b⟩:=List.mem_filter.1 hx;refine ⟨a,ajj.1 ?_⟩
  grind [a0q]
 rw [<-List.length_map (f:=λr:aB=>r.face)];refine asc 6 _ (List.pairwise_map.2 ?_) (λx hx=>?_)
 ·refine List.Pairwise.imp_of_mem (λ{a b} ha hb hab he=>hab ⟨he,(hp a ha).2.trans (hp b hb).2.symm⟩) (h2.filter _)
 ·obtain ⟨r,hr,rfl⟩:=List.mem_map.1 hx
  have:=inR6 (h1 r (hp r hr).1).2.1;omega
theorem auu {l:List aB}(h:a16 l=true)(p:aA):(List.map aB.toK (abv (a0g l) (λe0_=>(a0q p e0_)))).length<20:=by grind [List.length_map,afm,hop6]
theorem anq:a16 []=true:=rfl
theorem ao4 {o:List aB}(h:a16 o=true)(r:aB):a16 (a1a o r).1=true:=by
 unfold a1a;rw [afm];cases h1:decide (a0x o r.pfx r.face>=0)
 ·grind
 ·rw [cond_true]
  split
  ·exact anq
  ·grind
theorem aoj (n_:aV)(l:List aN)(a e1:Int)(e3:aA):∀(c:List Int) (o:List aB),a16 o=true->a16 (a1y n_ l a e1 e3 c o)=true
 |[],o,h=>h
 |e4::c,o,h=>by
  simp only [a1y];have ih:=λo h=>aoj n_ l a e1 e3 c o h;cases h1:(a0s n_ a e4 !=0)
  ·exact ih _ h
  ·rw [cond_true]
   cases h2:decide (a0x o e3 (a0s n_ a e4)<0)
   ·rw [cond_false]
    split
    ·exact anq
    ·grind [a0f,ao4]
   ·exact ih _ (ao4 h _)
theorem aoc (n_:aV)(l:List aN)(a e1:Int):∀(c:List aA) (o:List aB),a16 o=true->a16 (a48 n_ l a e1 c o)=true
 |[],o,h=>h
 |e3::c,o,h=>aoc n_ l a e1 c _ (aoj n_ l a e1 e3 _ o h)
theorem aoo (n_:aV)(l:List aN)(a:Int):∀(c:List Int) (o:List aB),a16 o=true->a16 (a2r n_ l a c o)=true
 |[],o,h=>h
 |e1::c,o,h=>by
  simp only [a2r];cases h1:(e1==a)
  ·rw [cond_false]
   split
   ·exact anq
   ·exact aoo n_ l a c _ (aoc n_ l a e1 _ o h)
  ·exact aoo n_ l a c o h
theorem atp (n_:aV)(l:List aN)(a:Int):a16 (a2s n_ l a)=true:=aoo n_ l a _ _ anq
end Go.Stp
namespace Go.Proofs.YthdfhghdipdknaaGreat
open Go.Stp
open Go.Stp.GoT (ok)
variable {w : World} (n : Nat) {K0 K1 K2 : Option Addr} {M0 M1 M2 : Nat}
theorem f78 (hn:n+0<=9)(r:aB)(N0:Rd w K0 M0 r.pfx.parts)(prefix_:aA)(bprefix_:Addr)(hprefix_:RdSl (hp w) (some bprefix_) 1 [prefix_])(a2:ok n r)(a0:ok n prefix_):
 DP 78 #[.agg #[vS K0 r.pfx.parts M0,vI r.face,vI r.cost],.pointer (some bprefix_)] w (pB (a0q prefix_ r)):=by
 refine EN Tryz.func78 Z (aS2 N0 hprefix_) ?_;have a1:[prefix_][0]? =some prefix_:=rfl;refine WX.slot 1 (y:= .e (some bprefix_) 0 1 0) Z (λ_=>alw) ?_;refine yL 1 2 _ a1 ?_;rintro ⟨p1,c1⟩;refine CV Z O (λw Y=>f79 n Q0 r.pfx (Y.q 0 Z) prefix_ (Y.q 2 Z) (a2.1) a0) λa3=>?_;exact R4r Z Z (by simp only [a0q])
theorem ag4 (s:List aB)(delq:aB->Bool):(abv s delq).length<=s.length:=List.length_filter_le _ _
theorem age {n:Nat}{s:List aB}(delq:aB->Bool)(h:GoT.ok n s):GoT.ok n (abv s delq):=
 aby (Nat.le_trans (List.length_filter_le _ _) (okl h).1) (λa ha=>(okl h).2 a (List.mem_filter.1 ha).1)
theorem f76 (hn:n+0<=9){H:GH}(hH:Le H (hp w))(s:List aB)(K0:OA)(M0:Nat)(delg:FuncId)(delc:List Value)(delq:aB->Bool)(delf:∀w1,Kp H w w1->∀(e0:aB) (x0:GoT.X aB),ok n e0->All (hp w1) (GoT.fa .der e0 x0)->Does Tryz.prog delg ([Value.agg ⟨GoT.sh e0 x0⟩]++delc).toArray w1 emp (λrv _=>rv= .bool (delq e0)/\True))(hown:Sep H (GoT.oa s (K0,M0)))(a1:ok n s):
 Does Tryz.prog 76 #[vS K0 s M0,.func (.func delg) #[] delc.toArray] w H (Post w H (λx:GoT.X (List aB)=>(GoT.sh ((abv s delq):List aB) x).headD undef) (λx=>GoT.oa ((abv s delq):List aB) x) (ok n ((abv s delq):List aB))):=by
  have hb:=bS0 hn;have r1:=a1.1;refine WX.enterM (tt:=tt) 0 Tryz.func76 Z J Z ac8 hH hown (λf hf=>GoT.oak f hf) Z ?_;refine zW 1 0 ?_;refine R0 ?_;refine WX.know (λG hΓ=>(hΓ.get 1 Z).1) λa9=>?_;refine WX.callV Z Z Z Z Z O Z (λw G bs hI hΓ=>f132 n Q0 (hΓ.get 1 Z) delg delc delq (λa8 ae=>delf a8 (hI.keep.lent ae)) a1) λan=>?_;refine yKA 12 ?_ ?_<;>intro h1
  ·have hN:=agc (B.et h1)
   have hP:abv s delq=s:=List.filter_eq_self.2 (λb hb=>by simp [hN b hb]);refine R0 ?_;refine R1 λw1 G bs hI hΓ=>?_;rw [hP];exact Post.of [0] _ hI hΓ Z Z Z a1
  ·obtain ⟨i0,a0,aa,a7,ac,af⟩:=agd (B.ef h1)
   have ag:=(List.getElem?_eq_some_iff.1 a7).1;refine WX.slot 5 Z (λ_=>by rw [aa]) ?_;refine zN (kk:=3) 501 0 2 λxs0 a6=>?_;refine KS Z Z Z Z (λ_ hΓ=>aeu Z Z Z Z (by unfold I64;omega)) ?_;refine LM Z (i0,i0+1,xs0) (λ|(i,j,xs)=>(DelInv delq s xs0 i j xs,s.length-j,[(5,.v (.int .i64 (i:Nat))),(6,.v (.int .i64 (j:Nat)))],[],[(501,⟨3,K0,s.length,M0,xs⟩)],[])) (DelInv.start a6 a7 ac af) [0,1] [] [2] [2] ?_;rintro ⟨i,j,xs⟩ a2;have v1:=a2
   clear a2
   have ak:=v1.ij;have aj:=v1.jn;refine yKA 19 ?_ ?_<;>intro h2
   ·have ab:=B.dt h2
    have a4:j<s.length:=by omega
    have a5:i<s.length:=by omega
    obtain ⟨e1,a3⟩:∃e1,_[j]? =some e1:=⟨_,List.getElem?_eq_getElem a4⟩;have ad:=okE a1 a3;refine R0 ?_;refine zR 501 j a4 ?_;rintro am rfl;refine WX.ldW 501 3 e1 ttOk Z Z Z Z Z Z Z Z Z a4 (λG hΓ=>(hΓ.get 2 Z).rd) a3 (λq=>v1.rest _ (Nat.le_add_right _ _)) O O ?_;rintro ⟨⟨p1,c1⟩,_⟩ ah;refine KW Z Z Z Z Z Z O Z (λw G bs hI hΓ=>delf w hI.keep e1 _ ad (All.cons (hΓ.get 3 Z) All.nil)) λai=>?_;refine yKA 29 ?_ ?_<;>intro h3
    ·refine R0 ?_
     refine zR 501 i a5 ?_;rintro al ⟨⟩;refine WX.stR 501 ttOk Z Z Z Z Z Z Z Z Z Z Z Z Z a5 Z Z Z ?_;refine KS Z Z Z Z (λ_ hΓ=>aeu Z Z Z Z (by unfold I64;omega)) ?_;refine KS Z Z Z Z (λ_ hΓ=>aeu Z Z Z Z (by unfold I64;omega)) ?_;exact ITr Z (i+1,j+1,_) (DelInv.keep a6 v1 a3 (B.nt h3) Z ah) (by dsimp only;omega) [2]
    ·refine R0 ?_
     refine WX.see Z Z Z (λ_ hΓ=>aeu Z Z Z Z (by unfold I64;omega)) ?_;exact ITr Z (i,j+1,xs) (v1.skip a3 (B.nf h3)) (by dsimp only;omega) [2]
   ·have ab:=B.df h2
    obtain ⟨d1,d2⟩:=v1.done Q0;refine KS Z Z Z Z (λ_ hΓ=>aim i ttOk Z Z Z Z Z (by omega)) ?_;refine WX.clr 501 i ttOk Z Z Z Z Z Z Z Z (show i<=s.length by omega) Z ?_;refine KS Z Z Z Z (λ_ hΓ=>amt i ttOk Z Z Z Z Z (by omega)) ?_;refine R0 ?_;refine WX.turn [2] 3 Z (λh hs=>by rw [show xs.take (i*3)=aik 3 delq s xs0 from d1];exact ae6 (OwL.keep delq (ag1 hs))) (gs:=[MF.ol (xs.take (i*3)) (abv s delq)]) Z ?_
    refine zE 501 3 4 (hn:=d2) ?_;refine WX.slot 4 Z (λ_=>by rw [show i=(abv s delq).length from d2]) ?_;exact zX [5] (K0,M0) (age delq a1)
theorem f81 (hn:n+0<=9)(a:RouteK)(p1:Option Addr)(n1 c1:Nat)(b:RouteK)(p2:Option Addr)(n2 c2:Nat)(a0:ok n a)(a1:ok n b):
 DP 81 #[.agg #[.slice p1 (n1) c1,vI a.face,vI a.cost],.agg #[.slice p2 (n2) c2,vI b.face,vI b.cost]] w (pI n (abj a b)):=by
 have hb:=bS0 hn;refine EN Tryz.func81 Z ac8 ?_;refine yD [11,12] λbs G0 a5=>?_;refine dT 5 [1,2,5,6,11,12,15,16] ?_;refine DXV 4 Z J Z O (λw Y=>f83 n Q0 (a0.2.2) (a1.2.2)) λa3=>?_;refine DXV 9 Z J Z O (λw Y=>f83 n Q0 (a0.2.1) (a1.2.1)) λa2=>?_;refine DX.tail2 [10,11,12] Z Z J ?_;refine zB λp3=>?_
 refine WX.turn [] 0 Z (λh hs=>ae6 ⟨(),_,emp,_,Z,acv _,Le.refl _,ade _,trivial,⟨(),_,emp,_,Z,acv _,Le.refl _,ade _,trivial,Z⟩⟩) (gs:=[MF.ol [.int .i64 ((abz a.cost b.cost)),.int .i64 ((abz a.face b.face))] [(abz a.cost b.cost),(abz a.face b.face)]]) Z ?_;refine zE 15 0 1 ?_
 refine CV Z O (λw Y=>f82 n Q0 (vals:=([(abz a.cost b.cost),(abz a.face b.face)])) (Y.q 1 Z) (aby Q7 (all_cons (α:=Int) a3 (all_cons (α:=Int) a2 nA)))) λa4=>?_;rw [show abj a b=(af0 ([(abz a.cost b.cost),(abz a.face b.face)])) by simp only [abj]];exact R6r Z Z a4
theorem f175 (hn:n+0<=9)(data:(List RouteK))(K0:OA)(M0:Nat){a:Int}{b:Int}{H:GH}(hH:Le H (hp w))(hown:Sep H (GoT.oa data (K0,M0)))(hq0:a=0/\b<=data.length/\data.length<=20)(a8:ok n data)(ag:ok n a)(aq:ok n b):
 Does Tryz.prog 175 #[vS K0 data M0,vI a,vI b,.func (.func 81) #[] #[]] w H (Post w H (λ_:Unit=> .tuple #[]) (λ_=>GoT.oa ((acn data a b):(List RouteK)) (K0,M0)) ((ok n ((acn data a b):(List RouteK)))/\((acn data a b)).length=(data).length)):=by
 refine WX.enterM (tt:=tt) (Γ:=[]) 1 Tryz.func175 Z J Z ac8 hH hown (λf hf=>GoT.oak f hf) Z ?_;refine SA ?_
 refine LM Z (K0,M0,(data:List RouteK),a+1) (λ|(a3,a4,a1,i)=>(JL n a1/\J6 i/\(0<=i)/\(a1.length=data.length)/\(a3=K0/\a4=M0)/\(acb a b (data:List RouteK) (a+1)=acb a b a1 i),(b-i).toNat,[(0,.v (vS a3 a1 a4)),(8,.v (vI i))],[],[],[(1,MF.os a3 a4 a1)])) ⟨a8,Q4,Q0,Z,⟨Z,Z⟩,Z⟩ [1,2,3] [] [] [1] ?_;rintro ⟨a3,a4,a1,i⟩ ⟨v1,v2,v3,v4,v5,v6⟩;refine yKD 14 ?_ ?_<;>intro h1 af
 refine LM Z (a3,a4,(a1:List RouteK),i) (λ|(a5,a2,a0,j)=>(JL n a0/\J6 j/\(0<=j/\j<=i)/\(a0.length=data.length)/\(a5=K0/\a2=M0)/\(ac9 a (a1:List RouteK) i=ac9 a a0 j),(j-a).toNat,[(0,.v (vS a5 a0 a2)),(9,.v (vI j))],[],[],[(1,MF.os a5 a2 a0)])) ⟨(acp v1),v2,Q0,Q4,(by first|assumption|exact ⟨Z,Z⟩),Z⟩ [8,1,2,3] [] [] [1] ?_;rintro ⟨a5,a2,a0,j⟩ ⟨v7,v8,v9,ax,b1,ak⟩;have b4:=v7.1;refine zW 2 1 ?_;refine yD [] λbs G0 a7=>?_
 refine dT 13 [1,3,5,7] ?_;refine zDC 21 ?_ ?_<;>intro h2;have ac:=B.dt h2;refine dT 10 [9,11,13] ?_;refine DI 24 ?_;have ae:j.toNat<a0.length:=Q4;obtain ⟨e1,aa⟩:=gE ae;have ad:ok n e1:=v7.2 _ (List.mem_of_getElem? aa);refine zDI 7 2 (j.toNat) a7 Z ae ?_;rintro am rfl;refine zDL 8 2 3 e1 a7 aa ?_;rintro ⟨⟨p1,n1,c1⟩,_⟩;refine dT 6 [19,21] ?_;refine DX.seeP 11 J Z Z Z Z (ad7 Z Z Z Z Q6) ?_;refine DI 29 ?_
 have aj:(j-1).toNat<a0.length:=Q4;obtain ⟨e2,ab⟩:=gE aj;have a9:ok n e2:=v7.2 _ (List.mem_of_getElem? ab);refine zDI 12 2 ((j-1).toNat) a7 Z aj ?_;rintro aw ⟨⟩;refine zDL 13 2 3 e2 a7 ab ?_;rintro ⟨⟨p2,n2,c2⟩,_⟩;refine DXV 14 Z J Z O (λw Y=>f81 n Q0 e1 p1 n1 c1 e2 p2 n2 c2 (An trivial (An (adc ad).2.1 (adc ad).2.2)) (An trivial (An (adc a9).2.1 (adc a9).2.2))) λb8=>?_;refine dT 0 [31,33] ?_;refine DX.tail2 [] Z Z J ?_;refine yKD 34 ?_ ?_<;>intro h3 al
 refine yD [14,15,16,17] λbs G0 a7=>?_;refine dT 14 [1,3,5,7] ?_;refine DX.seeP 4 J Z Z Z Z (ad7 Z Z Z Z Q6) ?_;refine dT 11 [11,13] ?_;refine DX.seeP 7 J Z Z Z Z (ad7 Z Z Z Z Q6) ?_;refine DI 44 ?_;refine zDI 8 2 ((j-1).toNat) a7 Z aj ?_;rintro b5 ⟨⟩;refine zDL 9 2 3 e2 a7 ab ?_;rintro ⟨⟨p3,n3,c3⟩,_⟩;refine dT 6 [21,23] ?_;refine DI 48 ?_;refine zDI 12 2 (j.toNat) a7 Z ae ?_;rintro b2 ⟨⟩
 refine zDL 13 2 3 e1 a7 aa ?_;rintro ⟨⟨p4,n4,c4⟩,_⟩;refine DX.tail2 [14,15,16,17] Z Z J ?_;refine SI 38 ?_;refine zN (kk:=3) 501 1 3 λay b9=>?_;have an:j.toNat<a0.length:=Q4;refine zR 501 (j.toNat) an ?_;rintro b0 ⟨⟩;refine zO (α:=RouteK) (e:=e1) 501 3 4 (j.toNat) aa ?_;rintro A1 B1 ⟨⟨p5,n5,c5⟩,_⟩ ar b3;refine zS 501 ar an ?_;refine SI 41 ?_;refine WX.turn [4,5] 6 Z (λh hs=>ae8 (α:=RouteK) (e:=e2) (x:=((p3,n3,c3),(),())) ae hs) Z ?_;have ap:(j-1).toNat<a0.length:=Q4
 refine zR 501 ((j-1).toNat) ap ?_;rintro b7 ⟨⟩;have ao:(j-1).toNat<((a0.set (j.toNat) e2)).length:=(by first|assumption|omega|(simp only [List.length_set];omega));obtain ⟨e3,ah⟩:=gE ao;refine zO (α:=RouteK) (e:=e3) 501 6 7 ((j-1).toNat) ah ?_;rintro A2 B2 ⟨⟨p6,n6,c6⟩,_⟩ au az;refine zS 501 au ap ?_;refine SA ?_;refine R0 ?_
 refine WX.turn [7,8] 9 Z (λh hs=>ae8 (α:=RouteK) (e:=e1) (x:=((p4,n4,c4),(),())) ao hs) Z ?_;refine zE 501 9 10 (hn:=(show a0.length=(((a0.set (j.toNat) e2).set ((j-1).toNat) e1)).length from by first|(simp;done)|(simp;omega))) ?_;refine SL 47 (((a0.set (j.toNat) e2).set ((j-1).toNat) e1)).length ?_;refine SL 42 (((a0.set (j.toNat) e2).set ((j-1).toNat) e1)).length ?_;refine SL 39 (((a0.set (j.toNat) e2).set ((j-1).toNat) e1)).length ?_;refine SL 37 (((a0.set (j.toNat) e2).set ((j-1).toNat) e1)).length ?_
 refine SL 27 (((a0.set (j.toNat) e2).set ((j-1).toNat) e1)).length ?_;refine SL 23 (((a0.set (j.toNat) e2).set ((j-1).toNat) e1)).length ?_;refine SL 0 (((a0.set (j.toNat) e2).set ((j-1).toNat) e1)).length ?_;refine zU [11] 1 ?_
 exact IT ((some am),a2,((a0.set (j.toNat) e2).set ((j-1).toNat) e1),j-1) ⟨(aby Q5 (adz (adz v7.2 (show ok n (e2:RouteK)from (An trivial (An (adc a9).2.1 (adc a9).2.2)))) (show ok n (e1:RouteK)from (An trivial (An (adc ad).2.1 (adc ad).2.2)))):ok n (((a0.set (j.toNat) e2).set ((j-1).toNat) e1):List RouteK)),Q4,Q0,Q3,Q12,(by rw [ak];rw [ac9];simp only [ac,aa,ab,al,ah,↓reduceIte])⟩ Q1 [1]
 have a6:=ak.trans (show _=((a0:List RouteK),j) by rw [ac9];simp only [ac,aa,ab,al,↓reduceIte]);refine SA ?_;exact ITr Z ((some am),a2,a0,i+1) ⟨(acp v7),Q4,Q0,Q3,Q12,(by rw [v6];rw [acb];simp only [af,a6,↓reduceIte])⟩ Q1 [1];have ac:=B.df h2;refine dT 0 [9,11,13,15,17,19,21,23,25,27,29,31,33] ?_
 refine DX.tail2 [] Z Z J ?_;have a6:=ak.trans (show _=((a0:List RouteK),j) by rw [ac9];simp only [ac,↓reduceIte]);refine SA ?_;exact ITr Z (a5,a2,a0,i+1) ⟨(acp v7),Q4,Q0,Q3,Q12,(by rw [v6];rw [acb];simp only [af,a6,↓reduceIte])⟩ Q1 [1]
 have a6:=v6.trans (show _=((a1:List RouteK),i) by rw [acb];simp only [af,↓reduceIte]);obtain ⟨rfl,rfl⟩:a3=K0/\a4=M0:=by assumption
 have ai:acn data a b=a1:=by simp only [acn,a6]
 refine R0 ?_;refine WX.fin ttOk Z λw1 G bs hI hΓ=>?_;rw [ai];exact Post.of [1] () hI hΓ Z Z Z ⟨(acp v1),(show a1.length=data.length from by omega)⟩
theorem f134 (hn:n+0<=9)(data:(List RouteK))(K0:OA)(M0:Nat){n_:Int}{H:GH}(hH:Le H (hp w))(hown:Sep H (GoT.oa data (K0,M0)))(hq0:n_=data.length/\data.length<20)(a1:ok n data)(a3:ok n n_):
 Does Tryz.prog 134 #[vS K0 data M0,vI n_,.func (.func 81) #[] #[]] w H (Post w H (λ_:Unit=> .tuple #[]) (λ_=>GoT.oa ((acw data n_):(List RouteK)) (K0,M0)) ((ok n ((acw data n_):(List RouteK)))/\((acw data n_)).length=(data).length)):=by
 refine WX.enterM (tt:=tt) 1 Tryz.func134 Z J Z ac8 hH hown (λf hf=>GoT.oak f hf) Z ?_;refine LM Z (0,20) (λ|(a,b)=>(J6 a/\J6 b/\(a=0/\b=20)/\(adt 0 20=adt a b),0,[(7,.v (vI a)),(8,.v (vI b))],[],[],[])) ⟨Q4,Q4,⟨Z,Z⟩,Z⟩ [6,0,1,2] [] [1] [1] ?_;rintro ⟨a,b⟩ ⟨v1,v2,v3,v4⟩;refine yKD 13 ?_ ?_<;>intro h1 ad;exfalso;omega
 have a6:adt 0 20=(a,b):=by rw [v4];first|done|rfl
 refine R0 ?_;refine CN [1] 14 Z Z Z Z Z Z O Z (λw β H η σ Y=>f175 n Q0 data K0 M0 η σ Q4 a1 v1 a3) ?_;rintro ⟨⟩ a2;have a8:=a2.2;refine LM Z 20 (λa0=>(J6 a0/\(a0=20)/\(adr 20=adr a0),0,[(6,.v _)],[],[],[])) ⟨Q4,Z,Z⟩ [0,1,2] [] [15] [15] ?_;rintro a0 ⟨ac,ab,a7⟩;refine yKD 30 ?_ ?_<;>intro aa a9;exfalso;omega
 have a4:acw data n_=(acn data a n_):=by simp only [acw,a6]
 refine R0 ?_;refine WX.fin ttOk Z λw1 G bs hI hΓ=>?_;rw [a4];exact Post.of [15] () hI hΓ Z Z Z ⟨a2.1,(by omega)⟩
theorem f80 (hn:n+0<=9)(x_:(List RouteK))(K0:OA)(M0:Nat){H:GH}(hH:Le H (hp w))(hown:Sep H (GoT.oa x_ (K0,M0)))(hq0:x_.length<20)(a0:ok n x_):
 Does Tryz.prog 80 #[vS K0 x_ M0,.func (.func 81) #[] #[]] w H (Post w H (λ_:Unit=> .tuple #[]) (λ_=>GoT.oa ((ac3 x_):(List RouteK)) (K0,M0)) ((ok n ((ac3 x_):(List RouteK)))/\((ac3 x_)).length=(x_).length)):=by
 refine WX.enterM (tt:=tt) 1 Tryz.func80 Z J Z ac8 hH hown (λf hf=>GoT.oak f hf) Z ?_;refine R0 ?_;refine CN [1] 2 Z Z Z Z Z Z O Z (λw β H η σ Y=>f134 n Q0 x_ K0 M0 η σ Q4 a0 (i6 x_.length)) ?_;rintro ⟨⟩ a1;have a3:=a1.2;have a2:ac3 x_=(acw x_ x_.length):=by simp only [ac3]
 refine R0 ?_;refine WX.fin ttOk Z λw1 G bs hI hΓ=>?_;rw [a2];exact Post.of [3] () hI hΓ Z Z Z ⟨a1.1,(by omega)⟩
theorem f38 (hn:n+0<=9){l:List aB}(N0:Rd w K0 M0 l)(n_:aA)(N1:Rd w K1 M1 n_.parts)(hq0:a16 l=true)(a5:ok n l)(a7:ok n n_):
 DP 38 #[vS K0 l M0,adu n_ K1 M1] w (pS w n (a59 l n_)):=by
 have hb:=bS0 hn;refine EN Tryz.func38 Z (aS2 N0 N1) ?_;refine KF Z 2 Z O (λw Y=>f75 n Q0 (Y.q 0 Z) n_ (Y.q 1 Z) a5 a7) ?_;rintro ⟨p1,c1⟩ al;refine yKN 18 ?_ ?_<;>intro h1 aq;refine F1 4 Int ?_;rw [show a59 l n_=([]:List Int) by simp only [a59,h1,cC]];exact yX [4] (none,0) (acd (α:=Int));refine KF Z 4 Z O (λw Y=>f77 n Q0 (Y.q 0 Z) a5) ?_;rintro ⟨p2,c2⟩ ac;refine R0 ?_
 refine WX.callN [5] 6 Z (λ_ _ h=>GoT.ow_rd h) (λ_ f hf=>GoT.fak f hf) Z Z Z Z Z O Z (λw G bs H hI aj hH hs hΓ=>f76 n Q0 hH (a0g l) p2 c2 78 [Value.pointer (some ⟨bs 5,0,none⟩)] (λa0=>(a0q ((a0t l n_).1) a0)) (λan ai a0 am a9 aa=>f78 n Q0 a0 (aa _ List.mem_cons_self) ((a0t l n_).1) ⟨bs 5,0,none⟩ (avu (α:=aA) (a:=((a0t l n_).1)) (x:=(p1,c1)) hI Z aj (All.cons ((hΓ.get 3 Z:OwSl _ _ _ _).rd:RdSl _ _ _ _) All.nil) ai) a9 al) hs ac) O O ?_;rintro ⟨p3,c3⟩ ag
 have a6:((List.map aB.toK (abv (a0g l) (λa0=>(a0q ((a0t l n_).1) a0))))).length=((abv (a0g l) (λa0=>(a0q ((a0t l n_).1) a0)))).length:=List.length_map ..;refine R0 ?_
 refine WX.turn [7] 8 Z (λh hs=>ae6 (OwSl.toK (ag1 hs))) (gs:=[MF.os p3 c3 (List.map aB.toK (abv (a0g l) (λa0=>(a0q ((a0t l n_).1) a0))))]) Z ?_
 refine WX.slot 23 (y:= .v (.slice p3 (((List.map aB.toK (abv (a0g l) (λa0=>(a0q ((a0t l n_).1) a0))))).length) c3)) Z (λ_=>by show (.slice p3 (((abv (a0g l) (λa0=>(a0q ((a0t l n_).1) a0)))).length) c3:Value)= .slice p3 (((List.map aB.toK (abv (a0g l) (λa0=>(a0q ((a0t l n_).1) a0))))).length) c3;simp only [a6]) ?_;have r3:=(okl ag).1
 refine CN [8] 10 Z Z Z Z Z Z O Z (λw β H η σ Y=>f80 n Q0 (List.map aB.toK (abv (a0g l) (λa0=>(a0q ((a0t l n_).1) a0)))) p3 c3 η σ (by exact auu hq0 _) (aby Q0 (avl (okl ag).2):ok n ((List.map aB.toK (abv (a0g l) (λa0=>(a0q ((a0t l n_).1) a0)))):List RouteK))) ?_;rintro ⟨⟩ ad
 have a8:((ac3 (List.map aB.toK (abv (a0g l) (λa0=>(a0q ((a0t l n_).1) a0)))))).length=((List.map aB.toK (abv (a0g l) (λa0=>(a0q ((a0t l n_).1) a0))))).length:=ad.2;refine yB λp4=>?_;refine R0 ?_
 refine WX.slot 26 (y:= .v (.slice p3 (((ac3 (List.map aB.toK (abv (a0g l) (λa0=>(a0q ((a0t l n_).1) a0)))))).length) c3)) Z (λ_=>by show (.slice p3 (((abv (a0g l) (λa0=>(a0q ((a0t l n_).1) a0)))).length) c3:Value)= .slice p3 (((ac3 (List.map aB.toK (abv (a0g l) (λa0=>(a0q ((a0t l n_).1) a0)))))).length) c3;simp only [a6,a8]) ?_
 refine WX.slot 23 (y:= .v (.slice p3 (((ac3 (List.map aB.toK (abv (a0g l) (λa0=>(a0q ((a0t l n_).1) a0)))))).length) c3)) Z (λ_=>by show (.slice p3 (((List.map aB.toK (abv (a0g l) (λa0=>(a0q ((a0t l n_).1) a0))))).length) c3:Value)= .slice p3 (((ac3 (List.map aB.toK (abv (a0g l) (λa0=>(a0q ((a0t l n_).1) a0)))))).length) c3;simp only [a6,a8]) ?_
 refine WX.slot 7 (y:= .v (.slice p3 (((ac3 (List.map aB.toK (abv (a0g l) (λa0=>(a0q ((a0t l n_).1) a0)))))).length) c3)) Z (λ_=>by show (.slice p3 (((abv (a0g l) (λa0=>(a0q ((a0t l n_).1) a0)))).length) c3:Value)= .slice p3 (((ac3 (List.map aB.toK (abv (a0g l) (λa0=>(a0q ((a0t l n_).1) a0)))))).length) c3;simp only [a6,a8]) ?_
 refine WX.slot 22 (y:= .v (.slice p3 (((ac3 (List.map aB.toK (abv (a0g l) (λa0=>(a0q ((a0t l n_).1) a0)))))).length) c3)) Z (λ_=>by show (.slice p3 (((abv (a0g l) (λa0=>(a0q ((a0t l n_).1) a0)))).length) c3:Value)= .slice p3 (((ac3 (List.map aB.toK (abv (a0g l) (λa0=>(a0q ((a0t l n_).1) a0)))))).length) c3;simp only [a6,a8]) ?_
 refine F0 12 Int ?_
 refine LK (p4,0,[],([]:List Int),0) (λ|(a3,a4,a1,a2,i)=>((i<=((abv (a0g l) (λa0=>(a0q ((a0t l n_).1) a0)))).length)/\JE n a2/\(a2.length<=i)/\(a7k l n_ (((abv (a0g l) (λa0=>(a0q ((a0t l n_).1) a0)))).length) 0 ([]:List Int)=a7k l n_ (((abv (a0g l) (λa0=>(a0q ((a0t l n_).1) a0)))).length-i) i a2),((abv (a0g l) (λa0=>(a0q ((a0t l n_).1) a0)))).length-i,[(8,.v (vS a3 a2 a4)),(28,.v (vI i))],[],[(25,⟨1,a3,a2.length,a4,a1⟩)],[(12,MF.ol a1 (a2:List Int))])) ⟨zl,nA,Q10,Z⟩ [26,27] [] [0,1,11] [0,1,11,12] ?_
 rintro ⟨a3,a4,a1,a2,i⟩ ⟨v1,v2,v3,v4⟩;refine yKD 29 ?_ ?_<;>intro h2 ao;refine zW 13 11 ?_;obtain ⟨e1,af,ae,ak⟩:=gO ad.1 i;refine yI 13 i ak ?_;rintro ap rfl;refine zL 13 14 e1 af ?_;rintro ⟨⟨p5,n1,c4⟩,_⟩;refine yB λp6=>?_;refine WX.turn [] 14 Z (λh hs=>au0 (α:=Int) (a:=e1.face) (x:=()) hs) (gs:=[MF.ol [.int .i64 (e1.face)] ([e1.face]:List Int)]) Z ?_;refine WX.know (λG hΓ=>(hΓ.get 14 Z:OwL _ _ _).rd.one) λah=>?_;refine zP 25 35 ((a2++[e1.face]):List Int).length ah λp7 c5=>?_
 refine WX.turn [12,14] 15 Z (λh hs=>au8 hs) (gs:=[MF.ol (a1++[.int .i64 (e1.face)]) ((a2++[e1.face]):List Int)]) Z ?_;refine SA ?_;refine R0 ?_;refine WX.turn [15] 12 Z (λ_ h=>h) Z ?_
 exact IT (p7,c5,_,((a2++[e1.face]):List Int),i+1) ⟨Q0,(ac2 v2 (all_cons (α:=Int) (adc ae).2.1 nA)),Q3,(by rw [v4,show ((abv (a0g l) (λa0=>(a0q ((a0t l n_).1) a0)))).length-i=(((abv (a0g l) (λa0=>(a0q ((a0t l n_).1) a0)))).length- (i+1))+1 by omega];simp only [a7k,af])⟩ Q1 [0,1,11,12]
 have ab:=v4.trans (show _=(a2:List Int) by rw [show ((abv (a0g l) (λa0=>(a0q ((a0t l n_).1) a0)))).length-i=0 by omega];simp only [a7k]);refine yE 25 12 25 ?_;rw [show a59 l n_=a2 by simp only [a59,h1,ab,cC]];exact zX [26] (a3,a4) (aby Q0 v2:ok n (a2:List Int))
theorem f12 (hn:n+1<=9)(n_:aV)(N0:Rd w K0 M0 n_.links){l:List aN}(N1:Rd w K1 M1 l){a:Int}(x_:aA)(N2:Rd w K2 M2 x_.parts)(hq0:1<=n_.size/\n_.size<=6)(a2:ok n n_)(ad:ok n l)(a5:ok n a)(a7:ok n x_):
 DP 12 #[adv n_ K0 M0,vS K1 l M1,vI a,adu x_ K2 M2] w (pS w n (a1u n_ l a x_)):=by
 have hb:=bS1 hn;refine EN Tryz.func12 Z (aS3 N0 N1 N2) ?_;refine SA ?_;refine CV Z O (λw Y=>f33 n Q0 a5 (i6 0) (i6 (n_.size-1))) λar=>?_;refine yKN 19 ?_ ?_<;>intro h1 au;refine F1 3 Int ?_;rw [show a1u n_ l a x_=([]:List Int) by simp only [a1u,h1,cC]];exact yX [3] (none,0) (acd);refine yB λp1=>?_;refine R0 ?_;refine zT [] 3 a () λ_=>?_;refine zE 21 3 4 ?_
 refine LK (p1,1,[a]) (λ|(a4,a1,a0)=>(JL n a0/\(1<=a0.length/\a0.length<=6)/\(a3j n_ l x_ [a]=a3j n_ l x_ a0),6-a0.length,[(9,.v (vS a4 a0 a1))],[],[],[(5,MF.os a4 a1 a0)])) ⟨(aby Q7 (all_cons (α:=Int) a5 nA)),Q10,Z⟩ [7,4,1] [7,4] [0,1,2] [0,1,2,5] ?_;rintro ⟨a4,a1,a0⟩ ⟨v1,v2,v3⟩;refine yKD 24 ?_ ?_<;>intro h2 a8;refine SA ?_;refine SI 28 ?_;refine zW 6 5 ?_
 have ag:((a0.length:Int)-1).toNat<a0.length:=Q4;obtain ⟨e1,a6⟩:=gE ag;have ab:=v1.2 _ (List.mem_of_getElem? a6);refine zI 6 _ ag ?_;rintro ak rfl;refine zL 6 7 e1 a6 ?_;rintro ⟨⟩;refine yD [] λbs G0 ae=>?_;refine dT 3 [0,3,5,8] ?_;refine DXF 3 7 Z J Z O (λw Y=>f39 n Q0 n_ (Y.q 0 Z) (Y.q 1 Z) a2 ad ab) ?_;rintro ⟨p2,c1⟩ ah;refine DXF 5 9 Z J Z O (λw Y=>f38 n Q0 (Y.q 7 Z) x_ (Y.q 2 Z) (atp _ _ _) ah a7) ?_;rintro ⟨p3,c2⟩ al;refine dT 0 [13] ?_
 refine DX.tail2 [] Z Z J ?_
 ·skip
  refine yKE 39 ?_ ?_<;>intro h3 am;have a3:=v3.trans (show _=a0 by rw [a3j];simp only [a8,a6,h3,↓reduceIte]);rotate_left;refine yD [] λbs G0 ae=>?_;refine dT 8 [0,3,5] ?_;obtain ⟨e2,a9,af,aj⟩:=gO al 0;refine zDI 3 9 0 ae Z aj ?_;rintro aq rfl;refine zDL 4 9 11 e2 ae a9 ?_;rintro ⟨⟩;refine DXV 5 Z J Z O (λw Y=>f40 n Q0 n_ (Y.q 0 Z) a2 ab af) λaa=>?_;refine dT 0 [13,15,17,19,21] ?_;refine DX.tail2 [] Z Z J ?_;refine yKD 51 ?_ ?_<;>intro h4 ac
  have a3:=v3.trans (show _=a0 by rw [a3j];simp only [a8,a6,h3,a9,ac,↓reduceIte,Bool.false_eq_true]);rotate_left;refine KV Z Z O (λw Y=>f41 n Q0 (Y.q 6 Z) (acp v1) aa.1) λav=>?_;refine yKA 55 ?_ ?_<;>intro h5;have a3:=v3.trans (show _=a0 by rw [a3j];simp only [a8,a6,h3,a9,ac,h5,↓reduceIte,Bool.false_eq_true]);rotate_left;refine yB λp4=>?_;refine zN (kk:=1) 501 5 11 λan aw=>?_;refine zT [] 12 ((a2l n_ e1 e2).1) () λ_=>?_
  refine WX.know (λG hΓ=>(hΓ.get 12 Z).rd.one) λai=>?_;refine zP 501 58 (a0++[((a2l n_ e1 e2).1)]).length ai λp5 c3=>?_;refine zV [11,12] 13 ?_;refine yE 501 13 14 ?_;refine zU [15] 5 ?_
  exact IT (p5,c3,(a0++[((a2l n_ e1 e2).1)])) ⟨(aby Q5 (ac2 v1.2 (all_cons (α:=Int) aa.1 nA))),Q11,(by rw [v3];rw [a3j];simp only [a8,a6,h3,a9,ac,h5,↓reduceIte,Bool.false_eq_true])⟩ (by dsimp only;rw [List.length_append];simp only [List.length_cons,List.length_nil];omega) [0,1,2,5]
  all_goals
   rw [show a1u n_ l a x_=a0 by simp only [a1u,h1,a3,cC]];exact yX [5] ((some ak),a1) (acp v1)
 have a3:=v3.trans (show _=a0 by rw [a3j];simp only [a8,↓reduceIte]);rw [show a1u n_ l a x_=a0 by simp only [a1u,h1,a3,cC]];exact yX [5] (a4,a1) (acp v1)
end Go.Proofs.YthdfhghdipdknaaGreat
namespace Go.Stp
instance ctlInh27 {α β:Type}[Inhabited α]:Inhabited (Ctl α β):=⟨.ret default⟩
theorem sh7 (x:Int):Int.fdiv x (2^ (min (Int.toNat (7:Int)) 64))=x/128:=by grind
def avI (n:Int)(k:Nat):Prop:=0<=n/\((k=0/\n<=1000000000000)\/(k=1/\n<=7812500000)\/(k=2/\n<=61035156)\/(k=3/\n<=476837)\/(k=4/\n<=3725)\/(k=5/\n<=29))
theorem axa {n:Int}(h:0<=n/\n<=1000000000000):avI n 0:=⟨h.1,.inl ⟨rfl,h.2⟩⟩
theorem as1 {n:Int}{k:Nat}(h:avI n k):k<=5:=by grind [avI]
theorem aw1 {n:Int}{k:Nat}(h:avI n k):0<=n/\n<=1000000000000:=by grind [avI]
theorem aot {n:Int}{k:Nat}(h:avI n k)(hn:n>=128):avI (n/128) (k+1):=by grind [avI]
theorem at0 {n:Int}{k k':Nat}(h:avI n k)(hn:n>=128)(hk:k'=k+1):avI (n/128) k':=hk▸aot h hn
theorem an3 {n a b:Int}(h:a07 n a b=true):a<=n/\n<=b:=by
 unfold a07 at h
 grind
def a7l (n_2:Int)(out:List UInt8):Int×(List UInt8):=if n_2>127 then a7l (Int.fdiv n_2 (2^ (min (Int.toNat (7:Int)) 64))) (((out++[(toU8 (bitO .or (bitO .and n_2 127) 128))])):List UInt8)else (n_2,((out):List UInt8))
termination_by n_2.toNat
decreasing_by all_goals (rw [sh7]; omega)
def a37 (b:(List UInt8))(n_:Int):(List UInt8):=bif (!(a07 n_ 0 1000000000000))then b else match a7l n_ (b:List UInt8)with|(n_2,out)=>(out++[(toU8 n_2)])
theorem akw:∀(m:Nat) (n:Int)(out:List UInt8)(k:Nat),avI n k->5-k=m->(a7l n out).2.length<=out.length+m
 |0,n,out,k,h,hm=>by
  have:=as1 h;rw [a7l,if_neg (show¬n>127 by grind [avI])]
  grind
 |m+1,n,out,k,h,hm=>by
  rw [a7l]
  by_cases hn:n>127
  ·rw [if_pos hn,sh7]
   have:=akw m (n/128) (out++[toU8 (bitO .or (bitO .and n 127) 128)]) (k+1) (aot h (by omega)) (by omega)
   grind
  ·grind
theorem agr (b:List UInt8)(n_:Int):(a37 b n_).length<=b.length+6:=by
 unfold a37;cases hr:a07 n_ 0 1000000000000
 ·grind
 ·have h:=akw 5 n_ b 0 (axa (an3 hr)) rfl
  grind
def a7m (b:(List UInt8))(s:(List UInt8)):(List UInt8):=((a37 b ((s).length:Int))++s)
theorem alc (b s:List UInt8):(a7m b s).length<=b.length+s.length+6:=by grind [agr,a7m,List.length_append]
theorem asz {s:Str}(h:a2z s=true):s.size<=8:=by
 unfold a2z at h;cases hr:a07 (((s).size:Nat):Int) 1 8
 ·grind
 ·have:=an3 hr
  omega
theorem ape:∀(l:List Str),(a3d l=none/\∀p∈l,p.size<=8)\/a3d l=some false
 |[]=> .inl ⟨rfl,λp hp=>by cases hp⟩
 |x::l=>by
  simp only [a3d];cases hx:a2z x
  ·exact .inr rfl
  ·rcases ape l with ⟨h1,h2⟩|h
   ·grind [hp,List.mem_cons.1,asz]
   ·exact .inr h
theorem ap7 {n_:aA}(h:a1e n_=true):n_.parts.length<=6/\∀p∈n_.parts,p.size<=8:=by
 unfold a1e at h
 grind [ape]
def a6m:List Str->(List UInt8)->(List UInt8)|[],out=>((out):List UInt8)|e1::rest_,out=>a6m rest_ (((a7m out ((e1).data.toList))):List UInt8)
def a03 (b:(List UInt8))(n_:aA):(List UInt8):=bif (!(a1e n_))then b else match a6m n_.parts ((a37 b ((n_.parts).length:Int)):List UInt8)with|out=>out
theorem akl:∀(l:List Str) (out:List UInt8),(∀p∈l,p.size<=8)->(a6m l out).length<=out.length+14*l.length
 |[],out,_=>by simp [a6m]
 |x::l,out,h=>by
  have h1:=akl l (a7m out ((x).data.toList)) (λp hp=>h p (List.mem_cons_of_mem _ hp));have h2:=alc out ((x).data.toList);have h3:=h x List.mem_cons_self;have h4:((x).data.toList).length=(x).size:=rfl
  grind [List.length_cons,a6m]
theorem aey (b:List UInt8)(n_:aA):(a03 b n_).length<=b.length+90:=by grind [a03,ap7,akl,a37,agr,a6m]
end Go.Stp
namespace Go.Proofs.YthdfhghdipdknaaGreat
open Go.Stp
open Go.Stp.GoT (ok)
variable {w : World} (n : Nat) {K0 K1 : Option Addr} {M0 M1 : Nat}
theorem f253 (hn:n+1<=9){b:List UInt8}(N0:Rd w K0 M0 b){n_:Int}(a6:ok n b)(a3:ok n n_):
 DP 253 #[vS K0 b M0,vI n_] w (pS w (n+1) (a37 b n_)):=by
 have hb:=bS1 hn;refine EN Tryz.func253 Z (aS1 N0) ?_;refine yB λp1=>?_;refine F0 1 UInt8 ?_;have r1:=a6.1;refine R0 ?_;refine zG 6 0 2 b.length Z λae p2 c1=>?_;refine WX.know (λG hΓ=>(hΓ.get 2 Z).flat) λad=>?_;refine WX.turn [1] 3 Z (λh hs=>acx hs ad) Z ?_;refine KV Z Z O (λw Y=>f120 n Q0 a3 (i6 0) (i6 1000000000000)) λak=>?_;refine yKN 11 ?_ ?_<;>intro h1 al;refine yE 6 3 4 ?_;rw [show a37 b n_=b by simp only [a37,h1,cC]]
 exact zX [5] (p2,c1) (aby Q0 (λ_ _=>trivial));have ac:=ad8 (B.nf h1);refine LM Z (n_,p2,c1,([]++ae),b) (λ|(a0,a4,a5,a2,a1)=>(J6 a0/\JE (n+1) a1/\(avI a0 (a1.length-b.length)/\b.length<=a1.length)/\(a7l n_ b=a7l a0 a1),a0.toNat,[(1,.v (vI a0)),(5,.v (vS a4 a1 a5))],[],[(6,⟨1,a4,a1.length,a5,a2⟩)],[(3,MF.ol a2 a1)])) ⟨a3,(λ_ _=>trivial),⟨by rw [Nat.sub_self];exact axa ac,Nat.le_refl _⟩,Z⟩ [] [] [0] [0,3] ?_
 rintro ⟨a0,a4,a5,a2,a1⟩ ⟨v1,v2,v3,v4⟩;have ag:=as1 v3.1;have an:=aw1 v3.1;refine yKD 14 ?_ ?_<;>intro h2 a9;refine KS Z Z Z Z (λ_ hΓ=>aei Z Z Z Z) ?_;refine WX.see Z Z Z (λ_ hΓ=>aei Z Z Z Z) ?_;refine WX.see Z Z Z (λ_ hΓ=>agv ttOk Z Z Z Z Z Z) ?_;refine zB λp3=>?_;refine zT [] 4 (toU8 (bitO .or (bitO .and a0 127) 128)) () λab=>?_;refine zP 6 20 (a1++[(toU8 (bitO .or (bitO .and a0 127) 128))]).length ab λp4 c2=>?_;refine zV [3,4] 5 ?_
 refine KS Z Z Z Z (λ_ hΓ=>ahi Z Z Z Q9) ?_;refine zU [5] 3 ?_;have ai:=sh7 a0;exact ITr Z (Int.fdiv a0 (2^ (min (Int.toNat 7) 64)),p4,c2,_,(a1++[(toU8 (bitO .or (bitO .and a0 127) 128))])) ⟨Q4,(λ_ _=>trivial),⟨by rw [sh7];exact at0 v3.1 Q0 (by simp;omega),by simp;omega⟩,(by rw [v4];rw [a7l];simp only [a9,↓reduceIte])⟩ (by dsimp only;rw [sh7];omega) [0,3]
 have a8:=v4.trans (show _=(a0,a1) by rw [a7l];simp only [a9,↓reduceIte]);refine KS Z Z Z Z (λ_ hΓ=>agv ttOk Z Z Z Z Z Z) ?_;refine zB λam=>?_;refine zT [] 16 (toU8 a0) () λa7=>?_;refine zP 6 27 (a1++[(toU8 a0)]).length a7 λaa af=>?_;refine zV [3,16] 17 ?_;refine yE 6 17 18 ?_;rw [show a37 b n_=(a1++[(toU8 a0)]) by simp only [a37,h1,a8,cC]]
 exact zX [19] (aa,af) (aby Q5 (λ_ _=>trivial))
theorem f274 (hn:n+2<=9){b:List UInt8}(N0:Rd w K0 M0 b){s:List UInt8}(N1:Rd w K1 M1 s)(a0:ok n b)(a1:ok n s):
 DP 274 #[vS K0 b M0,vS K1 s M1] w (pS w (n+2) (a7m b s)):=by
 have hb:=bS2 hn;refine EN Tryz.func274 Z (aS2 N0 N1) ?_;have r1:=a1.1;refine KF Z 2 Z O (λw Y=>f253 n Q0 (Y.q 0 Z) a0 (i6 s.length)) ?_;rintro ⟨p1,c1⟩ a3;have q1:=agr b s.length;refine R0 ?_;refine zN (kk:=1) 501 3 4 λa4 a5=>?_;have r2:=a0.1;have r3:=a3.1;refine zG 501 1 5 ((a37 b (s.length:Int))++s).length Z λa6 p2 c2=>?_;refine WX.know (λG hΓ=>(hΓ.get 5 Z).flat) λa2=>?_;refine WX.turn [4] 6 Z (λh hs=>acx hs a2) Z ?_
 refine yE 501 6 7 ?_;rw [show a7m b s=((a37 b (s.length:Int))++s) by simp only [a7m]];exact zX [8] (p2,c2) (aby Q5 (λ_ _=>trivial))
theorem f257 (hn:n+3<=9){b:List UInt8}(N0:Rd w K0 M0 b)(n_:aA)(N1:Rd w K1 M1 n_.parts)(a4:ok n b)(a1:ok n n_):
 DP 257 #[vS K0 b M0,adu n_ K1 M1] w (pS w (n+1) (a03 b n_)):=by
 have hb:=bS3 hn;refine EN Tryz.func257 Z (aS2 N0 N1) ?_;refine yB λp1=>?_;refine F0 2 UInt8 ?_;have r1:=a4.1;refine R0 ?_;refine zG 7 0 3 b.length Z λak p2 c1=>?_;refine WX.know (λG hΓ=>(hΓ.get 3 Z).flat) λab=>?_;refine WX.turn [2] 4 Z (λh hs=>acx hs ab) Z ?_;refine KV Z Z O (λw Y=>f189 n Q0 n_ (Y.q 1 Z) a1) λai=>?_;refine yKN 12 ?_ ?_<;>intro h1 ad;refine yE 7 4 5 ?_;rw [show a03 b n_=b by simp only [a03,h1,cC]]
 exact zX [6] (p2,c1) (aby Q0 (λ_ _=>trivial));refine yE 7 4 5 ?_;have r2:=(okl (adf a1)).1;refine CF 7 Z O (λw Y=>f253 n Q0 (Y.q 5 Z) (aby Q0 (λ_ _=>trivial):ok n b) (i6 (n_.parts.length:Int))) ?_;rintro ⟨p3,c2⟩ a8;have q1:=agr b n_.parts.length;have a7:=ap7 ad
 refine LM Z (p3,c2,((a37 b (n_.parts.length:Int)):List UInt8),0) (λ|(a2,a3,a0,i)=>((i<=n_.parts.length)/\JL (n+1) a0/\(a0.length<=b.length+6+14*i)/\(a6m n_.parts _=a6m (n_.parts.drop i) a0),n_.parts.length-i,[(5,.v (vS a2 a0 a3)),(6,.v (vI i))],[],[],[(8,MF.os a2 a3 a0)])) ⟨zl,a8,Q0,Z⟩ [3] [3] [0,1] [0,1,8] ?_;rintro ⟨a2,a3,a0,i⟩ ⟨v1,v2,v3,v4⟩;refine yKD 23 ?_ ?_<;>intro h2 ag
 obtain ⟨e1,a5,a9,aa⟩:=gO (adf a1) i;refine yI 1 i aa ?_;rintro ah rfl;refine zL 1 9 e1 a5 ?_;rintro ⟨⟩;have r3:e1.size<=bd n:=a9;refine WX.toB 9 ttOk Z Z Z Z Z Z Z Z Z Z Z Q0 λp4 c3=>?_;have r4:e1.data.toList.length=e1.size:=rfl;refine zW 10 8 ?_;refine CF 11 Z O (λw Y=>f274 (n+1) Q0 (Y.q 10 Z) (Y.q 9 Z) (acp v2) (aby Q0 (λ_ _=>trivial))) ?_;rintro ⟨p5,c4⟩ ac;have q2:=alc a0 (e1.data.toList);refine SA ?_;refine zU [12] 8 ?_
 exact ITr Z (p5,c4,(a7m a0 (e1.data.toList)),i+1) ⟨Q0,(aby Q0 (λ_ _=>trivial)),(by have z_:=a7.2 _ (List.mem_of_getElem? a5);have z2_:e1.data.toList.length=e1.size:=rfl;omega),(by rw [v4,abu a5];simp only [a6m])⟩ Q1 [0,1,8];have a6:=v4.trans (show _=a0 by rw [dn];simp only [a6m];omega);rw [show a03 b n_=a0 by simp only [a03,h1,a6,cC]]
 exact yX [8] (a2,a3) (acp v2)
end Go.Proofs.YthdfhghdipdknaaGreat
namespace Go.Stp
def a8s (n_:Int)(m:Int):Int:=bif (!(a07 m 1 1000000000000))then 0 else (Int.tmod (i64.wrap ((Int.tmod n_ m)+m)) m)
def a7n:List UInt8->(List Int)->(List Int)|[],l=>((l):List Int)|e1::rest_,l=>a7n rest_ (((l++[((e1).toNat:Int)])):List Int)
def a01 (b:(List UInt8)):(List Int):=match a7n b ([((b).length:Int)]:List Int)with|l=>l
theorem ako:∀(b:List UInt8) (l:List Int),(a7n b l).length=l.length+b.length
 |[],l=>by simp [a7n]
 |x::b,l=>by
  simp only [a7n];rw [ako b]
  grind
theorem adw (b:List UInt8):(a01 b).length=b.length+1:=by
 unfold a01;rw [ako]
 grind
def aar (x_:aJ):(List Int):=((((a01 (a03 ([]) x_.name))++(a01 x_.content))++(a01 (a03 ([]) x_.aR)))++[x_.bL])
def aas:List Int->Int->Int|[],d=>d|e1::rest_,d=>aas rest_ (Int.tmod (i64.wrap ((i64.wrap ((i64.wrap (d*1000003))+(a8s e1 2147483647)))+13)) 2147483647)
def a7o (l:(List Int)):Int:=match aas l 11 with|d=>d
def aat (bZ:Int)(l:(List Int)):Int:=(a7o (([bZ]++l)++[bZ]))
end Go.Stp
namespace Go.Proofs.YthdfhghdipdknaaGreat
open Go.Stp
open Go.Stp.GoT (ok)
variable {w : World} (n : Nat) {K0 K1 K2 : Option Addr} {M0 M1 M2 : Nat}
theorem f273 (hn:n+0<=9){n_:Int}{m:Int}(a1:ok n n_)(a0:ok n m):
 DP 273 #[vI n_,vI m] w (pI n (a8s n_ m)):=by
 refine EN Tryz.func273 Z ac8 ?_;refine KV Z Z O (λw Y=>f120 n Q0 a0 (i6 1) (i6 1000000000000)) λa5=>?_;refine yKN 7 ?_ ?_<;>intro h1 a3;rw [show a8s n_ m=0 by simp only [a8s,h1,cC]];exact R6r Z Z (i6 0);have a4:=ad8 (B.nf h1);refine KS Z Z Z Z (λ_ hΓ=>agt Z Z Z Q0) ?_;refine SW ?_;have r2:=ahr (i64.wrap ((Int.tmod n_ m)+m)) (show 0<m by omega);refine KS Z Z Z Z (λ_ hΓ=>agt Z Z Z Q0) ?_
 have a2:a8s n_ m=(Int.tmod (i64.wrap ((Int.tmod n_ m)+m)) m):=by simp only [a8s,h1,cC]
 refine R0 ?_;rw [a2];exact R6 Z (i6 (Int.tmod (i64.wrap ((Int.tmod n_ m)+m)) m))
theorem f256 (hn:n+1<=9){b:List UInt8}(N0:Rd w K0 M0 b)(a1:ok n b):
 DP 256 #[vS K0 b M0] w (pS w (n+1) (a01 b)):=by
 have hb:=bS1 hn;refine EN Tryz.func256 Z (aS1 N0) ?_;refine yB λp1=>?_;have r1:=a1.1;refine R0 ?_;refine zT [] 1 (b.length:Int) () λ_=>?_
 refine LK (p1,1,[.int .i64 (b.length:Int)],[(b.length:Int)],0) (λ|(pl,cl,a0,l,i)=>((i<=b.length)/\JE n l/\(l.length<=i+1)/\(a7n b [(b.length:Int)]=a7n (b.drop i) l),b.length-i,[(3,.v (vS pl l cl)),(4,.v (vI i))],[],[(7,⟨1,pl,l.length,cl,a0⟩)],[(1,MF.ol a0 l)])) ⟨zl,(all_cons (i6 b.length) nA),Q10,Z⟩ [0] [] [0] [0,1] ?_;rintro ⟨pl,cl,a0,l,i⟩ ⟨v1,v2,v3,v4⟩;refine yKD 11 ?_ ?_<;>intro h1 a7
 have a3:i<b.length:=Q0;obtain ⟨e1,a4⟩:=gE a3;refine yI 0 i a3 ?_;rintro a6 rfl;refine zL 0 2 e1 a4 ?_;rintro ⟨⟩;refine WX.see Z Z Z (λ_ hΓ=>ags ttOk Z Z Z Z Z Z) ?_;refine zB λp2=>?_;have r2:e1.toNat<256:=UInt8.toNat_lt _;refine zT [] 2 (e1.toNat:Int) () λa5=>?_;refine zP 7 20 (l++[(e1.toNat:Int)]).length a5 λp3 c1=>?_;refine zV [1,2] 3 ?_;refine SA ?_;refine zU [3] 1 ?_
 exact ITr Z (p3,c1,_,(l++[(e1.toNat:Int)]),i+1) ⟨Q0,(ac2 v2 (all_cons (i6 e1.toNat) nA)),Q3,(by rw [v4,abu a4];simp only [a7n])⟩ Q1 [0,1];have a2:=v4.trans (show _=l by rw [dn];simp only [a7n];omega);refine yE 7 1 14 ?_;rw [show a01 b=l by simp only [a01,a2]]
 exact zX [15] (pl,cl) (aby Q0 (λa ha=>GoT.okm Q0 (v2 a ha)))
theorem f219 (hn:n+5<=9)(x_:aJ)(N0:Rd w K0 M0 x_.name.parts)(N1:Rd w K1 M1 x_.content)(N2:Rd w K2 M2 x_.aR.parts)(a0:ok n x_):
 DP 219 #[afd x_ K0 M0 K1 M1 K2 M2] w (pS w (n+5) (aar x_)):=by
 have hb:=bS5 hn;refine EN Tryz.func219 Z (aS3 N0 N1 N2) ?_;refine R0 ?_;refine MK (λ|(ch,cg)=>((ok (n+3) ((a01 (a03 ([]) x_.name))++(a01 x_.content))),0,[(3,.v (.slice ch (((a01 (a03 ([]) x_.name))++(a01 x_.content)).length) cg)),(1,.p 1 0)],[],[],[(18,MF.os ch cg ((a01 (a03 ([]) x_.name))++(a01 x_.content)))])) [1] [0,1,2] ?_ ?_;refine WX.draw [2,3,4,6,7,8,9] mixed λbs G0 hx=>?_;refine dT 8 [3,11] ?_
 refine DX.toTX λS_=>?_;refine TK (λ|(en,ep)=>((ok (n+2) ((a01 (a03 ([]) x_.name)):List Int)),0,[(8,.v (.slice en (((a01 (a03 ([]) x_.name))).length) ep)),(9,.p 1 1),(1,.p 1 0)],[],[],[(33,MF.os en ep (a01 (a03 ([]) x_.name)))])) [1] [0,1,2] 4 #[true,true,true,true,true,true,false,false,false,false] ?_ (λig=>?_);rintro ⟨en,ep⟩ fq;refine TX.tail [6,7,8,9] Z Z J ?_;refine KF Z 35 Z O (λw Y=>f256 n Q0 (Y.q 1 Z) (a0.2.1)) ?_;rintro ⟨p9,c7⟩ fe
 have q6:=adw x_.content;refine zN (kk:=1) 502 33 37 λjr kt=>?_;refine zW 38 36 ?_;have r5:=(okl a0.2.1).1;have r6:=fq.1;have r7:=fe.1
 refine zG 502 38 39 ((a01 (a03 ([]) x_.name))++(a01 x_.content)).length Z λmu fw c8=>?_
 refine WX.know (λG hΓ=>(hΓ.get 39 Z).flat) λi7=>?_;refine WX.turn [37] 40 Z (λh hs=>acx hs i7) Z ?_;refine yE 502 40 41 ?_;refine zU [42] 18 ?_
 exact IT (fw,c8) (aby Q2 (λa ha=>GoT.okm (show (n+2)<=(n+3) by omega) ((ac2 (okl fq).2 (λa ha=>GoT.okm Q0 ((okl fe).2 a ha))) a ha))) Nat.zero_lt_one [0,1,2,18]
 refine TK (λ|(ey,eu)=>((ok (n+1) ((a03 ([]) x_.name):List UInt8)),0,[(10,.v (.slice K1 (x_.content.length) M1)),(7,.v (.slice ey (((a03 ([]) x_.name)).length) eu)),(1,.p 1 0)],[],[],[(34,MF.os ey eu (a03 ([]) x_.name))])) [1] [1,0,2] 4 #[true,true,true,true,false,true,true,false,false,false] ?_ (λed=>?_);rintro ⟨ey,eu⟩ fi;refine TX.tail [4,7,8,9] Z Z J ?_;refine zW 43 34 ?_;refine CF 44 Z O (λw Y=>f256 _ Q0 (Y.q 43 Z) fi) ?_;rintro ⟨lb,c9⟩ fg;have q7:=adw (a03 ([]) x_.name)
 refine CF 46 Z O (λw Y=>f256 n Q0 (Y.q 1 Z) (a0.2.1)) ?_;rintro ⟨k3,mn⟩ fo;have q8:=adw x_.content;refine zN (kk:=1) 503 45 48 λly kh=>?_;refine zW 49 47 ?_;have r8:=(okl a0.2.1).1;have r9:=fi.1;have ji:=fo.1
 refine zG 503 49 50 ((a01 (a03 ([]) x_.name))++(a01 x_.content)).length Z λkd gg gc=>?_
 refine WX.know (λG hΓ=>(hΓ.get 50 Z).flat) λhh=>?_;refine WX.turn [48] 51 Z (λh hs=>acx hs hh) Z ?_;refine yE 503 51 52 ?_;refine zU [53] 18 ?_
 exact IT (gg,gc) (aby Q2 (λa ha=>GoT.okm (show (n+2)<=(n+3) by omega) ((ac2 (okl fg).2 (λa ha=>GoT.okm Q0 ((okl fo).2 a ha))) a ha))) Nat.zero_lt_one [0,1,2,18]
 refine TK (λ|(e6,e7)=>((ok (n+1) ((a03 ([]) x_.name):List UInt8)),0,[(7,.v (.slice e6 (((a03 ([]) x_.name)).length) e7)),(9,.p 1 1),(1,.p 1 0)],[],[],[(28,MF.os e6 e7 (a03 ([]) x_.name))])) [1] [0,1,2] 5 #[true,true,true,true,false,true,false,false,false,false] ?_ (λh3=>?_);rintro ⟨e6,e7⟩ fl;refine TX.all2 4 6 J ?_ ?_;refine TS.op 4 Z J ?_;refine zW 54 28 ?_;refine CF 55 Z O (λw Y=>f256 _ Q0 (Y.q 54 Z) fl) ?_;rintro ⟨ib,i3⟩ h4
 refine zU [56] 33 ?_;refine R0 ?_;refine WX.back0 ?_;exact TU ig _ h4 [0,1,2,33];refine TS.op 6 Z J ?_;refine zU [28] 34 ?_;refine R0 ?_;refine WX.back0 ?_;exact TU ed (e6,e7) fl [1,0,2,34];refine TK (λ|(fc,ej)=>((ok n ([]:List UInt8)),0,[(10,.v (.slice K1 (x_.content.length) M1)),(6,.v (.agg #[.slice K0 (x_.name.parts.length) M0])),(4,.v (.slice fc (0) ej)),(1,.p 1 0)],[],[],[(29,MF.os fc ej ([]:List UInt8))])) [1] [1,0,2] 5 #[true,true,true,false,false,true,true,false,false,false] ?_ (λfv=>?_);rintro ⟨fc,ej⟩ fn
 refine TX.tail [3,4,7,8,9] Z Z J ?_;refine zW 57 29 ?_;refine CF 58 Z O (λw Y=>f257 n Q0 (Y.q 57 Z) x_.name (Y.q 0 Z) fn (a0.1)) ?_;rintro ⟨l9,lo⟩ cs;have je:=aey ([]) x_.name;refine CF 60 Z O (λw Y=>f256 _ Q0 (Y.q 58 Z) cs) ?_;rintro ⟨mv,ke⟩ dg;have iw:=adw (a03 ([]) x_.name);refine CF 62 Z O (λw Y=>f256 n Q0 (Y.q 1 Z) (a0.2.1)) ?_;rintro ⟨ki,iz⟩ dk;have my:=adw x_.content;refine zN (kk:=1) 504 61 64 λm0 jz=>?_;refine zW 65 63 ?_;have ix:=(okl a0.2.1).1
 have jt:=fn.1;have jx:=cs.1;have k4:=dk.1
 refine zG 504 65 66 ((a01 (a03 ([]) x_.name))++(a01 x_.content)).length Z λlg ik fu=>?_
 refine WX.know (λG hΓ=>(hΓ.get 66 Z).flat) λhd=>?_;refine WX.turn [64] 67 Z (λh hs=>acx hs hd) Z ?_;refine yE 504 67 68 ?_;refine zU [69] 18 ?_
 exact IT (ik,fu) (aby Q2 (λa ha=>GoT.okm (show (n+2)<=(n+3) by omega) ((ac2 (okl dg).2 (λa ha=>GoT.okm Q0 ((okl dk).2 a ha))) a ha))) Nat.zero_lt_one [0,1,2,18]
 refine TK (λ|(e5,e4)=>((ok n ([]:List UInt8)),0,[(6,.v (.agg #[.slice K0 (x_.name.parts.length) M0])),(4,.v (.slice e5 (0) e4)),(9,.p 1 1),(1,.p 1 0)],[],[],[(23,MF.os e5 e4 ([]:List UInt8))])) [1] [0,1,2] 6 #[true,true,true,false,false,true,false,false,false,false] ?_ (λfj=>?_);rintro ⟨e5,e4⟩ ff;refine TX.all2 3 6 J ?_ ?_;refine TS.op 3 Z J ?_;refine zW 70 23 ?_;refine CF 71 Z O (λw Y=>f257 n Q0 (Y.q 70 Z) x_.name (Y.q 0 Z) ff (a0.1)) ?_;rintro ⟨io,fr⟩ em;refine zU [72] 28 ?_;refine R0 ?_
 refine WX.back0 ?_;exact TU h3 _ em [0,1,2,28];refine TS.op 6 Z J ?_;refine zU [23] 29 ?_;refine R0 ?_;refine WX.back0 ?_;exact TU fv (e5,e4) ff [1,0,2,29];refine TK (λ|(fd,f3)=>((ok n ([]:List UInt8)),0,[(10,.v (.slice K1 (x_.content.length) M1)),(4,.v (.slice fd (0) f3)),(5,.p 1 0),(1,.p 1 0)],[],[],[(24,MF.os fd f3 ([]:List UInt8))])) [1] [1,0,2] 6 #[true,true,false,false,false,true,true,false,false,false] ?_ (λfp=>?_);rintro ⟨fd,f3⟩ fk;refine TX.tail [2,3,4,7,8,9] Z Z J ?_;refine zW 73 24 ?_
 refine KF Z 74 Z O (λw Y=>f257 n Q0 (Y.q 73 Z) x_.name (Y.q 0 Z) fk (a0.1)) ?_;rintro ⟨jy,kg⟩ cy;have m2:=aey ([]) x_.name;refine CF 76 Z O (λw Y=>f256 _ Q0 (Y.q 74 Z) cy) ?_;rintro ⟨jb,lj⟩ ds;have mm:=adw (a03 ([]) x_.name);refine CF 78 Z O (λw Y=>f256 n Q0 (Y.q 1 Z) (a0.2.1)) ?_;rintro ⟨k6,lv⟩ dc;have l1:=adw x_.content;refine zN (kk:=1) 505 77 80 λiu j9=>?_;refine zW 81 79 ?_;have j1:=(okl a0.2.1).1;have mb:=fk.1;have ky:=cy.1
 have kn:=dc.1
 refine zG 505 81 82 ((a01 (a03 ([]) x_.name))++(a01 x_.content)).length Z λmo i2 h5=>?_
 refine WX.know (λG hΓ=>(hΓ.get 82 Z).flat) λgm=>?_;refine WX.turn [80] 83 Z (λh hs=>acx hs gm) Z ?_;refine yE 505 83 84 ?_;refine zU [85] 18 ?_
 exact IT (i2,h5) (aby Q2 (λa ha=>GoT.okm (show (n+2)<=(n+3) by omega) ((ac2 (okl ds).2 (λa ha=>GoT.okm Q0 ((okl dc).2 a ha))) a ha))) Nat.zero_lt_one [0,1,2,18]
 refine TK (λ(_:Unit)=>(True,0,[(10,.v (.slice K1 (x_.content.length) M1)),(6,.v (.agg #[.slice K0 (x_.name.parts.length) M0])),(1,.p 1 0)],[],[],[])) [1] [1,0,2] 6 #[false,true,true,false,false,true,true,false,false,false] ?_ (λfm=>?_);rintro - -;refine TX.tail [0,3,4,7,8,9] Z Z J ?_;refine zB λlu=>?_;refine F0 86 UInt8 ?_;refine zE 4 86 87 ?_;refine CF 89 Z O (λw Y=>f257 n Q0 (Y.q 87 Z) x_.name (Y.q 0 Z) (aby zl (λ_ _=>trivial)) (a0.1)) ?_;rintro ⟨l8,ka⟩ dd
 refine CF 91 Z O (λw Y=>f256 _ Q0 (Y.q 89 Z) dd) ?_;rintro ⟨jd,li⟩ d6;have kf:=adw (a03 ([]) x_.name);refine CF 93 Z O (λw Y=>f256 n Q0 (Y.q 1 Z) (a0.2.1)) ?_;rintro ⟨ja,kv⟩ cr;have mi:=adw x_.content;refine zN (kk:=1) 506 92 95 λks j2=>?_;refine zW 96 94 ?_;have lf:=(okl a0.2.1).1;have jw:=dd.1;have mg:=cr.1
 refine zG 506 96 97 ((a01 (a03 ([]) x_.name))++(a01 x_.content)).length Z λjp hi id=>?_
 refine WX.know (λG hΓ=>(hΓ.get 97 Z).flat) λg6=>?_;refine WX.turn [95] 98 Z (λh hs=>acx hs g6) Z ?_;refine yE 506 98 99 ?_;refine zU [100] 18 ?_
 exact IT (hi,id) (aby Q2 (λa ha=>GoT.okm (show (n+2)<=(n+3) by omega) ((ac2 (okl d6).2 (λa ha=>GoT.okm Q0 ((okl cr).2 a ha))) a ha))) Nat.zero_lt_one [0,1,2,18]
 refine TK (λ|(cm,dz)=>((ok n ([]:List UInt8)),0,[(4,.v (.slice cm (0) dz)),(9,.p 1 1),(5,.p 1 0),(1,.p 1 0)],[],[],[(22,MF.os cm dz ([]:List UInt8))])) [1] [0,1,2] 7 #[true,true,false,false,false,true,false,false,false,false] ?_ (λhe=>?_);rintro ⟨cm,dz⟩ fh;refine TX.all2 2 6 J ?_ ?_;refine TS.op 2 Z J ?_;refine zU [22] 23 ?_;refine R0 ?_;refine WX.back0 ?_;exact TU fj (cm,dz) fh [0,1,2,23];refine TS.op 6 Z J ?_;refine zU [22] 24 ?_;refine R0 ?_;refine WX.back0 ?_;exact TU fp (cm,dz) fh [1,0,2,24]
 refine TK (λ(_:Unit)=>(True,0,[(6,.v (.agg #[.slice K0 (x_.name.parts.length) M0])),(9,.p 1 1),(1,.p 1 0)],[],[],[])) [1] [0,1,2] 7 #[false,true,true,false,false,true,false,false,false,false] ?_ (λia=>?_);rintro - -;refine TX.all2 0 6 J ?_ ?_;refine TS.op 0 Z J ?_;refine zB λg4=>?_;refine F0 101 UInt8 ?_;refine yE 4 101 102 ?_;refine zU [103] 23 ?_;refine WX.back0 ?_;exact TU fj (g4,0) (aby zl (λ_ _=>trivial)) [0,1,2,23];refine TS.op 6 Z J ?_;refine R0 ?_;refine WX.back0 ?_;exact TU fm () trivial [1,0,2]
 refine TK (λ(_:Unit)=>(True,0,[(10,.v (.slice K1 (x_.content.length) M1)),(5,.p 1 0),(1,.p 1 0)],[],[],[])) [1] [1,0,2] 7 #[false,true,false,false,false,true,true,false,false,false] ?_ (λgq=>?_);rintro - -;refine TX.all2 0 2 J ?_ ?_;refine TS.op 0 Z J ?_;refine zB λhl=>?_;refine F0 104 UInt8 ?_;refine yE 4 104 105 ?_;refine zU [106] 24 ?_;refine WX.back0 ?_;exact TU fp (hl,0) (aby zl (λ_ _=>trivial)) [1,0,2,24];refine TS.op 2 Z J ?_;refine R0 ?_;refine WX.back0 ?_;exact TU fm () trivial [1,0,2]
 refine TX.all3 0 2 6 J ?_ ?_ ?_;refine TS.op 0 Z J ?_;refine zB λgk=>?_;refine F0 107 UInt8 ?_;refine yE 4 107 108 ?_;refine zU [109] 22 ?_;refine WX.back0 ?_;exact TU he (gk,0) (aby zl (λ_ _=>trivial)) [0,1,2,22];refine TS.op 2 Z J ?_;refine R0 ?_;refine WX.back0 ?_;exact TU ia () trivial [0,1,2];refine TS.op 6 Z J ?_;refine R0 ?_;refine WX.back0 ?_;exact TU gq () trivial [1,0,2];rintro ⟨ch,cg⟩ a3;refine R0 ?_
 refine MK (λ|(e3,e2)=>((ok (n+5) ((((a01 (a03 ([]) x_.name))++(a01 x_.content))++(a01 (a03 ([]) x_.aR)))++[x_.bL])),0,[(2,.v (.slice e3 (((((a01 (a03 ([]) x_.name))++(a01 x_.content))++(a01 (a03 ([]) x_.aR)))++[x_.bL]).length) e2))],[],[],[(126,MF.os e3 e2 ((((a01 (a03 ([]) x_.name))++(a01 x_.content))++(a01 (a03 ([]) x_.aR)))++[x_.bL]))])) [] [0,1,2] ?_ ?_
 refine zW 127 18 ?_;refine WX.draw [3,4,5,6,8,10,11] mixed λbs G0 hx=>?_;refine dT 9 [1,5,15] ?_;refine DX.toTX λS_=>?_
 refine TK (λ|(bn,bq)=>((ok (n+4) ((((a01 (a03 ([]) x_.name))++(a01 x_.content))++(a01 (a03 ([]) x_.aR))):List Int)),0,[(19,.v (.slice bn (((((a01 (a03 ([]) x_.name))++(a01 x_.content))++(a01 (a03 ([]) x_.aR)))).length) bq)),(21,.v (.int .i64 (x_.bL)))],[],[],[(197,MF.os bn bq (((a01 (a03 ([]) x_.name))++(a01 x_.content))++(a01 (a03 ([]) x_.aR))))])) [] [0,1,2] 3 #[true,true,true,true,true,true,true,true,true,false,false,false] ?_ (λeo=>?_)
 rintro ⟨bn,bq⟩ dl;refine TX.tail [9,10,11] Z Z J ?_;refine zB λjs=>?_;refine zN (kk:=1) 510 197 204 λh1 hg=>?_;refine zT [] 205 x_.bL () λ_=>?_;have ju:=dl.1;refine WX.know (λG hΓ=>(hΓ.get 205 Z).rd.one) λh8=>?_
 refine zP 510 22 ((((a01 (a03 ([]) x_.name))++(a01 x_.content))++(a01 (a03 ([]) x_.aR)))++[x_.bL]).length h8 (hroom:=Q2) (hmax:=Q2) λim gh=>?_
 refine zV [204,205] 206 ?_;refine yE 510 206 207 ?_;refine zU [208] 126 ?_
 exact IT (im,gh) (aby Q2 (λa ha=>GoT.okm (show (n+4)<=(n+5) by omega) ((ac2 (okl dl).2 (λa ha=>GoT.okm Q0 ((all_cons (α:=Int) (ac0 a0).2.2.2.1 nA) a ha))) a ha))) Nat.zero_lt_one [0,1,2,126]
 refine TK (λ|(bw,bj,bk,bh,bv,bm)=>((ok n ([x_.bL]:List Int))/\(ok (n+2) ((a01 (a03 ([]) x_.aR)):List Int))/\(ok (n+3) (((a01 (a03 ([]) x_.name))++(a01 x_.content)):List Int)),0,[(22,.v (.slice bw (([x_.bL]).length) bj)),(18,.v (.slice bk (((a01 (a03 ([]) x_.aR))).length) bh)),(13,.v (.slice bv ((((a01 (a03 ([]) x_.name))++(a01 x_.content))).length) bm))],[],[],[(201,MF.os bw bj ([x_.bL])),(202,MF.os bk bh (a01 (a03 ([]) x_.aR))),(203,MF.os bv bm ((a01 (a03 ([]) x_.name))++(a01 x_.content)))])) [] [0,1,2] 3 #[true,true,true,true,true,true,false,true,true,true,false,false] ?_ (λeq=>?_)
 rintro ⟨bw,bj,bk,bh,bv,bm⟩ ⟨cv,d4,f9⟩;refine TX.tail [6,10,11] Z Z J ?_;refine zN (kk:=1) 511 203 209 λgl hy=>?_;refine zW 210 202 ?_;have l6:=a3.1;have k7:=d4.1
 refine zG 511 210 211 (((a01 (a03 ([]) x_.name))++(a01 x_.content))++(a01 (a03 ([]) x_.aR))).length Z (hroom:=Q2) (hmax:=Q2) λg9 kl ml=>?_
 refine WX.know (λG hΓ=>(hΓ.get 211 Z).flat) λf2=>?_;refine WX.turn [209] 212 Z (λh hs=>acx hs f2) Z ?_;refine zW 213 201 ?_
 refine zG 511 213 214 ((((a01 (a03 ([]) x_.name))++(a01 x_.content))++(a01 (a03 ([]) x_.aR)))++[x_.bL]).length Z (hroom:=Q2) (hmax:=Q2) λho hr hk=>?_
 refine WX.know (λG hΓ=>(hΓ.get 214 Z).flat) λf6=>?_;refine WX.turn [212] 215 Z (λh hs=>acx hs f6) Z ?_;refine yE 511 215 216 ?_;refine zU [217] 126 ?_
 exact IT (hr,hk) (aby Q2 (λa ha=>GoT.okm (show (n+4)<=(n+5) by omega) ((ac2 (λa ha=>GoT.okm (show (n+3)<=(n+4) by omega) ((ac2 (okl f9).2 (λa ha=>GoT.okm Q0 ((okl d4).2 a ha))) a ha)) (λa ha=>GoT.okm Q0 ((okl cv).2 a ha))) a ha))) Nat.zero_lt_one [0,1,2,126]
 refine TK (λ|(bc,cf)=>((ok (n+4) ((((a01 (a03 ([]) x_.name))++(a01 x_.content))++(a01 (a03 ([]) x_.aR))):List Int)),0,[(19,.v (.slice bc (((((a01 (a03 ([]) x_.name))++(a01 x_.content))++(a01 (a03 ([]) x_.aR)))).length) cf)),(20,.p 1 3)],[],[],[(182,MF.os bc cf (((a01 (a03 ([]) x_.name))++(a01 x_.content))++(a01 (a03 ([]) x_.aR))))])) [1] [0,1,2] 4 #[true,true,true,true,true,true,true,true,false,false,false,false] ?_ (λew=>?_)
 rintro ⟨bc,cf⟩ dx;refine TX.tail [8,9,10,11] Z Z J ?_;refine yB λkx=>?_;refine zN (kk:=1) 512 182 218 λii ht=>?_;refine zT [] 219 x_.bL () λ_=>?_;have mf:=dx.1;refine WX.know (λG hΓ=>(hΓ.get 219 Z).rd.one) λgs=>?_
 refine zP 512 22 ((((a01 (a03 ([]) x_.name))++(a01 x_.content))++(a01 (a03 ([]) x_.aR)))++[x_.bL]).length gs (hroom:=Q2) (hmax:=Q2) λij gy=>?_
 refine zV [218,219] 220 ?_;refine yE 512 220 221 ?_;refine zU [222] 126 ?_
 exact IT (ij,gy) (aby Q2 (λa ha=>GoT.okm (show (n+4)<=(n+5) by omega) ((ac2 (okl dx).2 (λa ha=>GoT.okm Q0 ((all_cons (α:=Int) (ac0 a0).2.2.2.1 nA) a ha))) a ha))) Nat.zero_lt_one [0,1,2,126]
 refine TK (λ|(b2,av,aw,ay)=>((ok (n+2) ((a01 (a03 ([]) x_.aR)):List Int))/\(ok (n+3) (((a01 (a03 ([]) x_.name))++(a01 x_.content)):List Int)),0,[(21,.v (.int .i64 (x_.bL))),(18,.v (.slice b2 (((a01 (a03 ([]) x_.aR))).length) av)),(13,.v (.slice aw ((((a01 (a03 ([]) x_.name))++(a01 x_.content))).length) ay))],[],[],[(183,MF.os b2 av (a01 (a03 ([]) x_.aR))),(184,MF.os aw ay ((a01 (a03 ([]) x_.name))++(a01 x_.content)))])) [] [0,1,2] 4 #[true,true,true,true,true,true,false,true,true,false,false,false] ?_ (λdt=>?_)
 rintro ⟨b2,av,aw,ay⟩ ⟨bu,d8⟩;refine TX.all2 6 9 J ?_ ?_;refine TS.op 6 Z J ?_;refine zN (kk:=1) 513 184 223 λgd i4=>?_;refine zW 224 183 ?_;have jv:=a3.1;have m9:=bu.1
 refine zG 513 224 225 (((a01 (a03 ([]) x_.name))++(a01 x_.content))++(a01 (a03 ([]) x_.aR))).length Z (hroom:=Q2) (hmax:=Q2) λg1 ge h0=>?_
 refine WX.know (λG hΓ=>(hΓ.get 225 Z).flat) λe9=>?_;refine WX.turn [223] 226 Z (λh hs=>acx hs e9) Z ?_;refine yE 513 226 227 ?_;refine zU [228] 197 ?_;refine WX.back0 ?_
 exact TU eo (ge,h0) (aby Q2 (λa ha=>GoT.okm (show (n+3)<=(n+4) by omega) ((ac2 (okl d8).2 (λa ha=>GoT.okm Q0 ((okl bu).2 a ha))) a ha))) [0,1,2,197];refine TS.op 9 Z J ?_;refine zB λhz=>?_
 refine R0 ?_;refine zT [] 229 x_.bL () λ_=>?_;refine zE 22 229 230 ?_;refine zU [231] 201 ?_;refine zU [183] 202 ?_;refine zU [184] 203 ?_;refine WX.back0 ?_;exact TU eq (hz,1,b2,av,aw,ay) ⟨(aby Q7 (all_cons (α:=Int) (ac0 a0).2.2.2.1 nA)),bu,d8⟩ [0,1,2,201,202,203]
 refine TK (λ|(bx,bo,bl,ba,bg,bb)=>((ok n ([x_.bL]:List Int))/\(ok (n+1) ((a03 ([]) x_.aR):List UInt8))/\(ok (n+3) (((a01 (a03 ([]) x_.name))++(a01 x_.content)):List Int)),0,[(22,.v (.slice bx (([x_.bL]).length) bo)),(17,.v (.slice bl (((a03 ([]) x_.aR)).length) ba)),(13,.v (.slice bg ((((a01 (a03 ([]) x_.name))++(a01 x_.content))).length) bb))],[],[],[(188,MF.os bx bo ([x_.bL])),(189,MF.os bl ba (a03 ([]) x_.aR)),(190,MF.os bg bb ((a01 (a03 ([]) x_.name))++(a01 x_.content)))])) [] [0,1,2] 4 #[true,true,true,true,true,false,false,true,true,true,false,false] ?_ (λer=>?_)
 rintro ⟨bx,bo,bl,ba,bg,bb⟩ ⟨d3,dh,ee⟩;refine TX.tail [5,6,10,11] Z Z J ?_;refine zW 232 189 ?_;refine CF 233 Z O (λw Y=>f256 _ Q0 (Y.q 232 Z) dh) ?_;rintro ⟨ld,jf⟩ dr;have k5:=adw (a03 ([]) x_.aR);refine zN (kk:=1) 514 190 235 λgx gr=>?_;refine zW 236 234 ?_;have lw:=a3.1;have mq:=dh.1
 refine zG 514 236 237 (((a01 (a03 ([]) x_.name))++(a01 x_.content))++(a01 (a03 ([]) x_.aR))).length Z (hroom:=Q2) (hmax:=Q2) λi5 jm mc=>?_
 refine WX.know (λG hΓ=>(hΓ.get 237 Z).flat) λe8=>?_;refine WX.turn [235] 238 Z (λh hs=>acx hs e8) Z ?_;refine zW 239 188 ?_
 refine zG 514 239 240 ((((a01 (a03 ([]) x_.name))++(a01 x_.content))++(a01 (a03 ([]) x_.aR)))++[x_.bL]).length Z (hroom:=Q2) (hmax:=Q2) λhq gw gz=>?_
 refine WX.know (λG hΓ=>(hΓ.get 240 Z).flat) λf7=>?_;refine WX.turn [238] 241 Z (λh hs=>acx hs f7) Z ?_;refine yE 514 241 242 ?_;refine zU [243] 126 ?_
 exact IT (gw,gz) (aby Q2 (λa ha=>GoT.okm (show (n+4)<=(n+5) by omega) ((ac2 (λa ha=>GoT.okm (show (n+3)<=(n+4) by omega) ((ac2 (okl ee).2 (λa ha=>GoT.okm Q0 ((okl dr).2 a ha))) a ha)) (λa ha=>GoT.okm Q0 ((okl d3).2 a ha))) a ha))) Nat.zero_lt_one [0,1,2,126]
 refine TK (λ|(au,b5,b8,b6)=>((ok (n+2) ((a01 (a03 ([]) x_.aR)):List Int))/\(ok (n+3) (((a01 (a03 ([]) x_.name))++(a01 x_.content)):List Int)),0,[(18,.v (.slice au (((a01 (a03 ([]) x_.aR))).length) b5)),(20,.p 1 3),(13,.v (.slice b8 ((((a01 (a03 ([]) x_.name))++(a01 x_.content))).length) b6))],[],[],[(166,MF.os au b5 (a01 (a03 ([]) x_.aR))),(167,MF.os b8 b6 ((a01 (a03 ([]) x_.name))++(a01 x_.content)))])) [1] [0,1,2] 5 #[true,true,true,true,true,true,false,true,false,false,false,false] ?_ (λef=>?_)
 rintro ⟨au,b5,b8,b6⟩ ⟨c1,dy⟩;refine TX.all2 6 8 J ?_ ?_;refine TS.op 6 Z J ?_;refine zN (kk:=1) 515 167 244 λh7 i6=>?_;refine zW 245 166 ?_;have k9:=a3.1;have mp:=c1.1
 refine zG 515 245 246 (((a01 (a03 ([]) x_.name))++(a01 x_.content))++(a01 (a03 ([]) x_.aR))).length Z (hroom:=Q2) (hmax:=Q2) λhw ip ga=>?_
 refine WX.know (λG hΓ=>(hΓ.get 246 Z).flat) λfb=>?_;refine WX.turn [244] 247 Z (λh hs=>acx hs fb) Z ?_;refine yE 515 247 248 ?_;refine zU [249] 182 ?_;refine WX.back0 ?_
 exact TU ew (ip,ga) (aby Q2 (λa ha=>GoT.okm (show (n+3)<=(n+4) by omega) ((ac2 (okl dy).2 (λa ha=>GoT.okm Q0 ((okl c1).2 a ha))) a ha))) [0,1,2,182];refine TS.op 8 Z J ?_;refine zU [166] 183 ?_
 refine zU [167] 184 ?_;refine R0 ?_;refine WX.back0 ?_;exact TU dt (au,b5,b8,b6) ⟨c1,dy⟩ [0,1,2,183,184]
 refine TK (λ|(b1,ax,a7,ai)=>((ok (n+1) ((a03 ([]) x_.aR):List UInt8))/\(ok (n+3) (((a01 (a03 ([]) x_.name))++(a01 x_.content)):List Int)),0,[(21,.v (.int .i64 (x_.bL))),(17,.v (.slice b1 (((a03 ([]) x_.aR)).length) ax)),(13,.v (.slice a7 ((((a01 (a03 ([]) x_.name))++(a01 x_.content))).length) ai))],[],[],[(168,MF.os b1 ax (a03 ([]) x_.aR)),(169,MF.os a7 ai ((a01 (a03 ([]) x_.name))++(a01 x_.content)))])) [] [0,1,2] 5 #[true,true,true,true,true,false,false,true,true,false,false,false] ?_ (λdn=>?_)
 rintro ⟨b1,ax,a7,ai⟩ ⟨d5,ci⟩;refine TX.all2 5 9 J ?_ ?_;refine TS.op 5 Z J ?_;refine zW 250 168 ?_;refine CF 251 Z O (λw Y=>f256 _ Q0 (Y.q 250 Z) d5) ?_;rintro ⟨go,hj⟩ ec;refine zU [252] 183 ?_;refine zU [169] 184 ?_;refine R0 ?_;refine WX.back0 ?_;exact TU dt (go,hj,a7,ai) ⟨ec,ci⟩ [0,1,2,183,184];refine TS.op 9 Z J ?_;refine zB λhc=>?_;refine R0 ?_;refine zT [] 253 x_.bL () λ_=>?_;refine zE 22 253 254 ?_;refine zU [255] 188 ?_;refine zU [168] 189 ?_;refine zU [169] 190 ?_
 refine WX.back0 ?_;exact TU er (hc,1,b1,ax,a7,ai) ⟨(aby Q7 (all_cons (α:=Int) (ac0 a0).2.2.2.1 nA)),d5,ci⟩ [0,1,2,188,189,190]
 refine TK (λ|(c5,c0,c3,bp,bt,c2)=>((ok n ([x_.bL]:List Int))/\(ok n ([]:List UInt8))/\(ok (n+3) (((a01 (a03 ([]) x_.name))++(a01 x_.content)):List Int)),0,[(22,.v (.slice c5 (([x_.bL]).length) c0)),(16,.v (.agg #[.slice K2 (x_.aR.parts.length) M2])),(14,.v (.slice c3 (0) bp)),(13,.v (.slice bt ((((a01 (a03 ([]) x_.name))++(a01 x_.content))).length) c2))],[],[],[(173,MF.os c5 c0 ([x_.bL])),(174,MF.os c3 bp ([]:List UInt8)),(175,MF.os bt c2 ((a01 (a03 ([]) x_.name))++(a01 x_.content)))])) [] [2,0,1] 5 #[true,true,true,true,false,false,false,true,true,true,false,false] ?_ (λez=>?_)
 rintro ⟨c5,c0,c3,bp,bt,c2⟩ ⟨cx,d2,ea⟩;refine TX.tail [4,5,6,10,11] Z Z J ?_;refine zW 256 174 ?_;refine CF 257 Z O (λw Y=>f257 n Q0 (Y.q 256 Z) x_.aR (Y.q 2 Z) d2 (a0.2.2.1)) ?_;rintro ⟨lk,ko⟩ cp;have j4:=aey ([]) x_.aR;refine CF 259 Z O (λw Y=>f256 _ Q0 (Y.q 257 Z) cp) ?_;rintro ⟨jj,jc⟩ dw;have l0:=adw (a03 ([]) x_.aR);refine zN (kk:=1) 516 175 261 λfz i1=>?_;refine zW 262 260 ?_;have lx:=a3.1;have k1:=d2.1
 refine zG 516 262 263 (((a01 (a03 ([]) x_.name))++(a01 x_.content))++(a01 (a03 ([]) x_.aR))).length Z (hroom:=Q2) (hmax:=Q2) λgp lp lz=>?_
 refine WX.know (λG hΓ=>(hΓ.get 263 Z).flat) λex=>?_;refine WX.turn [261] 264 Z (λh hs=>acx hs ex) Z ?_;refine zW 265 173 ?_
 refine zG 516 265 266 ((((a01 (a03 ([]) x_.name))++(a01 x_.content))++(a01 (a03 ([]) x_.aR)))++[x_.bL]).length Z (hroom:=Q2) (hmax:=Q2) λgi ih i9=>?_
 refine WX.know (λG hΓ=>(hΓ.get 266 Z).flat) λf8=>?_;refine WX.turn [264] 267 Z (λh hs=>acx hs f8) Z ?_;refine yE 516 267 268 ?_;refine zU [269] 126 ?_
 exact IT (ih,i9) (aby Q2 (λa ha=>GoT.okm (show (n+4)<=(n+5) by omega) ((ac2 (λa ha=>GoT.okm (show (n+3)<=(n+4) by omega) ((ac2 (okl ea).2 (λa ha=>GoT.okm Q0 ((okl dw).2 a ha))) a ha)) (λa ha=>GoT.okm Q0 ((okl cx).2 a ha))) a ha))) Nat.zero_lt_one [0,1,2,126]
 refine TK (λ|(b3,b0,ad,ak)=>((ok (n+1) ((a03 ([]) x_.aR):List UInt8))/\(ok (n+3) (((a01 (a03 ([]) x_.name))++(a01 x_.content)):List Int)),0,[(17,.v (.slice b3 (((a03 ([]) x_.aR)).length) b0)),(20,.p 1 3),(13,.v (.slice ad ((((a01 (a03 ([]) x_.name))++(a01 x_.content))).length) ak))],[],[],[(148,MF.os b3 b0 (a03 ([]) x_.aR)),(149,MF.os ad ak ((a01 (a03 ([]) x_.name))++(a01 x_.content)))])) [1] [0,1,2] 6 #[true,true,true,true,true,false,false,true,false,false,false,false] ?_ (λf1=>?_)
 rintro ⟨b3,b0,ad,ak⟩ ⟨df,da⟩;refine TX.all2 5 8 J ?_ ?_;refine TS.op 5 Z J ?_;refine zW 270 148 ?_;refine CF 271 Z O (λw Y=>f256 _ Q0 (Y.q 270 Z) df) ?_;rintro ⟨fx,h2⟩ ek;refine zU [272] 166 ?_;refine zU [149] 167 ?_;refine R0 ?_;refine WX.back0 ?_;exact TU ef (fx,h2,ad,ak) ⟨ek,da⟩ [0,1,2,166,167];refine TS.op 8 Z J ?_;refine zU [148] 168 ?_;refine zU [149] 169 ?_;refine R0 ?_;refine WX.back0 ?_;exact TU dn (b3,b0,ad,ak) ⟨df,da⟩ [0,1,2,168,169]
 refine TK (λ|(az,b9,af,ao)=>((ok n ([]:List UInt8))/\(ok (n+3) (((a01 (a03 ([]) x_.name))++(a01 x_.content)):List Int)),0,[(21,.v (.int .i64 (x_.bL))),(16,.v (.agg #[.slice K2 (x_.aR.parts.length) M2])),(14,.v (.slice az (0) b9)),(13,.v (.slice af ((((a01 (a03 ([]) x_.name))++(a01 x_.content))).length) ao))],[],[],[(150,MF.os az b9 ([]:List UInt8)),(151,MF.os af ao ((a01 (a03 ([]) x_.name))++(a01 x_.content)))])) [] [2,0,1] 6 #[true,true,true,true,false,false,false,true,true,false,false,false] ?_ (λbz=>?_)
 rintro ⟨az,b9,af,ao⟩ ⟨cl,d7⟩;refine TX.all2 4 9 J ?_ ?_;refine TS.op 4 Z J ?_;refine zW 273 150 ?_;refine CF 274 Z O (λw Y=>f257 n Q0 (Y.q 273 Z) x_.aR (Y.q 2 Z) cl (a0.2.2.1)) ?_;rintro ⟨fy,gv⟩ es;refine zU [275] 168 ?_;refine zU [151] 169 ?_;refine R0 ?_;refine WX.back0 ?_;exact TU dn (fy,gv,af,ao) ⟨es,d7⟩ [0,1,2,168,169];refine TS.op 9 Z J ?_;refine zB λi0=>?_;refine R0 ?_;refine zT [] 276 x_.bL () λ_=>?_;refine zE 22 276 277 ?_;refine zU [278] 173 ?_;refine zU [150] 174 ?_
 refine zU [151] 175 ?_;refine WX.back0 ?_;exact TU ez (i0,1,az,b9,af,ao) ⟨(aby Q7 (all_cons (α:=Int) (ac0 a0).2.2.2.1 nA)),cl,d7⟩ [2,0,1,173,174,175]
 refine TK (λ|(br,cb,ca,cd,cc,c6)=>((ok n ([x_.bL]:List Int))/\(ok n ([]:List UInt8))/\(ok (n+3) (((a01 (a03 ([]) x_.name))++(a01 x_.content)):List Int)),0,[(22,.v (.slice br (([x_.bL]).length) cb)),(14,.v (.slice ca (0) cd)),(15,.p 1 2),(13,.v (.slice cc ((((a01 (a03 ([]) x_.name))++(a01 x_.content))).length) c6))],[],[],[(155,MF.os br cb ([x_.bL])),(156,MF.os ca cd ([]:List UInt8)),(157,MF.os cc c6 ((a01 (a03 ([]) x_.name))++(a01 x_.content)))])) [1] [0,1,2] 6 #[true,true,true,false,false,false,false,true,true,true,false,false] ?_ (λdb=>?_)
 rintro ⟨br,cb,ca,cd,cc,c6⟩ ⟨d9,cq,f5⟩;refine TX.tail [3,4,5,6,10,11] Z Z J ?_;refine zW 279 156 ?_;refine KF Z 280 Z O (λw Y=>f257 n Q0 (Y.q 279 Z) x_.aR (Y.q 2 Z) cq (a0.2.2.1)) ?_;rintro ⟨k0,it⟩ cz;have mk:=aey ([]) x_.aR;refine CF 282 Z O (λw Y=>f256 _ Q0 (Y.q 280 Z) cz) ?_;rintro ⟨mh,m4⟩ co;have la:=adw (a03 ([]) x_.aR);refine zN (kk:=1) 517 157 284 λgb g0=>?_;refine zW 285 283 ?_;have j6:=a3.1;have jo:=cq.1
 refine zG 517 285 286 (((a01 (a03 ([]) x_.name))++(a01 x_.content))++(a01 (a03 ([]) x_.aR))).length Z (hroom:=Q2) (hmax:=Q2) λgt m7 le=>?_
 refine WX.know (λG hΓ=>(hΓ.get 286 Z).flat) λf4=>?_;refine WX.turn [284] 287 Z (λh hs=>acx hs f4) Z ?_;refine zW 288 155 ?_
 refine zG 517 288 289 ((((a01 (a03 ([]) x_.name))++(a01 x_.content))++(a01 (a03 ([]) x_.aR)))++[x_.bL]).length Z (hroom:=Q2) (hmax:=Q2) λfs hu g8=>?_
 refine WX.know (λG hΓ=>(hΓ.get 289 Z).flat) λei=>?_;refine WX.turn [287] 290 Z (λh hs=>acx hs ei) Z ?_;refine yE 517 290 291 ?_;refine zU [292] 126 ?_
 exact IT (hu,g8) (aby Q2 (λa ha=>GoT.okm (show (n+4)<=(n+5) by omega) ((ac2 (λa ha=>GoT.okm (show (n+3)<=(n+4) by omega) ((ac2 (okl f5).2 (λa ha=>GoT.okm Q0 ((okl co).2 a ha))) a ha)) (λa ha=>GoT.okm Q0 ((okl d9).2 a ha))) a ha))) Nat.zero_lt_one [0,1,2,126]
 refine TK (λ|(be,bi,bf,ce)=>((ok n ([x_.bL]:List Int))/\(ok (n+3) (((a01 (a03 ([]) x_.name))++(a01 x_.content)):List Int)),0,[(22,.v (.slice be (([x_.bL]).length) bi)),(16,.v (.agg #[.slice K2 (x_.aR.parts.length) M2])),(13,.v (.slice bf ((((a01 (a03 ([]) x_.name))++(a01 x_.content))).length) ce))],[],[],[(161,MF.os be bi ([x_.bL])),(162,MF.os bf ce ((a01 (a03 ([]) x_.name))++(a01 x_.content)))])) [] [2,0,1] 6 #[true,false,true,true,false,false,false,true,true,true,false,false] ?_ (λdu=>?_)
 rintro ⟨be,bi,bf,ce⟩ ⟨ck,fa⟩;refine TX.tail [1,4,5,6,10,11] Z Z J ?_;refine zB λmr=>?_;refine F0 293 UInt8 ?_;refine zE 14 293 294 ?_;refine CF 296 Z O (λw Y=>f257 n Q0 (Y.q 294 Z) x_.aR (Y.q 2 Z) (aby zl (λ_ _=>trivial)) (a0.2.2.1)) ?_;rintro ⟨l3,jg⟩ dq;have j7:=aey ([]) x_.aR;refine CF 298 Z O (λw Y=>f256 _ Q0 (Y.q 296 Z) dq) ?_;rintro ⟨ma,l2⟩ di;have k2:=adw (a03 ([]) x_.aR);refine zN (kk:=1) 518 162 300 λgj g5=>?_;refine zW 301 299 ?_
 have kq:=a3.1;have lr:=dq.1
 refine zG 518 301 302 (((a01 (a03 ([]) x_.name))++(a01 x_.content))++(a01 (a03 ([]) x_.aR))).length Z (hroom:=Q2) (hmax:=Q2) λg2 lc iq=>?_
 refine WX.know (λG hΓ=>(hΓ.get 302 Z).flat) λeb=>?_;refine WX.turn [300] 303 Z (λh hs=>acx hs eb) Z ?_;refine zW 304 161 ?_
 refine zG 518 304 305 ((((a01 (a03 ([]) x_.name))++(a01 x_.content))++(a01 (a03 ([]) x_.aR)))++[x_.bL]).length Z (hroom:=Q2) (hmax:=Q2) λgf ft gu=>?_
 refine WX.know (λG hΓ=>(hΓ.get 305 Z).flat) λeh=>?_;refine WX.turn [303] 306 Z (λh hs=>acx hs eh) Z ?_;refine yE 518 306 307 ?_;refine zU [308] 126 ?_
 exact IT (ft,gu) (aby Q2 (λa ha=>GoT.okm (show (n+4)<=(n+5) by omega) ((ac2 (λa ha=>GoT.okm (show (n+3)<=(n+4) by omega) ((ac2 (okl fa).2 (λa ha=>GoT.okm Q0 ((okl di).2 a ha))) a ha)) (λa ha=>GoT.okm Q0 ((okl ck).2 a ha))) a ha))) Nat.zero_lt_one [0,1,2,126]
 refine TK (λ|(b7,b4,ar,a8)=>((ok n ([]:List UInt8))/\(ok (n+3) (((a01 (a03 ([]) x_.name))++(a01 x_.content)):List Int)),0,[(16,.v (.agg #[.slice K2 (x_.aR.parts.length) M2])),(14,.v (.slice b7 (0) b4)),(20,.p 1 3),(13,.v (.slice ar ((((a01 (a03 ([]) x_.name))++(a01 x_.content))).length) a8))],[],[],[(135,MF.os b7 b4 ([]:List UInt8)),(136,MF.os ar a8 ((a01 (a03 ([]) x_.name))++(a01 x_.content)))])) [1] [2,0,1] 7 #[true,true,true,true,false,false,false,true,false,false,false,false] ?_ (λe0=>?_)
 rintro ⟨b7,b4,ar,a8⟩ ⟨cw,ct⟩;refine TX.all2 4 8 J ?_ ?_;refine TS.op 4 Z J ?_;refine zW 309 135 ?_;refine CF 310 Z O (λw Y=>f257 n Q0 (Y.q 309 Z) x_.aR (Y.q 2 Z) cw (a0.2.2.1)) ?_;rintro ⟨hf,g7⟩ ev;refine zU [311] 148 ?_;refine zU [136] 149 ?_;refine R0 ?_;refine WX.back0 ?_;exact TU f1 (hf,g7,ar,a8) ⟨ev,ct⟩ [0,1,2,148,149];refine TS.op 8 Z J ?_;refine zU [135] 150 ?_;refine zU [136] 151 ?_;refine R0 ?_;refine WX.back0 ?_;exact TU bz (b7,b4,ar,a8) ⟨cw,ct⟩ [2,0,1,150,151]
 refine TK (λ|(ap,al,ag,ae)=>((ok n ([]:List UInt8))/\(ok (n+3) (((a01 (a03 ([]) x_.name))++(a01 x_.content)):List Int)),0,[(21,.v (.int .i64 (x_.bL))),(14,.v (.slice ap (0) al)),(15,.p 1 2),(13,.v (.slice ag ((((a01 (a03 ([]) x_.name))++(a01 x_.content))).length) ae))],[],[],[(137,MF.os ap al ([]:List UInt8)),(138,MF.os ag ae ((a01 (a03 ([]) x_.name))++(a01 x_.content)))])) [1] [0,1,2] 7 #[true,true,true,false,false,false,false,true,true,false,false,false] ?_ (λe1=>?_)
 rintro ⟨ap,al,ag,ae⟩ ⟨cj,de⟩;refine TX.all2 3 9 J ?_ ?_;refine TS.op 3 Z J ?_;refine zU [137] 150 ?_;refine zU [138] 151 ?_;refine R0 ?_;refine WX.back0 ?_;exact TU bz (ap,al,ag,ae) ⟨cj,de⟩ [2,0,1,150,151];refine TS.op 9 Z J ?_;refine zB λhv=>?_;refine R0 ?_;refine zT [] 312 x_.bL () λ_=>?_;refine zE 22 312 313 ?_;refine zU [314] 155 ?_;refine zU [137] 156 ?_;refine zU [138] 157 ?_;refine WX.back0 ?_
 exact TU db (hv,1,ap,al,ag,ae) ⟨(aby Q7 (all_cons (α:=Int) (ac0 a0).2.2.2.1 nA)),cj,de⟩ [0,1,2,155,156,157]
 refine TK (λ|(an,aq)=>((ok (n+3) (((a01 (a03 ([]) x_.name))++(a01 x_.content)):List Int)),0,[(21,.v (.int .i64 (x_.bL))),(16,.v (.agg #[.slice K2 (x_.aR.parts.length) M2])),(13,.v (.slice an ((((a01 (a03 ([]) x_.name))++(a01 x_.content))).length) aq))],[],[],[(139,MF.os an aq ((a01 (a03 ([]) x_.name))++(a01 x_.content)))])) [] [2,0,1] 7 #[true,false,true,true,false,false,false,true,true,false,false,false] ?_ (λcn=>?_)
 rintro ⟨an,aq⟩ dj;refine TX.all2 1 9 J ?_ ?_;refine TS.op 1 Z J ?_;refine zB λg3=>?_;refine F0 315 UInt8 ?_;refine yE 14 315 316 ?_;refine zU [317] 150 ?_;refine zU [139] 151 ?_;refine WX.back0 ?_;exact TU bz (g3,0,an,aq) ⟨(aby zl (λ_ _=>trivial)),dj⟩ [2,0,1,150,151];refine TS.op 9 Z J ?_;refine zB λh9=>?_;refine R0 ?_;refine zT [] 318 x_.bL () λ_=>?_;refine zE 22 318 319 ?_;refine zU [320] 161 ?_;refine zU [139] 162 ?_;refine WX.back0 ?_
 exact TU du (h9,1,an,aq) ⟨(aby Q7 (all_cons (α:=Int) (ac0 a0).2.2.2.1 nA)),dj⟩ [2,0,1,161,162]
 refine TK (λ|(a4,aj,ah,ac)=>((ok n ([x_.bL]:List Int))/\(ok (n+3) (((a01 (a03 ([]) x_.name))++(a01 x_.content)):List Int)),0,[(22,.v (.slice a4 (([x_.bL]).length) aj)),(15,.p 1 2),(13,.v (.slice ah ((((a01 (a03 ([]) x_.name))++(a01 x_.content))).length) ac))],[],[],[(143,MF.os a4 aj ([x_.bL])),(144,MF.os ah ac ((a01 (a03 ([]) x_.name))++(a01 x_.content)))])) [1] [0,1,2] 7 #[true,false,true,false,false,false,false,true,true,true,false,false] ?_ (λel=>?_)
 rintro ⟨a4,aj,ah,ac⟩ ⟨dm,d0⟩;refine TX.all2 1 3 J ?_ ?_;refine TS.op 1 Z J ?_;refine zB λh6=>?_;refine F0 321 UInt8 ?_;refine yE 14 321 322 ?_;refine zU [143] 155 ?_;refine zU [323] 156 ?_;refine zU [144] 157 ?_;refine WX.back0 ?_;exact TU db (a4,aj,h6,0,ah,ac) ⟨dm,(aby zl (λ_ _=>trivial)),d0⟩ [0,1,2,155,156,157];refine TS.op 3 Z J ?_;refine zU [143] 161 ?_;refine zU [144] 162 ?_;refine R0 ?_;refine WX.back0 ?_;exact TU du (a4,aj,ah,ac) ⟨dm,d0⟩ [2,0,1,161,162]
 refine TK (λ|(aa,ab,a9,am)=>((ok n ([]:List UInt8))/\(ok (n+3) (((a01 (a03 ([]) x_.name))++(a01 x_.content)):List Int)),0,[(14,.v (.slice aa (0) ab)),(20,.p 1 3),(15,.p 1 2),(13,.v (.slice a9 ((((a01 (a03 ([]) x_.name))++(a01 x_.content))).length) am))],[],[],[(131,MF.os aa ab ([]:List UInt8)),(132,MF.os a9 am ((a01 (a03 ([]) x_.name))++(a01 x_.content)))])) [1] [0,1,2] 8 #[true,true,true,false,false,false,false,true,false,false,false,false] ?_ (λf0=>?_)
 rintro ⟨aa,ab,a9,am⟩ ⟨dv,d1⟩;refine TX.all2 3 8 J ?_ ?_;refine TS.op 3 Z J ?_;refine zU [131] 135 ?_;refine zU [132] 136 ?_;refine R0 ?_;refine WX.back0 ?_;exact TU e0 (aa,ab,a9,am) ⟨dv,d1⟩ [2,0,1,135,136];refine TS.op 8 Z J ?_;refine zU [131] 137 ?_;refine zU [132] 138 ?_;refine R0 ?_;refine WX.back0 ?_;exact TU e1 (aa,ab,a9,am) ⟨dv,d1⟩ [0,1,2,137,138]
 refine TK (λ|(a5,a6)=>((ok (n+3) (((a01 (a03 ([]) x_.name))++(a01 x_.content)):List Int)),0,[(16,.v (.agg #[.slice K2 (x_.aR.parts.length) M2])),(20,.p 1 3),(13,.v (.slice a5 ((((a01 (a03 ([]) x_.name))++(a01 x_.content))).length) a6))],[],[],[(133,MF.os a5 a6 ((a01 (a03 ([]) x_.name))++(a01 x_.content)))])) [1] [2,0,1] 8 #[true,false,true,true,false,false,false,true,false,false,false,false] ?_ (λeg=>?_);rintro ⟨a5,a6⟩ dp
 refine TX.all2 1 8 J ?_ ?_;refine TS.op 1 Z J ?_;refine zB λgn=>?_;refine F0 324 UInt8 ?_;refine yE 14 324 325 ?_;refine zU [326] 135 ?_;refine zU [133] 136 ?_;refine WX.back0 ?_;exact TU e0 (gn,0,a5,a6) ⟨(aby zl (λ_ _=>trivial)),dp⟩ [2,0,1,135,136];refine TS.op 8 Z J ?_;refine zU [133] 139 ?_;refine R0 ?_;refine WX.back0 ?_;exact TU cn (a5,a6) dp [2,0,1,139]
 refine TK (λ|(a2,a1)=>((ok (n+3) (((a01 (a03 ([]) x_.name))++(a01 x_.content)):List Int)),0,[(21,.v (.int .i64 (x_.bL))),(15,.p 1 2),(13,.v (.slice a2 ((((a01 (a03 ([]) x_.name))++(a01 x_.content))).length) a1))],[],[],[(134,MF.os a2 a1 ((a01 (a03 ([]) x_.name))++(a01 x_.content)))])) [1] [0,1,2] 8 #[true,false,true,false,false,false,false,true,true,false,false,false] ?_ (λet=>?_);rintro ⟨a2,a1⟩ c4
 refine TX.all3 1 3 9 J ?_ ?_ ?_;refine TS.op 1 Z J ?_;refine zB λie=>?_;refine F0 327 UInt8 ?_;refine yE 14 327 328 ?_;refine zU [329] 137 ?_;refine zU [134] 138 ?_;refine WX.back0 ?_;exact TU e1 (ie,0,a2,a1) ⟨(aby zl (λ_ _=>trivial)),c4⟩ [0,1,2,137,138];refine TS.op 3 Z J ?_;refine zU [134] 139 ?_;refine R0 ?_;refine WX.back0 ?_;exact TU cn (a2,a1) c4 [2,0,1,139];refine TS.op 9 Z J ?_;refine zB λil=>?_;refine R0 ?_;refine zT [] 330 x_.bL () λ_=>?_;refine zE 22 330 331 ?_;refine zU [332] 143 ?_
 refine zU [134] 144 ?_;refine WX.back0 ?_;exact TU el (il,1,a2,a1) ⟨(aby Q7 (all_cons (α:=Int) (ac0 a0).2.2.2.1 nA)),c4⟩ [0,1,2,143,144];refine TX.all3 1 3 8 J ?_ ?_ ?_;refine TS.op 1 Z J ?_;refine zB λhm=>?_;refine F0 333 UInt8 ?_;refine yE 14 333 334 ?_;refine zU [335] 131 ?_;refine zU [18] 132 ?_;refine WX.back0 ?_;exact TU f0 (hm,0,ch,cg) ⟨(aby zl (λ_ _=>trivial)),a3⟩ [0,1,2,131,132];refine TS.op 3 Z J ?_
 refine zU [18] 133 ?_;refine R0 ?_;refine WX.back0 ?_;exact TU eg (ch,cg) a3 [2,0,1,133];refine TS.op 8 Z J ?_;refine zU [18] 134 ?_;refine R0 ?_;refine WX.back0 ?_;exact TU et (ch,cg) a3 [0,1,2,134];rintro ⟨e3,e2⟩ ic;rw [show aar x_=((((a01 (a03 ([]) x_.name))++(a01 x_.content))++(a01 (a03 ([]) x_.aR)))++[x_.bL]) by simp only [aar]];exact zX [126] (e3,e2) ic
theorem f254 (hn:n+0<=9){l:List Int}(N0:Rd w K0 M0 l)(a0:ok n l):
 DP 254 #[vS K0 l M0] w (pI n (a7o l)):=by
 have hb:=bS0 hn;refine EN Tryz.func254 Z (aS1 N0) ?_;have r1:=a0.1;refine LM Z (11,0) (λ|(d,i)=>((i<=l.length)/\J6 d/\(aas l 11=aas (l.drop i) d),l.length-i,[(3,.v (vI d)),(4,.v (vI i))],[],[],[])) ⟨zl,Q4,Z⟩ [0] [] [0] [0] ?_;rintro ⟨d,i⟩ ⟨v1,v2,v3⟩;refine yKD 8 ?_ ?_<;>intro h1 a7;obtain ⟨e1,a3,a2,a4⟩:=gO a0 i;refine SW ?_;refine yI 0 i a4 ?_;rintro a6 rfl;refine zL 0 1 e1 a3 ?_;rintro ⟨⟩;refine CV Z O (λw Y=>f273 n Q0 a2 (i6 2147483647)) λa5=>?_;refine SW0 ?_;refine SW0 ?_
 have r2:=ahr (i64.wrap ((i64.wrap ((i64.wrap (d*1000003))+(a8s e1 2147483647)))+13)) (show 0<2147483647 by omega);refine WX.see Z Z Z (λ_ hΓ=>agt Z Z Z Q9) ?_;refine SA ?_;exact ITr Z (Int.tmod (i64.wrap ((i64.wrap ((i64.wrap (d*1000003))+(a8s e1 2147483647)))+13)) 2147483647,i+1) ⟨Q0,Q4,(by rw [v3,abu a3];simp only [aas])⟩ Q1 [0]
 have a1:=v3.trans (show _=d by rw [dn];simp only [aas];omega);rw [show a7o l=d by simp only [a7o,a1]];exact R6r Z Z v2
theorem f218 (hn:n+2<=9){bZ:Int}{l:List Int}(N0:Rd w K0 M0 l)(a0:ok n bZ)(a1:ok n l):
 DP 218 #[vI bZ,vS K0 l M0] w (pI n (aat bZ l)):=by
 have hb:=bS2 hn;refine EN Tryz.func218 Z (aS1 N0) ?_;refine yB λp1=>?_;refine R0 ?_;refine zT [] 1 bZ () λ_=>?_;have r2:=a1.1;refine zG 6 0 2 ([bZ]++l).length Z λa5 p2 c1=>?_;refine WX.know (λG hΓ=>(hΓ.get 2 Z).flat) λa3=>?_;refine WX.turn [1] 3 Z (λh hs=>acx hs a3) Z ?_;refine yB λp3=>?_;refine zT [] 4 bZ () λa2=>?_;refine zP 6 10 (([bZ]++l)++[bZ]).length a2 λp4 c2=>?_;refine zV [3,4] 5 ?_;refine zE 6 5 6 ?_
 refine CV Z O (λw Y=>f254 _ Q0 (Y.q 6 Z) (aby Q5 (λa ha=>GoT.okm (show (n+1)<=(n+2) by omega) ((ac2 (λa ha=>GoT.okm (show n<=(n+1) by omega) ((ac2 (all_cons (α:=Int) a0 nA) (okl a1).2) a ha)) (λa ha=>GoT.okm Q0 ((all_cons (α:=Int) a0 nA) a ha))) a ha)))) λa4=>?_;rw [show aat bZ l=(a7o (([bZ]++l)++[bZ])) by simp only [aat]];exact R6r Z Z a4
end Go.Proofs.YthdfhghdipdknaaGreat
namespace Go.Stp
theorem ax1 (n_:aA):∀(l:List Key) (i:Nat) (r:Int),a75 n_ l i=some r->r<((i+l.length:Nat):Int)
 |[],_,_,h=>by cases h
 |x::l,i,r,h=>by
  rw [List.length_cons];simp only [a75]at h;cases hA:a1i x.name n_<;>simp only [hA,cond_true,cond_false]at h
  ·have:=ax1 n_ l (i+1) r h;omega
  ·grind
theorem ax5 (l:List Key)(n_:aA):a4k l n_<(l.length:Int):=by
 unfold a4k;cases h:a75 n_ l 0 with
 |none=>show (-1:Int)<_;omega
 |some r=>have:=ax1 n_ l 0 r h;show r<_;omega
def a1v (l:(List Key))(n_:aA):Int:=bif decide ((a4k l n_)<0)then 0 else match (l)[((a4k l n_)).toNat]? with|none=>default|some e1=>e1.bZ
def abk (bZ:Int)(x_:aJ):Bool:=bif (abf bZ)then (x_.cF==(aat bZ (aar x_)))else false
def abl (l:(List Key))(x_:aJ):Bool:=(abk (a1v l x_.aR) x_)
def a7p (k:Str):List cB->Nat->Option (Int)|[],i=>none|e1::rest_,i=>bif ((e1.letter).toList==(k).toList)then (some ((i:Nat):Int))else a7p k rest_ (i+1)
def a5t (l:(List cB))(k:Str):Int:=match a7p k l 0 with|some r_=>r_|none=>(-1)
theorem awa (k:Str):∀(l:List cB) (i:Nat) (r:Int),a7p k l i=some r->r<((i+l.length:Nat):Int)
 |[],_,_,h=>by cases h
 |x::l,i,r,h=>by
  rw [List.length_cons];simp only [a7p]at h;cases hA:((x.letter).toList==(k).toList)<;>simp only [hA,cond_true,cond_false]at h
  ·have:=awa k l (i+1) r h;omega
  ·grind
theorem awi (l:List cB)(k:Str):a5t l k<(l.length:Int):=by
 unfold a5t;cases h:a7p k l 0 with
 |none=>show (-1:Int)<_;omega
 |some r=>have:=awa k l 0 r h;show r<_;omega
def a3k (n_:aA)(l:(List cB)):List Str->Nat->(List cB)->Ctl ((List cB)×Bool) ((List cB))
 |[],i,out=>(Ctl.nxt ((out):List cB))
 |e1::rest_,i,out=>
  bif ((e1).toList==((⟨#[42,42]⟩:Str)).toList)then
   (Ctl.ret (out,true))
  else
   bif decide (((i:Nat):Int)>=((n_.parts).length:Int))then
    (Ctl.ret (l,false))
   else
    bif ((e1).toList==((⟨#[42]⟩:Str)).toList)then
     a3k n_ l rest_ (i+1) ((out):List cB)
    else
     bif (a64 e1)then
      bif decide ((a5t out e1)<0)then
       match (n_.parts)[i]? with
        |none=>default
        |some e2=>
         a3k n_ l rest_ (i+1) (((out++[(cB.mk e1 e2)])):List cB)
      else
       match (out)[((a5t out e1)).toNat]? with
        |none=>default
        |some e3=>
         match (n_.parts)[i]? with
          |none=>default
          |some e4=>
           bif (!((e3.value).toList==(e4).toList))then
            (Ctl.ret (l,false))
           else
            a3k n_ l rest_ (i+1) ((out):List cB)
     else
      match (n_.parts)[i]? with
       |none=>default
       |some e5=>
        bif (!((e1).toList==(e5).toList))then
         (Ctl.ret (l,false))
        else
         a3k n_ l rest_ (i+1) ((out):List cB)
def a2u (p_:bY)(n_:aA)(l:(List cB)):(List cB)×Bool:=bif (!(a53 p_))then (l,false)else bif (!(a1e n_))then (l,false)else match a3k n_ l p_.parts 0 (l:List cB)with| .ret r_=>r_| .nxt out=>bif (((n_.parts).length:Int) !=((p_.parts).length:Int))then (l,false)else (out,true)
def ab7 (r:bO)(n_:aA)(by_:aA):Bool:=bif (a65 r)then bif (a2u r.cJ n_ ([])).2 then ((a2u r.cK by_ ((a2u r.cJ n_ ([])).1)).2)else false else false
def aau (n_:aA)(by_:aA):List bO->Nat->Option (Int)|[],i=>none|e1::rest_,i=>bif (ab7 e1 n_ by_)then (some ((i:Nat):Int))else aau n_ by_ rest_ (i+1)
def aav (l:(List bO))(n_:aA)(by_:aA):Int:=match aau n_ by_ l 0 with|some r_=>r_|none=>(-1)
def abq (l:(List bO))(n_:aA)(by_:aA):Bool:=(decide ((aav l n_ by_)>=0))
def aaw (n_:aA):List aA->Option (Bool)|[]=>none|e1::rest_=>bif (a1i e1 n_)then (some true)else aaw n_ rest_
def abm (t:bU)(n_:aA):Bool:=match aaw n_ t.bV with|some r_=>r_|none=>false
def ab8 (x_:aJ)(now:Int):Bool:=(decide (now<=x_.bL))
def a6n (l:(List Key))(n_:aA):(List UInt8):=bif ((a1v l n_)==0)then ([])else (a37 ([]) (a7o ([(a1v l n_)])))
def a3l (t:bU)(n_:aA)(now:Int):List aJ->Nat->Option (Int)|[],i=>none|e1::rest_,i=>bif (a1i e1.name n_)then bif (ab8 e1 now)then bif (abl t.keys e1)then bif (abe e1.content (a6n t.keys n_))then (some ((i:Nat):Int))else a3l t n_ now rest_ (i+1)else a3l t n_ now rest_ (i+1)else a3l t n_ now rest_ (i+1)else a3l t n_ now rest_ (i+1)
def a4s (t:bU)(n_:aA)(now:Int):Int:=bif ((a1v t.keys n_)==0)then (-1)else match a3l t n_ now t.bW 0 with|some r_=>r_|none=>(-1)
theorem ax6 (t:bU)(n_:aA)(now:Int):∀(l:List aJ) (i:Nat) (r:Int),a3l t n_ now l i=some r->r<((i+l.length:Nat):Int)
 |[],_,_,h=>by cases h
 |x::l,i,r,h=>by
  have go:a3l t n_ now l (i+1)=some r->r<((i+(x::l).length:Nat):Int):=λh'=>by
   have:=ax6 t n_ now l (i+1) r h';rw [List.length_cons];omega
  simp only [a3l]at h
  grind
theorem awg (t:bU)(n_:aA)(now:Int):a4s t n_ now<(t.bW.length:Int):=by
 unfold a4s;cases (a1v t.keys n_==0)
 ·simp only [cond_false]
  cases h:a3l t n_ now t.bW 0 with
  |none=>show (-1:Int)<_;omega
  |some r=>have:=ax6 t n_ now t.bW 0 r h;show r<_;omega
 ·grind
def a6o (t:bU)(now:Int)(out:List aA)(xName:List Str)(xContent:List UInt8)(xKeyName:List Str)(xFreshUntil:Int)(xSignature:Int):Ctl ((List aA)×Bool) ((List aA)×(List Str)×(List UInt8)×(List Str)×Int×Int):=if ((out).length:Int)<4 then if (!(abl t.keys (aJ.mk (aA.mk xName) xContent (aA.mk xKeyName) xFreshUntil xSignature)))=true then (Ctl.ret (([]),false))else if (!(abq t.bR (aA.mk xName) (aA.mk xKeyName)))=true then (Ctl.ret (([]),false))else if (abm t (a05 (aA.mk xKeyName)))=true then (Ctl.ret ((out++[(a05 (aA.mk xKeyName))]),true))else if (a4s t (a05 (aA.mk xKeyName)) now)<0 then (Ctl.ret (([]),false))else match (t.bW)[((a4s t (a05 (aA.mk xKeyName)) now)).toNat]? with|none=>default|some e1=>a6o t now (((out++[(a05 (aA.mk xKeyName))])):List aA) ((e1.name.parts):List Str) ((e1.content):List UInt8) ((e1.aR.parts):List Str) e1.bL e1.cF else (Ctl.nxt (((out):List aA),((xName):List Str),((xContent):List UInt8),((xKeyName):List Str),xFreshUntil,xSignature))
termination_by 4 - out.length
decreasing_by all_goals (simp_wf; omega)
def a5a (t:bU)(x_:aJ)(now:Int):(List aA)×Bool:=match a6o t now ([]:List aA) (x_.name.parts:List Str) (x_.content:List UInt8) (x_.aR.parts:List Str) x_.bL x_.cF with| .ret r_=>r_| .nxt (out,xName,xContent,xKeyName,xFreshUntil,xSignature)=>(([]),false)
def ab9 (t:bU)(x_:aJ)(now:Int):Bool:=bif (a23 x_)then ((a5a t x_ now).2)else false
def a2m (a:aX)(t:bU)(x_:aJ)(now:Int):aX:=bif (!a.cL)then bif (a1i x_.name a.name)then bif (ab9 t x_ now)then (aX.mk ((a0p a).node) ((a0p a).index) ((a0p a).name) ((a0p a).cN) ((a0p a).wait) true (a0m x_))else (a0p a)else (a0p a)else (a0p a)
end Go.Stp
