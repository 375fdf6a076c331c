/-
  What the proof of one law needs: rules of the program logic, functions as Lean functions, contracts. No condition but what each says. Written by a program (pack.py) out of my own texts.
-/
import Derived.Test.YthdfhghdipdknaaGreatKXm3
open Go.IntKind (i64)
set_option linter.unusedVariables false
set_option linter.unusedSimpArgs false
namespace Go.Proofs.YthdfhghdipdknaaGreat
open Go.Stp
open Go.Stp.GoT (ok)
variable {w : World} (n : Nat) {K0 K1 : Option Addr} {M0 M1 : Nat}
theorem f97 (hn:n+0<=9)(e_:aK)(N0:Rd w K0 M0 e_.name.parts)(a0:ok n e_):
 DP 97 #[.agg #[vS K0 e_.name.parts M0,vI e_.value]] w (pB (a8h e_)):=by
 refine EN Tryz.func97 Z (aS1 N0) ?_;exact R4r Z Z (by simp only [a8h])
theorem f96 (hn:n+0<=9){l:List aK}(N0:Rd w K0 M0 l)(keepg:FuncId)(keepc:List Value)(keepq:aK->Bool)(keepf:∀w1,Kp emp w w1->∀(e0:aK) (x0:GoT.X aK),ok n e0->All (hp w1) (GoT.fa .der e0 x0)->Does Tryz.prog keepg ([Value.agg ⟨GoT.sh e0 x0⟩]++keepc).toArray w1 emp (λrv _=>rv= .bool (keepq e0)/\True))(a4:ok n l):
 DP 96 #[vS K0 l M0,.func (.func keepg) #[] keepc.toArray] w (pS w n (aal l keepq)):=by
 have hb:=bS0 hn;refine EN Tryz.func96 Z (aS1 N0) ?_;refine yB λp1=>?_;refine F0 1 aK ?_;have r1:=a4.1;refine LM Z (p1,0,[],[],0) (λ|(a2,a3,a0,a1,i)=>((i<=l.length)/\JE n a1/\(a1.length<=i)/\(a55 keepq l []=a55 keepq (l.drop i) a1),l.length-i,[(5,.v (vS a2 a1 a3)),(11,.v (vI i))],[],[(8,⟨2,a2,a1.length,a3,a0⟩)],[(1,MF.ol a0 a1)])) ⟨zl,nA,Q10,Z⟩ [10,9,1] [] [0] [0,1] ?_;rintro ⟨a2,a3,a0,a1,i⟩ ⟨v1,v2,v3,v4⟩
 refine yKD 12 ?_ ?_<;>intro h1 ae;obtain ⟨e1,a6,a5,aa⟩:=gO a4 i;refine yI 0 i aa ?_;rintro ac rfl;refine zL 0 2 e1 a6 ?_;rintro ⟨⟨p2,c1⟩,_⟩;refine KW Z Z Z Z Z Z O Z (λw G bs hI hΓ=>keepf w hI.keep e1 _ a5 (All.cons (hΓ.get 2 Z:RdSl _ _ _ _) All.nil)) λad=>?_;refine yKA 17 ?_ ?_<;>intro h2;refine yD [8,9] λbs G0 ab=>?_;refine dT 5 [1,3,4,9,10] ?_;refine DXF 3 3 Z J Z O (λw Y=>f35 n Q0 e1.name (Y.q 2 Z) (a5.1)) ?_;rintro ⟨p3,c2⟩ a8;refine dT 3 [13] ?_;refine DX.tail2 [7,8,9] Z Z J ?_;refine zB λp4=>?_
 refine zT [4] 5 (aK.mk (a0l e1.name) e1.value) ((p3,c2),()) λ_=>?_;refine WX.know (λG hΓ=>(hΓ.get 5 Z).rd.one) λa9=>?_;refine zP 8 25 (a1++[(aK.mk (a0l e1.name) e1.value)]).length a9 λp5 c3=>?_;refine zV [1,5] 6 ?_;refine SA ?_;refine zU [6] 1 ?_
 exact ITr Z (p5,c3,_,(a1++[(aK.mk (a0l e1.name) e1.value)]),i+1) ⟨Q0,(ac2 v2 (all_cons (An a8 a5.2) nA)),Q3,(by rw [v4,abu a6];simp only [a55,h2,cC])⟩ Q1 [0,1];refine SA ?_
 exact ITr Z (a2,a3,a0,a1,i+1) ⟨Q0,v2,Q3,(by rw [v4,abu a6];simp only [a55,h2,cC])⟩ Q1 [0,1];have a7:=v4.trans (show _=a1 by rw [dn];simp only [a55];omega);refine yE 8 1 14 ?_;rw [show aal l keepq=a1 by simp only [aal,a7]];exact zX [15] (a2,a3) (aby Q0 v2)
theorem f47 (hn:n+0<=9){l:List aK}(N0:Rd w K0 M0 l)(a3:ok n l):
 DP 47 #[vS K0 l M0] w (pS w n (a56 l)):=by
 refine EN Tryz.func47 Z (aS1 N0) ?_;refine KF Z 1 Z O (λw Y=>f96 n Q0 (Y.q 0 Z) 97 [] (λa0=>(a8h a0)) (λa6 a7 a0 a5 a1 a2=>f97 n Q0 a0 (a2 _ List.mem_cons_self) a1) a3) ?_;rintro ⟨p1,c1⟩ a4;rw [show a56 l=(aal l (λa0=>(a8h a0))) by simp only [a56]];exact yX [2] _ a4
theorem f65 (hn:n+0<=9){l:List aK}(N0:Rd w K0 M0 l)(a4:ok n l):
 DP 65 #[vS K0 l M0] w (pS w n (a0d l)):=by
 have hb:=bS0 hn;refine EN Tryz.func65 Z (aS1 N0) ?_;refine yB λp1=>?_;refine F0 1 aK ?_;have r1:=a4.1;refine LM Z (p1,0,[],[],0) (λ|(a2,a3,a1,a0,i)=>((i<=l.length)/\JE n a0/\(a0.length<=i)/\(a6a l []=a6a (l.drop i) a0),l.length-i,[(3,.v (vS a2 a0 a3)),(4,.v (vI i))],[],[(6,⟨2,a2,a0.length,a3,a1⟩)],[(1,MF.ol a1 a0)])) ⟨zl,nA,Q10,Z⟩ [0] [] [0] [0,1] ?_;rintro ⟨a2,a3,a1,a0,i⟩ ⟨v1,v2,v3,v4⟩;refine yKD 10 ?_ ?_<;>intro h1 ae
 obtain ⟨e1,a6,a5,a8⟩:=gO a4 i;refine yI 0 i a8 ?_;rintro ad rfl;refine yL 0 2 e1 a6 ?_;rintro ⟨⟨p2,c1⟩,_⟩;refine CF 3 Z O (λw Y=>f110 n Q0 e1.name (Y.q 2 Z) (a5.1)) ?_;rintro ⟨p3,c2⟩ ab;refine yD [9,10] λbs G0 a9=>?_;refine dT 7 [1,2,5,7] ?_;refine zDI 4 0 i a9 Z a8 ?_;rintro ac ⟨⟩;refine dT 5 [11] ?_;refine zDL 6 0 5 e1 a9 a6 ?_;rintro ⟨⟨p4,c3⟩,_⟩;refine dT 3 [15] ?_;refine DX.tail2 [8,9,10] Z Z J ?_;refine zB λp5=>?_;refine zT [4] 6 (aK.mk (a05 e1.name) e1.value) ((p3,c2),()) λ_=>?_
 refine WX.know (λG hΓ=>(hΓ.get 6 Z).rd.one) λaa=>?_;refine zP 6 27 (a0++[(aK.mk (a05 e1.name) e1.value)]).length aa λp6 c4=>?_;refine zV [1,6] 7 ?_;refine SA ?_;refine zU [7] 1 ?_
 exact ITr Z (p6,c4,_,(a0++[(aK.mk (a05 e1.name) e1.value)]),i+1) ⟨Q0,(ac2 v2 (all_cons (An ab a5.2) nA)),Q3,(by rw [v4,abu a6];simp only [a6a])⟩ Q1 [0,1];have a7:=v4.trans (show _=a0 by rw [dn];simp only [a6a];omega);refine yE 6 1 14 ?_;rw [show a0d l=a0 by simp only [a0d,a7]]
 exact zX [15] (a2,a3) (aby Q0 v2)
theorem f147 (hn:n+3<=9){l:List aK}(N0:Rd w K0 M0 l)(n_:aA)(N1:Rd w K1 M1 n_.parts){v:Int}(a1:ok n l)(a3:ok n n_)(a2:ok n v):
 DP 147 #[vS K0 l M0,adu n_ K1 M1,vI v] w (pSB w (n+3) (a3g l n_ v)):=by
 have hb:=bS3 hn;refine EN Tryz.func147 Z (aS2 N0 N1) ?_;refine KF Z 2 Z O (λw Y=>f65 n Q0 (Y.q 0 Z) a1) ?_;rintro ⟨p1,c1⟩ a4;have q1:=aht l;refine KV Z Z O (λw Y=>f182 n Q0 (Y.q 0 Z) n_ (Y.q 1 Z) a1 a3) λao=>?_;have q2:=ar8 l n_;refine yKD 17 ?_ ?_<;>intro h1 b6;have r1:=a1.1;have r2:=i8 ao;refine R0 ?_;refine SI 19 ?_;refine zN (kk:=2) 501 3 4 λb8 bg=>?_;have am:(a1t l n_).toNat<(a0d l).length:=Q4;refine zR 501 _ am ?_;rintro al rfl
 obtain ⟨e1,af,ac,aw⟩:=gO a4 _;refine R0 ?_;refine zO 501 4 5 _ af ?_;rintro A1 B1 ⟨⟨p2,c2⟩,_⟩ az bb;refine zS 501 az am ?_;refine R0 ?_;refine WX.turn [6,7,8] 9 Z (λh hs=>ae8 (e:=(aK.mk e1.name v)) (x:=((p2,c2),())) aw hs) Z ?_;refine zE 501 9 10 (hn:=(by first|(simp;done)|(simp;omega))) ?_
 refine SL 55 ((a0d l).set (((a1t l n_)).toNat) (aK.mk e1.name v)).length ?_;refine SL 18 ((a0d l).set (((a1t l n_)).toNat) (aK.mk e1.name v)).length ?_;refine SL 8 ((a0d l).set (((a1t l n_)).toNat) (aK.mk e1.name v)).length ?_;refine SL 12 ((a0d l).set (((a1t l n_)).toNat) (aK.mk e1.name v)).length ?_;have r4:=a4.1
 refine CV Z O (λw Y=>f184 n Q0 (Y.q 10 Z) (aby Q5 (adz (okl a4).2 (show ok n ((aK.mk e1.name v):aK)from (An (acs ac).1 a2))))) λax=>?_;refine yKA 57 ?_ ?_<;>intro h2;have a7:=B.nt h2;refine KF Z 12 Z O (λw Y=>f65 n Q0 (Y.q 0 Z) a1) ?_;rintro ⟨p3,c3⟩ ap;rw [show a3g l n_ v=(a0d l,false) by simp only [a3g,h1,af,h2,cC]]
 exact yX [13] _ (GoT.okm Q0 ap);have a7:=B.nf h2;rw [show a3g l n_ v=((a0d l).set (((a1t l n_)).toNat) (aK.mk e1.name v),true) by simp only [a3g,h1,af,h2,cC]];exact yX [11] _ (aby Q5 (λa ha=>GoT.okm Q0 ((adz (okl a4).2 (show ok n ((aK.mk e1.name v):aK)from (An (acs ac).1 a2))) a ha)))
 have b5:=a4.1;refine LM Z 0 (λi=>((i<=(a0d l).length)/\(a9p l n_ 0=a9p l n_ i),(a0d l).length-i,[(9,.v (vI i))],[],[],[])) ⟨zl,Z⟩ [8,4,0,2] [4] [0,1,3] [0,1,3] ?_;rintro i ⟨v1,v2⟩;refine zW 4 3 ?_;refine yD [] λbs G0 ae=>?_;refine dT 9 [1,3,5,7,9] ?_;refine zDC 27 ?_ ?_<;>intro h2;have a7:=B.dt h2;refine dT 7 [11,13] ?_;obtain ⟨e2,ah,ac,b3⟩:=gO a4 i;refine zDI 7 4 i ae Z b3 ?_;rintro al rfl;refine dT 5 [17] ?_;refine zDL 9 4 5 e2 ae ah ?_;rintro ⟨⟨p2,c2⟩,_⟩
 refine dT 3 [20] ?_;refine DXV 11 Z J Z O (λw Y=>f183 n Q0 e2.name (Y.q 5 Z) n_ (Y.q 1 Z) (ac.1) a3) λax=>?_;refine dT 0 [25,27] ?_;refine DX.tail2 [] Z Z J ?_;refine yKD 36 ?_ ?_<;>intro h3 ak;refine SA ?_;exact ITr Z (i+1) ⟨Q0,(by rw [v2];rw [a9p];simp only [a7,ah,ak,↓reduceIte])⟩ Q1 [0,1,3];have a5:=v2.trans (show _=i by rw [a9p];simp only [a7,ah,ak,↓reduceIte]);rotate_left;have a7:=B.df h2
 refine dT 0 [11,13,15,17,19,21,23,25,27] ?_;refine DX.tail2 [] Z Z J ?_;have a5:=v2.trans (show _=i by rw [a9p];simp only [a7,↓reduceIte]);rotate_left
 all_goals
  refine KF Z 18 Z O (λw Y=>f110 n Q0 n_ (Y.q 1 Z) a3) ?_;rintro ⟨b1,aq⟩ a8;refine R0 ?_;refine zN (kk:=2) 513 3 20 λb4 av=>?_;refine WX.cap 513 Z λa6=>?_;refine WX.know (λG hΓ=>(hΓ.get 20 Z).rd.one) λa0=>?_;refine zW 21 19 ?_;refine WX.draw [4,5,7,11,12] mixed λbs G0 ae=>?_;refine dT 11 [3,5] ?_;refine DX.seeP 3 J Z Z Z Z (adg i ttOk Z Z Z Z Q10 (Nat.le_trans Q0 a6)) ?_;refine dT 8 [17,19] ?_
  refine DX.seeP 10 J Z Z Z Z (aea i ttOk Z Z Z Z Q10 Q0) ?_;refine DX.toTX λS_=>?_;refine TX.all2 0 5 J ?_ ?_;refine TS.op 0 Z J ?_;refine zB λan=>?_;refine R0 ?_;refine WX.back0 ?_;refine TX.all2 4 5 J ?_ ?_;refine TS.op 4 Z J ?_;refine F0 22 aK ?_
  refine WX.appPre 43 513 i ((List.take i (a0d l)):List aK).length ttOk Z Z Z Z Z Z Z Z Z Z Z Z Z a0 Q0 (by have z_:=(show i<=((a0d l)).length from Q0);first|(simp;done)|(simp only [List.length_take];omega)|(simp;omega)) Q3 Q3 (λ_ _=>Z) λa9 aa=>?_
  refine WX.turn [20] 23 Z (λh hs=>afy i Q0 hs) Z ?_;refine zV [22,23] 25 ?_;refine R0 ?_;refine WX.back0 ?_;refine TX.tail [5,6,7,11,12] Z Z J ?_;refine yB λab=>?_;rotate_left;refine TS.op 5 Z J ?_;refine R0 ?_;refine WX.back0 ?_;refine TX.all2 4 6 J ?_ ?_;refine TS.op 4 Z J ?_;refine F0 22 aK ?_
  refine WX.appPre 43 513 i ((List.take i (a0d l)):List aK).length ttOk Z Z Z Z Z Z Z Z Z Z Z Z Z a0 Q0 (by have z_:=(show i<=((a0d l)).length from Q0);first|(simp;done)|(simp only [List.length_take];omega)|(simp;omega)) Q3 Q3 (λ_ _=>Z) λa9 aa=>?_
  refine WX.turn [20] 23 Z (λh hs=>afy i Q0 hs) Z ?_;refine zV [22,23] 25 ?_;refine R0 ?_;refine WX.back0 ?_;refine TX.tail [6,7,11,12] Z Z J ?_;refine zB λab=>?_;rotate_left;refine TS.op 6 Z J ?_;refine zB λab=>?_;refine R0 ?_;refine WX.back0 ?_;refine TX.tail [4,7,11,12] Z Z J ?_;refine F0 22 aK ?_
  refine WX.appPre 43 513 i ((List.take i (a0d l)):List aK).length ttOk Z Z Z Z Z Z Z Z Z Z Z Z Z a0 Q0 (by have z_:=(show i<=((a0d l)).length from Q0);first|(simp;done)|(simp only [List.length_take];omega)|(simp;omega)) Q3 Q3 (λ_ _=>Z) λa9 aa=>?_
  refine WX.turn [20] 23 Z (λh hs=>afy i Q0 hs) Z ?_;refine zV [22,23] 25 ?_;rotate_left;refine TS.op 5 Z J ?_;refine R0 ?_;refine WX.back0 ?_;refine TX.all2 0 6 J ?_ ?_;refine TS.op 0 Z J ?_;refine zB λan=>?_;refine R0 ?_;refine WX.back0 ?_;refine TX.all2 4 6 J ?_ ?_;refine TS.op 4 Z J ?_;refine F0 22 aK ?_
  refine WX.appPre 43 513 i ((List.take i (a0d l)):List aK).length ttOk Z Z Z Z Z Z Z Z Z Z Z Z Z a0 Q0 (by have z_:=(show i<=((a0d l)).length from Q0);first|(simp;done)|(simp only [List.length_take];omega)|(simp;omega)) Q3 Q3 (λ_ _=>Z) λa9 aa=>?_
  refine WX.turn [20] 23 Z (λh hs=>afy i Q0 hs) Z ?_;refine zV [22,23] 25 ?_;refine R0 ?_;refine WX.back0 ?_;refine TX.tail [6,7,11,12] Z Z J ?_;refine zB λab=>?_;rotate_left;refine TS.op 6 Z J ?_;refine zB λab=>?_;refine R0 ?_;refine WX.back0 ?_;refine TX.tail [4,7,11,12] Z Z J ?_;refine F0 22 aK ?_
  refine WX.appPre 43 513 i ((List.take i (a0d l)):List aK).length ttOk Z Z Z Z Z Z Z Z Z Z Z Z Z a0 Q0 (by have z_:=(show i<=((a0d l)).length from Q0);first|(simp;done)|(simp only [List.length_take];omega)|(simp;omega)) Q3 Q3 (λ_ _=>Z) λa9 aa=>?_
  refine WX.turn [20] 23 Z (λh hs=>afy i Q0 hs) Z ?_;refine zV [22,23] 25 ?_;rotate_left;refine TS.op 6 Z J ?_;refine zB λab=>?_;refine R0 ?_;refine WX.back0 ?_;refine TX.tail [0,4,7,11,12] Z Z J ?_;refine zB λan=>?_;refine F0 22 aK ?_
  refine WX.appPre 43 513 i ((List.take i (a0d l)):List aK).length ttOk Z Z Z Z Z Z Z Z Z Z Z Z Z a0 Q0 (by have z_:=(show i<=((a0d l)).length from Q0);first|(simp;done)|(simp only [List.length_take];omega)|(simp;omega)) Q3 Q3 (λ_ _=>Z) λa9 aa=>?_
  refine WX.turn [20] 23 Z (λh hs=>afy i Q0 hs) Z ?_;refine zV [22,23] 25 ?_;rotate_left
  all_goals
   refine zT [19] 26 (aK.mk (a05 n_) v) ((b1,aq),()) λ_=>?_;refine WX.know (λG hΓ=>(hΓ.get 26 Z).rd.one) λai=>?_;refine zP 43 49 ((List.take i (a0d l))++[(aK.mk (a05 n_) v)]).length ai λb9 bc=>?_;refine zV [25,26] 27 ?_
   refine WX.appSuf 43 513 i ((((List.take i (a0d l))++[(aK.mk (a05 n_) v)])++(List.drop i (a0d l))):List aK).length ttOk Z Z Z Z Z Z Z Z Z Z Z Z Z a0 Q0 (by have z_:=(show i<=((a0d l)).length from Q0);first|(simp;done)|(simp only [List.length_append,List.length_cons,List.length_nil,List.length_take,List.length_drop];omega)|(simp;omega)) Q3 Q3 (λ_ _=>Z) λar b0=>?_
   refine WX.turn [24] 28 Z (λh hs=>amf (show i<=i by omega) Q0 hs) Z ?_;refine zV [27,28] 29 ?_;refine yE 43 29 30 ?_
   refine CV Z O (λw Y=>f184 _ Q0 (Y.q 30 Z) (aby Q3 (λa ha=>GoT.okm (show (n+2)<=(n+3) by omega) ((ac2 (λa ha=>GoT.okm (show (n+1)<=(n+2) by omega) ((ac2 (λa ha=>GoT.okm (show n<=(n+1) by omega) ((λa ha=>(okl a4).2 a (List.mem_of_mem_take ha)) a ha)) (λa ha=>GoT.okm Q0 ((all_cons (α:=aK) (An a8 a2) nA) a ha))) a ha)) (λa ha=>GoT.okm Q0 ((λa ha=>(okl a4).2 a (List.mem_of_mem_drop ha)) a ha))) a ha)))) λay=>?_
   refine yKA 57 ?_ ?_<;>intro ad;refine KF Z 32 Z O (λw Y=>f65 n Q0 (Y.q 0 Z) a1) ?_;rintro ⟨au,b2⟩ aj;rw [show a3g l n_ v=(a0d l,false) by simp only [a3g,h1,a5,ad,cC]];exact yX [33] _ (GoT.okm Q0 aj);rw [show a3g l n_ v=(((List.take i (a0d l))++[(aK.mk (a05 n_) v)])++(List.drop i (a0d l)),true) by simp only [a3g,h1,a5,ad,cC]]
   exact yX [31] (ar,b0) (aby Q3 (λa ha=>GoT.okm (show (n+2)<=(n+3) by omega) ((ac2 (λa ha=>GoT.okm (show (n+1)<=(n+2) by omega) ((ac2 (λa ha=>GoT.okm (show n<=(n+1) by omega) ((λa ha=>(okl a4).2 a (List.mem_of_mem_take ha)) a ha)) (λa ha=>GoT.okm Q0 ((all_cons (α:=aK) (An a8 a2) nA) a ha))) a ha)) (λa ha=>GoT.okm Q0 ((λa ha=>(okl a4).2 a (List.mem_of_mem_drop ha)) a ha))) a ha)))
end Go.Proofs.YthdfhghdipdknaaGreat
namespace Go.Stp
def ab5 (w_:bJ):bJ:=(bJ.mk (a0l w_.name) w_.bI w_.cM w_.cD)
def a9q:List aJ->(List aJ)->(List aJ)|[],out=>((out):List aJ)|e1::rest_,out=>a9q rest_ (((out++[(a3o e1)])):List aJ)
def a7b (l:(List aJ)):(List aJ):=match a9q l ([]:List aJ)with|out=>out
def a9r:List Key->(List Key)->(List Key)|[],out=>((out):List Key)|e1::rest_,out=>a9r rest_ (((out++[(Key.mk (a0l e1.name) e1.bZ)])):List Key)
def a9s (l:(List Key)):(List Key):=match a9r l ([]:List Key)with|out=>out
def a9t:List aA->(List aA)->(List aA)|[],out=>((out):List aA)|e1::rest_,out=>a9t rest_ (((out++[(a0l e1)])):List aA)
def a9u (l:(List aA)):(List aA):=match a9t l ([]:List aA)with|out=>out
def a9v:List bA->(List bA)->(List bA)|[],out=>((out):List bA)|e1::rest_,out=>a9v rest_ (((out++[(bA.mk (a0l e1.name) e1.bI)])):List bA)
def aam (s:(List bA)):(List bA):=match a9v s ([]:List bA)with|out=>out
def a7c:List aB->(List aB)->(List aB)|[],out=>((out):List aB)|e1::rest_,out=>a7c rest_ (((out++[(aB.mk (a0l e1.pfx) e1.face e1.cost)])):List aB)
def a0g (l:(List aB)):(List aB):=match a7c l ([]:List aB)with|out=>out
def a9w:List aS->(List aS)->(List aS)|[],out=>((out):List aS)|e1::rest_,out=>a9w rest_ (((out++[(aS.mk (a0l e1.pfx) e1.face e1.cE)])):List aS)
def aan (l:(List aS)):(List aS):=match a9w l ([]:List aS)with|out=>out
def a9x:List aO->(List aO)->(List aO)|[],out=>((out):List aO)|e1::rest_,out=>a9x rest_ (((out++[(aO.mk (a0l e1.name) e1.bK e1.cH)])):List aO)
def aao (l:(List aO)):(List aO):=match a9x l ([]:List aO)with|out=>out
def a6b (keepq:aT->Bool):List aT->(List aT)->(List aT)|[],out=>((out):List aT)|e1::rest_,out=>bif keepq e1 then a6b keepq rest_ (((out++[(aT.mk (a3o e1.data) e1.cO)])):List aT)else a6b keepq rest_ ((out):List aT)
def ab6 (c_:bX)(keepq:aT->Bool):bX:=match a6b keepq c_.bB ([]:List aT)with|out=>(bX.mk c_.cA out)
def aap (e_:aT):Bool:=true
def aaq (c_:bX):bX:=(ab6 c_ (λe0_=>(aap e0_)))
def a1g (w_:bJ):bJ:=(bJ.mk (a05 w_.name) w_.bI w_.cM w_.cD)
def a9y:List Key->(List Key)->(List Key)|[],out=>((out):List Key)|e1::rest_,out=>a9y rest_ (((out++[(Key.mk (a05 e1.name) e1.bZ)])):List Key)
def a8i (l:(List Key)):(List Key):=match a9y l ([]:List Key)with|out=>out
def a7d (r:bO):bO:=r
def a9z:List aJ->(List aJ)->(List aJ)|[],out=>((out):List aJ)|e1::rest_,out=>a9z rest_ (((out++[(a0m e1)])):List aJ)
def a6c (l:(List aJ)):(List aJ):=match a9z l ([]:List aJ)with|out=>out
def a5m:List aO->(List aO)->(List aO)|[],out=>((out):List aO)|e1::rest_,out=>a5m rest_ (((out++[(aO.mk (a05 e1.name) e1.bK e1.cH)])):List aO)
def a0k (l:(List aO)):(List aO):=match a5m l ([]:List aO)with|out=>out
def a6d:List bA->(List bA)->(List bA)|[],out=>((out):List bA)|e1::rest_,out=>a6d rest_ (((out++[(bA.mk (a05 e1.name) e1.bI)])):List bA)
def a2g (s:(List bA)):(List bA):=match a6d s ([]:List bA)with|out=>out
def a7e:List aB->(List aB)->(List aB)|[],out=>((out):List aB)|e1::rest_,out=>a7e rest_ (((out++[(aB.mk (a05 e1.pfx) e1.face e1.cost)])):List aB)
def a1d (l:(List aB)):(List aB):=match a7e l ([]:List aB)with|out=>out
def a5n:List aS->(List aS)->(List aS)|[],out=>((out):List aS)|e1::rest_,out=>a5n rest_ (((out++[(aS.mk (a05 e1.pfx) e1.face e1.cE)])):List aS)
def a0h (l:(List aS)):(List aS):=match a5n l ([]:List aS)with|out=>out
def a57:List aT->(List aT)->(List aT)|[],out=>((out):List aT)|e1::rest_,out=>a57 rest_ (((out++[(aT.mk (a0m e1.data) e1.cO)])):List aT)
def a12 (c_:bX):bX:=match a57 c_.bB ([]:List aT)with|out=>(bX.mk c_.cA out)
def a8j (x_:aH):aH:=(aH.mk (a7b x_.bF) (aaq x_.bG) (aao x_.bH) (aam x_.bS) (a0g x_.bM) (aan x_.bQ) x_.aP)
def a00 (x_:aH):aH:=(aH.mk (a6c x_.bF) (a12 x_.bG) (a0k x_.bH) (a2g x_.bS) (a1d x_.bM) (a0h x_.bQ) x_.aP)
def a5o (g:aV):aV:=g
def a8k:List bO->(List bO)->(List bO)|[],out=>((out):List bO)|e1::rest_,out=>a8k rest_ (((out++[e1])):List bO)
def a30 (t:bU):bU:=match a8k t.bR ([]:List bO)with|out=>(bU.mk (a9s t.keys) out (a9u t.bV) (a7b t.bW))
def a8l:List aA->(List aA)->(List aA)|[],out2=>((out2):List aA)|e2::rest_,out2=>a8l rest_ (((out2++[(a05 e2)])):List aA)
def a8m:List bO->(List bO)->(List bO)|[],out=>((out):List bO)|e1::rest_,out=>a8m rest_ (((out++[(a7d e1)])):List bO)
def a31 (t:bU):bU:=match a8m t.bR ([]:List bO)with|out=>match a8l t.bV ([]:List aA)with|out2=>(bU.mk (a8i t.keys) out out2 (a6c t.bW))
def aa0 (p_:aZ):aZ:=(aZ.mk p_.to p_.face p_.cI (ab5 p_.bT) (a3o p_.data))
def a13 (f:aZ):aZ:=(aZ.mk f.to f.face f.cI (a1g f.bT) (a0m f.data))
def a8n:List aX->(List aX)->(List aX)|[],out3=>((out3):List aX)|e3::rest_,out3=>a8n rest_ (((out3++[(a9j e3)])):List aX)
def a8o:List aZ->(List aZ)->(List aZ)|[],out2=>((out2):List aZ)|e2::rest_,out2=>a8o rest_ (((out2++[(aa0 e2)])):List aZ)
def a7f:List aH->(List aH)->(List aH)|[],out=>((out):List aH)|e1::rest_,out=>a7f rest_ (((out++[(a8j e1)])):List aH)
def a8p (w_:aD):aD:=match a7f w_.aI ([]:List aH)with|out=>match a8o w_.aL ([]:List aZ)with|out2=>match a8n w_.aE ([]:List aX)with|out3=>(aD.mk (a5o w_.aG) (a30 w_.aF) (a56 w_.aM) out w_.aY w_.aU out2 out3 w_.now w_.aP)
def a5p (cap:Int):bX:=bif (!(a07 cap 0 8))then (bX.mk 0 ([]))else (bX.mk cap ([]))
def a6e (cap:Int):aH:=(aH.mk ([]) (a5p cap) ([]) ([]) ([]) ([]) 0)
def a8q:List aX->(List aX)->(List aX)|[],out3=>((out3):List aX)|e3::rest_,out3=>a8q rest_ (((out3++[(a0p e3)])):List aX)
def a8r:List aZ->(List aZ)->(List aZ)|[],out2=>((out2):List aZ)|e2::rest_,out2=>a8r rest_ (((out2++[(a13 e2)])):List aZ)
def a4n:List aH->(List aH)->(List aH)|[],out=>((out):List aH)|e1::rest_,out=>a4n rest_ (((out++[(a00 e1)])):List aH)
def a0b (w_:aD):aD:=match a4n w_.aI ([]:List aH)with|out=>match a8r w_.aL ([]:List aZ)with|out2=>match a8q w_.aE ([]:List aX)with|out3=>(aD.mk w_.aG (a31 w_.aF) (a0d w_.aM) out w_.aY w_.aU out2 out3 w_.now w_.aP)
theorem aoz:∀(l o:List aB),a7c l o=o++l
 |[],o=>by simp [a7c]
 |e::l,o=>by
  simp only [a7c];rw [aoz l];simp [a0l]
theorem afm (l:List aB):a0g l=l:=by simp [a0g,aoz]
theorem aox:∀(l o:List aB),a7e l o=o++l
 |[],o=>by simp [a7e]
 |e::l,o=>by
  simp only [a7e];rw [aox l];simp [a05]
theorem ahp (l:List aB):a1d l=l:=by simp [a1d,aox]
theorem awt:∀(l o:List aH),(a4n l o).length=o.length+l.length
 |[],o=>by simp [a4n]
 |e::l,o=>by
  simp only [a4n];rw [awt l]
  grind
theorem l32n (w:aD):(a0b w).aI.length=w.aI.length:=by show (a4n w.aI []).length=_;rw [awt];simp
end Go.Stp
namespace Go.Proofs.YthdfhghdipdknaaGreat
open Go.Stp
open Go.Stp.GoT (ok)
variable {w : World} (n : Nat) {K0 K1 K2 K3 K4 K5 K6 K7 K8 K9 : Option Addr} {M0 M1 M2 M3 M4 M5 M6 M7 M8 M9 : Nat}
theorem f143 (hn:n+0<=9){s:List aW}(N0:Rd w K0 M0 s)(a0:ok n s):
 DP 143 #[vS K0 s M0] w (pS w n s):=by
 have hb:=bS0 hn;refine EN Tryz.func143 Z (aS1 N0) ?_;refine KS Z Z Z Z (λ_ hΓ=>ahq ttOk Z Z Z Z) ?_;refine zKA 4 (λa1=>?_) (λa1=>?_);obtain rfl:K0=none:=by simpa using a1
 refine WX.know (λG hΓ=>ah0 (hΓ.get 0 Z)) λa2=>?_;subst a2;refine F1 1 aW ?_;exact yX [1] (none,0) Q12;refine yB λp1=>?_;refine F0 2 aW ?_;have r1:=a0.1;refine R0 ?_;refine zG 5 0 3 s.length Z λa4 p2 c1=>?_;refine WX.know (λG hΓ=>(hΓ.get 3 Z).flat) λa3=>?_;refine WX.turn [2] 4 Z (λh hs=>acx hs a3) Z ?_;refine yE 5 4 5 ?_;exact zX [6] (p2,c1) Q12
theorem f92 (hn:n+0<=9){s:List aQ}(N0:Rd w K0 M0 s)(a0:ok n s):
 DP 92 #[vS K0 s M0] w (pS w n s):=by
 have hb:=bS0 hn;refine EN Tryz.func92 Z (aS1 N0) ?_;refine KS Z Z Z Z (λ_ hΓ=>ahq ttOk Z Z Z Z) ?_;refine zKA 4 (λa1=>?_) (λa1=>?_);obtain rfl:K0=none:=by simpa using a1
 refine WX.know (λG hΓ=>ah0 (hΓ.get 0 Z)) λa2=>?_;subst a2;refine F1 1 aQ ?_;exact yX [1] (none,0) Q12;refine yB λp1=>?_;refine F0 2 aQ ?_;have r1:=a0.1;refine R0 ?_;refine zG 5 0 3 s.length Z λa4 p2 c1=>?_;refine WX.know (λG hΓ=>(hΓ.get 3 Z).flat) λa3=>?_;refine WX.turn [2] 4 Z (λh hs=>acx hs a3) Z ?_;refine yE 5 4 5 ?_;exact zX [6] (p2,c1) Q12
theorem f48 (hn:n+0<=9){s:List Int}(N0:Rd w K0 M0 s)(a0:ok n s):
 DP 48 #[vS K0 s M0] w (pS w n s):=by
 have hb:=bS0 hn;refine EN Tryz.func48 Z (aS1 N0) ?_;refine KS Z Z Z Z (λ_ hΓ=>ahq ttOk Z Z Z Z) ?_;refine zKA 4 (λa1=>?_) (λa1=>?_);obtain rfl:K0=none:=by simpa using a1
 refine WX.know (λG hΓ=>ah0 (hΓ.get 0 Z)) λa2=>?_;subst a2;refine F1 1 Int ?_;exact yX [1] (none,0) Q12;refine yB λp1=>?_;refine F0 2 Int ?_;have r1:=a0.1;refine R0 ?_;refine zG 5 0 3 s.length Z λa4 p2 c1=>?_;refine WX.know (λG hΓ=>(hΓ.get 3 Z).flat) λa3=>?_;refine WX.turn [2] 4 Z (λh hs=>acx hs a3) Z ?_;refine yE 5 4 5 ?_;exact zX [6] (p2,c1) Q12
theorem f102 (hn:n+0<=9)(w_:bJ)(N0:Rd w K0 M0 w_.name.parts)(a0:ok n w_):
 DP 102 #[afr w_ K0 M0] w (pA w n (ab5 w_)):=by
 refine EN Tryz.func102 Z (aS1 N0) ?_;refine KF Z 1 Z O (λw Y=>f35 n Q0 w_.name (Y.q 0 Z) (a0.1)) ?_;rintro ⟨p1,c1⟩ a1;rw [show ab5 w_=(bJ.mk (a0l w_.name) w_.bI w_.cM w_.cD) by simp only [ab5]];exact yX [2] ((p1,c1),(),(),()) (An a1 (An a0.2.1 (An a0.2.2.1 a0.2.2.2)))
theorem f95 (hn:n+0<=9){l:List aJ}(N0:Rd w K0 M0 l)(a4:ok n l):
 DP 95 #[vS K0 l M0] w (pS w n (a7b l)):=by
 have hb:=bS0 hn;refine EN Tryz.func95 Z (aS1 N0) ?_;refine yB λp1=>?_;refine F0 1 aJ ?_;have r1:=a4.1;refine LM Z (p1,0,[],[],0) (λ|(a2,a3,a1,a0,i)=>((i<=l.length)/\JE n a0/\(a0.length<=i)/\(a9q l []=a9q (l.drop i) a0),l.length-i,[(3,.v (vS a2 a0 a3)),(9,.v (vI i))],[],[(6,⟨5,a2,a0.length,a3,a1⟩)],[(1,MF.ol a1 a0)])) ⟨zl,nA,Q10,Z⟩ [8,7] [] [0] [0,1] ?_;rintro ⟨a2,a3,a1,a0,i⟩ ⟨v1,v2,v3,v4⟩;refine yKD 10 ?_ ?_<;>intro h1 ac
 obtain ⟨e1,a6,a8,a9⟩:=gO a4 i;refine yI 0 i a9 ?_;rintro ab rfl;refine zL 0 2 e1 a6 ?_;rintro ⟨⟨p2,c1⟩,⟨p3,c2⟩,⟨p4,c3⟩,_⟩;refine KF Z 5 Z O (λw Y=>f103 n Q0 e1 (Y.q 2 Z) (Y.q 3 Z) (Y.q 4 Z) a8) ?_;rintro ⟨⟨p5,c4⟩,⟨p6,c5⟩,⟨p7,c6⟩,_⟩ aa;refine zB λp8=>?_;refine zT [8,9,10] 11 (a3o e1) ((p5,c4),(p6,c5),(p7,c6),(),()) λa7=>?_;refine zP 6 16 (a0++[(a3o e1)]).length a7 λp9 c7=>?_;refine zV [1,11] 12 ?_;refine SA ?_;refine zU [12] 1 ?_
 exact ITr Z (p9,c7,_,(a0++[(a3o e1)]),i+1) ⟨Q0,(ac2 v2 (all_cons aa nA)),Q3,(by rw [v4,abu a6];simp only [a9q])⟩ Q1 [0,1];have a5:=v4.trans (show _=a0 by rw [dn];simp only [a9q];omega);refine yE 6 1 14 ?_;rw [show a7b l=a0 by simp only [a7b,a5]];exact zX [15] (a2,a3) (aby Q0 v2)
theorem f93 (hn:n+0<=9){l:List Key}(N0:Rd w K0 M0 l)(a4:ok n l):
 DP 93 #[vS K0 l M0] w (pS w n (a9s l)):=by
 have hb:=bS0 hn;refine EN Tryz.func93 Z (aS1 N0) ?_;refine yB λp1=>?_;refine F0 1 Key ?_;have r1:=a4.1;refine LM Z (p1,0,[],[],0) (λ|(a2,a3,a1,a0,i)=>((i<=l.length)/\JE n a0/\(a0.length<=i)/\(a9r l []=a9r (l.drop i) a0),l.length-i,[(3,.v (vS a2 a0 a3)),(9,.v (vI i))],[],[(6,⟨2,a2,a0.length,a3,a1⟩)],[(1,MF.ol a1 a0)])) ⟨zl,nA,Q10,Z⟩ [8,7] [] [0] [0,1] ?_;rintro ⟨a2,a3,a1,a0,i⟩ ⟨v1,v2,v3,v4⟩;refine yKD 10 ?_ ?_<;>intro h1 ad;obtain ⟨e1,a7,a5,a9⟩:=gO a4 i
 refine yI 0 i a9 ?_;rintro ac rfl;refine zL 0 2 e1 a7 ?_;rintro ⟨⟨p2,c1⟩,_⟩;refine yD [8,9] λbs G0 ab=>?_;refine dT 5 [1,3,4,9,10] ?_;refine DXF 3 3 Z J Z O (λw Y=>f35 n Q0 e1.name (Y.q 2 Z) (a5.1)) ?_;rintro ⟨p3,c2⟩ aa;refine dT 3 [13] ?_;refine DX.tail2 [7,8,9] Z Z J ?_;refine zB λp4=>?_;refine zT [4] 5 (Key.mk (a0l e1.name) e1.bZ) ((p3,c2),()) λ_=>?_;refine WX.know (λG hΓ=>(hΓ.get 5 Z).rd.one) λa8=>?_
 refine zP 6 20 (a0++[(Key.mk (a0l e1.name) e1.bZ)]).length a8 λp5 c3=>?_;refine zV [1,5] 6 ?_;refine SA ?_;refine zU [6] 1 ?_;exact ITr Z (p5,c3,_,(a0++[(Key.mk (a0l e1.name) e1.bZ)]),i+1) ⟨Q0,(ac2 v2 (all_cons (An aa a5.2) nA)),Q3,(by rw [v4,abu a7];simp only [a9r])⟩ Q1 [0,1];have a6:=v4.trans (show _=a0 by rw [dn];simp only [a9r];omega)
 refine yE 6 1 14 ?_;rw [show a9s l=a0 by simp only [a9s,a6]];exact zX [15] (a2,a3) (aby Q0 v2)
theorem f94 (hn:n+0<=9){l:List aA}(N0:Rd w K0 M0 l)(a4:ok n l):
 DP 94 #[vS K0 l M0] w (pS w n (a9u l)):=by
 have hb:=bS0 hn;refine EN Tryz.func94 Z (aS1 N0) ?_;refine yB λp1=>?_;refine F0 1 aA ?_;have r1:=a4.1;refine LM Z (p1,0,[],[],0) (λ|(a2,a3,a1,a0,i)=>((i<=l.length)/\JE n a0/\(a0.length<=i)/\(a9t l []=a9t (l.drop i) a0),l.length-i,[(3,.v (vS a2 a0 a3)),(9,.v (vI i))],[],[(6,⟨1,a2,a0.length,a3,a1⟩)],[(1,MF.ol a1 a0)])) ⟨zl,nA,Q10,Z⟩ [8,7] [] [0] [0,1] ?_;rintro ⟨a2,a3,a1,a0,i⟩ ⟨v1,v2,v3,v4⟩;refine yKD 10 ?_ ?_<;>intro h1 ac
 obtain ⟨e1,a6,a8,a9⟩:=gO a4 i;refine yI 0 i a9 ?_;rintro ab rfl;refine zL 0 2 e1 a6 ?_;rintro ⟨p2,c1⟩;refine KF Z 3 Z O (λw Y=>f35 n Q0 e1 (Y.q 2 Z) a8) ?_;rintro ⟨p3,c2⟩ aa;refine zB λp4=>?_;refine zT [4] 5 (a0l e1) _ λa7=>?_;refine zP 6 16 (a0++[(a0l e1)]).length a7 λp5 c3=>?_;refine zV [1,5] 6 ?_;refine SA ?_;refine zU [6] 1 ?_
 exact ITr Z (p5,c3,_,(a0++[(a0l e1)]),i+1) ⟨Q0,(ac2 v2 (all_cons aa nA)),Q3,(by rw [v4,abu a6];simp only [a9t])⟩ Q1 [0,1];have a5:=v4.trans (show _=a0 by rw [dn];simp only [a9t];omega);refine yE 6 1 14 ?_;rw [show a9u l=a0 by simp only [a9u,a5]];exact zX [15] (a2,a3) (aby Q0 v2)
theorem f100 (hn:n+0<=9){s:List bA}(N0:Rd w K0 M0 s)(a4:ok n s):
 DP 100 #[vS K0 s M0] w (pS w n (aam s)):=by
 have hb:=bS0 hn;refine EN Tryz.func100 Z (aS1 N0) ?_;refine yB λp1=>?_;refine F0 1 bA ?_;have r1:=a4.1;refine LM Z (p1,0,[],[],0) (λ|(a2,a3,a1,a0,i)=>((i<=s.length)/\JE n a0/\(a0.length<=i)/\(a9v s []=a9v (s.drop i) a0),s.length-i,[(3,.v (vS a2 a0 a3)),(9,.v (vI i))],[],[(6,⟨2,a2,a0.length,a3,a1⟩)],[(1,MF.ol a1 a0)])) ⟨zl,nA,Q10,Z⟩ [8,7] [] [0] [0,1] ?_;rintro ⟨a2,a3,a1,a0,i⟩ ⟨v1,v2,v3,v4⟩;refine yKD 10 ?_ ?_<;>intro h1 ad
 obtain ⟨e1,a7,a5,a9⟩:=gO a4 i;refine yI 0 i a9 ?_;rintro ac rfl;refine zL 0 2 e1 a7 ?_;rintro ⟨⟨p2,c1⟩,_⟩;refine yD [8,9] λbs G0 ab=>?_;refine dT 5 [1,3,4,9,10] ?_;refine DXF 3 3 Z J Z O (λw Y=>f35 n Q0 e1.name (Y.q 2 Z) (a5.1)) ?_;rintro ⟨p3,c2⟩ aa;refine dT 3 [13] ?_;refine DX.tail2 [7,8,9] Z Z J ?_;refine zB λp4=>?_;refine zT [4] 5 (bA.mk (a0l e1.name) e1.bI) ((p3,c2),()) λ_=>?_;refine WX.know (λG hΓ=>(hΓ.get 5 Z).rd.one) λa8=>?_
 refine zP 6 20 (a0++[(bA.mk (a0l e1.name) e1.bI)]).length a8 λp5 c3=>?_;refine zV [1,5] 6 ?_;refine SA ?_;refine zU [6] 1 ?_;exact ITr Z (p5,c3,_,(a0++[(bA.mk (a0l e1.name) e1.bI)]),i+1) ⟨Q0,(ac2 v2 (all_cons (An aa a5.2) nA)),Q3,(by rw [v4,abu a7];simp only [a9v])⟩ Q1 [0,1]
 have a6:=v4.trans (show _=a0 by rw [dn];simp only [a9v];omega);refine yE 6 1 14 ?_;rw [show aam s=a0 by simp only [aam,a6]];exact zX [15] (a2,a3) (aby Q0 v2)
theorem f77 (hn:n+0<=9){l:List aB}(N0:Rd w K0 M0 l)(a5:ok n l):
 DP 77 #[vS K0 l M0] w (pS w n (a0g l)):=by
 have hb:=bS0 hn;refine EN Tryz.func77 Z (aS1 N0) ?_;refine yB λp1=>?_;refine F0 1 aB ?_;have r1:=a5.1;refine LM Z (p1,0,[],[],0) (λ|(a2,a3,a1,a0,i)=>((i<=l.length)/\JE n a0/\(a0.length<=i)/\(a7c l []=a7c (l.drop i) a0),l.length-i,[(3,.v (vS a2 a0 a3)),(9,.v (vI i))],[],[(6,⟨3,a2,a0.length,a3,a1⟩)],[(1,MF.ol a1 a0)])) ⟨zl,nA,Q10,Z⟩ [8,7] [] [0] [0,1] ?_;rintro ⟨a2,a3,a1,a0,i⟩ ⟨v1,v2,v3,v4⟩;refine yKD 10 ?_ ?_<;>intro h1 ad
 obtain ⟨e1,a7,a4,a9⟩:=gO a5 i;refine yI 0 i a9 ?_;rintro ac rfl;refine zL 0 2 e1 a7 ?_;rintro ⟨⟨p2,c1⟩,_⟩;refine yD [10,11] λbs G0 ab=>?_;refine dT 5 [1,3,4,9,10,13,14] ?_;refine DXF 3 3 Z J Z O (λw Y=>f35 n Q0 e1.pfx (Y.q 2 Z) (a4.1)) ?_;rintro ⟨p3,c2⟩ aa;refine dT 3 [17] ?_;refine DX.tail2 [9,10,11] Z Z J ?_;refine zB λp4=>?_;refine zT [4] 5 (aB.mk (a0l e1.pfx) e1.face e1.cost) ((p3,c2),(),()) λ_=>?_
 refine WX.know (λG hΓ=>(hΓ.get 5 Z).rd.one) λa8=>?_;refine zP 6 22 (a0++[(aB.mk (a0l e1.pfx) e1.face e1.cost)]).length a8 λp5 c3=>?_;refine zV [1,5] 6 ?_;refine SA ?_;refine zU [6] 1 ?_
 exact ITr Z (p5,c3,_,(a0++[(aB.mk (a0l e1.pfx) e1.face e1.cost)]),i+1) ⟨Q0,(ac2 v2 (all_cons (An aa (An a4.2.1 a4.2.2)) nA)),Q3,(by rw [v4,abu a7];simp only [a7c])⟩ Q1 [0,1];have a6:=v4.trans (show _=a0 by rw [dn];simp only [a7c];omega);refine yE 6 1 14 ?_;rw [show a0g l=a0 by simp only [a0g,a6]]
 exact zX [15] (a2,a3) (aby Q0 v2)
theorem f101 (hn:n+0<=9){l:List aS}(N0:Rd w K0 M0 l)(a5:ok n l):
 DP 101 #[vS K0 l M0] w (pS w n (aan l)):=by
 have hb:=bS0 hn;refine EN Tryz.func101 Z (aS1 N0) ?_;refine yB λp1=>?_;refine F0 1 aS ?_;have r1:=a5.1;refine LM Z (p1,0,[],[],0) (λ|(a2,a3,a1,a0,i)=>((i<=l.length)/\JE n a0/\(a0.length<=i)/\(a9w l []=a9w (l.drop i) a0),l.length-i,[(3,.v (vS a2 a0 a3)),(9,.v (vI i))],[],[(6,⟨3,a2,a0.length,a3,a1⟩)],[(1,MF.ol a1 a0)])) ⟨zl,nA,Q10,Z⟩ [8,7] [] [0] [0,1] ?_;rintro ⟨a2,a3,a1,a0,i⟩ ⟨v1,v2,v3,v4⟩
 refine yKD 10 ?_ ?_<;>intro h1 ad;obtain ⟨e1,a7,a4,a9⟩:=gO a5 i;refine yI 0 i a9 ?_;rintro ac rfl;refine zL 0 2 e1 a7 ?_;rintro ⟨⟨p2,c1⟩,_⟩;refine yD [10,11] λbs G0 ab=>?_;refine dT 5 [1,3,4,9,10,13,14] ?_;refine DXF 3 3 Z J Z O (λw Y=>f35 n Q0 e1.pfx (Y.q 2 Z) (a4.1)) ?_;rintro ⟨p3,c2⟩ aa;refine dT 3 [17] ?_;refine DX.tail2 [9,10,11] Z Z J ?_;refine zB λp4=>?_;refine zT [4] 5 (aS.mk (a0l e1.pfx) e1.face e1.cE) ((p3,c2),(),()) λ_=>?_
 refine WX.know (λG hΓ=>(hΓ.get 5 Z).rd.one) λa8=>?_;refine zP 6 22 (a0++[(aS.mk (a0l e1.pfx) e1.face e1.cE)]).length a8 λp5 c3=>?_;refine zV [1,5] 6 ?_;refine SA ?_;refine zU [6] 1 ?_
 exact ITr Z (p5,c3,_,(a0++[(aS.mk (a0l e1.pfx) e1.face e1.cE)]),i+1) ⟨Q0,(ac2 v2 (all_cons (An aa (An a4.2.1 a4.2.2)) nA)),Q3,(by rw [v4,abu a7];simp only [a9w])⟩ Q1 [0,1];have a6:=v4.trans (show _=a0 by rw [dn];simp only [a9w];omega);refine yE 6 1 14 ?_
 rw [show aan l=a0 by simp only [aan,a6]];exact zX [15] (a2,a3) (aby Q0 v2)
theorem f99 (hn:n+0<=9){l:List aO}(N0:Rd w K0 M0 l)(a5:ok n l):
 DP 99 #[vS K0 l M0] w (pS w n (aao l)):=by
 have hb:=bS0 hn;refine EN Tryz.func99 Z (aS1 N0) ?_;refine yB λp1=>?_;refine F0 1 aO ?_;have r1:=a5.1;refine LM Z (p1,0,[],[],0) (λ|(a2,a3,a1,a0,i)=>((i<=l.length)/\JE n a0/\(a0.length<=i)/\(a9x l []=a9x (l.drop i) a0),l.length-i,[(3,.v (vS a2 a0 a3)),(9,.v (vI i))],[],[(6,⟨3,a2,a0.length,a3,a1⟩)],[(1,MF.ol a1 a0)])) ⟨zl,nA,Q10,Z⟩ [8,7] [] [0] [0,1] ?_;rintro ⟨a2,a3,a1,a0,i⟩ ⟨v1,v2,v3,v4⟩
 refine yKD 10 ?_ ?_<;>intro h1 ae;obtain ⟨e1,a7,a4,aa⟩:=gO a5 i;refine yI 0 i aa ?_;rintro ad rfl;refine zL 0 2 e1 a7 ?_;rintro ⟨⟨p2,c1⟩,⟨p3,c2⟩,_⟩;refine yD [11,12] λbs G0 ac=>?_;refine dT 6 [1,3,4,9,10,15,16] ?_;refine DXF 3 4 Z J Z O (λw Y=>f35 n Q0 e1.name (Y.q 2 Z) (a4.1)) ?_;rintro ⟨p4,c3⟩ ab;refine DXF 6 6 Z J Z O (λw Y=>f143 n Q0 (Y.q 3 Z) (a4.2.1)) ?_;rintro ⟨p5,c4⟩ a8;refine dT 3 [19] ?_;refine DX.tail2 [10,11,12] Z Z J ?_;refine zB λp6=>?_
 refine zT [5,7] 8 (aO.mk (a0l e1.name) e1.bK e1.cH) ((p4,c3),(p5,c4),()) λ_=>?_;refine WX.know (λG hΓ=>(hΓ.get 8 Z).rd.one) λa9=>?_;refine zP 6 23 (a0++[(aO.mk (a0l e1.name) e1.bK e1.cH)]).length a9 λp7 c5=>?_;refine zV [1,8] 9 ?_;refine SA ?_;refine zU [9] 1 ?_
 exact ITr Z (p7,c5,_,(a0++[(aO.mk (a0l e1.name) e1.bK e1.cH)]),i+1) ⟨Q0,(ac2 v2 (all_cons (An ab (An a8 a4.2.2)) nA)),Q3,(by rw [v4,abu a7];simp only [a9x])⟩ Q1 [0,1];have a6:=v4.trans (show _=a0 by rw [dn];simp only [a9x];omega);refine yE 6 1 14 ?_
 rw [show aao l=a0 by simp only [aao,a6]];exact zX [15] (a2,a3) (aby Q0 v2)
theorem f141 (hn:n+0<=9)(c_:bX)(N0:Rd w K0 M0 c_.bB)(keepg:FuncId)(keepc:List Value)(keepq:aT->Bool)(keepf:∀w1,Kp emp w w1->∀(e0:aT) (x0:GoT.X aT),ok n e0->All (hp w1) (GoT.fa .der e0 x0)->Does Tryz.prog keepg ([Value.agg ⟨GoT.sh e0 x0⟩]++keepc).toArray w1 emp (λrv _=>rv= .bool (keepq e0)/\True))(a2:ok n c_):
 DP 141 #[ady c_ K0 M0,.func (.func keepg) #[] keepc.toArray] w (pA w n (ab6 c_ keepq)):=by
 have hb:=bS0 hn;refine EN Tryz.func141 Z (aS1 N0) ?_;refine R0 ?_;refine WX.row0 501 6 none Z ?_;refine F0 1 aT ?_;have r1:=(okl a2.2).1
 refine LK (0,none,0,[],[]) (λ|(i,a3,a4,a0,a1)=>((i<=c_.bB.length)/\JE n a1/\(a1.length<=i)/\(a6b keepq c_.bB []=a6b keepq (c_.bB.drop i) a1),c_.bB.length-i,[(14,.v (vI i))],[(5,⟨68,[.int .i64 (c_.cA),.slice a3 (a1.length) a4]⟩)],[(501,⟨6,a3,a1.length,a4,a0⟩)],[(1,MF.ol a0 a1)])) ⟨zl,nA,Q10,Z⟩ [13,12,5,4,1] [4] [0] [0,1] ?_;rintro ⟨i,a3,a4,a0,a1⟩ ⟨v1,v2,v3,v4⟩;refine yKD 15 ?_ ?_<;>intro h1 ae
 obtain ⟨e1,a6,a5,aa⟩:=gO a2.2 i;refine yI 0 i aa ?_;rintro ac rfl;refine zL 0 2 e1 a6 ?_;rintro ⟨⟨⟨p1,c1⟩,⟨p2,c2⟩,⟨p3,c3⟩,_⟩,_⟩;refine KW Z Z Z Z Z Z O Z (λw G bs hI hΓ=>keepf w hI.keep e1 _ a5 (All.cons (hΓ.get 2 Z:RdSl _ _ _ _) (All.cons (hΓ.get 3 Z:RdSl _ _ _ _) (All.cons (hΓ.get 4 Z:RdSl _ _ _ _) All.nil)))) λad=>?_;refine yKA 20 ?_ ?_<;>intro h2;refine yD [9,10,11] λbs G0 ab=>?_;refine dT 6 [1,2,5,6,11,12] ?_
 refine DXF 4 5 Z J Z O (λw Y=>f103 n Q0 e1.data (Y.q 2 Z) (Y.q 3 Z) (Y.q 4 Z) (a5.1)) ?_;rintro ⟨⟨p4,c4⟩,⟨p5,c5⟩,⟨p6,c6⟩,_⟩ a8;refine dT 4 [15] ?_;refine DX.tail2 [8,9,10,11] Z Z J ?_;refine zB λp7=>?_;refine zT [8,9,10] 11 (aT.mk (a3o e1.data) e1.cO) (((p4,c4),(p5,c5),(p6,c6),(),()),()) λ_=>?_;refine WX.know (λG hΓ=>(hΓ.get 11 Z).rd.one) λa9=>?_
 refine zP 501 29 (a1++[(aT.mk (a3o e1.data) e1.cO)]).length a9 λp8 c7=>?_;refine zV [1,11] 12 ?_;refine SA ?_;refine zU [12] 1 ?_;exact ITr Z (i+1,p8,c7,_,(a1++[(aT.mk (a3o e1.data) e1.cO)])) ⟨Q0,(ac2 v2 (all_cons (An a8 a5.2) nA)),Q3,(by rw [v4,abu a6];simp only [a6b,h2,cC])⟩ Q1 [0,1];refine SA ?_
 exact ITr Z (i+1,a3,a4,a0,a1) ⟨Q0,v2,Q3,(by rw [v4,abu a6];simp only [a6b,h2,cC])⟩ Q1 [0,1];have a7:=v4.trans (show _=a1 by rw [dn];simp only [a6b];omega);refine yE 501 1 14 ?_;rw [show ab6 c_ keepq=(bX.mk c_.cA a1) by simp only [ab6,a7]];exact zX [15] ((),(a3,a4)) (An a2.1 (aby Q0 v2))
theorem f142 (hn:n+0<=9)(e_:aT)(N0:Rd w K0 M0 e_.data.name.parts)(N1:Rd w K1 M1 e_.data.content)(N2:Rd w K2 M2 e_.data.aR.parts)(a0:ok n e_):
 DP 142 #[.agg #[vS K0 e_.data.name.parts M0,vS K1 e_.data.content M1,vS K2 e_.data.aR.parts M2,vI e_.data.bL,vI e_.data.cF,vI e_.cO]] w (pB (aap e_)):=by
 refine EN Tryz.func142 Z (aS3 N0 N1 N2) ?_;exact R4r Z Z (by simp only [aap])
theorem f98 (hn:n+0<=9)(c_:bX)(N0:Rd w K0 M0 c_.bB)(a2:ok n c_):
 DP 98 #[ady c_ K0 M0] w (pA w n (aaq c_)):=by
 refine EN Tryz.func98 Z (aS1 N0) ?_;refine KF Z 1 Z O (λw Y=>f141 n Q0 c_ (Y.q 0 Z) 142 [] (λa0=>(aap a0)) (λa6 a7 a0 a3 a4 a1=>f142 n Q0 a0 (a1 _ List.mem_cons_self) (a1 (MF.rs .der a3.1.2.1.1 a3.1.2.1.2 a0.data.content) (by simp [GoT.fa])) (a1 (MF.rs .der a3.1.2.2.1.1 a3.1.2.2.1.2 a0.data.aR.parts) (by simp [GoT.fa])) a4) a2) ?_;rintro ⟨_,p1,c1⟩ a5;rw [show aaq c_=(ab6 c_ (λa0=>(aap a0))) by simp only [aaq]];exact yX [2] _ a5
theorem f117 (hn:n+0<=9)(w_:bJ)(N0:Rd w K0 M0 w_.name.parts)(a0:ok n w_):
 DP 117 #[afr w_ K0 M0] w (pA w n (a1g w_)):=by
 refine EN Tryz.func117 Z (aS1 N0) ?_;refine KF Z 1 Z O (λw Y=>f110 n Q0 w_.name (Y.q 0 Z) (a0.1)) ?_;rintro ⟨p1,c1⟩ a1;rw [show a1g w_=(bJ.mk (a05 w_.name) w_.bI w_.cM w_.cD) by simp only [a1g]];exact yX [2] ((p1,c1),(),(),()) (An a1 (An a0.2.1 (An a0.2.2.1 a0.2.2.2)))
theorem f108 (hn:n+0<=9){l:List Key}(N0:Rd w K0 M0 l)(a4:ok n l):
 DP 108 #[vS K0 l M0] w (pS w n (a8i l)):=by
 have hb:=bS0 hn;refine EN Tryz.func108 Z (aS1 N0) ?_;refine yB λp1=>?_;refine F0 1 Key ?_;have r1:=a4.1;refine LM Z (p1,0,[],[],0) (λ|(a2,a3,a1,a0,i)=>((i<=l.length)/\JE n a0/\(a0.length<=i)/\(a9y l []=a9y (l.drop i) a0),l.length-i,[(3,.v (vS a2 a0 a3)),(4,.v (vI i))],[],[(6,⟨2,a2,a0.length,a3,a1⟩)],[(1,MF.ol a1 a0)])) ⟨zl,nA,Q10,Z⟩ [0] [] [0] [0,1] ?_;rintro ⟨a2,a3,a1,a0,i⟩ ⟨v1,v2,v3,v4⟩;refine yKD 10 ?_ ?_<;>intro h1 ae;obtain ⟨e1,a6,a5,a8⟩:=gO a4 i
 refine yI 0 i a8 ?_;rintro ad rfl;refine yL 0 2 e1 a6 ?_;rintro ⟨⟨p2,c1⟩,_⟩;refine CF 3 Z O (λw Y=>f110 n Q0 e1.name (Y.q 2 Z) (a5.1)) ?_;rintro ⟨p3,c2⟩ ab;refine yD [9,10] λbs G0 a9=>?_;refine dT 7 [1,2,5,7] ?_;refine zDI 4 0 i a9 Z a8 ?_;rintro ac ⟨⟩;refine dT 5 [11] ?_;refine zDL 6 0 5 e1 a9 a6 ?_;rintro ⟨⟨p4,c3⟩,_⟩;refine dT 3 [15] ?_;refine DX.tail2 [8,9,10] Z Z J ?_;refine zB λp5=>?_;refine zT [4] 6 (Key.mk (a05 e1.name) e1.bZ) ((p3,c2),()) λ_=>?_
 refine WX.know (λG hΓ=>(hΓ.get 6 Z).rd.one) λaa=>?_;refine zP 6 27 (a0++[(Key.mk (a05 e1.name) e1.bZ)]).length aa λp6 c4=>?_;refine zV [1,6] 7 ?_;refine SA ?_;refine zU [7] 1 ?_;exact ITr Z (p6,c4,_,(a0++[(Key.mk (a05 e1.name) e1.bZ)]),i+1) ⟨Q0,(ac2 v2 (all_cons (An ab a5.2) nA)),Q3,(by rw [v4,abu a6];simp only [a9y])⟩ Q1 [0,1]
 have a7:=v4.trans (show _=a0 by rw [dn];simp only [a9y];omega);refine yE 6 1 14 ?_;rw [show a8i l=a0 by simp only [a8i,a7]];exact zX [15] (a2,a3) (aby Q0 v2)
theorem f109 (hn:n+0<=9)(r:bO)(N0:Rd w K0 M0 r.cJ.parts)(N1:Rd w K1 M1 r.cK.parts)(a0:ok n r):
 DP 109 #[.agg #[vS K0 r.cJ.parts M0,vS K1 r.cK.parts M1]] w (pA w n (a7d r)):=by
 have hb:=bS0 hn;refine EN Tryz.func109 Z (aS2 N0 N1) ?_;refine yD [13] λbs G0 a5=>?_;refine dT 8 [3,5,6,15,17,18] ?_;refine DX.toTX λS_=>?_;refine TX.all2 0 6 J ?_ ?_;refine TS.op 0 Z J ?_;refine zB λp1=>?_;refine R0 ?_;refine WX.back0 ?_;refine TX.all2 4 6 J ?_ ?_;have r1:=(okl (ada (ae5 a0).1)).1;refine TS.opK 4 Z (adl (α:=Str) 3 0 (r.cJ.parts:List Str).length ttOk Z Z Z Z Z Z Z Z Z Q10 Q0 Q0 Z) ?_;refine F0 2 Str ?_;refine zG 3 0 3 (r.cJ.parts:List Str).length Z λa4 p2 c1=>?_
 refine WX.know (λG hΓ=>(hΓ.get 3 Z:RdL _ _ _).flat) λa1=>?_;refine WX.turn [2] 4 Z (λh hs=>acx hs a1) Z ?_;refine R0 ?_;refine WX.back0 ?_;refine TX.all2 5 6 J ?_ ?_;refine TS.opK 5 Z (adp ttOk Z) ?_;refine R0 ?_;refine WX.back0 ?_;refine TX.all1 6 J ?_;refine TS.op 6 Z J ?_;refine zB λp3=>?_;refine R0 ?_;refine WX.back0 ?_;refine TX.all1 10 J ?_;have r1:=(okl (ada (ae5 a0).2)).1;refine TS.opK 10 Z (adl (α:=Str) 9 1 (r.cK.parts:List Str).length ttOk Z Z Z Z Z Z Z Z Z Q10 Q0 Q0 Z) ?_;refine F0 5 Str ?_
 refine zG 9 1 6 (r.cK.parts:List Str).length Z λa3 p4 c2=>?_;refine WX.know (λG hΓ=>(hΓ.get 6 Z:RdL _ _ _).flat) λa2=>?_;refine WX.turn [5] 7 Z (λh hs=>acx hs a2) Z ?_;refine R0 ?_;refine WX.back0 ?_;refine TX.all1 11 J ?_;refine TS.opK 11 Z (adp ttOk Z) ?_;refine R0 ?_;refine WX.back0 ?_;refine TX.all1 12 J ?_;refine TS.opK 12 Z (adp ttOk Z) ?_;refine R0 ?_;refine WX.back0 ?_;refine TX.tail [13] Z Z J ?_;refine yE 3 4 8 ?_;refine zE 9 7 10 ?_;rw [show a7d r=r by simp only [a7d]]
 exact zX [9,11] ((p2,c1),(p4,c2)) (An (aby Q0 (okl (ada (ae5 a0).1)).2:ok n (r.cJ.parts:List Str)) (aby Q0 (okl (ada (ae5 a0).2)).2:ok n (r.cK.parts:List Str)));refine TS.op 6 Z J ?_;refine zB λp3=>?_;rotate_left;refine TS.op 6 Z J ?_;refine zB λp3=>?_;refine R0 ?_;refine WX.back0 ?_;refine TX.all1 4 J ?_;have r1:=(okl (ada (ae5 a0).1)).1;refine TS.opK 4 Z (adl (α:=Str) 3 0 (r.cJ.parts:List Str).length ttOk Z Z Z Z Z Z Z Z Z Q10 Q0 Q0 Z) ?_
 refine F0 2 Str ?_;refine zG 3 0 3 (r.cJ.parts:List Str).length Z λa4 p2 c1=>?_;refine WX.know (λG hΓ=>(hΓ.get 3 Z:RdL _ _ _).flat) λa1=>?_;refine WX.turn [2] 4 Z (λh hs=>acx hs a1) Z ?_;rotate_left;refine TS.op 6 Z J ?_;refine zB λp3=>?_;refine R0 ?_;refine WX.back0 ?_;refine TX.all1 0 J ?_;refine TS.op 0 Z J ?_;refine zB λp1=>?_;refine R0 ?_;refine WX.back0 ?_;refine TX.all1 4 J ?_;have r1:=(okl (ada (ae5 a0).1)).1
 refine TS.opK 4 Z (adl (α:=Str) 3 0 (r.cJ.parts:List Str).length ttOk Z Z Z Z Z Z Z Z Z Q10 Q0 Q0 Z) ?_;refine F0 2 Str ?_;refine zG 3 0 3 (r.cJ.parts:List Str).length Z λa4 p2 c1=>?_;refine WX.know (λG hΓ=>(hΓ.get 3 Z:RdL _ _ _).flat) λa1=>?_;refine WX.turn [2] 4 Z (λh hs=>acx hs a1) Z ?_;rotate_left
 all_goals
  refine R0 ?_;refine WX.back0 ?_;refine TX.all2 5 10 J ?_ ?_;refine TS.opK 5 Z (adp ttOk Z) ?_;refine R0 ?_;refine WX.back0 ?_;refine TX.all1 10 J ?_;have r1:=(okl (ada (ae5 a0).2)).1;refine TS.opK 10 Z (adl (α:=Str) 9 1 (r.cK.parts:List Str).length ttOk Z Z Z Z Z Z Z Z Z Q10 Q0 Q0 Z) ?_;refine F0 5 Str ?_;refine zG 9 1 6 (r.cK.parts:List Str).length Z λa3 p4 c2=>?_;refine WX.know (λG hΓ=>(hΓ.get 6 Z:RdL _ _ _).flat) λa2=>?_;refine WX.turn [5] 7 Z (λh hs=>acx hs a2) Z ?_;refine R0 ?_
  refine WX.back0 ?_;refine TX.all1 11 J ?_;refine TS.opK 11 Z (adp ttOk Z) ?_;rotate_left;have r1:=(okl (ada (ae5 a0).2)).1;refine TS.opK 10 Z (adl (α:=Str) 9 1 (r.cK.parts:List Str).length ttOk Z Z Z Z Z Z Z Z Z Q10 Q0 Q0 Z) ?_;refine F0 5 Str ?_;refine zG 9 1 6 (r.cK.parts:List Str).length Z λa3 p4 c2=>?_;refine WX.know (λG hΓ=>(hΓ.get 6 Z:RdL _ _ _).flat) λa2=>?_;refine WX.turn [5] 7 Z (λh hs=>acx hs a2) Z ?_;refine R0 ?_;refine WX.back0 ?_;refine TX.all2 5 11 J ?_ ?_
  refine TS.opK 5 Z (adp ttOk Z) ?_;refine R0 ?_;refine WX.back0 ?_;refine TX.all1 11 J ?_;refine TS.opK 11 Z (adp ttOk Z) ?_;rotate_left;refine TS.opK 11 Z (adp ttOk Z) ?_;refine R0 ?_;refine WX.back0 ?_;refine TX.all1 5 J ?_;refine TS.opK 5 Z (adp ttOk Z) ?_;rotate_left
  all_goals
   refine R0 ?_;refine WX.back0 ?_;refine TX.all1 12 J ?_;refine TS.opK 12 Z (adp ttOk Z) ?_;refine R0 ?_;refine WX.back0 ?_;refine TX.tail [13] Z Z J ?_;refine yE 3 4 8 ?_;refine zE 9 7 10 ?_;rw [show a7d r=r by simp only [a7d]];exact zX [9,11] ((p2,c1),(p4,c2)) (An (aby Q0 (okl (ada (ae5 a0).1)).2:ok n (r.cJ.parts:List Str)) (aby Q0 (okl (ada (ae5 a0).2)).2:ok n (r.cK.parts:List Str)))
theorem f111 (hn:n+0<=9){l:List aJ}(N0:Rd w K0 M0 l)(a4:ok n l):
 DP 111 #[vS K0 l M0] w (pS w n (a6c l)):=by
 have hb:=bS0 hn;refine EN Tryz.func111 Z (aS1 N0) ?_;refine yB λp1=>?_;refine F0 1 aJ ?_;have r1:=a4.1;refine LM Z (p1,0,[],[],0) (λ|(a2,a3,a1,a0,i)=>((i<=l.length)/\JE n a0/\(a0.length<=i)/\(a9z l []=a9z (l.drop i) a0),l.length-i,[(3,.v (vS a2 a0 a3)),(4,.v (vI i))],[],[(6,⟨5,a2,a0.length,a3,a1⟩)],[(1,MF.ol a1 a0)])) ⟨zl,nA,Q10,Z⟩ [0] [] [0] [0,1] ?_;rintro ⟨a2,a3,a1,a0,i⟩ ⟨v1,v2,v3,v4⟩;refine yKD 10 ?_ ?_<;>intro h1 ac
 obtain ⟨e1,a6,a8,a9⟩:=gO a4 i;refine yI 0 i a9 ?_;rintro ab rfl;refine zL 0 2 e1 a6 ?_;rintro ⟨⟨p2,c1⟩,⟨p3,c2⟩,⟨p4,c3⟩,_⟩;refine CF 5 Z O (λw Y=>f118 n Q0 e1 (Y.q 2 Z) (Y.q 3 Z) (Y.q 4 Z) a8) ?_;rintro ⟨⟨p5,c4⟩,⟨p6,c5⟩,⟨p7,c6⟩,_⟩ aa;refine yB λp8=>?_;refine zT [8,9,10] 11 (a0m e1) ((p5,c4),(p6,c5),(p7,c6),(),()) λa7=>?_;refine zP 6 20 (a0++[(a0m e1)]).length a7 λp9 c7=>?_;refine zV [1,11] 12 ?_;refine SA ?_;refine zU [12] 1 ?_
 exact ITr Z (p9,c7,_,(a0++[(a0m e1)]),i+1) ⟨Q0,(ac2 v2 (all_cons aa nA)),Q3,(by rw [v4,abu a6];simp only [a9z])⟩ Q1 [0,1];have a5:=v4.trans (show _=a0 by rw [dn];simp only [a9z];omega);refine yE 6 1 14 ?_;rw [show a6c l=a0 by simp only [a6c,a5]];exact zX [15] (a2,a3) (aby Q0 v2)
theorem f113 (hn:n+0<=9){l:List aO}(N0:Rd w K0 M0 l)(a5:ok n l):
 DP 113 #[vS K0 l M0] w (pS w n (a0k l)):=by
 have hb:=bS0 hn;refine EN Tryz.func113 Z (aS1 N0) ?_;refine yB λp1=>?_;refine F0 1 aO ?_;have r1:=a5.1;refine LM Z (p1,0,[],[],0) (λ|(a2,a3,a1,a0,i)=>((i<=l.length)/\JE n a0/\(a0.length<=i)/\(a5m l []=a5m (l.drop i) a0),l.length-i,[(3,.v (vS a2 a0 a3)),(4,.v (vI i))],[],[(6,⟨3,a2,a0.length,a3,a1⟩)],[(1,MF.ol a1 a0)])) ⟨zl,nA,Q10,Z⟩ [0] [] [0] [0,1] ?_;rintro ⟨a2,a3,a1,a0,i⟩ ⟨v1,v2,v3,v4⟩
 refine yKD 10 ?_ ?_<;>intro h1 aj;obtain ⟨e1,a7,a4,a8⟩:=gO a5 i;refine yI 0 i a8 ?_;rintro ah rfl;refine yL 0 2 e1 a7 ?_;rintro ⟨⟨p2,c1⟩,⟨p3,c2⟩,_⟩;refine CF 4 Z O (λw Y=>f110 n Q0 e1.name (Y.q 2 Z) (a4.1)) ?_;rintro ⟨p4,c3⟩ ae;refine yD [16] λbs G0 a6=>?_;refine dT 14 [1,2,7,9] ?_;refine zDI 5 0 i a6 Z a8 ?_;rintro ag ⟨⟩;refine dT 12 [13] ?_;refine zDL 7 0 6 e1 a6 a7 ?_;rintro ⟨⟨p5,c4⟩,⟨p6,c5⟩,_⟩;refine dT 9 [19,21] ?_;refine zDI 11 0 i a6 Z a8 ?_;rintro af ⟨⟩;refine dT 7 [25] ?_;refine zDL 13 0 8 e1 a6 a7 ?_
 rintro ⟨⟨p7,c6⟩,⟨p8,c7⟩,_⟩;refine DX.toTX λS_=>?_;refine TX.all1 2 J ?_;refine TS.op 2 Z J ?_;refine zB λp9=>?_;refine R0 ?_;refine WX.back0 ?_;refine TX.all1 8 J ?_;have r2:=(okl (abx a4).2.1).1;refine TS.opK 8 Z (adl 21 7 e1.bK.length ttOk Z Z Z Z Z Z Z Z Z Q10 Q0 Q0 Z) ?_;refine F0 10 aW ?_;refine zG 21 7 11 e1.bK.length Z λak ab c8=>?_;refine WX.know (λG hΓ=>(hΓ.get 11 Z).flat) λad=>?_
 refine WX.turn [10] 12 Z (λh hs=>acx hs ad) Z ?_;refine R0 ?_;refine WX.back0 ?_;refine TX.all1 14 J ?_;refine TS.opK 14 Z (adp ttOk Z) ?_;refine R0 ?_;refine WX.back0 ?_;refine TX.all1 15 J ?_;refine TS.op 15 Z J ?_;refine zE 21 12 13 ?_;refine zB λai=>?_;refine R0 ?_;refine WX.back0 ?_;refine TX.all1 16 J ?_;refine TS.op 16 Z J ?_;refine zT [5,14] 15 (aO.mk (a05 e1.name) e1.bK e1.cH) ((p4,c3),(ab,c8),()) λ_=>?_
 refine WX.know (λG hΓ=>(hΓ.get 15 Z).rd.one) λac=>?_;refine zP 6 34 (a0++[(aO.mk (a05 e1.name) e1.bK e1.cH)]).length ac λaa c9=>?_;refine zV [1,15] 16 ?_;refine R0 ?_;refine WX.back0 ?_;refine TX.all1 17 J ?_;refine TS.opK 17 Z (adp ttOk Z) ?_;refine R0 ?_;refine WX.back0 ?_;refine TX.tail [] Z Z J ?_;refine SA ?_;refine zU [16] 1 ?_
 exact ITr Z (aa,c9,_,(a0++[(aO.mk (a05 e1.name) e1.bK e1.cH)]),i+1) ⟨Q0,(ac2 v2 (all_cons (An ae (An (aby Q0 (okl (abx a4).2.1).2) a4.2.2)) nA)),Q3,(by rw [v4,abu a7];simp only [a5m])⟩ Q1 [0,1]
 have a9:=v4.trans (show _=a0 by rw [dn];simp only [a5m];omega);refine yE 6 1 14 ?_;rw [show a0k l=a0 by simp only [a0k,a9]];exact zX [15] (a2,a3) (aby Q0 v2)
theorem f114 (hn:n+0<=9){s:List bA}(N0:Rd w K0 M0 s)(a4:ok n s):
 DP 114 #[vS K0 s M0] w (pS w n (a2g s)):=by
 have hb:=bS0 hn;refine EN Tryz.func114 Z (aS1 N0) ?_;refine yB λp1=>?_;refine F0 1 bA ?_;have r1:=a4.1;refine LM Z (p1,0,[],[],0) (λ|(a2,a3,a1,a0,i)=>((i<=s.length)/\JE n a0/\(a0.length<=i)/\(a6d s []=a6d (s.drop i) a0),s.length-i,[(3,.v (vS a2 a0 a3)),(4,.v (vI i))],[],[(6,⟨2,a2,a0.length,a3,a1⟩)],[(1,MF.ol a1 a0)])) ⟨zl,nA,Q10,Z⟩ [0] [] [0] [0,1] ?_;rintro ⟨a2,a3,a1,a0,i⟩ ⟨v1,v2,v3,v4⟩;refine yKD 10 ?_ ?_<;>intro h1 ae
 obtain ⟨e1,a6,a5,a8⟩:=gO a4 i;refine yI 0 i a8 ?_;rintro ad rfl;refine yL 0 2 e1 a6 ?_;rintro ⟨⟨p2,c1⟩,_⟩;refine CF 3 Z O (λw Y=>f110 n Q0 e1.name (Y.q 2 Z) (a5.1)) ?_;rintro ⟨p3,c2⟩ ab;refine yD [9,10] λbs G0 a9=>?_;refine dT 7 [1,2,5,7] ?_;refine zDI 4 0 i a9 Z a8 ?_;rintro ac ⟨⟩;refine dT 5 [11] ?_;refine zDL 6 0 5 e1 a9 a6 ?_;rintro ⟨⟨p4,c3⟩,_⟩;refine dT 3 [15] ?_;refine DX.tail2 [8,9,10] Z Z J ?_;refine zB λp5=>?_;refine zT [4] 6 (bA.mk (a05 e1.name) e1.bI) ((p3,c2),()) λ_=>?_
 refine WX.know (λG hΓ=>(hΓ.get 6 Z).rd.one) λaa=>?_;refine zP 6 27 (a0++[(bA.mk (a05 e1.name) e1.bI)]).length aa λp6 c4=>?_;refine zV [1,6] 7 ?_;refine SA ?_;refine zU [7] 1 ?_
 exact ITr Z (p6,c4,_,(a0++[(bA.mk (a05 e1.name) e1.bI)]),i+1) ⟨Q0,(ac2 v2 (all_cons (An ab a5.2) nA)),Q3,(by rw [v4,abu a6];simp only [a6d])⟩ Q1 [0,1];have a7:=v4.trans (show _=a0 by rw [dn];simp only [a6d];omega);refine yE 6 1 14 ?_;rw [show a2g s=a0 by simp only [a2g,a7]]
 exact zX [15] (a2,a3) (aby Q0 v2)
theorem f115 (hn:n+0<=9){l:List aB}(N0:Rd w K0 M0 l)(a5:ok n l):
 DP 115 #[vS K0 l M0] w (pS w n (a1d l)):=by
 have hb:=bS0 hn;refine EN Tryz.func115 Z (aS1 N0) ?_;refine yB λp1=>?_;refine F0 1 aB ?_;have r1:=a5.1;refine LM Z (p1,0,[],[],0) (λ|(a2,a3,a1,a0,i)=>((i<=l.length)/\JE n a0/\(a0.length<=i)/\(a7e l []=a7e (l.drop i) a0),l.length-i,[(3,.v (vS a2 a0 a3)),(4,.v (vI i))],[],[(6,⟨3,a2,a0.length,a3,a1⟩)],[(1,MF.ol a1 a0)])) ⟨zl,nA,Q10,Z⟩ [0] [] [0] [0,1] ?_;rintro ⟨a2,a3,a1,a0,i⟩ ⟨v1,v2,v3,v4⟩;refine yKD 10 ?_ ?_<;>intro h1 af
 obtain ⟨e1,a7,a4,a8⟩:=gO a5 i;refine yI 0 i a8 ?_;rintro ae rfl;refine yL 0 2 e1 a7 ?_;rintro ⟨⟨p2,c1⟩,_⟩;refine CF 3 Z O (λw Y=>f110 n Q0 e1.pfx (Y.q 2 Z) (a4.1)) ?_;rintro ⟨p3,c2⟩ ab;refine yD [14,15] λbs G0 a6=>?_;refine dT 12 [1,2,5,7] ?_;refine zDI 4 0 i a6 Z a8 ?_;rintro ad ⟨⟩;refine dT 10 [11] ?_;refine zDL 6 0 5 e1 a6 a7 ?_;rintro ⟨⟨p4,c3⟩,_⟩;refine dT 7 [15,17] ?_;refine zDI 9 0 i a6 Z a8 ?_;rintro ac ⟨⟩;refine dT 5 [21] ?_;refine zDL 11 0 6 e1 a6 a7 ?_;rintro ⟨⟨p5,c4⟩,_⟩;refine dT 3 [25] ?_
 refine DX.tail2 [13,14,15] Z Z J ?_;refine zB λp6=>?_;refine zT [4] 7 (aB.mk (a05 e1.pfx) e1.face e1.cost) ((p3,c2),(),()) λ_=>?_;refine WX.know (λG hΓ=>(hΓ.get 7 Z).rd.one) λaa=>?_;refine zP 6 32 (a0++[(aB.mk (a05 e1.pfx) e1.face e1.cost)]).length aa λp7 c5=>?_;refine zV [1,7] 8 ?_;refine SA ?_;refine zU [8] 1 ?_
 exact ITr Z (p7,c5,_,(a0++[(aB.mk (a05 e1.pfx) e1.face e1.cost)]),i+1) ⟨Q0,(ac2 v2 (all_cons (An ab (An a4.2.1 a4.2.2)) nA)),Q3,(by rw [v4,abu a7];simp only [a7e])⟩ Q1 [0,1];have a9:=v4.trans (show _=a0 by rw [dn];simp only [a7e];omega);refine yE 6 1 14 ?_;rw [show a1d l=a0 by simp only [a1d,a9]]
 exact zX [15] (a2,a3) (aby Q0 v2)
theorem f116 (hn:n+0<=9){l:List aS}(N0:Rd w K0 M0 l)(a5:ok n l):
 DP 116 #[vS K0 l M0] w (pS w n (a0h l)):=by
 have hb:=bS0 hn;refine EN Tryz.func116 Z (aS1 N0) ?_;refine yB λp1=>?_;refine F0 1 aS ?_;have r1:=a5.1;refine LM Z (p1,0,[],[],0) (λ|(a2,a3,a1,a0,i)=>((i<=l.length)/\JE n a0/\(a0.length<=i)/\(a5n l []=a5n (l.drop i) a0),l.length-i,[(3,.v (vS a2 a0 a3)),(4,.v (vI i))],[],[(6,⟨3,a2,a0.length,a3,a1⟩)],[(1,MF.ol a1 a0)])) ⟨zl,nA,Q10,Z⟩ [0] [] [0] [0,1] ?_;rintro ⟨a2,a3,a1,a0,i⟩ ⟨v1,v2,v3,v4⟩;refine yKD 10 ?_ ?_<;>intro h1 af
 obtain ⟨e1,a7,a4,a8⟩:=gO a5 i;refine yI 0 i a8 ?_;rintro ae rfl;refine yL 0 2 e1 a7 ?_;rintro ⟨⟨p2,c1⟩,_⟩;refine CF 3 Z O (λw Y=>f110 n Q0 e1.pfx (Y.q 2 Z) (a4.1)) ?_;rintro ⟨p3,c2⟩ ab;refine yD [14,15] λbs G0 a6=>?_;refine dT 12 [1,2,5,7] ?_;refine zDI 4 0 i a6 Z a8 ?_;rintro ad ⟨⟩;refine dT 10 [11] ?_;refine zDL 6 0 5 e1 a6 a7 ?_;rintro ⟨⟨p4,c3⟩,_⟩;refine dT 7 [15,17] ?_;refine zDI 9 0 i a6 Z a8 ?_;rintro ac ⟨⟩;refine dT 5 [21] ?_;refine zDL 11 0 6 e1 a6 a7 ?_;rintro ⟨⟨p5,c4⟩,_⟩;refine dT 3 [25] ?_
 refine DX.tail2 [13,14,15] Z Z J ?_;refine zB λp6=>?_;refine zT [4] 7 (aS.mk (a05 e1.pfx) e1.face e1.cE) ((p3,c2),(),()) λ_=>?_;refine WX.know (λG hΓ=>(hΓ.get 7 Z).rd.one) λaa=>?_;refine zP 6 32 (a0++[(aS.mk (a05 e1.pfx) e1.face e1.cE)]).length aa λp7 c5=>?_;refine zV [1,7] 8 ?_;refine SA ?_;refine zU [8] 1 ?_
 exact ITr Z (p7,c5,_,(a0++[(aS.mk (a05 e1.pfx) e1.face e1.cE)]),i+1) ⟨Q0,(ac2 v2 (all_cons (An ab (An a4.2.1 a4.2.2)) nA)),Q3,(by rw [v4,abu a7];simp only [a5n])⟩ Q1 [0,1];have a9:=v4.trans (show _=a0 by rw [dn];simp only [a5n];omega);refine yE 6 1 14 ?_;rw [show a0h l=a0 by simp only [a0h,a9]]
 exact zX [15] (a2,a3) (aby Q0 v2)
theorem f112 (hn:n+0<=9)(c_:bX)(N0:Rd w K0 M0 c_.bB)(a2:ok n c_):
 DP 112 #[ady c_ K0 M0] w (pA w n (a12 c_)):=by
 have hb:=bS0 hn;refine EN Tryz.func112 Z (aS1 N0) ?_;refine R0 ?_;refine WX.row0 501 6 none Z ?_;refine F0 1 aT ?_;have r1:=(okl a2.2).1
 refine LK (0,none,0,[],[]) (λ|(i,a3,a4,a1,a0)=>((i<=c_.bB.length)/\JE n a0/\(a0.length<=i)/\(a57 c_.bB []=a57 (c_.bB.drop i) a0),c_.bB.length-i,[(4,.v (vI i))],[(3,⟨68,[.int .i64 (c_.cA),.slice a3 (a0.length) a4]⟩)],[(501,⟨6,a3,a0.length,a4,a1⟩)],[(1,MF.ol a1 a0)])) ⟨zl,nA,Q10,Z⟩ [3,2,1] [2,1] [0] [0,1] ?_;rintro ⟨i,a3,a4,a1,a0⟩ ⟨v1,v2,v3,v4⟩;refine yKD 13 ?_ ?_<;>intro h1 ah
 obtain ⟨e1,a6,a5,a8⟩:=gO a2.2 i;refine yI 0 i a8 ?_;rintro ag rfl;refine yL 0 2 e1 a6 ?_;rintro ⟨⟨⟨p1,c1⟩,⟨p2,c2⟩,⟨p3,c3⟩,_⟩,_⟩;refine CF 5 Z O (λw Y=>f118 n Q0 e1.data (Y.q 2 Z) (Y.q 3 Z) (Y.q 4 Z) (a5.1)) ?_;rintro ⟨⟨p4,c4⟩,⟨p5,c5⟩,⟨p6,c6⟩,_⟩ ad;refine yD [11,12,13] λbs G0 a9=>?_;refine dT 8 [1,2,4,7,8,11] ?_;refine zDI 6 0 i a9 Z a8 ?_;rintro af ⟨⟩;refine dT 6 [15] ?_;refine zDL 8 0 11 e1 a9 a6 ?_;rintro ⟨⟨⟨p7,c7⟩,⟨p8,c8⟩,⟨p9,c9⟩,_⟩,_⟩;refine dT 4 [19] ?_
 refine DX.tail2 [10,11,12,13] Z Z J ?_;refine zB λae=>?_;refine zT [8,9,10] 14 (aT.mk (a0m e1.data) e1.cO) (((p4,c4),(p5,c5),(p6,c6),(),()),()) λ_=>?_;refine WX.know (λG hΓ=>(hΓ.get 14 Z).rd.one) λaa=>?_;refine zP 501 33 (a0++[(aT.mk (a0m e1.data) e1.cO)]).length aa λac ab=>?_;refine zV [1,14] 15 ?_;refine SA ?_;refine zU [15] 1 ?_
 exact ITr Z (i+1,ac,ab,_,(a0++[(aT.mk (a0m e1.data) e1.cO)])) ⟨Q0,(ac2 v2 (all_cons (An ad a5.2) nA)),Q3,(by rw [v4,abu a6];simp only [a57])⟩ Q1 [0,1];have a7:=v4.trans (show _=a0 by rw [dn];simp only [a57];omega);refine yE 501 1 14 ?_;rw [show a12 c_=(bX.mk c_.cA a0) by simp only [a12,a7]]
 exact zX [15] ((),(a3,a4)) (An a2.1 (aby Q0 v2))
theorem f49 (hn:n+0<=9)(x_:aH)(N0:Rd w K0 M0 x_.bF)(N1:Rd w K1 M1 x_.bG.bB)(N2:Rd w K2 M2 x_.bH)(N3:Rd w K3 M3 x_.bS)(N4:Rd w K4 M4 x_.bM)(N5:Rd w K5 M5 x_.bQ)(a0:ok n x_):
 DP 49 #[agh x_ K0 M0 K1 M1 K2 M2 K3 M3 K4 M4 K5 M5] w (pA w n (a8j x_)):=by
 refine EN Tryz.func49 Z (aS6 N0 N1 N2 N3 N4 N5) ?_;refine yD [21] λbs G0 a7=>?_;refine dT 8 [1,2,7,8,13,14,19,20,25,26,31,32,37,38] ?_;refine DXF 2 6 Z J Z O (λw Y=>f95 n Q0 (Y.q 0 Z) (a0.1)) ?_;rintro ⟨p1,c1⟩ a5;refine DXF 5 8 Z J Z O (λw Y=>f98 n Q0 x_.bG (Y.q 1 Z) (a0.2.1)) ?_;rintro ⟨_,p2,c2⟩ a1;refine DXF 8 10 Z J Z O (λw Y=>f99 n Q0 (Y.q 2 Z) (a0.2.2.1)) ?_;rintro ⟨p3,c3⟩ a4;refine DXF 11 12 Z J Z O (λw Y=>f100 n Q0 (Y.q 3 Z) (a0.2.2.2.1)) ?_
 rintro ⟨p4,c4⟩ a2;dsimp only
 refine DXF 14 14 Z J Z O (λw Y=>f77 n Q0 (Y.q 4 Z) (a0.2.2.2.2.1)) ?_;rintro ⟨p5,c5⟩ a6;dsimp only
 refine DXF 17 16 Z J Z O (λw Y=>f101 n Q0 (Y.q 5 Z) (a0.2.2.2.2.2.1)) ?_;rintro ⟨p6,c6⟩ a3;dsimp only
 refine dT 1 [41] ?_;refine DX.tail2 [21] Z Z J ?_;rw [show a8j x_=(aH.mk (a7b x_.bF) (aaq x_.bG) (aao x_.bH) (aam x_.bS) (a0g x_.bM) (aan x_.bQ) x_.aP) by simp only [a8j]];exact yX [7,9,11,13,15,17] ((p1,c1),((),(p2,c2)),(p3,c3),(p4,c4),(p5,c5),(p6,c6),()) (An a5 (An a1 (An a4 (An a2 (An a6 (An a3 a0.2.2.2.2.2.2))))))
theorem f66 (hn:n+0<=9)(x_:aH)(N0:Rd w K0 M0 x_.bF)(N1:Rd w K1 M1 x_.bG.bB)(N2:Rd w K2 M2 x_.bH)(N3:Rd w K3 M3 x_.bS)(N4:Rd w K4 M4 x_.bM)(N5:Rd w K5 M5 x_.bQ)(a0:ok n x_):
 DP 66 #[agh x_ K0 M0 K1 M1 K2 M2 K3 M3 K4 M4 K5 M5] w (pA w n (a00 x_)):=by
 refine EN Tryz.func66 Z (aS6 N0 N1 N2 N3 N4 N5) ?_;refine yD [21] λbs G0 a7=>?_;refine dT 8 [1,2,7,8,13,14,19,20,25,26,31,32,37,38] ?_;refine DXF 2 6 Z J Z O (λw Y=>f111 n Q0 (Y.q 0 Z) (a0.1)) ?_;rintro ⟨p1,c1⟩ a5;refine DXF 5 8 Z J Z O (λw Y=>f112 n Q0 x_.bG (Y.q 1 Z) (a0.2.1)) ?_;rintro ⟨_,p2,c2⟩ a1;refine DXF 8 10 Z J Z O (λw Y=>f113 n Q0 (Y.q 2 Z) (a0.2.2.1)) ?_;rintro ⟨p3,c3⟩ a4;refine DXF 11 12 Z J Z O (λw Y=>f114 n Q0 (Y.q 3 Z) (a0.2.2.2.1)) ?_
 rintro ⟨p4,c4⟩ a2;dsimp only
 refine DXF 14 14 Z J Z O (λw Y=>f115 n Q0 (Y.q 4 Z) (a0.2.2.2.2.1)) ?_;rintro ⟨p5,c5⟩ a6;dsimp only
 refine DXF 17 16 Z J Z O (λw Y=>f116 n Q0 (Y.q 5 Z) (a0.2.2.2.2.2.1)) ?_;rintro ⟨p6,c6⟩ a3;dsimp only
 refine dT 1 [41] ?_;refine DX.tail2 [21] Z Z J ?_;rw [show a00 x_=(aH.mk (a6c x_.bF) (a12 x_.bG) (a0k x_.bH) (a2g x_.bS) (a1d x_.bM) (a0h x_.bQ) x_.aP) by simp only [a00]];exact yX [7,9,11,13,15,17] ((p1,c1),((),(p2,c2)),(p3,c3),(p4,c4),(p5,c5),(p6,c6),()) (An a5 (An a1 (An a4 (An a2 (An a6 (An a3 a0.2.2.2.2.2.2))))))
theorem f45 (hn:n+0<=9)(g:aV)(N0:Rd w K0 M0 g.links)(a0:ok n g):
 DP 45 #[adv g K0 M0] w (pA w n (a5o g)):=by
 refine EN Tryz.func45 Z (aS1 N0) ?_;refine yD [6] λbs G0 a2=>?_;refine dT 3 [1,2,5,6] ?_;refine DXF 4 1 Z J Z O (λw Y=>f92 n Q0 (Y.q 0 Z) (a0.2)) ?_;rintro ⟨p1,c1⟩ a1;refine dT 1 [11] ?_;refine DX.tail2 [6] Z Z J ?_;rw [show a5o g=g by simp only [a5o]];exact yX [2] ((),(p1,c1)) (An a0.1 a1)
theorem f46 (hn:n+0<=9)(t:bU)(N0:Rd w K0 M0 t.keys)(N1:Rd w K1 M1 t.bR)(N2:Rd w K2 M2 t.bV)(N3:Rd w K3 M3 t.bW)(a2:ok n t):
 DP 46 #[ado t K0 M0 K1 M1 K2 M2 K3 M3] w (pA w n (a30 t)):=by
 have hb:=bS0 hn;refine EN Tryz.func46 Z (aS4 N0 N1 N2 N3) ?_;refine yD [11] λbs G0 ac=>?_;refine dT 6 [1,2,7,8,13,14] ?_;refine DX.pend 10 3 ⟨32,[.slice none (0) 0,.slice none (0) 0,.slice none (0) 0,.slice none (0) 0]⟩ ?_;refine DXA.callF 2 4 (λ_ _ h=>GoT.ow_rd h) (λ_ f hf=>GoT.fak f hf) ttOk Z Z Z Z Z Z Z J J J Z Z Z Z Z Z Z Z Z Z O Z Z (λw G bs hI hΓ=>f93 n Q0 (hΓ.get 0 Z) (a2.1)) O O ?_;rintro ⟨p1,c1⟩ ae
 refine DXA.callF 5 6 (λ_ _ h=>GoT.ow_rd h) (λ_ f hf=>GoT.fak f hf) ttOk Z Z Z Z Z Z Z J J J Z Z Z Z Z Z Z Z Z Z O Z Z (λw G bs hI hΓ=>f94 n Q0 (hΓ.get 2 Z) (a2.2.2.1)) O O ?_;rintro ⟨p2,c2⟩ a8;refine DXA.callF 8 8 (λ_ _ h=>GoT.ow_rd h) (λ_ f hf=>GoT.fak f hf) ttOk Z Z Z Z Z Z Z J J J Z Z Z Z Z Z Z Z Z Z O Z Z (λw G bs hI hΓ=>f95 n Q0 (hΓ.get 3 Z) (a2.2.2.2)) O O ?_;rintro ⟨p3,c3⟩ ad;refine DXA.take 9 J J Z Z Z Z Z Z Z Z (akk ttOk Z) ?_;refine DXA.tail [11] ttOk Z Z Z Z Z Z J Z Z J ?_;refine R0 ?_
 refine WX.row0 501 2 none Z ?_;refine F0 10 bO ?_;have r1:=(okl a2.2.1).1
 refine LK (0,none,0,[],[]) (λ|(i,a3,a4,a1,a0)=>((i<=t.bR.length)/\JE n a0/\(a0.length<=i)/\(a8k t.bR []=a8k (t.bR.drop i) a0),t.bR.length-i,[(19,.v (vI i))],[(3,⟨32,[.slice p1 _ c1,.slice a3 (a0.length) a4,.slice p2 ((a9u t.bV).length) c2,.slice p3 ((a7b t.bW).length) c3]⟩)],[(501,⟨2,a3,a0.length,a4,a1⟩)],[(10,MF.ol a1 a0)])) ⟨zl,nA,Q10,Z⟩ [18,17,3,2] [2] [0,1,2,3,5,7,9] [0,1,2,3,5,7,9,10] ?_
 rintro ⟨i,a3,a4,a1,a0⟩ ⟨v1,v2,v3,v4⟩;refine yKD 20 ?_ ?_<;>intro h1 ah;obtain ⟨e1,a7,a6,ab⟩:=gO a2.2.1 i;refine yI 1 i ab ?_;rintro ag rfl;refine zL 1 11 e1 a7 ?_;rintro ⟨⟨p4,c4⟩,p5,c5⟩;refine zW 13 5 ?_;refine zW 14 7 ?_;refine zW 15 9 ?_;refine yD [14,15,16] λbs G0 ac=>?_;refine dT 9 [1,2,5,7,8,15,17,18] ?_;refine DXF 5 16 Z J Z O (λw Y=>f74 n Q0 (Y.q 11 Z) (ada a6.1)) ?_;rintro ⟨p6,c6⟩ aa;refine dT 7 [13] ?_;refine DXF 10 18 Z J Z O (λw Y=>f74 n Q0 (Y.q 12 Z) (ada a6.2)) ?_
 rintro ⟨p7,c7⟩ af;refine dT 4 [23,25] ?_;refine DX.tail2 [13,14,15,16] Z Z J ?_;refine zB λp8=>?_;refine zT [17,19] 20 e1 ((p6,c6),(p7,c7)) λa9=>?_;refine zP 501 36 (a0++[e1]).length a9 λp9 c8=>?_;refine zV [10,20] 21 ?_;refine SA ?_;refine zU [21] 10 ?_
 exact ITr Z (i+1,p9,c8,_,(a0++[e1])) ⟨Q0,(ac2 v2 (all_cons (An aa af) nA)),Q3,(by rw [v4,abu a7];simp only [a8k])⟩ Q1 [0,1,2,3,5,7,9,10];have a5:=v4.trans (show _=a0 by rw [dn];simp only [a8k];omega);refine yE 501 10 23 ?_;rw [show a30 t=(bU.mk (a9s t.keys) a0 (a9u t.bV) (a7b t.bW)) by simp only [a30,a5]]
 exact zX [5,24,7,9] ((p1,c1),(a3,a4),(p2,c2),(p3,c3)) (An ae (An (aby Q0 v2) (An a8 ad)))
theorem f64 (hn:n+0<=9)(t:bU)(N0:Rd w K0 M0 t.keys)(N1:Rd w K1 M1 t.bR)(N2:Rd w K2 M2 t.bV)(N3:Rd w K3 M3 t.bW)(a7:ok n t):
 DP 64 #[ado t K0 M0 K1 M1 K2 M2 K3 M3] w (pA w n (a31 t)):=by
 have hb:=bS0 hn;refine EN Tryz.func64 Z (aS4 N0 N1 N2 N3) ?_;refine KF Z 4 Z O (λw Y=>f108 n Q0 (Y.q 0 Z) (a7.1)) ?_;rintro ⟨p1,c1⟩ aw;refine R0 ?_;refine WX.row0 501 2 none Z ?_;refine F0 6 bO ?_;have r1:=(okl a7.2.1).1
 refine LK (0,none,0,[],[]) (λ|(i,a6,a8,a2,a3)=>((i<=t.bR.length)/\JE n a3/\(a3.length<=i)/\(a8m t.bR []=a8m (t.bR.drop i) a3),t.bR.length-i,[(4,.v (vI i))],[(3,⟨32,[.slice p1 _ c1,.slice a6 (a3.length) a8,.slice none (0) 0,.slice none (0) 0]⟩)],[(501,⟨2,a6,a3.length,a8,a2⟩)],[(6,MF.ol a2 a3)])) ⟨zl,nA,Q10,Z⟩ [3,2,1] [2,1] [0,1,2,3,5] [0,1,2,3,5,6] ?_;rintro ⟨i,a6,a8,a2,a3⟩ ⟨v1,v2,v3,v4⟩
 refine yKD 16 ?_ ?_<;>intro h1 b6;obtain ⟨e1,ai,aq,au⟩:=gO a7.2.1 i;refine yI 1 i au ?_;rintro b4 rfl;refine zL 1 7 e1 ai ?_;rintro ⟨⟨p2,c2⟩,p3,c3⟩;refine CF 9 Z O (λw Y=>f109 n Q0 e1 (Y.q 7 Z) (Y.q 8 Z) aq) ?_;rintro ⟨⟨p4,c4⟩,p5,c5⟩ ak;refine yB λp6=>?_;refine zT [11,12] 13 (a7d e1) _ λao=>?_;refine zP 501 28 (a3++[(a7d e1)]).length ao λp7 c6=>?_;refine zV [6,13] 14 ?_;refine SA ?_;refine zU [14] 6 ?_
 exact ITr Z (i+1,p7,c6,_,(a3++[(a7d e1)])) ⟨Q0,(ac2 v2 (all_cons ak nA)),Q3,(by rw [v4,abu ai];simp only [a8m])⟩ Q1 [0,1,2,3,5,6];have ae:=v4.trans (show _=a3 by rw [dn];simp only [a8m];omega);refine R0 ?_;refine WX.row0 514 1 none Z ?_;refine F0 19 aA ?_;have az:=(okl a7.2.2.1).1
 refine LK (0,none,0,[],[]) (λ|(i,a5,a4,a1,a0)=>((i<=t.bV.length)/\JE n a0/\(a0.length<=i)/\(a8l t.bV []=a8l (t.bV.drop i) a0),t.bV.length-i,[(6,.v (vI i))],[(3,⟨32,[.slice p1 _ c1,.slice a6 (a3.length) a8,.slice a5 (a0.length) a4,.slice none (0) 0]⟩)],[(501,⟨2,a6,a3.length,a8,a2⟩),(514,⟨1,a5,a0.length,a4,a1⟩)],[(19,MF.ol a1 a0)])) ⟨zl,nA,Q10,Z⟩ [3,2,1] [2,1] [0,1,2,3,5,6] [0,1,2,3,5,6,19] ?_
 rintro ⟨i,a5,a4,a1,a0⟩ ⟨b3,ah,b5,af⟩;refine yKD 35 ?_ ?_<;>intro b2 av;obtain ⟨e2,ag,ab,ap⟩:=gO a7.2.2.1 i;refine yI 2 i ap ?_;rintro al rfl;refine zL 2 20 e2 ag ?_;rintro ⟨b1,b7⟩;refine CF 21 Z O (λw Y=>f110 n Q0 e2 (Y.q 20 Z) ab) ?_;rintro ⟨ax,ar⟩ aa;refine yB λb0=>?_;refine zT [22] 23 (a05 e2) _ λac=>?_;refine zP 514 47 (a0++[(a05 e2)]).length ac λam ay=>?_;refine zV [19,23] 24 ?_;refine SA ?_;refine zU [24] 19 ?_
 exact ITr Z (i+1,am,ay,_,(a0++[(a05 e2)])) ⟨Q0,(ac2 ah (all_cons aa nA)),Q3,(by rw [af,abu ag];simp only [a8l])⟩ Q1 [0,1,2,3,5,6,19];have ad:=af.trans (show _=a0 by rw [dn];simp only [a8l];omega);refine KF Z 32 Z O (λw Y=>f111 n Q0 (Y.q 3 Z) (a7.2.2.2)) ?_;rintro ⟨an,aj⟩ a9;refine yE 501 6 34 ?_;refine zE 514 19 36 ?_
 rw [show a31 t=(bU.mk (a8i t.keys) a3 a0 (a6c t.bW)) by simp only [a31,ae,ad]];exact zX [5,35,37,33] ((p1,c1),(a6,a8),(a5,a4),(an,aj)) (An aw (An (aby Q0 v2) (An (aby Q0 ah) a9)))
theorem f50 (hn:n+0<=9)(p_:aZ)(N0:Rd w K0 M0 p_.bT.name.parts)(N1:Rd w K1 M1 p_.data.name.parts)(N2:Rd w K2 M2 p_.data.content)(N3:Rd w K3 M3 p_.data.aR.parts)(a0:ok n p_):
 DP 50 #[ahm p_ K0 M0 K1 M1 K2 M2 K3 M3] w (pA w n (aa0 p_)):=by
 refine EN Tryz.func50 Z (aS4 N0 N1 N2 N3) ?_;refine KF Z 4 Z O (λw Y=>f102 n Q0 p_.bT (Y.q 0 Z) (a0.2.2.2.1)) ?_;rintro ⟨⟨p1,c1⟩,_⟩ a2;refine KF Z 6 Z O (λw Y=>f103 n Q0 p_.data (Y.q 1 Z) (Y.q 2 Z) (Y.q 3 Z) (a0.2.2.2.2)) ?_;rintro ⟨⟨p2,c2⟩,⟨p3,c3⟩,⟨p4,c4⟩,_⟩ a1;rw [show aa0 p_=(aZ.mk p_.to p_.face p_.cI (ab5 p_.bT) (a3o p_.data)) by simp only [aa0]]
 exact yX [5,9,10,11] ((),(),(),((p1,c1),(),(),()),((p2,c2),(p3,c3),(p4,c4),(),())) (An a0.1 (An a0.2.1 (An trivial (An a2 a1))))
theorem f67 (hn:n+0<=9)(f:aZ)(N0:Rd w K0 M0 f.bT.name.parts)(N1:Rd w K1 M1 f.data.name.parts)(N2:Rd w K2 M2 f.data.content)(N3:Rd w K3 M3 f.data.aR.parts)(a0:ok n f):
 DP 67 #[ahm f K0 M0 K1 M1 K2 M2 K3 M3] w (pA w n (a13 f)):=by
 refine EN Tryz.func67 Z (aS4 N0 N1 N2 N3) ?_;refine yD [13] λbs G0 a3=>?_;refine dT 4 [1,2,5,6,9,10,13,14,19,20] ?_;refine DXF 8 4 Z J Z O (λw Y=>f117 n Q0 f.bT (Y.q 0 Z) (a0.2.2.2.1)) ?_;rintro ⟨⟨p1,c1⟩,_⟩ a2;refine DXF 11 6 Z J Z O (λw Y=>f118 n Q0 f.data (Y.q 1 Z) (Y.q 2 Z) (Y.q 3 Z) (a0.2.2.2.2)) ?_;rintro ⟨⟨p2,c2⟩,⟨p3,c3⟩,⟨p4,c4⟩,_⟩ a1;refine dT 1 [25] ?_;refine DX.tail2 [13] Z Z J ?_
 rw [show a13 f=(aZ.mk f.to f.face f.cI (a1g f.bT) (a0m f.data)) by simp only [a13]];exact yX [5,9,10,11] ((),(),(),((p1,c1),(),(),()),((p2,c2),(p3,c3),(p4,c4),(),())) (An a0.1 (An a0.2.1 (An trivial (An a2 a1))))
theorem f17 (hn:n+0<=9)(w_:aD)(N0:Rd w K0 M0 w_.aG.links)(N1:Rd w K1 M1 w_.aF.keys)(N2:Rd w K2 M2 w_.aF.bR)(N3:Rd w K3 M3 w_.aF.bV)(N4:Rd w K4 M4 w_.aF.bW)(N5:Rd w K5 M5 w_.aM)(N6:Rd w K6 M6 w_.aI)(N7:Rd w K7 M7 w_.aU)(N8:Rd w K8 M8 w_.aL)(N9:Rd w K9 M9 w_.aE)(a0:ok n w_):
 DP 17 #[af9 w_ K0 M0 K1 M1 K2 M2 K3 M3 K4 M4 K5 M5 K6 M6 K7 M7 K8 M8 K9 M9] w (pA w n (a8p w_)):=by
 have hb:=bS0 hn;refine EN Tryz.func17 Z (aC 0 N0 (aC 1 N1 (aC 2 N2 (aC 3 N3 (aC 4 N4 (aC 5 N5 (aC 6 N6 (aC 7 N7 (aC 8 N8 (aC 9 N9 ac8)))))))))) ?_;refine yD [20] λbs G0 ad=>?_;refine dT 7 [1,2,7,8,13,14,19,20,23,24,29,30,33,34] ?_;refine DX.pend 19 3 ⟨39,[.int .i64 (0),.slice none (0) 0,.slice none (0) 0,.slice none (0) 0,.slice none (0) 0,.slice none (0) 0,.slice none (0) 0,.slice none (0) 0,.int .i64 (0),.slice none (0) 0,.slice none (0) 0,.slice none (0) 0,.int .i64 (0),.int .i64 (0)]⟩ ?_
 refine DXA.callF 2 10 (λ_ _ h=>GoT.ow_rd h) (λ_ f hf=>GoT.fak f hf) ttOk Z Z Z Z Z Z Z J J J Z Z Z Z Z Z Z Z Z Z O Z Z (λw G bs hI hΓ=>f45 n Q0 w_.aG (hΓ.get 0 Z) (a0.1)) O O ?_;rintro ⟨_,p1,c1⟩ ch;refine DXA.callF 5 12 (λ_ _ h=>GoT.ow_rd h) (λ_ f hf=>GoT.fak f hf) ttOk Z Z Z Z Z Z Z J J J Z Z Z Z Z Z Z Z Z Z O Z Z (λw G bs hI hΓ=>f46 n Q0 w_.aF (hΓ.get 1 Z) (hΓ.get 2 Z) (hΓ.get 3 Z) (hΓ.get 4 Z) (a0.2.1)) O O ?_;rintro ⟨⟨p2,c2⟩,⟨p3,c3⟩,⟨p4,c4⟩,p5,c5⟩ ax;dsimp only
 refine DXA.callF 8 20 (λ_ _ h=>GoT.ow_rd h) (λ_ f hf=>GoT.fak f hf) ttOk Z Z Z Z Z Z Z J J J Z Z Z Z Z Z Z Z Z Z O Z Z (λw G bs hI hΓ=>f47 n Q0 (hΓ.get 5 Z) (a0.2.2.1)) O O ?_;rintro ⟨p6,c6⟩ bc;dsimp only
 refine DXA.callF 13 22 (λ_ _ h=>GoT.ow_rd h) (λ_ f hf=>GoT.fak f hf) ttOk Z Z Z Z Z Z Z J J J Z Z Z Z Z Z Z Z Z Z O Z Z (λw G bs hI hΓ=>f48 n Q0 (hΓ.get 7 Z) (a0.2.2.2.2.2.1)) O O ?_;rintro ⟨p7,c7⟩ b1;dsimp only
 refine DXA.take 18 J J Z Z Z Z Z Z Z Z (akk ttOk Z) ?_;refine DXA.tail [20] ttOk Z Z Z Z Z Z J Z Z J ?_;refine R0 ?_;refine WX.row0 501 8 none Z ?_;refine F0 24 aH ?_;have r1:=(okl a0.2.2.2.1).1
 refine LK (0,none,0,[],[]) (λ|(i,a6,a7,a8,a9)=>((i<=w_.aI.length)/\JE n a9/\(a9.length<=i)/\(a7f w_.aI []=a7f (w_.aI.drop i) a9),w_.aI.length-i,[(32,.v (vI i))],[(3,⟨39,[.int .i64 ((a5o w_.aG).size),.slice p1 _ c1,.slice p2 (((a30 w_.aF).keys).length) c2,.slice p3 (((a30 w_.aF).bR).length) c3,.slice p4 (((a30 w_.aF).bV).length) c4,.slice p5 (((a30 w_.aF).bW).length) c5,.slice p6 ((a56 w_.aM).length) c6,.slice a6 (a9.length) a7,.int .i64 (w_.aY),.slice p7 (w_.aU.length) c7,.slice none (0) 0,.slice none (0) 0,.int .i64 (w_.now),.int .i64 (w_.aP)]⟩)],[(501,⟨8,a6,a9.length,a7,a8⟩)],[(24,MF.ol a8 a9)])) ⟨zl,nA,Q10,Z⟩ [31,30,3,2,1] [2,1] [0,1,2,3,4,5,6,7,8,9,11,16,17,18,19,21,23] [0,1,2,3,4,5,6,7,8,9,11,16,17,18,19,21,23,24] ?_
 rintro ⟨i,a6,a7,a8,a9⟩ ⟨v1,v2,v3,v4⟩;refine yKD 33 ?_ ?_<;>intro h1 cs;obtain ⟨e1,ao,b4,ba⟩:=gO a0.2.2.2.1 i;refine yI 6 i ba ?_;rintro cq rfl;refine zL 6 25 e1 ao ?_;rintro ⟨⟨p8,c8⟩,⟨_,p9,c9⟩,⟨d2,de⟩,⟨d9,dh⟩,⟨d0,d3⟩,⟨dl,df⟩,_⟩;refine zW 31 11 ?_;refine zW 32 16 ?_;refine zW 33 17 ?_;refine zW 34 18 ?_;refine zW 35 19 ?_;refine zW 36 21 ?_;refine zW 37 23 ?_;refine yD [5,6,7] λbs G0 ad=>?_;refine dT 5 [1,2,4] ?_;refine DXF 3 38 Z J Z O (λw Y=>f49 n Q0 e1 (Y.q 25 Z) (Y.q 26 Z) (Y.q 27 Z) (Y.q 28 Z) (Y.q 29 Z) (Y.q 30 Z) b4) ?_
 rintro ⟨⟨bg,bn⟩,⟨_,b8,b3⟩,⟨cf,b7⟩,⟨bu,aw⟩,⟨bw,bq⟩,⟨cd,bm⟩,_⟩ br;refine DX.tail2 [4,5,6,7] Z Z J ?_;refine zB λcm=>?_;refine zT [44,45,46,47,48,49] 50 (a8j e1) ((bg,bn),((),(b8,b3)),(cf,b7),(bu,aw),(bw,bq),(cd,bm),()) λbj=>?_;refine zP 501 40 (a9++[(a8j e1)]).length bj λbf ca=>?_;refine zV [24,50] 51 ?_;refine SA ?_;refine zU [51] 24 ?_
 exact ITr Z (i+1,bf,ca,_,(a9++[(a8j e1)])) ⟨Q0,(ac2 v2 (all_cons br nA)),Q3,(by rw [v4,abu ao];simp only [a7f])⟩ Q1 [0,1,2,3,4,5,6,7,8,9,11,16,17,18,19,21,23,24];have ae:=v4.trans (show _=a9 by rw [dn];simp only [a7f];omega);refine R0 ?_;refine WX.row0 514 12 none Z ?_;refine F0 37 aZ ?_;have dg:=(okl a0.2.2.2.2.2.2.1).1
 refine LK (0,none,0,[],[]) (λ|(i,a4,a3,a5,a1)=>((i<=w_.aL.length)/\JE n a1/\(a1.length<=i)/\(a8o w_.aL []=a8o (w_.aL.drop i) a1),w_.aL.length-i,[(47,.v (vI i))],[(3,⟨39,[.int .i64 ((a5o w_.aG).size),.slice p1 _ c1,.slice p2 (((a30 w_.aF).keys).length) c2,.slice p3 (((a30 w_.aF).bR).length) c3,.slice p4 (((a30 w_.aF).bV).length) c4,.slice p5 (((a30 w_.aF).bW).length) c5,.slice p6 ((a56 w_.aM).length) c6,.slice a6 (a9.length) a7,.int .i64 (w_.aY),.slice p7 (w_.aU.length) c7,.slice a4 (a1.length) a3,.slice none (0) 0,.int .i64 (w_.now),.int .i64 (w_.aP)]⟩)],[(501,⟨8,a6,a9.length,a7,a8⟩),(514,⟨12,a4,a1.length,a3,a5⟩)],[(37,MF.ol a5 a1)])) ⟨zl,nA,Q10,Z⟩ [46,45,3,2,1] [2,1] [0,1,2,3,4,5,6,7,8,9,11,16,17,18,19,21,23,24] [0,1,2,3,4,5,6,7,8,9,11,16,17,18,19,21,23,24,37] ?_
 rintro ⟨i,a4,a3,a5,a1⟩ ⟨d8,an,cr,av⟩;refine yKD 48 ?_ ?_<;>intro dk bx;obtain ⟨e2,aq,aj,cb⟩:=gO a0.2.2.2.2.2.2.1 i;refine yI 8 i cb ?_;rintro bz rfl;refine zL 8 38 e2 aq ?_;rintro ⟨_,_,_,⟨⟨cv,dj⟩,_⟩,⟨⟨cx,dc⟩,⟨d1,d4⟩,⟨cl,di⟩,_⟩⟩;refine zW 42 11 ?_;refine zW 43 16 ?_;refine zW 44 17 ?_;refine zW 45 18 ?_;refine zW 46 19 ?_;refine zW 47 21 ?_;refine zW 48 23 ?_;refine yD [5,6,7] λbs G0 ad=>?_;refine dT 5 [1,2,4] ?_;refine DXF 3 49 Z J Z O (λw Y=>f50 n Q0 e2 (Y.q 38 Z) (Y.q 39 Z) (Y.q 40 Z) (Y.q 41 Z) aj) ?_
 rintro ⟨_,_,_,⟨⟨cg,bo⟩,_⟩,⟨⟨ci,bl⟩,⟨bp,ce⟩,⟨ay,bi⟩,_⟩⟩ af;refine DX.tail2 [4,5,6,7] Z Z J ?_;refine zB λdb=>?_;refine zT [53,54,55,56] 57 (aa0 e2) ((),(),(),((cg,bo),(),(),()),((ci,bl),(bp,ce),(ay,bi),(),())) λag=>?_;refine zP 514 55 (a1++[(aa0 e2)]).length ag λbb cj=>?_;refine zV [37,57] 58 ?_;refine SA ?_;refine zU [58] 37 ?_
 exact ITr Z (i+1,bb,cj,_,(a1++[(aa0 e2)])) ⟨Q0,(ac2 an (all_cons af nA)),Q3,(by rw [av,abu aq];simp only [a8o])⟩ Q1 [0,1,2,3,4,5,6,7,8,9,11,16,17,18,19,21,23,24,37];have ah:=av.trans (show _=a1 by rw [dn];simp only [a8o];omega);refine R0 ?_;refine WX.row0 527 11 none Z ?_;refine F0 50 aX ?_
 have cz:=(okl a0.2.2.2.2.2.2.2.1).1
 refine LK (0,none,0,[],[]) (λ|(i,ab,ac,aa,a2)=>((i<=w_.aE.length)/\JE n a2/\(a2.length<=i)/\(a8n w_.aE []=a8n (w_.aE.drop i) a2),w_.aE.length-i,[(62,.v (vI i))],[(3,⟨39,[.int .i64 ((a5o w_.aG).size),.slice p1 _ c1,.slice p2 (((a30 w_.aF).keys).length) c2,.slice p3 (((a30 w_.aF).bR).length) c3,.slice p4 (((a30 w_.aF).bV).length) c4,.slice p5 (((a30 w_.aF).bW).length) c5,.slice p6 ((a56 w_.aM).length) c6,.slice a6 (a9.length) a7,.int .i64 (w_.aY),.slice p7 (w_.aU.length) c7,.slice a4 (a1.length) a3,.slice ab (a2.length) ac,.int .i64 (w_.now),.int .i64 (w_.aP)]⟩)],[(501,⟨8,a6,a9.length,a7,a8⟩),(514,⟨12,a4,a1.length,a3,a5⟩),(527,⟨11,ab,a2.length,ac,aa⟩)],[(50,MF.ol aa a2)])) ⟨zl,nA,Q10,Z⟩ [61,60,3,2] [2] [0,1,2,3,4,5,6,7,8,9,11,16,17,18,19,21,23,24,37] [0,1,2,3,4,5,6,7,8,9,11,16,17,18,19,21,23,24,37,50] ?_
 rintro ⟨i,ab,ac,aa,a2⟩ ⟨dd,au,ck,ap⟩;refine yKD 63 ?_ ?_<;>intro da bk;obtain ⟨e3,ar,al,bt⟩:=gO a0.2.2.2.2.2.2.2.1 i;refine yI 9 i bt ?_;rintro bh rfl;refine zL 9 51 e3 ar ?_;rintro ⟨_,_,⟨d6,cp⟩,_,_,_,⟨⟨ct,d5⟩,⟨co,cw⟩,⟨d7,cn⟩,_⟩⟩;refine zW 55 11 ?_;refine zW 56 16 ?_;refine zW 57 17 ?_;refine zW 58 18 ?_;refine zW 59 19 ?_;refine zW 60 21 ?_;refine zW 61 23 ?_;refine yD [5,6,7] λbs G0 ad=>?_;refine dT 5 [1,2,4] ?_;refine DXF 3 62 Z J Z O (λw Y=>f51 n Q0 e3 (Y.q 51 Z) (Y.q 52 Z) (Y.q 53 Z) (Y.q 54 Z) al) ?_
 rintro ⟨_,_,⟨b6,b2⟩,_,_,_,⟨⟨b0,b9⟩,⟨bv,az⟩,⟨b5,c0⟩,_⟩⟩ ai;refine DX.tail2 [4,5,6,7] Z Z J ?_;refine zB λcy=>?_;refine zT [66,67,68,69] 70 (a9j e3) ((),(),(b6,b2),(),(),(),((b0,b9),(bv,az),(b5,c0),(),())) λak=>?_;refine zP 527 70 (a2++[(a9j e3)]).length ak λbe cc=>?_;refine zV [50,70] 71 ?_;refine SA ?_;refine zU [71] 50 ?_
 exact ITr Z (i+1,be,cc,_,(a2++[(a9j e3)])) ⟨Q0,(ac2 au (all_cons ai nA)),Q3,(by rw [ap,abu ar];simp only [a8n])⟩ Q1 [0,1,2,3,4,5,6,7,8,9,11,16,17,18,19,21,23,24,37,50];have am:=ap.trans (show _=a2 by rw [dn];simp only [a8n];omega);refine yE 501 24 63 ?_;refine zE 514 37 65 ?_;refine zE 527 50 67 ?_
 rw [show a8p w_=(aD.mk (a5o w_.aG) (a30 w_.aF) (a56 w_.aM) a9 w_.aY w_.aU a1 a2 w_.now w_.aP) by simp only [a8p,ae,ah,am]]
 exact zX [11,16,17,18,19,21,64,23,66,68] (nT p1 c1 p2 c2 p3 c3 p4 c4 p5 c5 p6 c6 a6 a7 p7 c7 a4 a3 ab ac) (An ch (An ax (An bc (An (aby Q0 v2) (An a0.2.2.2.2.1 (An b1 (An (aby Q0 an) (An (aby Q0 au) (An a0.2.2.2.2.2.2.2.2.1 a0.2.2.2.2.2.2.2.2.2)))))))))
theorem f216 (hn:n+0<=9){cap:Int}(a0:ok n cap):
 DP 216 #[vI cap] w (pA w n (a5p cap)):=by
 refine EN Tryz.func216 Z ac8 ?_;refine KV Z Z O (λw Y=>f120 n Q0 a0 (i6 0) (i6 8)) λa3=>?_;refine yKN 5 ?_ ?_<;>intro h1 a1;refine F1 0 aT ?_;rw [show a5p cap=(bX.mk 0 ([])) by simp only [a5p,h1,cC]];exact yX [0] ((),(none,0)) (An (i6 0) (acd));refine F1 0 aT ?_;rw [show a5p cap=(bX.mk cap ([])) by simp only [a5p,h1,cC]];exact yX [0] ((),(none,0)) (An a0 (acd))
theorem f188 (hn:n+0<=9){cap:Int}(a0:ok n cap):
 DP 188 #[vI cap] w (pA w n (a6e cap)):=by
 refine EN Tryz.func188 Z ac8 ?_;refine KF Z 0 Z O (λw Y=>f216 n Q0 a0) ?_;rintro ⟨_,p1,c1⟩ a1;refine F1 2 aJ ?_;refine F1 3 aO ?_;refine F1 4 bA ?_;refine F1 5 aB ?_;refine F1 6 aS ?_;rw [show a6e cap=(aH.mk ([]) (a5p cap) ([]) ([]) ([]) ([]) 0) by simp only [a6e]]
 exact yX [2,1,3,4,5,6] ((none,0),((),(p1,c1)),(none,0),(none,0),(none,0),(none,0),()) (An (acd) (An a1 (An (acd) (An (acd) (An (acd) (An (acd) (i6 0)))))))
theorem f30 (hn:n+0<=9)(w_:aD)(N0:Rd w K0 M0 w_.aG.links)(N1:Rd w K1 M1 w_.aF.keys)(N2:Rd w K2 M2 w_.aF.bR)(N3:Rd w K3 M3 w_.aF.bV)(N4:Rd w K4 M4 w_.aF.bW)(N5:Rd w K5 M5 w_.aM)(N6:Rd w K6 M6 w_.aI)(N7:Rd w K7 M7 w_.aU)(N8:Rd w K8 M8 w_.aL)(N9:Rd w K9 M9 w_.aE)(a0:ok n w_):
 DP 30 #[af9 w_ K0 M0 K1 M1 K2 M2 K3 M3 K4 M4 K5 M5 K6 M6 K7 M7 K8 M8 K9 M9] w (pA w n (a0b w_)):=by
 have hb:=bS0 hn;refine EN Tryz.func30 Z (aC 0 N0 (aC 1 N1 (aC 2 N2 (aC 3 N3 (aC 4 N4 (aC 5 N5 (aC 6 N6 (aC 7 N7 (aC 8 N8 (aC 9 N9 ac8)))))))))) ?_;refine yD [27] λbs G0 co=>?_;refine dT 10 [1,3,4,9,11,12,19,20,25,26,31,32,37,38,43,44,47,48] ?_;refine DX.toTX λS_=>?_;refine TX.toP ?_;refine TXP.pend (PI.lit 3 13 0 102 [] []) (auc ttOk Z Z Z Z Z Z Z) .nil Z J Z ?_;refine TXP.pend (PI.lit 17 27 0 3 [] []) (auc ttOk Z Z Z Z Z Z Z) .nil Z J Z ?_
 refine TXP.pend (PI.loc 26 3 ⟨39,[.int .i64 (0),.slice none (0) 0,.slice none (0) 0,.slice none (0) 0,.slice none (0) 0,.slice none (0) 0,.slice none (0) 0,.slice none (0) 0,.int .i64 (0),.slice none (0) 0,.slice none (0) 0,.slice none (0) 0,.int .i64 (0),.int .i64 (0)]⟩) (ail ttOk Z Z Z Z Z) .nil Z J Z ?_;refine TXP.settleS (α:=aQ) (l:=[]) 2 10 Z Z Z Z J Z λp1=>?_;have r1:=(okl (acm a0.1).2).1;refine TXP.appF 7 11 ttOk J J Z Z Z J Z Z Z Z Z Z Z 0 Z Q0 Q0 λp2 c1=>?_
 refine TXP.takes ttOk [8] Z J Z ?_;refine TPF 11 13 J J Z Z Z Z Z Z Z O Z (λw Y=>f64 n Q0 w_.aF (Y.q 1 Z) (Y.q 2 Z) (Y.q 3 Z) (Y.q 4 Z) (a0.2.1)) ?_;rintro ⟨⟨p3,c2⟩,⟨p4,c3⟩,⟨p5,c4⟩,p6,c5⟩ cf;dsimp only
 refine TPF 14 21 J J Z Z Z Z Z Z Z O Z (λw Y=>f65 n Q0 (Y.q 5 Z) (a0.2.2.1)) ?_;rintro ⟨p7,c6⟩ aw;dsimp only
 refine TXP.settleS (α:=Int) (l:=[]) 1 23 Z Z Z Z J Z λp8=>?_;have r2:=(okl a0.2.2.2.2.2.1).1;refine TXP.appF 20 24 ttOk J J Z Z Z J Z Z Z Z Z Z Z 7 Z Q0 Q0 λp9 c7=>?_;refine TXP.takes ttOk [25] Z J Z ?_;refine TXP.settleL 0 Z Z J Z ?_;refine TXP.done ?_;refine TX.tail [27] Z Z J ?_;refine R0 ?_;refine WX.row0 501 8 none Z ?_;refine F0 26 aH ?_;have r3:=(okl a0.2.2.2.1).1
 refine LK (0,none,0,[],[]) (λ|(i,a6,a7,a8,a9)=>((i<=w_.aI.length)/\JE n a9/\(a9.length<=i)/\(a4n w_.aI []=a4n (w_.aI.drop i) a9),w_.aI.length-i,[(4,.v (vI i))],[(3,⟨39,[.int .i64 (w_.aG.size),.slice p2 (w_.aG.links.length) c1,.slice p3 _ c2,.slice p4 (((a31 w_.aF).bR).length) c3,.slice p5 (((a31 w_.aF).bV).length) c4,.slice p6 (((a31 w_.aF).bW).length) c5,.slice p7 ((a0d w_.aM).length) c6,.slice a6 (a9.length) a7,.int .i64 (w_.aY),.slice p9 (w_.aU.length) c7,.slice none (0) 0,.slice none (0) 0,.int .i64 (w_.now),.int .i64 (w_.aP)]⟩)],[(501,⟨8,a6,a9.length,a7,a8⟩)],[(26,MF.ol a8 a9)])) ⟨zl,nA,Q10,Z⟩ [3,2,1] [2,1] [0,1,2,3,4,5,6,7,8,9,10,12,17,18,19,20,22,23,25] [0,1,2,3,4,5,6,7,8,9,10,12,17,18,19,20,22,23,25,26] ?_
 rintro ⟨i,a6,a7,a8,a9⟩ ⟨v1,v2,v3,v4⟩;refine yKD 40 ?_ ?_<;>intro h1 cr;obtain ⟨e1,an,b2,b8⟩:=gO a0.2.2.2.1 i;refine yI 6 i b8 ?_;rintro cp rfl;refine zL 6 27 e1 an ?_;rintro ⟨⟨cy,c8⟩,⟨_,d6,c9⟩,⟨cw,db⟩,⟨dl,de⟩,⟨d7,cz⟩,⟨d1,dc⟩,_⟩;refine CF 33 Z O (λw Y=>f66 n Q0 e1 (Y.q 27 Z) (Y.q 28 Z) (Y.q 29 Z) (Y.q 30 Z) (Y.q 31 Z) (Y.q 32 Z) b2) ?_;rintro ⟨⟨cd,bm⟩,⟨_,br,b1⟩,⟨bu,b4⟩,⟨cb,av⟩,⟨ay,bp⟩,⟨be,bl⟩,_⟩ ba;refine yB λd2=>?_
 refine zT [39,40,41,42,43,44] 45 (a00 e1) ((cd,bm),((),(br,b1)),(bu,b4),(cb,av),(ay,bp),(be,bl),()) λbi=>?_;refine zP 501 52 (a9++[(a00 e1)]).length bi λb6 bz=>?_;refine zV [26,45] 46 ?_;refine SA ?_;refine zU [46] 26 ?_
 exact ITr Z (i+1,b6,bz,_,(a9++[(a00 e1)])) ⟨Q0,(ac2 v2 (all_cons ba nA)),Q3,(by rw [v4,abu an];simp only [a4n])⟩ Q1 [0,1,2,3,4,5,6,7,8,9,10,12,17,18,19,20,22,23,25,26];have ad:=v4.trans (show _=a9 by rw [dn];simp only [a4n];omega);refine R0 ?_;refine WX.row0 514 12 none Z ?_;refine F0 39 aZ ?_;have dd:=(okl a0.2.2.2.2.2.2.1).1
 refine LK (0,none,0,[],[]) (λ|(i,a4,a3,a5,a1)=>((i<=w_.aL.length)/\JE n a1/\(a1.length<=i)/\(a8r w_.aL []=a8r (w_.aL.drop i) a1),w_.aL.length-i,[(6,.v (vI i))],[(3,⟨39,[.int .i64 (w_.aG.size),.slice p2 (w_.aG.links.length) c1,.slice p3 _ c2,.slice p4 (((a31 w_.aF).bR).length) c3,.slice p5 (((a31 w_.aF).bV).length) c4,.slice p6 (((a31 w_.aF).bW).length) c5,.slice p7 ((a0d w_.aM).length) c6,.slice a6 (a9.length) a7,.int .i64 (w_.aY),.slice p9 (w_.aU.length) c7,.slice a4 (a1.length) a3,.slice none (0) 0,.int .i64 (w_.now),.int .i64 (w_.aP)]⟩)],[(501,⟨8,a6,a9.length,a7,a8⟩),(514,⟨12,a4,a1.length,a3,a5⟩)],[(39,MF.ol a5 a1)])) ⟨zl,nA,Q10,Z⟩ [3,2,1] [2,1] [0,1,2,3,4,5,6,7,8,9,10,12,17,18,19,20,22,23,25,26] [0,1,2,3,4,5,6,7,8,9,10,12,17,18,19,20,22,23,25,26,39] ?_
 rintro ⟨i,a4,a3,a5,a1⟩ ⟨d5,am,cq,au⟩;refine yKD 59 ?_ ?_<;>intro dh bv;obtain ⟨e2,ap,ai,c0⟩:=gO a0.2.2.2.2.2.2.1 i;refine yI 8 i c0 ?_;rintro bw rfl;refine zL 8 40 e2 ap ?_;rintro ⟨_,_,_,⟨⟨cx,dg⟩,_⟩,⟨⟨ci,d9⟩,⟨di,d0⟩,⟨dj,df⟩,_⟩⟩;refine CF 44 Z O (λw Y=>f67 n Q0 e2 (Y.q 40 Z) (Y.q 41 Z) (Y.q 42 Z) (Y.q 43 Z) ai) ?_;rintro ⟨_,_,_,⟨⟨bo,bn⟩,_⟩,⟨⟨ax,bk⟩,⟨bf,cc⟩,⟨b9,bh⟩,_⟩⟩ ah;refine yB λcl=>?_
 refine zT [48,49,50,51] 52 (a13 e2) ((),(),(),((bo,bn),(),(),()),((ax,bk),(bf,cc),(b9,bh),(),())) λaf=>?_;refine zP 514 71 (a1++[(a13 e2)]).length af λce cg=>?_;refine zV [39,52] 53 ?_;refine SA ?_;refine zU [53] 39 ?_
 exact ITr Z (i+1,ce,cg,_,(a1++[(a13 e2)])) ⟨Q0,(ac2 am (all_cons ah nA)),Q3,(by rw [au,abu ap];simp only [a8r])⟩ Q1 [0,1,2,3,4,5,6,7,8,9,10,12,17,18,19,20,22,23,25,26,39];have ag:=au.trans (show _=a1 by rw [dn];simp only [a8r];omega);refine R0 ?_;refine WX.row0 527 11 none Z ?_;refine F0 52 aX ?_
 have dk:=(okl a0.2.2.2.2.2.2.2.1).1
 refine LK (0,none,0,[],[]) (λ|(i,ab,ac,aa,a2)=>((i<=w_.aE.length)/\JE n a2/\(a2.length<=i)/\(a8q w_.aE []=a8q (w_.aE.drop i) a2),w_.aE.length-i,[(8,.v (vI i))],[(3,⟨39,[.int .i64 (w_.aG.size),.slice p2 (w_.aG.links.length) c1,.slice p3 _ c2,.slice p4 (((a31 w_.aF).bR).length) c3,.slice p5 (((a31 w_.aF).bV).length) c4,.slice p6 (((a31 w_.aF).bW).length) c5,.slice p7 ((a0d w_.aM).length) c6,.slice a6 (a9.length) a7,.int .i64 (w_.aY),.slice p9 (w_.aU.length) c7,.slice a4 (a1.length) a3,.slice ab (a2.length) ac,.int .i64 (w_.now),.int .i64 (w_.aP)]⟩)],[(501,⟨8,a6,a9.length,a7,a8⟩),(514,⟨12,a4,a1.length,a3,a5⟩),(527,⟨11,ab,a2.length,ac,aa⟩)],[(52,MF.ol aa a2)])) ⟨zl,nA,Q10,Z⟩ [3,2,1] [2,1] [0,1,2,3,4,5,6,7,8,9,10,12,17,18,19,20,22,23,25,26,39] [0,1,2,3,4,5,6,7,8,9,10,12,17,18,19,20,22,23,25,26,39,52] ?_
 rintro ⟨i,ab,ac,aa,a2⟩ ⟨da,ar,ch,ao⟩;refine yKD 78 ?_ ?_<;>intro d8 bj;obtain ⟨e3,aq,ak,bq⟩:=gO a0.2.2.2.2.2.2.2.1 i;refine yI 9 i bq ?_;rintro bg rfl;refine zL 9 53 e3 aq ?_;rintro ⟨_,_,⟨cm,cn⟩,_,_,_,⟨⟨d4,d3⟩,⟨cs,cv⟩,⟨ck,cj⟩,_⟩⟩;refine CF 57 Z O (λw Y=>f68 n Q0 e3 (Y.q 53 Z) (Y.q 54 Z) (Y.q 55 Z) (Y.q 56 Z) ak) ?_;rintro ⟨_,_,⟨bt,b0⟩,_,_,_,⟨⟨b3,b7⟩,⟨b5,az⟩,⟨bb,bx⟩,_⟩⟩ ae;refine yB λct=>?_
 refine zT [61,62,63,64] 65 (a0p e3) ((),(),(bt,b0),(),(),(),((b3,b7),(b5,az),(bb,bx),(),())) λaj=>?_;refine zP 527 90 (a2++[(a0p e3)]).length aj λbc ca=>?_;refine zV [52,65] 66 ?_;refine SA ?_;refine zU [66] 52 ?_
 exact ITr Z (i+1,bc,ca,_,(a2++[(a0p e3)])) ⟨Q0,(ac2 ar (all_cons ae nA)),Q3,(by rw [ao,abu aq];simp only [a8q])⟩ Q1 [0,1,2,3,4,5,6,7,8,9,10,12,17,18,19,20,22,23,25,26,39,52];have al:=ao.trans (show _=a2 by rw [dn];simp only [a8q];omega);refine yE 501 26 65 ?_;refine zE 514 39 67 ?_;refine zE 527 52 69 ?_
 rw [show a0b w_=(aD.mk w_.aG (a31 w_.aF) (a0d w_.aM) a9 w_.aY w_.aU a1 a2 w_.now w_.aP) by simp only [a0b,ad,ag,al]]
 exact zX [12,17,18,19,20,22,66,25,68,70] (nT p2 c1 p3 c2 p4 c3 p5 c4 p6 c5 p7 c6 a6 a7 p9 c7 a4 a3 ab ac) (An (An (acm a0.1).1 (aby Q0 (okl (acm (abt a0).1).2).2)) (An cf (An aw (An (aby Q0 v2) (An a0.2.2.2.2.1 (An (aby Q0 (okl (abt a0).2.2.2.2.2.1).2) (An (aby Q0 am) (An (aby Q0 ar) (An a0.2.2.2.2.2.2.2.2.1 a0.2.2.2.2.2.2.2.2.2)))))))))
end Go.Proofs.YthdfhghdipdknaaGreat
namespace Go.Stp
def a26 (set_:Int)(i:Int):Bool:=bif decide (set_>=0)then bif (a0o i 0 30)then (bitO .and (Int.fdiv set_ (2^ (min (Int.toNat i) 64))) 1==1)else false else false
def a7g (set_:Int)(a:Int):Bool:=bif (a07 a 0 30)then bif decide (set_>=0)then (bitO .and (Int.fdiv set_ (2^ (min (Int.toNat a) 64))) 1==1)else false else false
def a58 (w_:aD)(k:Int):Bool:=bif (a0o k 0 (i64.wrap (((w_.aI).length:Int)-1)))then (!(a26 w_.aY k))else false
def a3u (w_:aD)(k:Int):Bool:=bif (a07 k 0 (i64.wrap (((w_.aI).length:Int)-1)))then (!(a7g w_.aY k))else false
end Go.Stp
namespace Go.Proofs.YthdfhghdipdknaaGreat
open Go.Stp
open Go.Stp.GoT (ok)
variable {w : World} (n : Nat) {K0 K1 K2 K3 K4 K5 K6 K7 K8 K9 : Option Addr} {M0 M1 M2 M3 M4 M5 M6 M7 M8 M9 : Nat}
theorem f37 (hn:n+0<=9){set_:Int}{i:Int}(a1:ok n set_)(a0:ok n i):
 DP 37 #[vI set_,vI i] w (pB (a26 set_ i)):=by
 refine EN Tryz.func37 Z ac8 ?_;refine yKD 7 ?_ ?_<;>intro h1 a2;refine KV Z Z O (λw Y=>f33 n Q0 a0 (i6 0) (i6 30)) λa4=>?_;refine yKA 11 ?_ ?_<;>intro h2;have a3:=afl h2;refine KS Z Z Z Z (λ_ hΓ=>ahi Z Z Z Q0) ?_;refine WX.see Z Z Z (λ_ hΓ=>aei Z Z Z Z) ?_;exact R4r Z Z (by simp only [a26,h1,h2,cC]);exact R4r Z Z (by simp only [a26,h1,h2,cC]);exact R4r Z Z (by simp only [a26,h1,cC])
theorem f123 (hn:n+0<=9){set_:Int}{a:Int}(a1:ok n set_)(a0:ok n a):
 DP 123 #[vI set_,vI a] w (pB (a7g set_ a)):=by
 refine EN Tryz.func123 Z ac8 ?_;refine KV Z Z O (λw Y=>f120 n Q0 a0 (i6 0) (i6 30)) λa4=>?_;refine yKA 7 ?_ ?_<;>intro h1;have a2:=ad8 h1;refine yKD 11 ?_ ?_<;>intro h2 a3;refine KS Z Z Z Z (λ_ hΓ=>ahi Z Z Z Q0) ?_;refine WX.see Z Z Z (λ_ hΓ=>aei Z Z Z Z) ?_;exact R4r Z Z (by simp only [a7g,h1,h2,cC]);exact R4r Z Z (by simp only [a7g,h1,h2,cC]);exact R4r Z Z (by simp only [a7g,h1,cC])
theorem f11 (hn:n+0<=9)(w_:aD)(N0:Rd w K0 M0 w_.aG.links)(N1:Rd w K1 M1 w_.aF.keys)(N2:Rd w K2 M2 w_.aF.bR)(N3:Rd w K3 M3 w_.aF.bV)(N4:Rd w K4 M4 w_.aF.bW)(N5:Rd w K5 M5 w_.aM)(N6:Rd w K6 M6 w_.aI)(N7:Rd w K7 M7 w_.aU)(N8:Rd w K8 M8 w_.aL)(N9:Rd w K9 M9 w_.aE){k:Int}(a1:ok n w_)(a0:ok n k):
 DP 11 #[af9 w_ K0 M0 K1 M1 K2 M2 K3 M3 K4 M4 K5 M5 K6 M6 K7 M7 K8 M8 K9 M9,vI k] w (pB (a58 w_ k)):=by
 refine EN Tryz.func11 Z (aC 0 N0 (aC 1 N1 (aC 2 N2 (aC 3 N3 (aC 4 N4 (aC 5 N5 (aC 6 N6 (aC 7 N7 (aC 8 N8 (aC 9 N9 ac8)))))))))) ?_;refine SW ?_;refine CV Z O (λw Y=>f33 n Q0 a0 (i6 0) (ad0 _)) λa4=>?_;refine yKA 11 ?_ ?_<;>intro h1;refine KV Z Z O (λw Y=>f37 n Q0 (a1.2.2.2.2.1) a0) λa2=>?_;exact R4r Z Z (by simp only [a58,h1,cC]);exact R4r Z Z (by simp only [a58,h1,cC])
theorem f71 (hn:n+0<=9)(w_:aD)(N0:Rd w K0 M0 w_.aG.links)(N1:Rd w K1 M1 w_.aF.keys)(N2:Rd w K2 M2 w_.aF.bR)(N3:Rd w K3 M3 w_.aF.bV)(N4:Rd w K4 M4 w_.aF.bW)(N5:Rd w K5 M5 w_.aM)(N6:Rd w K6 M6 w_.aI)(N7:Rd w K7 M7 w_.aU)(N8:Rd w K8 M8 w_.aL)(N9:Rd w K9 M9 w_.aE){k:Int}(a1:ok n w_)(a0:ok n k):
 DP 71 #[af9 w_ K0 M0 K1 M1 K2 M2 K3 M3 K4 M4 K5 M5 K6 M6 K7 M7 K8 M8 K9 M9,vI k] w (pB (a3u w_ k)):=by
 refine EN Tryz.func71 Z (aC 0 N0 (aC 1 N1 (aC 2 N2 (aC 3 N3 (aC 4 N4 (aC 5 N5 (aC 6 N6 (aC 7 N7 (aC 8 N8 (aC 9 N9 ac8)))))))))) ?_;refine SW ?_;refine CV Z O (λw Y=>f120 n Q0 a0 (i6 0) (ad0 _)) λa4=>?_;refine yKA 11 ?_ ?_<;>intro h1;refine KV Z Z O (λw Y=>f123 n Q0 (a1.2.2.2.2.1) a0) λa2=>?_;exact R4r Z Z (by simp only [a3u,h1,cC]);exact R4r Z Z (by simp only [a3u,h1,cC])
end Go.Proofs.YthdfhghdipdknaaGreat
namespace Go.Stp
def acy (v:Int):List Int->Nat->Option (Int)|[],i=>none|e1::rest_,i=>bif (v==e1)then (some ((i:Nat):Int))else acy v rest_ (i+1)
def adb (s:(List Int))(v:Int):Int:=match acy v s 0 with|some r_=>r_|none=>(-1)
def acz (s:(List Int))(v:Int):Bool:=(decide ((adb s v)>=0))
def a7h (n_:Int):List Int->Option (Bool)|[]=>none|e1::rest_=>bif (e1==n_)then (some true)else a7h n_ rest_
def a6f (l:(List Int))(n_:Int):Bool:=match a7h n_ l with|some r_=>r_|none=>false
def a2h (failed:(List Int))(down:Int):List aQ->Nat->(List aQ)->(List aQ)|[],i,out=>((out):List aQ)|e1::rest_,i,out=>bif (!(acz failed ((i:Nat):Int)))then bif (!(a26 down e1.a))then bif (!(a26 down e1.b))then a2h failed down rest_ (i+1) (((out++[e1])):List aQ)else a2h failed down rest_ (i+1) ((out):List aQ)else a2h failed down rest_ (i+1) ((out):List aQ)else a2h failed down rest_ (i+1) ((out):List aQ)
def aa1 (n_:aV)(failed:(List Int))(down:Int):aV:=match a2h failed down n_.links 0 ([]:List aQ)with|out=>(aV.mk n_.size out)
def a45 (dead:(List Int))(down:Int):List aQ->Nat->(List aQ)->(List aQ)|[],i,out=>((out):List aQ)|e1::rest_,i,out=>bif (!(a6f dead ((i:Nat):Int)))then bif (!(a7g down e1.a))then bif (!(a7g down e1.b))then a45 dead down rest_ (i+1) (((out++[e1])):List aQ)else a45 dead down rest_ (i+1) ((out):List aQ)else a45 dead down rest_ (i+1) ((out):List aQ)else a45 dead down rest_ (i+1) ((out):List aQ)
def aa2 (n_:aV)(dead:(List Int))(down:Int):aV:=match a45 dead down n_.links 0 ([]:List aQ)with|out=>(aV.mk n_.size out)
def a0z (w_:aD):aV:=(aa1 w_.aG w_.aU w_.aY)
def a3v (w_:aD):aV:=(aa2 w_.aG w_.aU w_.aY)
end Go.Stp
namespace Go.Proofs.YthdfhghdipdknaaGreat
open Go.Stp
open Go.Stp.GoT (ok)
variable {w : World} (n : Nat) {K0 K1 K2 K3 K4 K5 K6 K7 K8 K9 : Option Addr} {M0 M1 M2 M3 M4 M5 M6 M7 M8 M9 : Nat}
theorem f89 (hn:n+0<=9){s:List Int}(N0:Rd w K0 M0 s){v:Int}(a0:ok n s)(a5:ok n v):
 DP 89 #[vS K0 s M0,vI v] w (pI n (adb s v)):=by
 have hb:=bS0 hn;refine EN Tryz.func89 Z (aS1 N0) ?_;have r1:=a0.1;refine LS 8 s (acy v) [7,0,1] [] [0] ?_;rintro i ⟨v1,v2⟩;refine yKD 9 ?_ ?_<;>intro h1 a9;obtain ⟨e1,a1,a7,a4⟩:=gO a0 i;refine yI 0 i a4 ?_;rintro a8 rfl;refine zL 0 1 e1 a1 ?_;rintro ⟨⟩;refine yKE 16 ?_ ?_<;>intro h2 a6;have a3:=v2.trans (show _=(some (i:Int)) by rw [abu a1];simp only [acy,h2,cC]);rw [show adb s v=((i:Nat):Int) by simp only [adb,a3]];exact R6r Z Z (i6 (i:Nat));refine SA ?_
 exact ITr Z (i+1) ⟨Q0,(by rw [v2,abu a1];simp only [acy,h2,cC])⟩ Q1 [0];have a2:=v2.trans (show _=none by rw [dn];simp only [acy];omega);rw [show adb s v=(-1) by simp only [adb,a2]];exact R6r Z Z (i6 (-1))
theorem f41 (hn:n+0<=9){s:List Int}(N0:Rd w K0 M0 s){v:Int}(a1:ok n s)(a0:ok n v):
 DP 41 #[vS K0 s M0,vI v] w (pB (acz s v)):=by
 refine EN Tryz.func41 Z (aS1 N0) ?_;refine KV Z Z O (λw Y=>f89 n Q0 (Y.q 0 Z) a1 a0) λa2=>?_;exact R4r Z Z (by simp only [acz])
theorem f170 (hn:n+0<=9){l:List Int}(N0:Rd w K0 M0 l){n_:Int}(a0:ok n l)(a3:ok n n_):
 DP 170 #[vS K0 l M0,vI n_] w (pB (a6f l n_)):=by
 have hb:=bS0 hn;refine EN Tryz.func170 Z (aS1 N0) ?_;have r1:=a0.1;refine LT 5 l (a7h n_) [0,1] [] [0] ?_;rintro i ⟨v1,v2⟩;refine yKD 9 ?_ ?_<;>intro h1 a9;obtain ⟨e1,a1,a7,a5⟩:=gO a0 i;refine yI 0 i a5 ?_;rintro a8 rfl;refine zL 0 1 e1 a1 ?_;rintro ⟨⟩;refine yKE 17 ?_ ?_<;>intro h2 a6;have a4:=v2.trans (show _=(some true) by rw [abu a1];simp only [a7h,h2,cC]);exact R4r Z Z (by simp only [a6f,a4]);refine SA ?_
 exact ITr Z (i+1) ⟨Q0,(by rw [v2,abu a1];simp only [a7h,h2,cC])⟩ Q1 [0];have a2:=v2.trans (show _=none by rw [dn];simp only [a7h];omega);exact R4r Z Z (by simp only [a6f,a2])
theorem f36 (hn:n+0<=9)(n_:aV)(N0:Rd w K0 M0 n_.links){failed:List Int}(N1:Rd w K1 M1 failed){down:Int}(a6:ok n n_)(a5:ok n failed)(a4:ok n down):
 DP 36 #[adv n_ K0 M0,vS K1 failed M1,vI down] w (pA w n (aa1 n_ failed down)):=by
 have hb:=bS0 hn;refine EN Tryz.func36 Z (aS2 N0 N1) ?_;refine R0 ?_;refine WX.row0 501 2 none Z ?_;refine F0 2 aQ ?_;have r1:=(okl a6.2).1
 refine LK (0,none,0,[],[]) (λ|(i,a1,a2,a0,a3)=>((i<=n_.links.length)/\JE n a3/\(a3.length<=i)/\(a2h failed down n_.links 0 []=a2h failed down (n_.links.drop i) i a3),n_.links.length-i,[(16,.v (vI i))],[(7,⟨26,[.int .i64 (n_.size),.slice a1 (a3.length) a2]⟩)],[(501,⟨2,a1,a3.length,a2,a0⟩)],[(2,MF.ol a0 a3)])) ⟨zl,nA,Q10,Z⟩ [15,14,7,6,1,2] [6] [0,1] [0,1,2] ?_;rintro ⟨i,a1,a2,a0,a3⟩ ⟨v1,v2,v3,v4⟩;refine yKD 17 ?_ ?_<;>intro h1 aj
 obtain ⟨e1,a7,a8,ab⟩:=gO a6.2 i;refine yI 0 i ab ?_;rintro ag rfl;refine zL 0 3 e1 a7 ?_;rintro _;refine KV Z Z O (λw Y=>f41 n Q0 (Y.q 1 Z) a5 (i6 (i:Nat))) λai=>?_;refine yKN 25 ?_ ?_<;>intro h2 ae;refine KV Z Z O (λw Y=>f37 n Q0 a4 (a8.1)) λac=>?_;refine yKN 32 ?_ ?_<;>intro h3 ad;refine KV Z Z O (λw Y=>f37 n Q0 a4 (a8.2)) λah=>?_;refine yKN 38 ?_ ?_<;>intro h4 af;refine yB λp1=>?_;refine zT [] 3 e1 ((),()) λaa=>?_
 refine zP 501 42 (a3++[e1]).length aa λp2 c1=>?_;refine zV [2,3] 4 ?_;refine SA ?_;refine zU [4] 2 ?_;exact ITr Z (i+1,p2,c1,_,(a3++[e1])) ⟨Q0,(ac2 v2 (all_cons a8 nA)),Q3,(by rw [v4,abu a7];simp only [a2h,h2,h3,h4,cC])⟩ Q1 [0,1,2];refine SA ?_
 exact ITr Z (i+1,a1,a2,a0,a3) ⟨Q0,v2,Q3,(by rw [v4,abu a7];simp only [a2h,h2,h3,h4,cC])⟩ Q1 [0,1,2];refine SA ?_;exact ITr Z (i+1,a1,a2,a0,a3) ⟨Q0,v2,Q3,(by rw [v4,abu a7];simp only [a2h,h2,h3,cC])⟩ Q1 [0,1,2];refine SA ?_
 exact ITr Z (i+1,a1,a2,a0,a3) ⟨Q0,v2,Q3,(by rw [v4,abu a7];simp only [a2h,h2,cC])⟩ Q1 [0,1,2];have a9:=v4.trans (show _=a3 by rw [dn];simp only [a2h];omega);refine yE 501 2 15 ?_;rw [show aa1 n_ failed down=(aV.mk n_.size a3) by simp only [aa1,a9]];exact zX [16] ((),(a1,a2)) (An a6.1 (aby Q0 v2))
theorem f122 (hn:n+0<=9)(n_:aV)(N0:Rd w K0 M0 n_.links){dead:List Int}(N1:Rd w K1 M1 dead){down:Int}(a5:ok n n_)(a6:ok n dead)(a4:ok n down):
 DP 122 #[adv n_ K0 M0,vS K1 dead M1,vI down] w (pA w n (aa2 n_ dead down)):=by
 have hb:=bS0 hn;refine EN Tryz.func122 Z (aS2 N0 N1) ?_;refine R0 ?_;refine WX.row0 501 2 none Z ?_;refine F0 2 aQ ?_;have r1:=(okl a5.2).1
 refine LK (0,none,0,[],[]) (λ|(i,a1,a2,a0,a3)=>((i<=n_.links.length)/\JE n a3/\(a3.length<=i)/\(a45 dead down n_.links 0 []=a45 dead down (n_.links.drop i) i a3),n_.links.length-i,[(8,.v (vI i))],[(7,⟨26,[.int .i64 (n_.size),.slice a1 (a3.length) a2]⟩)],[(501,⟨2,a1,a3.length,a2,a0⟩)],[(2,MF.ol a0 a3)])) ⟨zl,nA,Q10,Z⟩ [7,6,3,1,2] [6,3] [0,1] [0,1,2] ?_;rintro ⟨i,a1,a2,a0,a3⟩ ⟨v1,v2,v3,v4⟩;refine yKD 16 ?_ ?_<;>intro h1 am
 obtain ⟨e1,a7,a8,a9⟩:=gO a5.2 i;refine KV Z Z O (λw Y=>f170 n Q0 (Y.q 1 Z) a6 (i6 (i:Nat))) λal=>?_;refine yKN 23 ?_ ?_<;>intro h2 ag;refine yI 0 i a9 ?_;rintro aj rfl;refine yL 0 3 e1 a7 ?_;rintro _;refine CV Z O (λw Y=>f123 n Q0 a4 (a8.1)) λad=>?_;refine yKN 34 ?_ ?_<;>intro h3 af;refine yI 0 i a9 ?_;rintro ai ⟨⟩;refine yL 0 3 e1 a7 ?_;rintro _;refine CV Z O (λw Y=>f123 n Q0 a4 (a8.2)) λak=>?_;refine yKN 44 ?_ ?_<;>intro h4 ah;refine yD [8,9,10] λbs G0 ab=>?_
 refine dT 6 [1,2,5,6,9] ?_;refine zDI 5 0 i ab Z a9 ?_;rintro ae ⟨⟩;refine zDL 6 0 3 e1 ab a7 ?_;rintro _;refine DX.tail2 [7,8,9,10] Z Z J ?_;refine zB λp1=>?_;refine zT [] 3 e1 ((),()) λac=>?_;refine zP 501 52 (a3++[e1]).length ac λp2 c1=>?_;refine zV [2,3] 4 ?_;refine SA ?_;refine zU [4] 2 ?_
 exact ITr Z (i+1,p2,c1,_,(a3++[e1])) ⟨Q0,(ac2 v2 (all_cons a8 nA)),Q3,(by rw [v4,abu a7];simp only [a45,h2,h3,h4,cC])⟩ Q1 [0,1,2];refine SA ?_;exact ITr Z (i+1,a1,a2,a0,a3) ⟨Q0,v2,Q3,(by rw [v4,abu a7];simp only [a45,h2,h3,h4,cC])⟩ Q1 [0,1,2];refine SA ?_
 exact ITr Z (i+1,a1,a2,a0,a3) ⟨Q0,v2,Q3,(by rw [v4,abu a7];simp only [a45,h2,h3,cC])⟩ Q1 [0,1,2];refine SA ?_;exact ITr Z (i+1,a1,a2,a0,a3) ⟨Q0,v2,Q3,(by rw [v4,abu a7];simp only [a45,h2,cC])⟩ Q1 [0,1,2];have aa:=v4.trans (show _=a3 by rw [dn];simp only [a45];omega)
 refine yE 501 2 15 ?_;rw [show aa2 n_ dead down=(aV.mk n_.size a3) by simp only [aa2,aa]];exact zX [16] ((),(a1,a2)) (An a5.1 (aby Q0 v2))
theorem f10 (hn:n+0<=9)(w_:aD)(N0:Rd w K0 M0 w_.aG.links)(N1:Rd w K1 M1 w_.aF.keys)(N2:Rd w K2 M2 w_.aF.bR)(N3:Rd w K3 M3 w_.aF.bV)(N4:Rd w K4 M4 w_.aF.bW)(N5:Rd w K5 M5 w_.aM)(N6:Rd w K6 M6 w_.aI)(N7:Rd w K7 M7 w_.aU)(N8:Rd w K8 M8 w_.aL)(N9:Rd w K9 M9 w_.aE)(a0:ok n w_):
 DP 10 #[af9 w_ K0 M0 K1 M1 K2 M2 K3 M3 K4 M4 K5 M5 K6 M6 K7 M7 K8 M8 K9 M9] w (pA w n (a0z w_)):=by
 refine EN Tryz.func10 Z (aC 0 N0 (aC 1 N1 (aC 2 N2 (aC 3 N3 (aC 4 N4 (aC 5 N5 (aC 6 N6 (aC 7 N7 (aC 8 N8 (aC 9 N9 ac8)))))))))) ?_;refine KF Z 10 Z O (λw Y=>f36 n Q0 w_.aG (Y.q 0 Z) (Y.q 7 Z) (a0.1) (a0.2.2.2.2.2.1) (a0.2.2.2.2.1)) ?_;rintro ⟨_,p1,c1⟩ a1;rw [show a0z w_=(aa1 w_.aG w_.aU w_.aY) by simp only [a0z]];exact yX [11] _ a1
theorem f70 (hn:n+0<=9)(w_:aD)(N0:Rd w K0 M0 w_.aG.links)(N1:Rd w K1 M1 w_.aF.keys)(N2:Rd w K2 M2 w_.aF.bR)(N3:Rd w K3 M3 w_.aF.bV)(N4:Rd w K4 M4 w_.aF.bW)(N5:Rd w K5 M5 w_.aM)(N6:Rd w K6 M6 w_.aI)(N7:Rd w K7 M7 w_.aU)(N8:Rd w K8 M8 w_.aL)(N9:Rd w K9 M9 w_.aE)(a0:ok n w_):
 DP 70 #[af9 w_ K0 M0 K1 M1 K2 M2 K3 M3 K4 M4 K5 M5 K6 M6 K7 M7 K8 M8 K9 M9] w (pA w n (a3v w_)):=by
 refine EN Tryz.func70 Z (aC 0 N0 (aC 1 N1 (aC 2 N2 (aC 3 N3 (aC 4 N4 (aC 5 N5 (aC 6 N6 (aC 7 N7 (aC 8 N8 (aC 9 N9 ac8)))))))))) ?_;refine KF Z 10 Z O (λw Y=>f122 n Q0 w_.aG (Y.q 0 Z) (Y.q 7 Z) (a0.1) (a0.2.2.2.2.2.1) (a0.2.2.2.2.1)) ?_;rintro ⟨_,p1,c1⟩ a1;rw [show a3v w_=(aa2 w_.aG w_.aU w_.aY) by simp only [a3v]];exact yX [11] _ a1
end Go.Proofs.YthdfhghdipdknaaGreat
namespace Go.Stp
def ac7 (fq:aN->Bool):List aN->Nat->Option (Int)|[],i=>none|e1::rest_,i=>bif fq e1 then (some ((i:Nat):Int))else ac7 fq rest_ (i+1)
def ach (s:(List aN))(fq:aN->Bool):Int:=match ac7 fq s 0 with|some r_=>r_|none=>(-1)
def a6g (from_:Int)(a:aN):Bool:=(a.origin==from_)
def a14 (l:(List aN))(from_:Int):Int:=(ach l (λe0_=>(a6g from_ e0_)))
def a6h (from_:Int):List aN->Nat->Option (Int)|[],i=>none|e1::rest_,i=>bif (e1.origin==from_)then (some ((i:Nat):Int))else a6h from_ rest_ (i+1)
def a0r (l:(List aN))(from_:Int):Int:=match a6h from_ l 0 with|some r_=>r_|none=>(-1)
theorem faSL (f:Int):∀(l:List aN) (i:Nat) (r:Int),a6h f l i=some r->r<((i+l.length:Nat):Int)
 |[],i,r,h=>by cases h
 |e::l,i,r,h=>by
  simp only [a6h]at h;cases h0:(e.origin==f)
  ·rw [h0,cond_false]at h
   have:=faSL f l (i+1) r h
   grind
  ·grind
theorem an1 (l:List aN)(f:Int):a0r l f<(l.length:Int):=by
 unfold a0r
 split
 ·rename_i r h;have:=faSL f l 0 r h;omega
 ·omega
theorem faIL (fq:aN->Bool):∀(l:List aN) (i:Nat) (r:Int),ac7 fq l i=some r->r<((i+l.length:Nat):Int)
 |[],i,r,h=>by cases h
 |e::l,i,r,h=>by
  simp only [ac7]at h;cases h0:fq e
  ·rw [h0,cond_false]at h
   have:=faIL fq l (i+1) r h
   grind
  ·grind
theorem amr (l:List aN)(f:Int):a14 l f<(l.length:Int):=by
 unfold a14 ach
 split
 ·rename_i r h;have:=faIL _ l 0 r h;omega
 ·omega
def a15 (l:(List aN))(a:Int)(b:Int):Bool:=bif decide ((a14 l a)>=0)then bif decide ((a14 l b)>=0)then match (l)[((a14 l a)).toNat]? with|none=>default|some e1=>bif (acz e1.cP b)then match (l)[((a14 l b)).toNat]? with|none=>default|some e2=>(acz e2.cP a)else false else false else false
def aa3 (l:(List aN))(a:Int)(b:Int):Bool:=bif decide ((a0r l a)>=0)then match (l)[((a0r l a)).toNat]? with|none=>default|some e1=>(a6f e1.cP b)else false
def a1x (l:(List aN))(a:Int)(b:Int):Bool:=bif (aa3 l a b)then (aa3 l b a)else false
def cneg (l:List Int):Nat:=l.countP (λx=>decide (x<0))
theorem aoq:∀ {l:List Int}{b:Nat}{e v:Int},l[b]? =some e->e<0->0<=v->cneg (l.set b v)+1=cneg l
 |[],b,e,v,h,_,_=>by simp at h
 |x::l,0,e,v,h,h1,h2=>by grind [cneg]
 |x::l,b+1,e,v,h,h1,h2=>by
  have ih:=aoq (l:=l) (b:=b) (by simpa using h) h1 h2
  grind [cneg]
def adq (o w:List Int):Prop:=o.length=6/\w.length+cneg o<=6/\(∀z∈w,0<=z/\z<6/\∀e,o[z.toNat]? =some e->0<=e)/\∀z∈o,-1<=z/\z<(w.length:Int)
theorem adq.w {o w:List Int}(h:adq o w){z:Int}{i:Nat}(hz:w[i]? =some z):0<=z/\z<6:=by have:=h.2.2.1 z (List.mem_of_getElem? hz);exact ⟨this.1,this.2.1⟩
theorem adq.o {o w:List Int}(h:adq o w){z:Int}{i:Nat}(hz:o[i]? =some z): -1<=z/\z<(w.length:Int):=h.2.2.2 z (List.mem_of_getElem? hz)
theorem adq.init {a:Int}(h:0<=a/\a<=5):adq (([-1,-1,-1,-1,-1,-1]:List Int).set a.toNat 0) [a]:=by
 have h1:a=0\/a=1\/a=2\/a=3\/a=4\/a=5:=by omega
 rcases h1 with rfl|rfl|rfl|rfl|rfl|rfl
 all_goals refine ⟨rfl,by decide,λz hz=>?_,by decide⟩
 all_goals (obtain rfl:=List.mem_singleton.1 hz;exact ⟨by decide,by grind⟩)
theorem adq.len {o w:List Int}(h:adq o w):o.length=6:=h.1
theorem adq.wl {o w:List Int}(h:adq o w):w.length<=6:=by have:=h.2.1;omega
theorem adq.step {o w:List Int}(h:adq o w){b i:Nat}{e z v:Int}(hb:o[b]? =some e)(he:e<0)(hz:w[i]? =some z)(hv:o[z.toNat]? =some v):adq (o.set b (v+1)) (w++[(b:Int)]):=by
 obtain ⟨h1,h2,h3,h4⟩:=h;have hbl:b<o.length:=(List.getElem?_eq_some_iff.1 hb).1;have hv0:=(h3 z (List.mem_of_getElem? hz)).2.2 v hv;have hv1:=h4 v (List.mem_of_getElem? hv);have hc:=aoq (v:=v+1) hb he (by omega);refine ⟨by simp [h1],by simp;omega,λy hy=>?_,λy hy=>?_⟩
 ·rcases List.mem_append.1 hy with hy|hy
  ·obtain ⟨a1,a2,a3⟩:=h3 y hy
   refine ⟨a1,a2,λq hq=>?_⟩
   by_cases hyb:b=y.toNat
   ·subst hyb;rw [List.getElem?_set_self hbl]at hq;cases hq;omega
   ·rw [List.getElem?_set_ne hyb]at hq;exact a3 q hq
  ·simp at hy;subst hy
   refine ⟨by omega,by omega,λq hq=>?_⟩;rw [Int.toNat_natCast,List.getElem?_set_self hbl]at hq;cases hq;omega
 ·rw [List.length_append]
  simp only [List.length_cons,List.length_nil];rcases List.mem_or_eq_of_mem_set hy with hy|hy
  ·have:=h4 y hy;omega
  ·omega
def a3h (l:(List aN))(i:Nat):Nat->Nat->(List Int)->(List Int)->(List Int)×(List Int)|0,i2,out2,work2=>(((out2):List Int),((work2):List Int))|m_+1,i2,out2,work2=>match (out2)[i2]? with|none=>default|some e2=>bif decide (e2<0)then match (work2)[i]? with|none=>default|some e3=>bif (a15 l e3 ((i2:Nat):Int))then match (out2)[(e3).toNat]? with|none=>default|some e4=>a3h l i m_ (i2+1) (((out2.set i2 (e4+1))):List Int) (((work2++[((i2:Nat):Int)])):List Int)else a3h l i m_ (i2+1) ((out2):List Int) ((work2):List Int)else a3h l i m_ (i2+1) ((out2):List Int) ((work2):List Int)
def a6i (l:(List aN))(i:Nat)(out:List Int)(work:List Int):Nat×(List Int)×(List Int):=if i<=6 then if ((i:Nat):Int)<((work).length:Int)then match a3h l i 6 0 (out:List Int) (work:List Int)with|(out2,work2)=>a6i l (i+1) ((out2):List Int) ((work2):List Int)else (i,((out):List Int),((work):List Int))else default
termination_by 7 - i
decreasing_by all_goals (simp_wf; omega)
def a19 (l:(List aN))(a:Int):(List Int):=bif (!(a0o a 0 5))then ([-1,-1,-1,-1,-1,-1]:List Int)else bif decide ((a14 l a)<0)then ([-1,-1,-1,-1,-1,-1]:List Int)else match (([-1,-1,-1,-1,-1,-1]:List Int))[(a).toNat]? with|none=>default|some e1=>match a6i l 0 ((([-1,-1,-1,-1,-1,-1]:List Int).set ((a).toNat) 0):List Int) ([a]:List Int)with|(i,out,work)=>out
def a2p (l:(List aN))(step:Int)(i:Nat):Nat->Nat->(List Int)->(List Int)|0,i2,out4=>((out4):List Int)|m_+1,i2,out4=>match (out4)[i]? with|none=>default|some e1=>bif (e1==step-1)then match (out4)[i2]? with|none=>default|some e2=>bif decide (e2<0)then bif (a1x l ((i:Nat):Int) ((i2:Nat):Int))then a2p l step i m_ (i2+1) (((out4.set i2 step)):List Int)else a2p l step i m_ (i2+1) ((out4):List Int)else a2p l step i m_ (i2+1) ((out4):List Int)else ((out4):List Int)
def a4o (l:(List aN))(step:Int):Nat->Nat->(List Int)->(List Int)|0,i,out3=>((out3):List Int)|m_+1,i,out3=>match a2p l step i 6 0 (out3:List Int)with|out4=>a4o l step m_ (i+1) ((out4):List Int)
def a4p (l:(List aN))(out2:List Int)(step:Int):(List Int)×Int:=if step<=6 then match a4o l step 6 0 (out2:List Int)with|out3=>a4p l ((out3):List Int) (step+1)else (((out2):List Int),step)
termination_by (7 - step).toNat
decreasing_by all_goals (simp_wf; omega)
def a27 (l:(List aN))(a:Int):Nat->Nat->(List Int)->(List Int)|0,i,out=>((out):List Int)|m_+1,i,out=>bif (((i:Nat):Int)==a)then bif decide ((a0r l a)>=0)then a27 l a m_ (i+1) (((out++[0])):List Int)else a27 l a m_ (i+1) (((out++[(-1)])):List Int)else a27 l a m_ (i+1) (((out++[(-1)])):List Int)
def a2i (l:(List aN))(a:Int):(List Int):=match a27 l a 6 0 ([]:List Int)with|out=>match a4p l (out:List Int) 1 with|(out2,step)=>out2
structure GD (R:Int->Int->Bool) (a m:Int) (o:List Int):Prop where
 len:o.length=6
 az:0<=a/\a<6/\o[a.toNat]? =some 0
 low:∀z∈o,-1<=z
 zero:∀b:Nat,o[b]? =some 0->(b:Int)=a
 pred:∀(b:Nat) (e:Int),o[b]? =some e->0<e->∃u:Nat,o[u]? =some (e-1)/\R u b=true
 cl:∀(u:Nat) (e:Int),o[u]? =some e->0<=e->e<=m->∀b:Nat,b<6->R u b=true->∃q,o[b]? =some q/\0<=q/\q<=e+1
theorem GD.le {R:Int->Int->Bool}{a m m':Int}{o o':List Int}(h:GD R a m o)(h':GD R a m' o'):∀(n:Nat) (b:Nat),(n:Int)<=m'+1->o[b]? =some (n:Int)->∃q,o'[b]? =some q/\0<=q/\q<=n
 |0,b,_,hb=>by
  have h1:=h.zero b (by simpa using hb);have h2:=h'.az.2.2
  grind
 |n+1,b,hn,hb=>by
  obtain ⟨u,hu,hr⟩:=h.pred b _ hb (by omega);obtain ⟨q,h1,h2,h3⟩:=GD.le h h' n u (by omega) (by grind);have hl:b<6:=by have:=(List.getElem?_eq_some_iff.1 hb).1;have:=h.len;omega
  obtain ⟨r,h4,h5,h6⟩:=h'.cl u q h1 h2 (by omega) b hl hr
  grind
theorem GD.eq {R:Int->Int->Bool}{a m m':Int}{o o':List Int}(h:GD R a m o)(h':GD R a m' o')(hm:5<=m)(hm':5<=m')(ho:∀z∈o,z<=5)(ho':∀z∈o',z<=6):o=o':=by
 apply List.ext_getElem?;intro b
 by_cases hb:b<6
 ·obtain ⟨e,he⟩:∃e,o[b]? =some e:=⟨_,List.getElem?_eq_getElem (by rw [h.len];exact hb)⟩
  obtain ⟨f,hf⟩:∃f,o'[b]? =some f:=⟨_,List.getElem?_eq_getElem (by rw [h'.len];exact hb)⟩;have e1:=h.low e (List.mem_of_getElem? he);have f1:=h'.low f (List.mem_of_getElem? hf);have e2:=ho e (List.mem_of_getElem? he);have f2:=ho' f (List.mem_of_getElem? hf)
  have k1:0<=e->0<=f/\f<=e:=λh0=>by
   obtain ⟨q,h1,h2,h3⟩:=GD.le h h' e.toNat b (by omega) (by grind)
   grind
  have k2:0<=f->0<=e/\e<=f:=λh0=>by
   obtain ⟨q,h1,h2,h3⟩:=GD.le h' h f.toNat b (by omega) (by grind)
   grind
  grind
 ·rw [List.getElem?_eq_none (by rw [h.len];omega),List.getElem?_eq_none (by rw [h'.len];omega)]
structure BI (R:Int->Int->Bool) (a:Int) (i:Nat) (o w:List Int):Prop where
 dist:adq o w
 az:0<=a/\a<6/\o[a.toNat]? =some 0
 zero:∀b:Nat,o[b]? =some 0->(b:Int)=a
 mem:∀(b:Nat) (e:Int),o[b]? =some e->0<=e->(b:Int)∈w
 pred:∀(b:Nat) (e:Int),o[b]? =some e->0<e->∃u:Nat,o[u]? =some (e-1)/\R u b=true
 srt:∀(p q:Nat) (x y e f:Int),p<=q->w[p]? =some x->w[q]? =some y->o[x.toNat]? =some e->o[y.toNat]? =some f->e<=f
 top:∀z d,w[i]? =some z->o[z.toNat]? =some d->∀x∈w,∀e,o[x.toNat]? =some e->e<=d+1
 cl:∀(p:Nat) (x:Int),p<i->w[p]? =some x->∀b:Nat,b<6->R x b=true->∃q e,o[b]? =some q/\o[x.toNat]? =some e/\0<=q/\q<=e+1
theorem adq.get {o w:List Int}(h:adq o w){z:Int}(hz:z∈w):∃e,o[z.toNat]? =some e/\0<=e:=by obtain ⟨h1,h2,h3⟩:=h.2.2.1 z hz;exact ⟨_,List.getElem?_eq_getElem (by have:=h.len;omega),h3 _ (List.getElem?_eq_getElem _)⟩
theorem BI.step {R:Int->Int->Bool}{a:Int}{i j:Nat}{o w:List Int}(h:BI R a i o w){e z d:Int}(hj:o[j]? =some e)(he:e<0)(hz:w[i]? =some z)(hd:o[z.toNat]? =some d)(hr:R z j=true):BI R a i (o.set j (d+1)) (w++[(j:Int)]):=by
 have hjl:j<o.length:=(List.getElem?_eq_some_iff.1 hj).1;have h0:=h.dist.len
 have hd0:0<=d:=by
  obtain ⟨q,h1,h2⟩:=h.dist.get (List.mem_of_getElem? hz);rw [hd]at h1;cases h1;exact h2
 have ne:∀x∈w,j≠x.toNat:=λx hx hne=>by
  obtain ⟨q,h1,h2⟩:=h.dist.get hx;rw [<-hne,hj]at h1;cases h1;omega
 have old:∀x∈w,(o.set j (d+1))[x.toNat]? =o[x.toNat]? :=λx hx=>List.getElem?_set_ne (ne x hx);have new:(o.set j (d+1))[j]? =some (d+1):=List.getElem?_set_self hjl;have hne:∀b:Nat,j≠b->(o.set j (d+1))[b]? =o[b]? :=λb hb=>List.getElem?_set_ne hb
 have keep:∀(b:Nat) (q:Int),o[b]? =some q->0<=q->(o.set j (d+1))[b]? =some q:=λb q hb hq=>by
  by_cases hjb:j=b
  ·subst hjb;rw [hj]at hb;cases hb;omega
  ·rw [hne b hjb];exact hb
 have wm:∀ {p:Nat} {x:Int},(w++[(j:Int)])[p]? =some x->(p<w.length/\w[p]? =some x)\/(p=w.length/\x=(j:Int)):=λ{p x} hp=>by
  by_cases hpl:p<w.length
  ·rw [List.getElem?_append_left hpl]at hp;exact .inl ⟨hpl,hp⟩
  ·rw [List.getElem?_append_right (by omega)]at hp
   have:p-w.length<1:=by have:=(List.getElem?_eq_some_iff.1 hp).1;simpa using this
   have hp0:p=w.length:=by omega
   subst hp0;simp at hp;exact .inr ⟨rfl,hp.symm⟩
 have iw:i<w.length:=(List.getElem?_eq_some_iff.1 hz).1;refine ⟨h.dist.step hj he hz hd,⟨h.az.1,h.az.2.1,keep _ _ h.az.2.2 (by omega)⟩,λb hb=>?_,λb q hb hq=>?_,λb q hb hq=>?_,λp q x y e1 f1 hpq hp hq hx hy=>?_,λz' d' hz' hd' x hx q hq=>?_,λp x hp hx b hb hrb=>?_⟩
 ·by_cases hjb:j=b
  ·subst hjb;rw [new]at hb;have:=Option.some.inj hb;omega
  ·rw [hne b hjb]at hb;exact h.zero b hb
 ·by_cases hjb:j=b
  ·subst hjb;simp
  ·rw [hne b hjb]at hb;exact List.mem_append.2 (.inl (h.mem b q hb hq))
 ·by_cases hjb:j=b
  ·subst hjb;rw [new]at hb;cases hb
   have hzr:=h.dist.w hz;refine ⟨z.toNat,?_,by rw [Int.toNat_of_nonneg hzr.1];exact hr⟩;rw [old z (List.mem_of_getElem? hz),hd];congr 1;omega
  ·rw [hne b hjb]at hb
   obtain ⟨u,h1,h2⟩:=h.pred b q hb hq;exact ⟨u,keep u _ h1 (by omega),h2⟩
 ·rcases wm hp with ⟨p1,p2⟩|⟨p1,p2⟩<;>rcases wm hq with ⟨q1,q2⟩|⟨q1,q2⟩
  ·rw [old x (List.mem_of_getElem? p2)]at hx;rw [old y (List.mem_of_getElem? q2)]at hy
   exact h.srt p q x y e1 f1 hpq p2 q2 hx hy
  ·subst q2;rw [old x (List.mem_of_getElem? p2)]at hx
   rw [Int.toNat_natCast,new]at hy;cases hy;exact h.top z d hz hd x (List.mem_of_getElem? p2) e1 hx
  ·omega
  ·subst p2;subst q2;rw [hx]at hy;cases hy;omega
 ·rw [List.getElem?_append_left iw]at hz'
  rw [hz]at hz';cases hz';rw [old z (List.mem_of_getElem? hz),hd]at hd';cases hd';rcases List.mem_append.1 hx with hx|hx
  ·rw [old x hx]at hq;exact h.top z d hz hd x hx q hq
  ·simp at hx;subst hx;rw [Int.toNat_natCast,new]at hq;cases hq;omega
 ·rcases wm hx with ⟨p1,p2⟩|⟨p1,p2⟩
  ·obtain ⟨q,e1,h1,h2,h3,h4⟩:=h.cl p x hp p2 b hb hrb
   exact ⟨q,e1,keep b q h1 h3,by rw [old x (List.mem_of_getElem? p2)];exact h2,h3,h4⟩
  ·omega
theorem BI.next {R:Int->Int->Bool}{a:Int}{i:Nat}{o w:List Int}(h:BI R a i o w){z d:Int}(hz:w[i]? =some z)(hd:o[z.toNat]? =some d)(hj:∀b:Nat,b<6->R z b=true->∃q,o[b]? =some q/\0<=q/\q<=d+1):BI R a (i+1) o w:=by
 refine ⟨h.dist,h.az,h.zero,h.mem,h.pred,h.srt,λz' d' hz' hd' x hx q hq=>?_,λp x hp hx b hb hrb=>?_⟩
 ·have h1:=h.top z d hz hd x hx q hq
  have h2:=h.srt i (i+1) z z' d d' (by omega) hz hz' hd hd';omega
 ·by_cases hpi:p=i
  ·grind
  ·exact h.cl p x (by omega) hx b hb hrb
theorem dL2 (l:List aN){a:Int}{i:Nat}{z d:Int}:∀(m j:Nat) (o w:List Int),m+j=6->BI (a15 l) a i o w->w[i]? =some z->o[z.toNat]? =some d->(∀b:Nat,b<j->a15 l z b=true->∃q,o[b]? =some q/\0<=q/\q<=d+1)->
  BI (a15 l) a (i+1) (a3h l i m j o w).1 (a3h l i m j o w).2/\i<(a3h l i m j o w).2.length
 |0,j,o,w,hm,h,hz,hd,hj=>by
  simp only [a3h];exact ⟨h.next hz hd (λb hb=>hj b (by omega)),(List.getElem?_eq_some_iff.1 hz).1⟩
 |m+1,j,o,w,hm,h,hz,hd,hj=>by
  have hl:=h.dist.len;obtain ⟨e,he⟩:∃e,o[j]? =some e:=⟨_,List.getElem?_eq_getElem (by omega)⟩;simp only [a3h,he,hz,hd];cases h1:decide (e<0)
  ·have h1':=of_decide_eq_false h1
   simp only [cond_false];refine dL2 l m (j+1) o w (by omega) h hz hd (λb hb hr=>?_)
   by_cases hbj:b=j
   ·subst hbj
    exact ⟨e,he,by omega,h.top z d hz hd b (h.mem b e he (by omega)) e (by grind)⟩
   ·grind
  ·have h1':=of_decide_eq_true h1
   simp only [cond_true];cases h2:a15 l z (j:Int)
   ·simp only [cond_false]
    refine dL2 l m (j+1) o w (by omega) h hz hd (λb hb hr=>?_)
    grind
   ·simp only [cond_true]
    have hs:=h.step he h1' hz hd h2;have hjl:j<o.length:=by omega
    have hzj:j≠z.toNat:=λhne=>by
     obtain ⟨q,a1,a2⟩:=h.dist.get (List.mem_of_getElem? hz)
     grind
    refine dL2 l m (j+1) _ _ (by omega) hs (by rw [List.getElem?_append_left (List.getElem?_eq_some_iff.1 hz).1];exact hz) (by rw [List.getElem?_set_ne hzj];exact hd) (λb hb hr=>?_)
    by_cases hbj:b=j
    ·subst hbj;exact ⟨d+1,List.getElem?_set_self hjl,by obtain ⟨q,a1,a2⟩:=h.dist.get (List.mem_of_getElem? hz);grind⟩
    ·grind
theorem dL1 (l:List aN){a:Int}:∀(k i:Nat) (o w:List Int),k=7-i->BI (a15 l) a i o w->i<=w.length->GD (a15 l) a 5 (a6i l i o w).2.1/\∀z∈(a6i l i o w).2.1,z<=5
 |k,i,o,w,hk,h,hi=>by
  have hw:=h.dist.wl;rw [a6i,if_pos (show i<=6 by omega)]
  split
  ·rename_i hlt
   have hlt':i<w.length:=by omega
   obtain ⟨z,hz⟩:∃z,w[i]? =some z:=⟨_,List.getElem?_eq_getElem hlt'⟩;obtain ⟨d,hd,_⟩:=h.dist.get (List.mem_of_getElem? hz);have:=dL2 l 6 0 o w rfl h hz hd (λb hb=>by omega);rcases hE:a3h l i 6 0 o w with ⟨o2,w2⟩;rw [hE]at this;exact dL1 l (7- (i+1)) (i+1) o2 w2 rfl this.1 (by grind)
  ·rename_i hlt
   have hlt':w.length<=i:=by omega
   refine ⟨⟨h.dist.len,h.az,λz hz=>(h.dist.2.2.2 z hz).1,h.zero,h.pred,λu e hu he _ b hb hr=>?_⟩,λz hz=>by have:=(h.dist.2.2.2 z hz).2;omega⟩;obtain ⟨p,hp⟩:=List.getElem?_of_mem (h.mem u e hu he);have hpl:=(List.getElem?_eq_some_iff.1 hp).1;obtain ⟨q,f,h1,h2,h3,h4⟩:=h.cl p u (by omega) hp b hb hr
   grind
 termination_by k=>k
 decreasing_by omega
theorem ahf (l:List aN){a:Int}(ha:0<=a/\a<=5)(hf:0<=a14 l a):GD (a15 l) a 5 (a19 l a)/\∀z∈a19 l a,z<=5:=by
 have h1:a0o a 0 5=true:=by
  unfold a0o
  grind
 have h2:decide (a14 l a<0)=false:=decide_eq_false (by omega);obtain ⟨e,he⟩:∃e,([-1,-1,-1,-1,-1,-1]:List Int)[a.toNat]? =some e:=⟨_,List.getElem?_eq_getElem (by simp;omega)⟩
 have hb:BI (a15 l) a 0 (([-1,-1,-1,-1,-1,-1]:List Int).set a.toNat 0) [a]:=by
  have hn:a.toNat<6:=by omega
  have hs:(([-1,-1,-1,-1,-1,-1]:List Int).set a.toNat 0)[a.toNat]? =some 0:=List.getElem?_set_self (by simpa using hn)
  have hm:∀(b:Nat) (q:Int),(([-1,-1,-1,-1,-1,-1]:List Int).set a.toNat 0)[b]? =some q->0<=q->b=a.toNat/\q=0:=λb q hb hq=>by
   by_cases hab:a.toNat=b
   ·grind
   ·rw [List.getElem?_set_ne hab]at hb
    grind
  refine ⟨adq.init ha,⟨ha.1,by omega,hs⟩,λb hb=>?_,λb q hb hq=>?_,λb q hb hq=>?_,λp q x y e f hpq hp hq hx hy=>?_,λz d hz hd x hx q hq=>?_,λp x hp=>by omega⟩
  ·grind
  ·grind
  ·grind
  ·grind
  ·grind
 have:=dL1 l 7 0 _ _ rfl hb (by simp)
 grind [a19,a6i]
theorem aom (l:List aN){a:Int}(h:¬((0<=a/\a<=5)/\0<=a14 l a)):a19 l a=[-1,-1,-1,-1,-1,-1]:=by
 unfold a19;cases h1:a0o a 0 5
 ·rfl
 ·have h2:0<=a/\a<=5:=by
   unfold a0o at h1
   grind
  grind
structure LI (R:Int->Int->Bool) (a s:Int) (o:List Int):Prop where
 len:o.length=6
 az:0<=a/\a<6/\o[a.toNat]? =some 0
 low:∀z∈o,-1<=z/\z<=s
 zero:∀b:Nat,o[b]? =some 0->(b:Int)=a
 pred:∀(b:Nat) (e:Int),o[b]? =some e->0<e->∃u:Nat,o[u]? =some (e-1)/\R u b=true
 cl:∀(u:Nat) (e:Int),o[u]? =some e->0<=e->e<=s-2->∀b:Nat,b<6->R u b=true->∃q,o[b]? =some q/\0<=q/\q<=e+1
theorem LI.step {R:Int->Int->Bool}{a s:Int}{i j:Nat}{o:List Int}(h:LI R a s o)(hs:1<=s)(hi:o[i]? =some (s-1)){e:Int}(hj:o[j]? =some e)(he:e<0)(hr:R i j=true):LI R a s (o.set j s):=by
 have hjl:j<o.length:=(List.getElem?_eq_some_iff.1 hj).1;have new:(o.set j s)[j]? =some s:=List.getElem?_set_self hjl;have hne:∀b:Nat,j≠b->(o.set j s)[b]? =o[b]? :=λb hb=>List.getElem?_set_ne hb;have keep:∀(b:Nat) (q:Int),o[b]? =some q->0<=q->(o.set j s)[b]? =some q:=λb q hb hq=>by grind
 refine ⟨by rw [List.length_set];exact h.len,⟨h.az.1,h.az.2.1,keep _ _ h.az.2.2 (by omega)⟩,λz hz=>?_,λb hb=>?_,λb q hb hq=>?_,λu q hu hq hqs b hb hrb=>?_⟩
 ·rcases List.mem_or_eq_of_mem_set hz with hz|hz
  ·exact h.low z hz
  ·omega
 ·by_cases hjb:j=b
  ·grind
  ·rw [hne b hjb]at hb;exact h.zero b hb
 ·by_cases hjb:j=b
  ·grind
  ·rw [hne b hjb]at hb
   obtain ⟨u,h1,h2⟩:=h.pred b q hb hq
   grind
 ·by_cases hju:j=u
  ·grind
  ·rw [hne u hju]at hu
   obtain ⟨r,h1,h2,h3⟩:=h.cl u q hu hq hqs b hb hrb
   grind
theorem dS4 (l:List aN){a s:Int}{i:Nat}(hs:1<=s):∀(m j:Nat) (o:List Int),m+j=6->i<6->LI (a1x l) a s o->(o[i]? =some (s-1)->∀b:Nat,b<j->a1x l i b=true->∃q,o[b]? =some q/\0<=q)->
  LI (a1x l) a s (a2p l s i m j o)/\(∀(b:Nat) (q:Int),o[b]? =some q->0<=q->(a2p l s i m j o)[b]? =some q)/\(∀b:Nat,(a2p l s i m j o)[b]? =some (s-1)->o[b]? =some (s-1))/\
  (o[i]? =some (s-1)->∀b:Nat,b<6->a1x l i b=true->∃q,(a2p l s i m j o)[b]? =some q/\0<=q)
 |0,j,o,hm,hi,h,hj=>by grind [a2p]
 |m+1,j,o,hm,hi,h,hj=>by
  have hl:=h.len;obtain ⟨c,hc⟩:∃c,o[i]? =some c:=⟨_,List.getElem?_eq_getElem (by omega)⟩;obtain ⟨e,he⟩:∃e,o[j]? =some e:=⟨_,List.getElem?_eq_getElem (by omega)⟩;simp only [a2p,hc,he];cases h0:(c==s-1)
  ·grind
  ·simp only [cond_true]
   have h0':c=s-1:=by simpa using h0
   subst h0'
   have go:(∃q,0<=q/\o[j]? =some q)\/a1x l i j=false->_:=λhx=>dS4 l hs (i:=i) (a:=a) m (j+1) o (by omega) hi h (λh1 b hb hr=>by
    by_cases hbj:b=j
    ·grind
    ·exact hj h1 b (by omega) hr)
   cases h1:decide (e<0)
   ·grind
   ·have h1':=of_decide_eq_true h1
    simp only [cond_true];cases h2:a1x l (i:Int) (j:Int)
    ·grind
    ·simp only [cond_true]
     have hjl:j<o.length:=by omega
     have hji:j≠i:=λhne=>by grind
     have hk:∀(b:Nat) (q:Int),o[b]? =some q->0<=q->(o.set j s)[b]? =some q:=λb q hb hq=>by grind
     obtain ⟨k1,k2,k3,k4⟩:=dS4 l hs (i:=i) (a:=a) m (j+1) (o.set j s) (by omega) hi (h.step hs hc he h1' h2) (λh3 b hb hr=>by
      by_cases hbj:b=j
      ·grind
      ·obtain ⟨q,a1,a2⟩:=hj hc b (by omega) hr
       exact ⟨q,hk b q a1 a2,a2⟩)
     grind
theorem dS3 (l:List aN){a s:Int}(hs:1<=s):∀(m i:Nat) (o:List Int),m+i=6->LI (a1x l) a s o->(∀u:Nat,u<i->o[u]? =some (s-1)->∀b:Nat,b<6->a1x l u b=true->∃q,o[b]? =some q/\0<=q)->
  LI (a1x l) a (s+1) (a4o l s m i o)/\∀z∈a4o l s m i o,z<=s
 |0,i,o,hm,h,hi=>by
  simp only [a4o];refine ⟨?_,λz hz=>(h.low z hz).2⟩;refine ⟨h.len,h.az,λz hz=>by have:=h.low z hz;omega,h.zero,h.pred,λu e hu he hes b hb hr=>?_⟩
  by_cases h1:e=s-1
  ·subst h1
   obtain ⟨q,h2,h3⟩:=hi u (by have:=(List.getElem?_eq_some_iff.1 hu).1;have:=h.len;omega) hu b hb hr;have:=h.low q (List.mem_of_getElem? h2)
   grind
  ·exact h.cl u e hu he (by omega) b hb hr
 |m+1,i,o,hm,h,hi=>by
  simp only [a4o];obtain ⟨k1,k2,k3,k4⟩:=dS4 l hs (i:=i) 6 0 o rfl (by omega) h (λ_ b hb=>by omega);refine dS3 l hs m (i+1) _ (by omega) k1 (λu hu h1 b hb hr=>?_)
  grind
theorem dS2 (l:List aN){a:Int}:∀(k:Nat) (s:Int) (o:List Int),k=(7-s).toNat->1<=s->s<=7->LI (a1x l) a s o->(∀z∈o,z<=s-1)->LI (a1x l) a 7 (a4p l o s).1/\∀z∈(a4p l o s).1,z<=6
 |k,s,o,hk,hs,h7,h,hz=>by
  rw [a4p]
  split
  ·rename_i hle
   have h3:=dS3 l hs 6 0 o rfl h (λu hu=>by omega);exact dS2 l (7- (s+1)).toNat (s+1) _ rfl (by omega) (by omega) h3.1 (λz hz=>by grind)
  ·grind
 termination_by k=>k
 decreasing_by omega
theorem dS1 (l:List aN)(a:Int):∀(m i:Nat) (o:List Int),a27 l a m i o=o++(List.range' i m).map (λ(b:Nat)=>if (b:Int)=a/\0<=a0r l a then (0:Int)else-1)
 |0,i,o=>by simp [a27]
 |m+1,i,o=>by
  simp only [a27,dS1 l a m,List.range'_succ,List.map_cons]
  grind
theorem dS1a (l:List aN)(a:Int)(h:¬((0<=a/\a<=5)/\0<=a0r l a)):a27 l a 6 0 []=[-1,-1,-1,-1,-1,-1]:=by
 rw [dS1]
 grind [List.range']
theorem dS1b (l:List aN){a:Int}(ha:0<=a/\a<=5)(hf:0<=a0r l a):LI (a1x l) a 1 (a27 l a 6 0 [])/\∀z∈a27 l a 6 0 [],z<=0:=by
 have hE:a27 l a 6 0 []=(List.range' 0 6).map (λ(b:Nat)=>if (b:Int)=a/\0<=a0r l a then (0:Int)else-1):=by rw [dS1];rfl
 have hg:∀(b:Nat) (e:Int),(a27 l a 6 0 [])[b]? =some e->b<6/\((b:Int)=a/\e=0\/(b:Int)≠a/\e= -1):=λb e hb=>by grind
 have hl:(a27 l a 6 0 []).length=6:=by rw [hE];simp
 refine ⟨⟨hl,⟨ha.1,by omega,?_⟩,λz hz=>?_,λb hb=>?_,λb e hb he=>?_,λu e hu he h1=>by omega⟩,λz hz=>?_⟩
 ·grind
 ·grind
 ·grind
 ·grind
 ·grind
theorem aiu (l:List aN){a:Int}(ha:0<=a/\a<=5)(hf:0<=a0r l a):GD (a1x l) a 5 (a2i l a)/\∀z∈a2i l a,z<=6:=by
 obtain ⟨h1,h2⟩:=dS1b l ha hf;obtain ⟨h3,h4⟩:=dS2 l 6 1 _ (by decide) (by omega) (by omega) h1 (λz hz=>by grind);have hE:a2i l a=(a4p l (a27 l a 6 0 []) 1).1:=by simp only [a2i]
 rw [hE];exact ⟨⟨h3.len,h3.az,λz hz=>(h3.low z hz).1,h3.zero,h3.pred,λu e hu he h5 b hb hr=>h3.cl u e hu he (by omega) b hb hr⟩,h4⟩
theorem dN4 (l:List aN){s:Int}(hs:1<=s){i:Nat}(hi:i<6):a2p l s i 6 0 [-1,-1,-1,-1,-1,-1]=[-1,-1,-1,-1,-1,-1]:=by grind [a2p]
theorem dN3 (l:List aN){s:Int}(hs:1<=s):∀(m i:Nat),m+i=6->a4o l s m i [-1,-1,-1,-1,-1,-1]=[-1,-1,-1,-1,-1,-1]
 |0,i,_=>by simp only [a4o]
 |m+1,i,h=>by
  simp only [a4o,dN4 l hs (i:=i) (by omega)];exact dN3 l hs m (i+1) (by omega)
theorem dN2 (l:List aN):∀(k:Nat) (s:Int),k=(7-s).toNat->1<=s->(a4p l [-1,-1,-1,-1,-1,-1] s).1=[-1,-1,-1,-1,-1,-1]
 |k,s,hk,hs=>by
  rw [a4p]
  split
  ·rw [dN3 l hs 6 0 rfl]
   exact dN2 l (7- (s+1)).toNat (s+1) rfl (by omega)
  ·rfl
 termination_by k=>k
 decreasing_by omega
theorem ajz (l:List aN){a:Int}(h:¬((0<=a/\a<=5)/\0<=a0r l a)):a2i l a=[-1,-1,-1,-1,-1,-1]:=by
 have hE:a2i l a=(a4p l (a27 l a 6 0 []) 1).1:=by simp only [a2i]
 rw [hE,dS1a l a h];exact dN2 l 6 1 (by decide) (by omega)
theorem ahz (l:List aN)(a:Int):(a19 l a).length=6:=by
 by_cases h:(0<=a/\a<=5)/\0<=a14 l a
 ·exact (ahf l h.1 h.2).1.len
 ·rw [aom l h];rfl
theorem aih (l:List aN)(a:Int):(a2i l a).length=6:=by
 by_cases h:(0<=a/\a<=5)/\0<=a0r l a
 ·exact (aiu l h.1 h.2).1.len
 ·rw [ajz l h];rfl
def a0f (l:(List aN))(a:Int)(b:Int):Int:=bif (!(a0o b 0 5))then (-1)else match ((a19 l a))[(b).toNat]? with|none=>default|some e1=>e1
def a1q (l:(List aN))(a:Int)(b:Int):Int:=bif (!(a07 b 0 5))then (-1)else match ((a2i l a))[(b).toNat]? with|none=>default|some e1=>e1
def a2q (l:(List aN))(a:Int)(b:Int):Nat->Nat->(List Int)->(List Int)|0,i,out=>((out):List Int)|m_+1,i,out=>bif decide ((a0f l a b)>=0)then bif (a15 l a ((i:Nat):Int))then bif ((a0f l ((i:Nat):Int) b)==(a0f l a b)-1)then a2q l a b m_ (i+1) (((out++[((i:Nat):Int)])):List Int)else a2q l a b m_ (i+1) ((out):List Int)else a2q l a b m_ (i+1) ((out):List Int)else a2q l a b m_ (i+1) ((out):List Int)
def a28 (l:(List aN))(a:Int)(b:Int):(List Int):=match a2q l a b 6 0 ([]:List Int)with|out=>out
def a46 (l:(List aN))(a:Int)(b:Int):Nat->Nat->(List Int)->(List Int)|0,i,out=>((out):List Int)|m_+1,i,out=>bif decide ((a1q l a b)>0)then bif (a1x l a ((i:Nat):Int))then bif ((a1q l ((i:Nat):Int) b)==(a1q l a b)-1)then a46 l a b m_ (i+1) (((out++[((i:Nat):Int)])):List Int)else a46 l a b m_ (i+1) ((out):List Int)else a46 l a b m_ (i+1) ((out):List Int)else ((out):List Int)
def a47 (l:(List aN))(a:Int)(b:Int):(List Int):=match a46 l a b 6 0 ([]:List Int)with|out=>out
def a2j:List Int->Nat->(List Int)->(List Int)|[],i,out=>((out):List Int)|e1::rest_,i,out=>bif decide (e1>=0)then a2j rest_ (i+1) (((out++[((i:Nat):Int)])):List Int)else a2j rest_ (i+1) ((out):List Int)
def a1h (l:(List aN))(a:Int):(List Int):=match a2j (a19 l a) 0 ([]:List Int)with|out=>out
def a5q:List Int->Nat->(List Int)->(List Int)|[],i,out=>((out):List Int)|e1::rest_,i,out=>bif decide (e1>=0)then a5q rest_ (i+1) (((out++[((i:Nat):Int)])):List Int)else a5q rest_ (i+1) ((out):List Int)
def a3i (l:(List aN))(a:Int):(List Int):=match a5q (a2i l a) 0 ([]:List Int)with|out=>out
theorem rchL:∀(d:List Int) (i:Nat) (out:List Int),a2j d i out=a5q d i out
 |[],i,out=>by simp only [a2j,a5q]
 |e::d,i,out=>by simp only [a2j,a5q,rchL d]
theorem rchM:∀(d:List Int) (i:Nat) (out:List Int) (x:Int),x∈a2j d i out->x∈out\/∃(j:Nat) (e:Int),x=((i+j:Nat):Int)/\d[j]? =some e/\0<=e
 |[],i,out,x,h=> .inl (by simpa [a2j]using h)
 |e::d,i,out,x,h=>by
  simp only [a2j]at h
  have go:∀out',x∈a2j d (i+1) out'->x∈out'\/∃(j:Nat) (f:Int),x=((i+j:Nat):Int)/\(e::d)[j]? =some f/\0<=f:=λout' h'=>by
   rcases rchM d (i+1) out' x h' with h1|⟨j,f,h1,h2,h3⟩
   ·exact .inl h1
   ·exact .inr ⟨j+1,f,by grind⟩
  cases h0:decide (e>=0)
  ·grind
  ·rw [h0,cond_true]at h
   rcases go _ h with h1|h1
   ·rcases List.mem_append.1 h1 with h1|h1
    ·exact .inl h1
    ·exact .inr ⟨0,e,by grind⟩
   ·exact .inr h1
theorem aq3 {l:List aN}{u b:Int}(h:a15 l u b=true):0<=a14 l b:=by
 unfold a15 at h
 grind
theorem aol {l:List aN}{u b:Int}(h:a1x l u b=true):0<=a0r l b:=by grind [a1x,aa3,a0r]
theorem aoi {l:List aN}{a x:Int}(h:x∈a1h l a):(0<=x/\x<=5)/\0<=a14 l x:=by
 rcases rchM _ 0 [] x h with h|⟨j,e,rfl,h2,h3⟩
 ·cases h
 ·have hj:=(List.getElem?_eq_some_iff.1 h2).1
  rw [ahz]at hj;refine ⟨by omega,?_⟩
  by_cases hf:(0<=a/\a<=5)/\0<=a14 l a
  ·have hg:=(ahf l hf.1 hf.2).1
   rw [Nat.zero_add]
   by_cases he:e=0
   ·subst he;rw [hg.zero j h2];exact hf.2
   ·obtain ⟨u,_,hr⟩:=hg.pred j e h2 (by omega)
    exact aq3 hr
  ·rw [aom l hf]at h2
   grind
theorem ajt {l:List aN}{a x:Int}(h:x∈a3i l a):(0<=x/\x<=5)/\0<=a0r l x:=by
 have h':x∈a2j (a2i l a) 0 []:=by rw [rchL];exact h
 rcases rchM _ 0 [] x h' with h|⟨j,e,rfl,h2,h3⟩
 ·cases h
 ·have hj:=(List.getElem?_eq_some_iff.1 h2).1
  rw [aih]at hj;refine ⟨by omega,?_⟩
  by_cases hf:(0<=a/\a<=5)/\0<=a0r l a
  ·have hg:=(aiu l hf.1 hf.2).1
   rw [Nat.zero_add]
   by_cases he:e=0
   ·subst he;rw [hg.zero j h2];exact hf.2
   ·obtain ⟨u,_,hr⟩:=hg.pred j e h2 (by omega)
    exact aol hr
  ·rw [ajz l hf]at h2
   grind
theorem aq0 {l:List aN}{a x:Int}{i:Nat}(h:(a3i l a)[i]? =some x):0<=a0r l x/\a0r l x<(l.length:Int):=⟨(ajt (List.mem_of_getElem? h)).2,an1 l x⟩
theorem ar7 {l:List aN}{a x:Int}{i:Nat}(h:(a1h l a)[i]? =some x):0<=a14 l x/\a14 l x<(l.length:Int):=⟨(aoi (List.mem_of_getElem? h)).2,amr l x⟩
end Go.Stp
namespace Go.Proofs.YthdfhghdipdknaaGreat
open Go.Stp
open Go.Stp.GoT (ok)
variable {w : World} (n : Nat) {K0 K1 : Option Addr} {M0 M1 : Nat}
theorem f136 (hn:n+0<=9){s:List aN}(N0:Rd w K0 M0 s)(fg:FuncId)(fc:List Value)(fq:aN->Bool)(ff:∀w1,Kp emp w w1->∀(e0:aN) (x0:GoT.X aN),ok n e0->All (hp w1) (GoT.fa .der e0 x0)->Does Tryz.prog fg ([Value.agg ⟨GoT.sh e0 x0⟩]++fc).toArray w1 emp (λrv _=>rv= .bool (fq e0)/\True))(a0:ok n s):
 DP 136 #[vS K0 s M0,.func (.func fg) #[] fc.toArray] w (pI n (ach s fq)):=by
 have hb:=bS0 hn;refine EN Tryz.func136 Z (aS1 N0) ?_;have r1:=a0.1;refine LS 8 s (ac7 fq) [7,0,1] [] [0] ?_;rintro i ⟨v1,v2⟩;refine yKD 9 ?_ ?_<;>intro h1 a8;obtain ⟨e1,a1,a3,a5⟩:=gO a0 i;refine yI 0 i a5 ?_;rintro a6 rfl;refine zL 0 1 e1 a1 ?_;rintro ⟨_,_,⟨p1,c1⟩,p2,c2⟩;refine WX.callV Z Z Z Z Z O Z (λw G bs hI hΓ=>ff w hI.keep e1 _ a3 (All.cons (hΓ.get 1 Z:RdSl _ _ _ _) (All.cons (hΓ.get 2 Z:RdSl _ _ _ _) All.nil))) λa7=>?_;refine yKA 16 ?_ ?_<;>intro h2
 have a4:=v2.trans (show _=(some (i:Int)) by rw [abu a1];simp only [ac7,h2,cC]);rw [show ach s fq=((i:Nat):Int) by simp only [ach,a4]];exact R6r Z Z (i6 (i:Nat));refine SA ?_;exact ITr Z (i+1) ⟨Q0,(by rw [v2,abu a1];simp only [ac7,h2,cC])⟩ Q1 [0];have a2:=v2.trans (show _=none by rw [dn];simp only [ac7];omega)
 rw [show ach s fq=(-1) by simp only [ach,a2]];exact R6r Z Z (i6 (-1))
theorem ae7:∀(f:aN->Bool) (l:List aN)(i:Nat)(j:Int),ac7 f l i=some j->j<((i+l.length:Nat):Int)
 |f,[],i,j,h=>by cases h
 |f,x::l,i,j,h=>by
  simp only [ac7]at h;cases hx:f x
  ·rw [hx,cond_false]at h
   have:=ae7 f l (i+1) j h
   grind
  ·grind
theorem afe (l:List aN)(f:aN->Bool):ach l f<(l.length:Int):=by
 unfold ach;cases h:ac7 f l 0 with
 |none=>show (-1:Int)<_;omega
 |some j=>have:=ae7 f l 0 j h;show j<_;omega
theorem f137 (hn:n+0<=9)(a:aN)(N0:Rd w K0 M0 a.cP)(N1:Rd w K1 M1 a.cG)(from_:Int)(bfrom_:Addr)(hfrom_:RdSl (hp w) (some bfrom_) 1 [from_])(a2:ok n a)(a1:ok n from_):
 DP 137 #[.agg #[vI a.origin,vI a.version,vS K0 a.cP M0,vS K1 a.cG M1],.pointer (some bfrom_)] w (pB (a6g from_ a)):=by
 refine EN Tryz.func137 Z (aS3 N0 N1 hfrom_) ?_;have a0:[from_][0]? =some from_:=rfl;refine WX.slot 1 (y:= .e (some bfrom_) 0 1 0) Z (λ_=>alw) ?_;refine yL 2 3 _ a0 ?_;rintro ⟨⟩;exact R4r Z Z (by simp only [a6g])
theorem f84 (hn:n+0<=9){l:List aN}(N0:Rd w K0 M0 l){from_:Int}(a4:ok n l)(a0:ok n from_):
 DP 84 #[vS K0 l M0,vI from_] w (pI n (a14 l from_)):=by
 refine EN Tryz.func84 Z (aS1 N0) ?_;refine KW Z Z Z Z Z Z O Z (λw G bs hI hΓ=>f136 n Q0 (hΓ.get 0 Z) 137 [Value.pointer _] (λa1=>(a6g from_ a1)) (λa8 a6 a1 a5 a3 a2=>f137 n Q0 a1 (a2 _ List.mem_cons_self) (a2 (MF.rs .der a5.2.2.2.1 a5.2.2.2.2 a1.cG) (by simp [GoT.fa])) from_ ⟨bs 3,0,none⟩ ((am0 (α:=Int) (a:=from_) (x:=()) (hI.loc 3 _ Z).1 All.nil).mono (art a6)) a3 a0) a4) λa7=>?_
 rw [show a14 l from_=(ach l (λa1=>(a6g from_ a1))) by simp only [a14]];exact R6r Z Z a7
theorem f125 (hn:n+0<=9){l:List aN}(N0:Rd w K0 M0 l){from_:Int}(a0:ok n l)(a1:ok n from_):
 DP 125 #[vS K0 l M0,vI from_] w (pI n (a0r l from_)):=by
 have hb:=bS0 hn;refine EN Tryz.func125 Z (aS1 N0) ?_;have r1:=a0.1;refine LS 5 l (a6h from_) [0,1] [] [0] ?_;rintro i ⟨v1,v2⟩;refine yKD 9 ?_ ?_<;>intro h1 a9;obtain ⟨e1,a2,a7,a5⟩:=gO a0 i;refine yI 0 i a5 ?_;rintro a8 rfl;refine yL 0 1 e1 a2 ?_;rintro ⟨_,_,⟨p1,c1⟩,p2,c2⟩;refine yKE 18 ?_ ?_<;>intro h2 a6;have a4:=v2.trans (show _=(some (i:Int)) by rw [abu a2];simp only [a6h,h2,cC]);rw [show a0r l from_=((i:Nat):Int) by simp only [a0r,a4]]
 exact R6r Z Z (i6 (i:Nat));refine SA ?_;exact ITr Z (i+1) ⟨Q0,(by rw [v2,abu a2];simp only [a6h,h2,cC])⟩ Q1 [0];have a3:=v2.trans (show _=none by rw [dn];simp only [a6h];omega);rw [show a0r l from_=(-1) by simp only [a0r,a3]];exact R6r Z Z (i6 (-1))
theorem f91 (hn:n+0<=9){l:List aN}(N0:Rd w K0 M0 l){a:Int}{b:Int}(a0:ok n l)(a2:ok n a)(a1:ok n b):
 DP 91 #[vS K0 l M0,vI a,vI b] w (pB (a15 l a b)):=by
 refine EN Tryz.func91 Z (aS1 N0) ?_;refine KV Z Z O (λw Y=>f84 n Q0 (Y.q 0 Z) a0 a2) λaa=>?_;have q1:=amr l a;refine KV Z Z O (λw Y=>f84 n Q0 (Y.q 0 Z) a0 a1) λa5=>?_;have q2:=amr l b;refine yKD 17 ?_ ?_<;>intro h1 ag;refine yKD 21 ?_ ?_<;>intro h2 ac;have r3:=i8 aa;refine R0 ?_;refine SI 23 ?_;obtain ⟨e1,a3,a8,a9⟩:=gO a0 ((a14 l a).toNat);refine zI 0 _ a9 ?_;rintro ae rfl;refine yL 0 1 e1 a3 ?_
 rintro ⟨_,_,⟨p1,c1⟩,p2,c2⟩;refine KV Z Z O (λw Y=>f41 n Q0 (Y.q 1 Z) (a8.2.2.1) a1) λaf=>?_;refine yKA 30 ?_ ?_<;>intro h3;have r5:=i8 a5;refine R0 ?_;refine SI 32 ?_;obtain ⟨e2,a4,a6,a7⟩:=gO a0 ((a14 l b).toNat);refine zI 0 _ a7 ?_;rintro ad ⟨⟩;refine yL 0 3 e2 a4 ?_;rintro ⟨_,_,⟨p3,c3⟩,p4,c4⟩;refine KV Z Z O (λw Y=>f41 n Q0 (Y.q 3 Z) (a6.2.2.1) a2) λab=>?_
 exact R4r Z Z (by simp only [a15,h1,h2,a3,h3,a4,cC]);exact R4r Z Z (by simp only [a15,h1,h2,a3,h3,cC]);exact R4r Z Z (by simp only [a15,h1,h2,cC]);exact R4r Z Z (by simp only [a15,h1,cC])
theorem f203 (hn:n+0<=9){l:List aN}(N0:Rd w K0 M0 l){a:Int}{b:Int}(a0:ok n l)(a1:ok n a)(a2:ok n b):
 DP 203 #[vS K0 l M0,vI a,vI b] w (pB (aa3 l a b)):=by
 refine EN Tryz.func203 Z (aS1 N0) ?_;refine KV Z Z O (λw Y=>f125 n Q0 (Y.q 0 Z) a0 a1) λa6=>?_;have q1:=an1 l a;refine yKD 13 ?_ ?_<;>intro h1 a9;have r3:=i8 a6;refine R0 ?_;refine SI 15 ?_;obtain ⟨e1,a3,a4,a5⟩:=gO a0 ((a0r l a).toNat);refine zI 0 _ a5 ?_;rintro a8 rfl;refine yL 0 1 e1 a3 ?_;rintro ⟨_,_,⟨p1,c1⟩,p2,c2⟩;refine KV Z Z O (λw Y=>f170 n Q0 (Y.q 1 Z) (a4.2.2.1) a2) λa7=>?_
 exact R4r Z Z (by simp only [aa3,h1,a3,cC]);exact R4r Z Z (by simp only [aa3,h1,cC])
theorem f172 (hn:n+0<=9){l:List aN}(N0:Rd w K0 M0 l){a:Int}{b:Int}(a1:ok n l)(a0:ok n a)(a2:ok n b):
 DP 172 #[vS K0 l M0,vI a,vI b] w (pB (a1x l a b)):=by
 refine EN Tryz.func172 Z (aS1 N0) ?_;refine KV Z Z O (λw Y=>f203 n Q0 (Y.q 0 Z) a1 a0 a2) λa4=>?_;refine yKA 11 ?_ ?_<;>intro h1;refine KV Z Z O (λw Y=>f203 n Q0 (Y.q 0 Z) a1 a2 a0) λa3=>?_;exact R4r Z Z (by simp only [a1x,h1,cC]);exact R4r Z Z (by simp only [a1x,h1,cC])
theorem f179:
 DP 179 #[.int .u64 1,.int .u64 6] w (λ(rv:Value) (_:World)=>rv= .tuple #[.int .u64 0,.int .u64 6]/\True):=by
 refine EN Tryz.func179 Z ac8 ?_;refine KS Z Z Z Z (λ_ hΓ=>afa 1 Z Z Z Q9) ?_;refine KS Z Z Z Z (λ_ hΓ=>ahk 0 Z Z Z Q9 Q9) ?_;refine KS Z Z Z Z (λ_ hΓ=>afa 6 Z Z Z Q9) ?_;refine KS Z Z Z Z (λ_ hΓ=>ahk 0 Z Z Z Q9 Q9) ?_;refine KS Z Z Z Z (λ_ hΓ=>afa 6 Z Z Z Q9) ?_;refine KS Z Z Z Z (λ_ hΓ=>afa 0 Z Z Z Q9) ?_;refine KS Z Z Z Z (λ_ hΓ=>ahk 0 Z Z Z Q9 Q9) ?_;refine KS Z Z Z Z (λ_ hΓ=>afa 0 Z Z Z Q9) ?_
 refine KS Z Z Z Z (λ_ hΓ=>afa 0 Z Z Z Q9) ?_;refine KS Z Z Z Z (λ_ hΓ=>ahk 0 Z Z Z Q9 Q9) ?_;refine KS Z Z Z Z (λ_ hΓ=>afa 0 Z Z Z Q9) ?_;refine KS Z Z Z Z (λ_ hΓ=>afa 0 Z Z Z Q9) ?_;refine KS Z Z Z Z (λ_ hΓ=>afa 0 Z Z Z Q9) ?_;refine KS Z Z Z Z (λ_ hΓ=>afa 0 Z Z Z Q9) ?_;refine KS Z Z Z Z (λ_ hΓ=>ahk 0 Z Z Z Q9 Q9) ?_;refine KS Z Z Z Z (λ_ hΓ=>afa 0 Z Z Z Q9) ?_
 refine KS Z Z Z Z (λ_ hΓ=>afa 6 Z Z Z Q9) ?_;refine R0 ?_;refine R1 ?_;intros;exact ⟨Z,trivial⟩
theorem f140:
 DP 140 #[.int .u64 1,.int .u64 6] w (λ(rv:Value) (_:World)=>rv= .tuple #[.int .u64 0,.int .u64 6]/\True):=by
 refine EN Tryz.func140 Z ac8 ?_;refine KV Z Z O (λw Y=>f179) λa0=>?_;refine R0 ?_;refine R1 ?_;intros;exact ⟨Z,trivial⟩
theorem f90 (hn:n+0<=9){x_:List Int}(N0:Rd w K0 M0 x_){count:Int}(hq0:x_=[-1]/\count=6)(a1:ok n x_)(a0:ok n count):
 DP 90 #[vS K0 x_ M0,vI count] w (pS w n [-1,-1,-1,-1,-1,-1]):=by
  obtain ⟨rfl,rfl⟩:=hq0;have a4:=adi n;refine EN Tryz.func90 Z (aS1 N0) ?_;refine yKA 10 ?_ ?_<;>intro h1
  ·exact absurd h1 Q9
  refine KS Z Z Z Z (λ_ hΓ=>akc 1 ttOk Z Z Z Z Z Z Q9) ?_;refine KS Z Z Z Z (λ_ hΓ=>akc 6 ttOk Z Z Z Z Z Z Q9) ?_;refine CV Z O (λw Y=>f140) λa5=>?_;refine KS Z Z Z Z (λ_ hΓ=>ans Z Z Z Q9) ?_;refine KS Z Z Z Z (λ_ hΓ=>ans Z Z Z Q9) ?_;refine KS Z Z Z Z (λ_ hΓ=>akc 6 ttOk Z Z Z Z Z Z Q9) ?_;refine WX.mkS 6 ttOk Z Z Z Z Z Z Z Q9 Q9 Z λp=>?_;refine R0 ?_
  refine WX.cpy 30 0 1 [.int .i64 (-1)] ttOk Z Z Z Z Z (by rw [aig];rfl) Z Z Z Z (show 0+1<=6 by decide) Z Q9 (λw G bs hI hΓ=>?_) Z ?_
  ·obtain ⟨xs,h1,h2⟩:=atn (hΓ.get 0 rfl)
   obtain ⟨_,ys,rfl,_,rfl⟩:=h2;intro j u hu;obtain ⟨a,ha,hc⟩:=h1 j u hu;exact ⟨a,ha,hI.le.cell hc⟩
  refine LM Z 1 (λm=>(m=1\/m=2\/m=4\/m=6,6-m,[(8,.v (.int .i64 m))],[],[(30,⟨1,p,6,6,List.replicate m _++List.replicate (6-m) (Value.int .i64 0)⟩)],[])) (.inl Z) [7] [] [] [] ?_;rintro m hm;refine yKA 37 ?_ ?_<;>intro h2
  ·refine R0 ?_
   have h3:(m:Int)<6:=of_decide_eq_true h2
   replace hm:m=1\/m=2\/m=4:=by
     have a3:=hm
     omega
   clear h2 h3
   rcases hm with rfl|rfl|rfl
   ·refine WX.draw [7,8,9] mixed ?_
    intro bs G0 a2;refine dT 5 [1,3,5,9,11] ?_;refine DX.seeP 3 J Z Z Z Z (aea 1 ttOk Z Z Z Z Z Q0) ?_;refine DX.seeP 6 J Z Z Z Z (adg 1 ttOk Z Z Z Z Z Q0) ?_;refine DX.tail2 [7,8,9] Z Z J ?_;refine WX.cpy 30 1 1 (List.replicate 1 (Value.int .i64 (-1))) ttOk Z Z Z Z Z Z Z Z Z Z (show 1+1<=6 by decide) Z Q9 (λw G bs hI _=>by have h:=akm (σ:=30) (w:=w) hI Z 0 1 (show 0+1<=6 by decide);rw [aig]at h;exact h) Z ?_;refine KS Z Z Z Z (λ_ hΓ=>aeu Z Z Z Z (by unfold I64;omega)) ?_
    exact ITr Z 2 (.inr (.inl Z)) (show 6-2<6-1 by decide) []
   ·refine WX.draw [7,8,9] mixed ?_
    intro bs G0 a2;refine dT 5 [1,3,5,9,11] ?_;refine DX.seeP 3 J Z Z Z Z (aea 2 ttOk Z Z Z Z Z Q0) ?_;refine DX.seeP 6 J Z Z Z Z (adg 2 ttOk Z Z Z Z Z Q0) ?_;refine DX.tail2 [7,8,9] Z Z J ?_;refine WX.cpy 30 2 2 (List.replicate 2 (Value.int .i64 (-1))) ttOk Z Z Z Z Z Z Z Z Z Z (show 2+2<=6 by decide) Z Q9 (λw G bs hI _=>by have h:=akm (σ:=30) (w:=w) hI Z 0 2 (show 0+2<=6 by decide);rw [aig]at h;exact h) Z ?_;refine KS Z Z Z Z (λ_ hΓ=>aeu Z Z Z Z (by unfold I64;omega)) ?_
    exact ITr Z 4 (.inr (.inr (.inl Z))) (show 6-4<6-2 by decide) []
   ·refine WX.draw [7,8,9] mixed ?_
    intro bs G0 a2;refine dT 5 [1,3,5,9,11] ?_;refine DX.seeP 3 J Z Z Z Z (aea 4 ttOk Z Z Z Z Z Q0) ?_;refine DX.seeP 6 J Z Z Z Z (adg 4 ttOk Z Z Z Z Z Q0) ?_;refine DX.tail2 [7,8,9] Z Z J ?_;refine WX.cpy 30 4 2 (List.replicate 2 (Value.int .i64 (-1))) ttOk Z Z Z Z Z Z Z Z Z Z (show 4+2<=6 by decide) Z Q9 (λw G bs hI _=>by have h:=akm (σ:=30) (w:=w) hI Z 0 2 (show 0+2<=6 by decide);rw [aig]at h;exact h) Z ?_;refine KS Z Z Z Z (λ_ hΓ=>aeu Z Z Z Z (by unfold I64;omega)) ?_
    exact ITr Z 6 (.inr (.inr (.inr Z))) (show 6-6<6-4 by decide) []
  obtain rfl:m=6:=by
    have h3:¬((m:Int)<6):=of_decide_eq_false h2;have a3:=hm
    omega
  refine WX.free 1 (MF.ol [.int .i64 (-1),.int .i64 (-1),.int .i64 (-1),.int .i64 (-1),.int .i64 (-1),.int .i64 (-1)] ([-1,-1,-1,-1,-1,-1]:List Int)) ⟨(),_,emp,_,Z,acv _,Le.refl _,ade _,trivial,⟨(),_,emp,_,Z,acv _,Le.refl _,ade _,trivial,⟨(),_,emp,_,Z,acv _,Le.refl _,ade _,trivial,⟨(),_,emp,_,Z,acv _,Le.refl _,ade _,trivial,⟨(),_,emp,_,Z,acv _,Le.refl _,ade _,trivial,⟨(),_,emp,_,Z,acv _,Le.refl _,ade _,trivial,Z⟩⟩⟩⟩⟩⟩ ?_;refine yE 30 1 2 ?_
  exact zX [3] (p,6) (aby (by show 6<=_;omega) (λa ha=>by simp at ha;subst ha;show I64 (-1);unfold I64;omega))
theorem f42 (hn:n+0<=9){l:List aN}(N0:Rd w K0 M0 l){a:Int}(ai:ok n l)(ad:ok n a):
 DP 42 #[vS K0 l M0,vI a] w (pS w n (a19 l a)):=by
 have hb:=bS0 hn;refine EN Tryz.func42 Z (aS1 N0) ?_;refine yB λp1=>?_;refine zT (α:=Int) [] 1 (-1) () λ_=>?_;refine zE 9 1 2 ?_;refine CF 4 Z O (λw Y=>f90 n Q0 (Y.q 2 Z) ⟨Z,Z⟩ (aby Q7 (all_cons (α:=Int) (i6 (-1)) nA):ok n ([(-1)]:List Int)) (i6 6)) ?_;rintro ⟨p2,c1⟩ al;refine KV Z Z O (λw Y=>f33 n Q0 ad (i6 0) (i6 5)) λb7=>?_;refine yKN 14 ?_ ?_<;>intro h1 bj;rw [show a19 l a=([-1,-1,-1,-1,-1,-1]:List Int) by simp only [a19,h1,cC]];exact yX [5] (p2,c1) al
 have bt:=afl (B.nf h1);refine KV Z Z O (λw Y=>f84 n Q0 (Y.q 0 Z) ai ad) λbp=>?_;refine yKD 19 ?_ ?_<;>intro h2 bc;rw [show a19 l a=([-1,-1,-1,-1,-1,-1]:List Int) by simp only [a19,h1,h2,cC]];exact yX [5] (p2,c1) al;refine R0 ?_;refine SI 22 ?_;refine zN (kk:=1) 501 5 6 λbk c4=>?_;have ar:a.toNat<(([-1,-1,-1,-1,-1,-1]:List Int)).length:=(by show a.toNat<6;omega);refine zR 501 (a.toNat) ar ?_;rintro am rfl;obtain ⟨e1,aq,be,az⟩:=gO al a.toNat
 refine zO (α:=Int) (e:=e1) 501 6 7 (a.toNat) aq ?_;rintro A1 B1 ⟨⟩ b1 bq;refine zS 501 b1 ar ?_;refine yB λp3=>?_;refine R0 ?_;refine WX.turn [7,8] 9 Z (λh hs=>ae8 (α:=Int) (e:=0) (x:=()) az hs) Z ?_;refine zT (α:=Int) [] 10 a () λ_=>?_
 refine LK ((A1++[.int .i64 (0)]++B1),((([-1,-1,-1,-1,-1,-1]:List Int).set (a.toNat) 0):List Int),p3,1,[.int .i64 a],([a]:List Int),0) (λ|(ab,a7,aa,a9,a8,a3,i)=>((a7.length=(([-1,-1,-1,-1,-1,-1]:List Int)).length)/\JE n a7/\JE n a3/\(adq a7 a3)/\(a7.length=6)/\(a3.length<=6)/\(i<=a3.length)/\(a6i l 0 ((([-1,-1,-1,-1,-1,-1]:List Int).set (a.toNat) 0):List Int) ([a]:List Int)=a6i l i a7 a3),7-i,[(6,.v (vS aa a3 a9)),(7,.v (vI i))],[],[(501,⟨1,(some am),(([-1,-1,-1,-1,-1,-1]:List Int)).length,c1,ab⟩),(25,⟨1,aa,a3.length,a9,a8⟩)],[(9,MF.ol ab (a7:List Int)),(10,MF.ol a8 (a3:List Int))])) ⟨Q7,(adz (okl al).2 (show ok n (0:Int)from (i6 0))),(all_cons (α:=Int) ad nA),(show adq _ _ by first|assumption|exact adq.init ⟨by omega,by omega⟩),(adq.len (show adq _ _ by first|assumption|exact adq.init ⟨by omega,by omega⟩)),(adq.wl (show adq _ _ by first|assumption|exact adq.init ⟨by omega,by omega⟩)),Q0,Z⟩ [5,0] [] [0] [0,9,10] ?_
 rintro ⟨ab,a7,aa,a9,a8,a3,i⟩ ⟨v1,v2,v3,v4,v5,v6,v7,v8⟩;refine yKD 29 ?_ ?_<;>intro h3 ap
 refine LM Z (ab,(a7:List Int),aa,a9,a8,(a3:List Int),0) (λ|(a4,a1,a6,a5,a2,a0,i2)=>((i2<=6)/\(a1.length=(([-1,-1,-1,-1,-1,-1]:List Int)).length)/\JE n a1/\JE n a0/\(adq a1 a0)/\(a1.length=6)/\(a0.length<=6)/\(i<a0.length)/\(a3h l i 6 0 (a7:List Int) (a3:List Int)=a3h l i (6-i2) i2 a1 a0),6-i2,[(6,.v (vS a6 a0 a5)),(32,.v (vI i2))],[],[(501,⟨1,(some am),(([-1,-1,-1,-1,-1,-1]:List Int)).length,c1,a4⟩),(25,⟨1,a6,a0.length,a5,a2⟩)],[(9,MF.ol a4 (a1:List Int)),(10,MF.ol a2 (a0:List Int))])) ⟨zl,Q7,v2,v3,(show adq a7 a3 by first|assumption|exact adq.init ⟨by omega,by omega⟩),(adq.len (show adq a7 a3 by first|assumption|exact adq.init ⟨by omega,by omega⟩)),(adq.wl (show adq a7 a3 by first|assumption|exact adq.init ⟨by omega,by omega⟩)),Q0,Z⟩ [5,7,0] [] [0] [0,9,10] ?_
 rintro ⟨a4,a1,a6,a5,a2,a0,i2⟩ ⟨v9,bi,ah,aj,bx,bw,bz,bs,ak⟩;refine yKD 33 ?_ ?_<;>intro h4 bf;have ax:i2<(([-1,-1,-1,-1,-1,-1]:List Int)).length:=Q4;refine R0 ?_;refine zR 501 i2 ax ?_;rintro bh ⟨⟩;have aw:i2<a1.length:=Q4;obtain ⟨e2,ac⟩:=gE aw;refine WX.ldR 501 11 e2 ttOk Z Z Z Z Z Z Z Z Z ax (λG hΓ=>(hΓ.get 9 Z:OwL _ _ _).rd) ac O O ?_;rintro ⟨⟩ b8;refine yKD 40 ?_ ?_<;>intro h5 bn
 have ay:i<a0.length:=Q4;refine R0 ?_;refine zR 25 i ay ?_;rintro b5 rfl;have b2:i<a0.length:=Q4;obtain ⟨e3,ae⟩:=gE b2;have ao:ok n e3:=aj _ (List.mem_of_getElem? ae);have c3:=adq.w (show adq a1 a0 by assumption) ae;refine WX.ldR 25 11 e3 ttOk Z Z Z Z Z Z Z Z Z ay (λG hΓ=>(hΓ.get 10 Z:OwL _ _ _).rd) ae O O ?_;rintro ⟨⟩ bv;refine KV Z Z O (λw Y=>f91 n Q0 (Y.q 0 Z) ai ao (i6 ((i2:Nat):Int))) λbb=>?_;refine yKA 48 ?_ ?_<;>intro h6
 have an:i<a0.length:=Q4;refine R0 ?_;refine zR 25 i an ?_;rintro br ⟨⟩;refine WX.ldR 25 11 e3 ttOk Z Z Z Z Z Z Z Z Z an (λG hΓ=>(hΓ.get 10 Z:OwL _ _ _).rd) ae O O ?_;rintro ⟨⟩ ba;refine SI 55 ?_;have au:e3.toNat<(([-1,-1,-1,-1,-1,-1]:List Int)).length:=Q4;refine zR 501 (e3.toNat) au ?_;rintro bo ⟨⟩;have b6:e3.toNat<a1.length:=Q4;obtain ⟨e4,ag⟩:=gE b6;have b3:ok n e4:=ah _ (List.mem_of_getElem? ag);have bg:=adq.o (show adq a1 a0 by assumption) ag
 refine WX.ldR 501 11 e4 ttOk Z Z Z Z Z Z Z Z Z au (λG hΓ=>(hΓ.get 9 Z:OwL _ _ _).rd) ag O O ?_;rintro ⟨⟩ bl;have r3:=i8 b3;refine SA0 ?_;have av:i2<(([-1,-1,-1,-1,-1,-1]:List Int)).length:=Q4;refine zR 501 i2 av ?_;rintro c0 ⟨⟩;refine zO (α:=Int) (e:=e2) 501 9 11 i2 ac ?_;rintro A2 B2 ⟨⟩ b4 bm;refine zS 501 b4 av ?_;refine yB λp4=>?_;refine zT (α:=Int) [] 13 ((i2:Nat):Int) () λb0=>?_;refine zP 25 62 ((a0++[((i2:Nat):Int)]):List Int).length b0 λp5 c2=>?_;refine zV [10,13] 14 ?_;refine SA ?_;refine R0 ?_
 refine WX.turn [11,12] 15 Z (λh hs=>ae8 (α:=Int) (e:=(e4+1)) (x:=()) aw hs) Z ?_;refine zU [15] 9 ?_;refine zU [14] 10 ?_
 exact IT (_,((a1.set i2 (e4+1)):List Int),p5,c2,_,((a0++[((i2:Nat):Int)]):List Int),i2+1) ⟨Q0,Q3,(adz ah (show ok n ((e4+1):Int)from (i6 (e4+1)))),(ac2 aj (all_cons (α:=Int) (i6 ((i2:Nat):Int)) nA)),(adq.step (show adq a1 a0 by assumption) ac Q0 ae ag),(adq.len (adq.step (show adq a1 a0 by assumption) ac Q0 ae ag)),(adq.wl (adq.step (show adq a1 a0 by assumption) ac Q0 ae ag)),Q5,(by rw [ak,show 6-i2=(6- (i2+1))+1 by omega];simp only [a3h,ac,h5,ae,h6,ag,cC])⟩ Q1 [0,9,10]
 refine SA ?_;exact ITr Z (a4,(a1:List Int),(some b5),a5,a2,(a0:List Int),i2+1) ⟨Q0,Q3,ah,aj,(show adq a1 a0 by assumption),(adq.len (show adq a1 a0 by assumption)),(adq.wl (show adq a1 a0 by assumption)),Q5,(by rw [ak,show 6-i2=(6- (i2+1))+1 by omega];simp only [a3h,ac,h5,ae,h6,cC])⟩ Q1 [0,9,10];refine SA ?_
 exact ITr Z (a4,(a1:List Int),a6,a5,a2,(a0:List Int),i2+1) ⟨Q0,Q3,ah,aj,(show adq a1 a0 by assumption),(adq.len (show adq a1 a0 by assumption)),(adq.wl (show adq a1 a0 by assumption)),Q5,(by rw [ak,show 6-i2=(6- (i2+1))+1 by omega];simp only [a3h,ac,h5,cC])⟩ Q1 [0,9,10];have af:=ak.trans (show _=((a1:List Int),(a0:List Int)) by rw [show 6-i2=0 by omega];simp only [a3h])
 refine SA ?_;exact ITr Z (a4,(a1:List Int),a6,a5,a2,(a0:List Int),i+1) ⟨Q3,ah,aj,(show adq a1 a0 by assumption),(adq.len (show adq a1 a0 by assumption)),(adq.wl (show adq a1 a0 by assumption)),Q5,(by rw [v8];rw [a6i];simp only [(show i<=6 by omega),ap,af,↓reduceIte])⟩ Q1 [0,9,10]
 have af:=v8.trans (show _=(i,(a7:List Int),(a3:List Int)) by rw [a6i];simp only [(show i<=6 by omega),ap,↓reduceIte]);refine yE 501 9 23 (hn:=(show (([-1,-1,-1,-1,-1,-1]:List Int)).length=a7.length from by omega)) ?_;refine SL 4 a7.length ?_;refine SL 65 a7.length ?_;refine SL 5 a7.length ?_;rw [show a19 l a=a7 by simp only [a19,h1,h2,aq,af,cC]];exact zX [24] ((some am),c1) (aby Q0 v2:ok n (a7:List Int))
theorem f171 (hn:n+0<=9){l:List aN}(N0:Rd w K0 M0 l){a:Int}(af:ok n l)(ao:ok n a):
 DP 171 #[vS K0 l M0,vI a] w (pS w n (a2i l a)):=by
 have hb:=bS0 hn;refine EN Tryz.func171 Z (aS1 N0) ?_;refine yB λp1=>?_;refine F0 1 Int ?_;refine LM Z (p1,0,[],([]:List Int),0) (λ|(a8,a9,aa,a4,i)=>((i<=6)/\JE n a4/\(a4.length=i)/\(a27 l a 6 0 ([]:List Int)=a27 l a (6-i) i a4),6-i,[(5,.v (vS a8 a4 a9)),(6,.v (vI i))],[],[(11,⟨1,a8,a4.length,a9,aa⟩)],[(1,MF.ol aa (a4:List Int))])) ⟨zl,nA,Q10,Z⟩ [0,1] [] [0] [0,1] ?_;rintro ⟨a8,a9,aa,a4,i⟩ ⟨v1,v2,v3,v4⟩;refine yKD 13 ?_ ?_<;>intro h1 bk;refine yKE 19 ?_ ?_<;>intro h2 bh
 refine KV Z Z O (λw Y=>f125 n Q0 (Y.q 0 Z) af ao) λbw=>?_;refine yKD 24 ?_ ?_<;>intro h3 bg;refine yB λp2=>?_;refine zT (α:=Int) [] 2 0 () λaj=>?_;refine zP 11 27 ((a4++[0]):List Int).length aj λp3 c1=>?_;refine zV [1,2] 3 ?_;refine SA ?_;refine zU [3] 1 ?_
 exact ITr Z (p3,c1,_,((a4++[0]):List Int),i+1) ⟨Q0,(ac2 v2 (all_cons (α:=Int) (i6 0) nA)),(by simp;omega),(by rw [v4,show 6-i=(6- (i+1))+1 by omega];simp only [a27,h2,h3,cC])⟩ Q1 [0,1];refine yB λp2=>?_;refine zT (α:=Int) [] 2 (-1) () λaj=>?_;refine zP 11 27 ((a4++[(-1)]):List Int).length aj λp3 c1=>?_;refine zV [1,2] 3 ?_;refine SA ?_;refine zU [3] 1 ?_
 exact ITr Z (p3,c1,_,((a4++[(-1)]):List Int),i+1) ⟨Q0,(ac2 v2 (all_cons (α:=Int) (i6 (-1)) nA)),(by simp;omega),(by rw [v4,show 6-i=(6- (i+1))+1 by omega];simp only [a27,h2,h3,cC])⟩ Q1 [0,1];refine yB λp2=>?_;refine zT (α:=Int) [] 2 (-1) () λaj=>?_;refine zP 11 27 ((a4++[(-1)]):List Int).length aj λp3 c1=>?_;refine zV [1,2] 3 ?_;refine SA ?_;refine zU [3] 1 ?_
 exact ITr Z (p3,c1,_,((a4++[(-1)]):List Int),i+1) ⟨Q0,(ac2 v2 (all_cons (α:=Int) (i6 (-1)) nA)),(by simp;omega),(by rw [v4,show 6-i=(6- (i+1))+1 by omega];simp only [a27,h2,cC])⟩ Q1 [0,1];have an:=v4.trans (show _=(a4:List Int) by rw [show 6-i=0 by omega];simp only [a27])
 refine LM Z (aa,(a4:List Int),1) (λ|(a7,a1,a0)=>((a1.length=a4.length)/\JE n a1/\J6 a0/\(1<=a0/\a0<=7)/\(a1.length=6)/\(a4p l (a4:List Int) 1=a4p l a1 a0),(7-a0).toNat,[(8,.v (vI a0))],[],[(11,⟨1,a8,a4.length,a9,a7⟩)],[(1,MF.ol a7 (a1:List Int))])) ⟨Q7,v2,Q4,Q0,Q0,Z⟩ [5,0] [] [0] [0,1] ?_;rintro ⟨a7,a1,a0⟩ ⟨bo,ar,b2,bt,bq,av⟩;refine yKD 30 ?_ ?_<;>intro ay al
 refine LM Z (a7,(a1:List Int),0) (λ|(a5,a6,i)=>((i<=6)/\(a6.length=a4.length)/\JE n a6/\(a6.length=6)/\(a4o l a0 6 0 (a1:List Int)=a4o l a0 (6-i) i a6),6-i,[(9,.v (vI i))],[],[(11,⟨1,a8,a4.length,a9,a5⟩)],[(1,MF.ol a5 (a6:List Int))])) ⟨zl,Q7,ar,Q0,Z⟩ [5,8,0] [] [0] [0,1] ?_;rintro ⟨a5,a6,i⟩ ⟨bs,bl,aw,bp,az⟩;refine yKD 34 ?_ ?_<;>intro bv be
 refine LM Z (a5,(a6:List Int),0) (λ|(a3,a2,i2)=>((i2<=6)/\(a2.length=a4.length)/\JE n a2/\(a2.length=6)/\(a2p l a0 i 6 0 (a6:List Int)=a2p l a0 i (6-i2) i2 a2),6-i2,[(10,.v (vI i2))],[],[(11,⟨1,a8,a4.length,a9,a3⟩)],[(1,MF.ol a3 (a2:List Int))])) ⟨zl,Q7,aw,Q0,Z⟩ [5,9,8,0] [] [0] [0,1] ?_;rintro ⟨a3,a2,i2⟩ ⟨bu,bi,ae,bj,ak⟩
 ·skip
  refine yKD 39 ?_ ?_<;>intro br b5;have ah:i<a4.length:=Q4;refine R0 ?_;refine zR 11 i ah ?_;rintro bc rfl;have b6:i<a2.length:=Q4;obtain ⟨e1,ac⟩:=gE b6;refine WX.ldR 11 14 e1 ttOk Z Z Z Z Z Z Z Z Z ah (λG hΓ=>(hΓ.get 1 Z:OwL _ _ _).rd) ac O O ?_;rintro ⟨⟩ b4;refine SA ?_;refine yKE 47 ?_ ?_<;>intro am b3;have ag:i2<a4.length:=Q4;refine R0 ?_;refine zR 11 i2 ag ?_;rintro bf ⟨⟩
  have ax:i2<a2.length:=Q4;obtain ⟨e2,ad⟩:=gE ax;refine WX.ldR 11 14 e2 ttOk Z Z Z Z Z Z Z Z Z ag (λG hΓ=>(hΓ.get 1 Z:OwL _ _ _).rd) ad O O ?_;rintro ⟨⟩ b7;refine yKD 55 ?_ ?_<;>intro ap b0;refine KV Z Z O (λw Y=>f172 n Q0 (Y.q 0 Z) af (i6 ((i:Nat):Int)) (i6 ((i2:Nat):Int))) λba=>?_;refine yKA 60 ?_ ?_<;>intro au;have ai:i2<a4.length:=Q4;refine R0 ?_;refine zR 11 i2 ai ?_;rintro b8 ⟨⟩;refine zO (α:=Int) (e:=e2) 11 1 14 i2 ad ?_
  rintro bn bm ⟨⟩ aq b1;refine zS 11 aq ai ?_;refine SA ?_;refine R0 ?_;refine WX.turn [14,15] 16 Z (λh hs=>ae8 (α:=Int) (e:=a0) (x:=()) ax hs) Z ?_;refine zU [16] 1 ?_;exact IT (_,((a2.set i2 a0):List Int),i2+1) ⟨Q0,Q3,(adz ae (show ok n (a0:Int)from b2)),Q5,(by rw [ak,show 6-i2=(6- (i2+1))+1 by omega];simp only [a2p,ac,am,ad,ap,au,cC])⟩ Q1 [0,1];refine SA ?_
  exact ITr Z (a3,(a2:List Int),i2+1) ⟨Q0,Q3,ae,Q5,(by rw [ak,show 6-i2=(6- (i2+1))+1 by omega];simp only [a2p,ac,am,ad,ap,au,cC])⟩ Q1 [0,1];refine SA ?_
  exact ITr Z (a3,(a2:List Int),i2+1) ⟨Q0,Q3,ae,Q5,(by rw [ak,show 6-i2=(6- (i2+1))+1 by omega];simp only [a2p,ac,am,ad,ap,cC])⟩ Q1 [0,1];have ab:=ak.trans (show _=(a2:List Int) by rw [show 6-i2=(6- (i2+1))+1 by omega];simp only [a2p,ac,am,cC]);rotate_left;have ab:=ak.trans (show _=(a2:List Int) by rw [show 6-i2=0 by omega];simp only [a2p]);rotate_left
  all_goals
   refine SA ?_;exact ITr Z (a3,(a2:List Int),i+1) ⟨Q0,Q3,ae,Q0,(by rw [az,show 6-i=(6- (i+1))+1 by omega];simp only [a4o,ab])⟩ Q1 [0,1]
 have ab:=az.trans (show _=(a6:List Int) by rw [show 6-i=0 by omega];simp only [a4o]);refine SA ?_;exact ITr Z (a5,(a6:List Int),a0+1) ⟨Q3,aw,Q4,Q0,Q0,(by rw [av];rw [a4p];simp only [al,ab,↓reduceIte])⟩ Q1 [0,1];have ab:=av.trans (show _=((a1:List Int),a0) by rw [a4p];simp only [al,↓reduceIte])
 refine yE 11 1 26 (hn:=(show a4.length=a1.length from by omega)) ?_;refine SL 4 a1.length ?_;refine SL 65 a1.length ?_;refine SL 5 a1.length ?_;rw [show a2i l a=a1 by simp only [a2i,an,ab]];exact zX [27] (a8,a9) (aby Q0 ar:ok n (a1:List Int))
theorem f15 (hn:n+0<=9){l:List aN}(N0:Rd w K0 M0 l){a:Int}{b:Int}(a1:ok n l)(a2:ok n a)(a0:ok n b):
 DP 15 #[vS K0 l M0,vI a,vI b] w (pI n (a0f l a b)):=by
 refine EN Tryz.func15 Z (aS1 N0) ?_;refine KV Z Z O (λw Y=>f33 n Q0 a0 (i6 0) (i6 5)) λa9=>?_;refine yKN 9 ?_ ?_<;>intro h1 aa;rw [show a0f l a b=(-1) by simp only [a0f,h1,cC]];exact R6r Z Z (i6 (-1));have a7:=afl (B.nf h1);refine KF Z 1 Z O (λw Y=>f42 n Q0 (Y.q 0 Z) a1 a2) ?_;rintro ⟨p1,c1⟩ a4;have q1:=ahz l a;refine R0 ?_;refine SI 13 ?_;obtain ⟨e1,a3,a5,a6⟩:=gO a4 b.toNat;refine zI 1 _ a6 ?_;rintro a8 rfl;refine zL 1 3 e1 a3 ?_;rintro ⟨⟩
 rw [show a0f l a b=e1 by simp only [a0f,h1,a3,cC]];exact R6r Z Z a5
theorem f127 (hn:n+0<=9){l:List aN}(N0:Rd w K0 M0 l){a:Int}{b:Int}(a1:ok n l)(a2:ok n a)(a0:ok n b):
 DP 127 #[vS K0 l M0,vI a,vI b] w (pI n (a1q l a b)):=by
 refine EN Tryz.func127 Z (aS1 N0) ?_;refine KV Z Z O (λw Y=>f120 n Q0 a0 (i6 0) (i6 5)) λa9=>?_;refine yKN 9 ?_ ?_<;>intro h1 aa;rw [show a1q l a b=(-1) by simp only [a1q,h1,cC]];exact R6r Z Z (i6 (-1));have a7:=ad8 (B.nf h1);refine KF Z 1 Z O (λw Y=>f171 n Q0 (Y.q 0 Z) a1 a2) ?_;rintro ⟨p1,c1⟩ a4;have q1:=aih l a;refine R0 ?_;refine SI 13 ?_;obtain ⟨e1,a3,a5,a6⟩:=gO a4 b.toNat;refine zI 1 _ a6 ?_;rintro a8 rfl;refine zL 1 3 e1 a3 ?_;rintro ⟨⟩
 rw [show a1q l a b=e1 by simp only [a1q,h1,a3,cC]];exact R6r Z Z a5
theorem f85 (hn:n+0<=9){l:List aN}(N0:Rd w K0 M0 l){a:Int}{b:Int}(a4:ok n l)(a6:ok n a)(a5:ok n b):
 DP 85 #[vS K0 l M0,vI a,vI b] w (pS w n (a28 l a b)):=by
 have hb:=bS0 hn;refine EN Tryz.func85 Z (aS1 N0) ?_;refine KV Z Z O (λw Y=>f15 n Q0 (Y.q 0 Z) a4 a6 a5) λa9=>?_;refine yB λp1=>?_;refine F0 1 Int ?_;refine LM Z (p1,0,[],([]:List Int),0) (λ|(a1,a2,a0,a3,i)=>((i<=6)/\JE n a3/\(a3.length<=i)/\(a2q l a b 6 0 ([]:List Int)=a2q l a b (6-i) i a3),6-i,[(8,.v (vS a1 a3 a2)),(15,.v (vI i))],[],[(14,⟨1,a1,a3.length,a2,a0⟩)],[(1,MF.ol a0 (a3:List Int))])) ⟨zl,nA,Q10,Z⟩ [7,0,1,2] [] [0] [0,1] ?_
 rintro ⟨a1,a2,a0,a3,i⟩ ⟨v1,v2,v3,v4⟩;refine yKD 16 ?_ ?_<;>intro h1 ae;refine yKD 20 ?_ ?_<;>intro h2 ab;refine KV Z Z O (λw Y=>f91 n Q0 (Y.q 0 Z) a4 a6 (i6 ((i:Nat):Int))) λaa=>?_;refine yKA 26 ?_ ?_<;>intro h3;refine KV Z Z O (λw Y=>f15 n Q0 (Y.q 0 Z) a4 (i6 ((i:Nat):Int)) a5) λad=>?_;have r4:=i8 a9;refine SA ?_;refine yKE 34 ?_ ?_<;>intro h4 ac;refine yB λp2=>?_;refine zT (α:=Int) [] 2 ((i:Nat):Int) () λa8=>?_
 refine zP 14 37 ((a3++[((i:Nat):Int)]):List Int).length a8 λp3 c1=>?_;refine zV [1,2] 3 ?_;refine SA ?_;refine zU [3] 1 ?_;exact ITr Z (p3,c1,_,((a3++[((i:Nat):Int)]):List Int),i+1) ⟨Q0,(ac2 v2 (all_cons (α:=Int) (i6 ((i:Nat):Int)) nA)),Q3,(by rw [v4,show 6-i=(6- (i+1))+1 by omega];simp only [a2q,h2,h3,h4,cC])⟩ Q1 [0,1];refine SA ?_
 exact ITr Z (a1,a2,a0,(a3:List Int),i+1) ⟨Q0,v2,Q3,(by rw [v4,show 6-i=(6- (i+1))+1 by omega];simp only [a2q,h2,h3,h4,cC])⟩ Q1 [0,1];refine SA ?_;exact ITr Z (a1,a2,a0,(a3:List Int),i+1) ⟨Q0,v2,Q3,(by rw [v4,show 6-i=(6- (i+1))+1 by omega];simp only [a2q,h2,h3,cC])⟩ Q1 [0,1];refine SA ?_
 exact ITr Z (a1,a2,a0,(a3:List Int),i+1) ⟨Q0,v2,Q3,(by rw [v4,show 6-i=(6- (i+1))+1 by omega];simp only [a2q,h2,cC])⟩ Q1 [0,1];have a7:=v4.trans (show _=(a3:List Int) by rw [show 6-i=0 by omega];simp only [a2q]);refine yE 14 1 14 ?_;rw [show a28 l a b=a3 by simp only [a28,a7]];exact zX [15] (a1,a2) (aby Q0 v2:ok n (a3:List Int))
theorem f126 (hn:n+0<=9){l:List aN}(N0:Rd w K0 M0 l){a:Int}{b:Int}(a4:ok n l)(a6:ok n a)(a5:ok n b):
 DP 126 #[vS K0 l M0,vI a,vI b] w (pS w n (a47 l a b)):=by
 have hb:=bS0 hn;refine EN Tryz.func126 Z (aS1 N0) ?_;refine yB λp1=>?_;refine KV Z Z O (λw Y=>f127 n Q0 (Y.q 0 Z) a4 a6 a5) λa9=>?_;refine F0 1 Int ?_;refine LM Z (p1,0,[],([]:List Int),0) (λ|(a2,a3,a0,a1,i)=>((i<=6)/\JE n a1/\(a1.length<=i)/\(a46 l a b 6 0 ([]:List Int)=a46 l a b (6-i) i a1),6-i,[(7,.v (vS a2 a1 a3)),(9,.v (vI i))],[],[(10,⟨1,a2,a1.length,a3,a0⟩)],[(1,MF.ol a0 (a1:List Int))])) ⟨zl,nA,Q10,Z⟩ [8,0,1,2] [] [0] [0,1] ?_
 rintro ⟨a2,a3,a0,a1,i⟩ ⟨v1,v2,v3,v4⟩;refine yKD 17 ?_ ?_<;>intro h1 ae;refine yKD 20 ?_ ?_<;>intro h2 ab;refine KV Z Z O (λw Y=>f172 n Q0 (Y.q 0 Z) a4 a6 (i6 ((i:Nat):Int))) λaa=>?_;refine yKA 27 ?_ ?_<;>intro h3;refine KV Z Z O (λw Y=>f127 n Q0 (Y.q 0 Z) a4 (i6 ((i:Nat):Int)) a5) λad=>?_;have r4:=i8 a9;refine SA ?_;refine yKE 35 ?_ ?_<;>intro h4 ac;refine yB λp2=>?_;refine zT (α:=Int) [] 2 ((i:Nat):Int) () λa8=>?_
 refine zP 10 38 ((a1++[((i:Nat):Int)]):List Int).length a8 λp3 c1=>?_;refine zV [1,2] 3 ?_;refine SA ?_;refine zU [3] 1 ?_;exact ITr Z (p3,c1,_,((a1++[((i:Nat):Int)]):List Int),i+1) ⟨Q0,(ac2 v2 (all_cons (α:=Int) (i6 ((i:Nat):Int)) nA)),Q3,(by rw [v4,show 6-i=(6- (i+1))+1 by omega];simp only [a46,h2,h3,h4,cC])⟩ Q1 [0,1];refine SA ?_
 exact ITr Z (a2,a3,a0,(a1:List Int),i+1) ⟨Q0,v2,Q3,(by rw [v4,show 6-i=(6- (i+1))+1 by omega];simp only [a46,h2,h3,h4,cC])⟩ Q1 [0,1];refine SA ?_;exact ITr Z (a2,a3,a0,(a1:List Int),i+1) ⟨Q0,v2,Q3,(by rw [v4,show 6-i=(6- (i+1))+1 by omega];simp only [a46,h2,h3,cC])⟩ Q1 [0,1]
 have a7:=v4.trans (show _=(a1:List Int) by rw [show 6-i=(6- (i+1))+1 by omega];simp only [a46,h2,cC]);rotate_left;have a7:=v4.trans (show _=(a1:List Int) by rw [show 6-i=0 by omega];simp only [a46]);rotate_left
 all_goals
  refine yE 10 1 14 ?_;rw [show a47 l a b=a1 by simp only [a47,a7]];exact zX [15] (a2,a3) (aby Q0 v2:ok n (a1:List Int))
theorem f14 (hn:n+0<=9){l:List aN}(N0:Rd w K0 M0 l){a:Int}(a4:ok n l)(a5:ok n a):
 DP 14 #[vS K0 l M0,vI a] w (pS w n (a1h l a)):=by
 have hb:=bS0 hn;refine EN Tryz.func14 Z (aS1 N0) ?_;refine yB λp1=>?_;refine KF Z 1 Z O (λw Y=>f42 n Q0 (Y.q 0 Z) a4 a5) ?_;rintro ⟨p2,c1⟩ a8;have q1:=ahz l a;refine F0 3 Int ?_
 refine LM Z (p1,0,[],[],0) (λ|(a2,a3,a0,a1,i)=>((i<=(a19 l a).length)/\JE n a1/\(a1.length<=i)/\(a2j (a19 l a) 0 []=a2j ((a19 l a).drop i) i a1),(a19 l a).length-i,[(5,.v (vS a2 a1 a3)),(13,.v (vI i))],[],[(8,⟨1,a2,a1.length,a3,a0⟩)],[(3,MF.ol a0 a1)])) ⟨zl,nA,Q10,Z⟩ [12,11] [] [0,2] [0,2,3] ?_;rintro ⟨a2,a3,a0,a1,i⟩ ⟨v1,v2,v3,v4⟩;refine yKD 14 ?_ ?_<;>intro h1 ae;obtain ⟨e1,a6,ac,aa⟩:=gO a8 i
 refine zW 4 2 ?_;refine yI 4 i aa ?_;rintro ad rfl;refine zL 4 5 e1 a6 ?_;rintro ⟨⟩;refine yKD 19 ?_ ?_<;>intro h2 ab;refine yB λp3=>?_;refine zT [] 5 ((i:Nat):Int) () λa9=>?_;refine zP 8 22 (a1++[((i:Nat):Int)]).length a9 λp4 c2=>?_;refine zV [3,5] 6 ?_;refine SA ?_;refine zU [6] 3 ?_
 exact ITr Z (p4,c2,_,(a1++[((i:Nat):Int)]),i+1) ⟨Q0,(ac2 v2 (all_cons (i6 (i:Nat)) nA)),Q3,(by rw [v4,abu a6];simp only [a2j,h2,cC])⟩ Q1 [0,2,3];refine SA ?_;exact ITr Z (a2,a3,a0,a1,i+1) ⟨Q0,v2,Q3,(by rw [v4,abu a6];simp only [a2j,h2,cC])⟩ Q1 [0,2,3]
 have a7:=v4.trans (show _=a1 by rw [dn];simp only [a2j];omega);refine yE 8 3 16 ?_;rw [show a1h l a=a1 by simp only [a1h,a7]];exact zX [17] (a2,a3) (aby Q0 v2)
theorem f124 (hn:n+0<=9){l:List aN}(N0:Rd w K0 M0 l){a:Int}(a4:ok n l)(a5:ok n a):
 DP 124 #[vS K0 l M0,vI a] w (pS w n (a3i l a)):=by
 have hb:=bS0 hn;refine EN Tryz.func124 Z (aS1 N0) ?_;refine yB λp1=>?_;refine KF Z 1 Z O (λw Y=>f171 n Q0 (Y.q 0 Z) a4 a5) ?_;rintro ⟨p2,c1⟩ a8;have q1:=aih l a;refine F0 3 Int ?_
 refine LM Z (p1,0,[],[],0) (λ|(a2,a3,a0,a1,i)=>((i<=(a2i l a).length)/\JE n a1/\(a1.length<=i)/\(a5q (a2i l a) 0 []=a5q ((a2i l a).drop i) i a1),(a2i l a).length-i,[(5,.v (vS a2 a1 a3)),(7,.v (vI i))],[],[(8,⟨1,a2,a1.length,a3,a0⟩)],[(3,MF.ol a0 a1)])) ⟨zl,nA,Q10,Z⟩ [6] [] [0,2] [0,2,3] ?_;rintro ⟨a2,a3,a0,a1,i⟩ ⟨v1,v2,v3,v4⟩;refine yKD 15 ?_ ?_<;>intro h1 ae;obtain ⟨e1,a6,ac,aa⟩:=gO a8 i;refine zW 4 2 ?_
 refine yI 4 i aa ?_;rintro ad rfl;refine zL 4 5 e1 a6 ?_;rintro ⟨⟩;refine yKD 22 ?_ ?_<;>intro h2 ab;refine yB λp3=>?_;refine zT [] 5 ((i:Nat):Int) () λa9=>?_;refine zP 8 25 (a1++[((i:Nat):Int)]).length a9 λp4 c2=>?_;refine zV [3,5] 6 ?_;refine SA ?_;refine zU [6] 3 ?_
 exact ITr Z (p4,c2,_,(a1++[((i:Nat):Int)]),i+1) ⟨Q0,(ac2 v2 (all_cons (i6 (i:Nat)) nA)),Q3,(by rw [v4,abu a6];simp only [a5q,h2,cC])⟩ Q1 [0,2,3];refine SA ?_;exact ITr Z (a2,a3,a0,a1,i+1) ⟨Q0,v2,Q3,(by rw [v4,abu a6];simp only [a5q,h2,cC])⟩ Q1 [0,2,3]
 have a7:=v4.trans (show _=a1 by rw [dn];simp only [a5q];omega);refine yE 8 3 16 ?_;rw [show a3i l a=a1 by simp only [a3i,a7]];exact zX [17] (a2,a3) (aby Q0 v2)
end Go.Proofs.YthdfhghdipdknaaGreat
namespace Go.Stp
def a1a (l:(List aB))(r:aB):(List aB)×Bool:=bif decide ((a0x l r.pfx r.face)>=0)then match ((a0g l))[((a0x l r.pfx r.face)).toNat]? with|none=>default|some e1=>bif (!(a16 ((a0g l).set (((a0x l r.pfx r.face)).toNat) (aB.mk e1.pfx e1.face r.cost))))then ((a0g l),false)else (((a0g l).set (((a0x l r.pfx r.face)).toNat) (aB.mk e1.pfx e1.face r.cost)),true)else bif (!(a16 ((a0g l)++[(aB.mk (a0l r.pfx) r.face r.cost)])))then ((a0g l),false)else (((a0g l)++[(aB.mk (a0l r.pfx) r.face r.cost)]),true)
def a29 (l:(List aB))(r:aB):(List aB)×Bool:=bif decide ((a18 l r.pfx r.face)>=0)then match ((a1d l))[((a18 l r.pfx r.face)).toNat]? with|none=>default|some e1=>bif (!(a3t ((a1d l).set (((a18 l r.pfx r.face)).toNat) (aB.mk e1.pfx e1.face r.cost))))then ((a1d l),false)else (((a1d l).set (((a18 l r.pfx r.face)).toNat) (aB.mk e1.pfx e1.face r.cost)),true)else bif (!(a3t ((a1d l)++[(aB.mk (a05 r.pfx) r.face r.cost)])))then ((a1d l),false)else (((a1d l)++[(aB.mk (a05 r.pfx) r.face r.cost)]),true)
def pfxL (l:List aN)(k:Int):Nat:=match l[k.toNat]? with|some e=>e.cG.length|none=>0
theorem as7 {l:List aN}{k:Int}{e:aN}(h:l[k.toNat]? =some e):pfxL l k=e.cG.length:=by unfold pfxL;rw [h]
theorem av6 {l:List aB}(h:a16 l=true):l.length<=24:=by
 unfold a16 at h
 split at h
 ·rename_i r e
  have:∀(q:List aB) (i:Nat),a2f l q i≠some true:=λq=>by
   induction q with
   |nil=>intro i;simp [a2f]
   |cons x q ih=>
    intro i;simp only [a2f];cases (!(a5i x.pfx))<;>cases (!(a0o x.face 1 6))<;>cases (!(a0o x.cost 0 1000))<;>cases decide ((a0x (List.take i l) x.pfx x.face)>=0)<;>simp [ih]
  grind
 ·grind
theorem auv {l:List aB}(h:a3t l=true):l.length<=24:=by
 unfold a3t at h
 split at h
 ·rename_i r e
  have:∀(q:List aB) (i:Nat),a43 l q i≠some true:=λq=>by
   induction q with
   |nil=>intro i;simp [a43]
   |cons x q ih=>
    intro i;simp only [a43];cases (!(a1e x.pfx))<;>cases (!(a07 x.face 1 6))<;>cases (!(a07 x.cost 0 1000))<;>cases decide ((a18 (List.take i l) x.pfx x.face)>=0)<;>simp [ih]
  grind
 ·grind
theorem okR {n:Nat}{a b:aB}(ha:GoT.ok n a)(hb:GoT.ok n b):GoT.ok n (aB.mk a.pfx a.face b.cost):=⟨(ack ha).1,(ack ha).2.1,(ack hb).2.2⟩
theorem air {n:Nat}{l:List aB}{r:aB}(hl:GoT.ok n l)(hr:GoT.ok n r):GoT.ok n (a1a l r).1:=by
 have hb:=adi n;unfold a1a;rw [afm];cases decide (a0x l r.pfx r.face>=0)
 ·rw [cond_false]
  cases hv:a16 (l++[(aB.mk (a0l r.pfx) r.face r.cost)])
  ·exact hl
  ·have:=av6 hv
   exact aby (show (l++[(aB.mk (a0l r.pfx) r.face r.cost)]).length<=_ by omega) (ap5 (okl hl).2 hr)
 ·rw [cond_true]
  split
  ·exact acd
  ·rename_i e he
   cases hv:a16 (l.set (a0x l r.pfx r.face).toNat (aB.mk e.pfx e.face r.cost))
   ·exact hl
   ·exact aby (show (l.set _ _).length<=_ by rw [List.length_set];exact (okl hl).1) (adz (okl hl).2 (okR ((okl hl).2 e (List.mem_of_getElem? he)) hr))
theorem aio {n:Nat}{l:List aB}{r:aB}(hl:GoT.ok n l)(hr:GoT.ok n r):GoT.ok n (a29 l r).1:=by
 have hb:=adi n;unfold a29;rw [ahp];cases decide (a18 l r.pfx r.face>=0)
 ·rw [cond_false]
  cases hv:a3t (l++[(aB.mk (a05 r.pfx) r.face r.cost)])
  ·exact hl
  ·have:=auv hv
   exact aby (show (l++[(aB.mk (a05 r.pfx) r.face r.cost)]).length<=_ by omega) (ap5 (okl hl).2 hr)
 ·rw [cond_true]
  split
  ·exact acd
  ·rename_i e he
   cases hv:a3t (l.set (a18 l r.pfx r.face).toNat (aB.mk e.pfx e.face r.cost))
   ·exact hl
   ·exact aby (show (l.set _ _).length<=_ by rw [List.length_set];exact (okl hl).1) (adz (okl hl).2 (okR ((okl hl).2 e (List.mem_of_getElem? he)) hr))
theorem avt {n:Nat}{l:List aN}(h:GoT.ok n l)(k:Int):pfxL l k<=bd n:=by
 unfold pfxL
 split
 ·rename_i e he
  exact (okl (ae2 ((okl h).2 e (List.mem_of_getElem? he))).2.2.2).1
 ·grind
theorem vtJ (n_:aV):∀(l:List aQ) (i:Nat),NT (a3e n_ l i)
 |[],i=> .no
 |x::l,i=>by
  have ih:=vtJ n_ l (i+1);simp only [a3e];refine ntc .sf (ntc .sf (ntc ?_ ih));cases (n_.links)[(((i:Nat):Int)-1).toNat]? with
  |none=>exact .no
  |some e2=>exact ntc .sf ih
theorem aty {n_:aV}(h:a5k n_=true):n_.size.toNat<=6:=by
 unfold a5k at h;rcases vtJ n_ n_.links 0 with h1|h1
 ·rw [h1]at h
  dsimp only at h;unfold a0o at h
  grind
 ·grind
theorem aor {n_:aV}(h:a4j n_=true):n_.size.toNat<=6:=by
 unfold a4j at h;rcases vtN n_ n_.links 0 with h1|h1
 ·rw [h1]at h
  dsimp only at h;unfold a07 at h
  grind
 ·grind
def a0s (n_:aV)(a:Int)(b:Int):Int:=(i64.wrap ((adb (a1w n_ a) b)+1))
def a6j (b:Int):List Int->Nat->Option (Int)|[],i=>none|e1::rest_,i=>bif (e1==b)then (some (((i:Nat):Int)+1))else a6j b rest_ (i+1)
def a1j (n_:aV)(a:Int)(b:Int):Int:=match a6j b (a1f n_ a) 0 with|some r_=>r_|none=>0
def a1y (n_:aV)(l:(List aN))(a:Int)(e1:Int)(e3:aA):List Int->(List aB)->(List aB)|[],out3=>((out3):List aB)|e4::rest_,out3=>bif ((a0s n_ a e4) !=0)then bif decide ((a0x out3 e3 (a0s n_ a e4))<0)then a1y n_ l a e1 e3 rest_ (((a1a out3 (aB.mk e3 (a0s n_ a e4) (a0f l a e1))).1):List aB)else match (out3)[((a0x out3 e3 (a0s n_ a e4))).toNat]? with|none=>default|some e5=>bif decide (e5.cost>(a0f l a e1))then a1y n_ l a e1 e3 rest_ (((a1a out3 (aB.mk e3 (a0s n_ a e4) (a0f l a e1))).1):List aB)else a1y n_ l a e1 e3 rest_ ((out3):List aB)else a1y n_ l a e1 e3 rest_ ((out3):List aB)
def a48 (n_:aV)(l:(List aN))(a:Int)(e1:Int):List aA->(List aB)->(List aB)|[],out2=>((out2):List aB)|e3::rest_,out2=>match a1y n_ l a e1 e3 (a28 l a e1) (out2:List aB)with|out3=>a48 n_ l a e1 rest_ ((out3):List aB)
def a2r (n_:aV)(l:(List aN))(a:Int):List Int->(List aB)->(List aB)|[],out=>((out):List aB)|e1::rest_,out=>bif (e1==a)then a2r n_ l a rest_ ((out):List aB)else match (l)[((a14 l e1)).toNat]? with|none=>default|some e2=>match a48 n_ l a e1 e2.cG (out:List aB)with|out2=>a2r n_ l a rest_ ((out2):List aB)
def a2s (n_:aV)(l:(List aN))(a:Int):(List aB):=match a2r n_ l a (a1h l a) ([]:List aB)with|out=>out
def a3w (n_:aV)(l:(List aN))(a:Int)(e1:Int)(e2:aN)(i2:Nat):List Int->(List aB)->(List aB)|[],out3=>((out3):List aB)|e3::rest_,out3=>match (e2.cG)[i2]? with|none=>default|some e4=>bif decide ((a1j n_ a e3)>0)then bif decide ((a18 out3 e4 (a1j n_ a e3))<0)then a3w n_ l a e1 e2 i2 rest_ (((a29 out3 (aB.mk e4 (a1j n_ a e3) (a1q l a e1))).1):List aB)else match (out3)[((a18 out3 e4 (a1j n_ a e3))).toNat]? with|none=>default|some e5=>bif decide (e5.cost>(a1q l a e1))then a3w n_ l a e1 e2 i2 rest_ (((a29 out3 (aB.mk e4 (a1j n_ a e3) (a1q l a e1))).1):List aB)else a3w n_ l a e1 e2 i2 rest_ ((out3):List aB)else a3w n_ l a e1 e2 i2 rest_ ((out3):List aB)
def a5r (n_:aV)(l:(List aN))(a:Int)(e1:Int)(i2:Nat)(out2:List aB):Nat×(List aB):=if i2<=pfxL l (a0r l e1)then match (l)[((a0r l e1)).toNat]? with|none=>default|some e2=>if ((i2:Nat):Int)<((e2.cG).length:Int)then if (e1 !=a)=true then match a3w n_ l a e1 e2 i2 (a47 l a e1) (out2:List aB)with|out3=>a5r n_ l a e1 (i2+1) ((out3):List aB)else (i2,((out2):List aB))else (i2,((out2):List aB))else default
termination_by pfxL l (a0r l e1) + 1 - i2
decreasing_by all_goals (simp_wf; omega)
def a6k (n_:aV)(l:(List aN))(a:Int):List Int->(List aB)->(List aB)|[],out=>((out):List aB)|e1::rest_,out=>match a5r n_ l a e1 0 (out:List aB)with|(i2,out2)=>a6k n_ l a rest_ ((out2):List aB)
def a49 (n_:aV)(l:(List aN))(a:Int):(List aB):=match a6k n_ l a (a3i l a) ([]:List aB)with|out=>out
def a2k (i:Nat):List aK->(List aA)->(List aA)|[],x_=>((x_):List aA)|e1::rest_,x_=>bif (e1.value==((i:Nat):Int))then bif decide (((x_).length:Int)<4)then a2k i rest_ (((x_++[(a0l e1.name)])):List aA)else a2k i rest_ ((x_):List aA)else a2k i rest_ ((x_):List aA)
def a4q (n_:aV)(aM:(List aK))(version:Int):Nat->Nat->(List aN)->(List aN)|0,i,out=>((out):List aN)|m_+1,i,out=>match a2k i aM ([]:List aA)with|x_=>a4q n_ aM version m_ (i+1) (((out++[(aN.mk ((i:Nat):Int) version (a1w n_ ((i:Nat):Int)) x_)])):List aN)
def a08 (n_:aV)(aM:(List aK))(version:Int):(List aN):=bif (!(a5k n_))then ([]:List aN)else bif (!(a0o version 1 1000))then ([]:List aN)else match a4q n_ aM version ((n_.size).toNat) 0 ([]:List aN)with|out=>out
def a4r (i:Nat):List aK->(List aA)->(List aA)|[],x_=>((x_):List aA)|e1::rest_,x_=>bif decide (((x_).length:Int)<4)then bif (e1.value==((i:Nat):Int))then a4r i rest_ (((x_++[(a05 e1.name)])):List aA)else a4r i rest_ ((x_):List aA)else ((x_):List aA)
def a7i (n_:aV)(names:(List aK))(ver:Int):Nat->Nat->(List aN)->(List aN)|0,i,out=>((out):List aN)|m_+1,i,out=>match a4r i names ([]:List aA)with|x_=>a7i n_ names ver m_ (i+1) (((out++[(aN.mk ((i:Nat):Int) ver (a1f n_ ((i:Nat):Int)) x_)])):List aN)
def a2t (n_:aV)(names:(List aK))(ver:Int):(List aN):=bif (!(a4j n_))then ([])else bif (!(a07 ver 1 1000))then ([])else match a7i n_ names ver ((n_.size).toNat) 0 ([]:List aN)with|out=>out
end Go.Stp
