/-
  What the proof of one law needs: rules of the program logic, functions as Lean functions, contracts. No condition but what each says. Written by a program (pack.py) out of my own texts.
-/
import Derived.Test.YthdfhghdipdknaaGreatKXm5
open Go.IntKind (i64)
set_option linter.unusedVariables false
set_option linter.unusedSimpArgs false
namespace Go.Proofs.YthdfhghdipdknaaGreat
open Go.Stp
open Go.Stp.GoT (ok)
variable {w : World} (n : Nat) {K0 K1 K2 K3 K4 K5 K6 K7 K8 K9 K10 : Option Addr} {M0 M1 M2 M3 M4 M5 M6 M7 M8 M9 M10 : Nat}
theorem f191 (hn:n+0<=9){l:List Key}(N0:Rd w K0 M0 l)(n_:aA)(N1:Rd w K1 M1 n_.parts)(a0:ok n l)(a1:ok n n_):
 DP 191 #[vS K0 l M0,adu n_ K1 M1] w (pI n (a1v l n_)):=by
 refine EN Tryz.func191 Z (aS2 N0 N1) ?_;refine KV Z Z O (λw Y=>f215 n Q0 (Y.q 0 Z) n_ (Y.q 1 Z) a0 a1) λa3=>?_;have q1:=ax5 l n_;refine yKD 10 ?_ ?_<;>intro h1 a6;rw [show a1v l n_=0 by simp only [a1v,h1,cC]];exact R6r Z Z (i6 0);have r2:=i8 a3;refine R0 ?_;refine SI 12 ?_;obtain ⟨e1,a2,a4,a5⟩:=gO a0 ((a4k l n_).toNat);refine zI 0 _ a5 ?_;rintro a7 rfl;refine yL 0 2 e1 a2 ?_;rintro ⟨⟨p1,c1⟩,_⟩
 rw [show a1v l n_=e1.bZ by simp only [a1v,h1,a2,cC]];exact R6r Z Z (a4.2)
theorem f284 (hn:n+7<=9){bZ:Int}(x_:aJ)(N0:Rd w K0 M0 x_.name.parts)(N1:Rd w K1 M1 x_.content)(N2:Rd w K2 M2 x_.aR.parts)(a0:ok n bZ)(a1:ok n x_):
 DP 284 #[vI bZ,afd x_ K0 M0 K1 M1 K2 M2] w (pB (abk bZ x_)):=by
 refine EN Tryz.func284 Z (aS3 N0 N1 N2) ?_;refine yD [] λbs G0 a4=>?_;refine dT 11 [1] ?_;refine DXV 1 Z J Z O (λw Y=>f255 n Q0 a0) λa3=>?_;refine dT 9 [5] ?_;refine zDC 7 ?_ ?_<;>intro h1;refine dT 5 [7,8,11,12] ?_;refine DXF 7 3 Z J Z O (λw Y=>f219 n Q0 x_ (Y.q 0 Z) (Y.q 1 Z) (Y.q 2 Z) a1) ?_;rintro ⟨p1,c1⟩ a2;refine DXV 8 Z J Z O (λw Y=>f218 (n+5) Q0 (Y.q 3 Z) a0 a2) λa5=>?_;refine dT 0 [19,21,23] ?_;refine DX.tail2 [] Z Z J ?_;exact R4r Z Z (by simp only [abk,h1,cC])
 refine dT 0 [7,9,11,13,15,17,19,21,23] ?_;refine DX.tail2 [] Z Z J ?_;exact R4r Z Z (by simp only [abk,h1,cC])
theorem f280 (hn:n+7<=9){l:List Key}(N0:Rd w K0 M0 l)(x_:aJ)(N1:Rd w K1 M1 x_.name.parts)(N2:Rd w K2 M2 x_.content)(N3:Rd w K3 M3 x_.aR.parts)(a1:ok n l)(a0:ok n x_):
 DP 280 #[vS K0 l M0,afd x_ K1 M1 K2 M2 K3 M3] w (pB (abl l x_)):=by
 refine EN Tryz.func280 Z (aS4 N0 N1 N2 N3) ?_;refine yD [] λbs G0 a4=>?_;refine dT 3 [1,3,4,8] ?_;refine DXV 3 Z J Z O (λw Y=>f191 n Q0 (Y.q 0 Z) x_.aR (Y.q 3 Z) a1 (a0.2.2.1)) λa2=>?_;refine DXV 5 Z J Z O (λw Y=>f284 n Q0 x_ (Y.q 1 Z) (Y.q 2 Z) (Y.q 3 Z) a2 a0) λa3=>?_;refine dT 0 [13] ?_;refine DX.tail2 [] Z Z J ?_;exact R4r Z Z (by simp only [abl])
theorem f288 (hn:n+0<=9){l:List cB}(N0:Rd w K0 M0 l){k:Str}(a0:ok n l)(a5:ok n k):
 DP 288 #[vS K0 l M0,.string k] w (pI n (a5t l k)):=by
 have hb:=bS0 hn;refine EN Tryz.func288 Z (aS1 N0) ?_;have r1:=a0.1;refine LS 5 l (a7p k) [0,1] [] [0] ?_;rintro i ⟨v1,v2⟩;refine yKD 9 ?_ ?_<;>intro h1 a9;obtain ⟨e1,a1,a7,a4⟩:=gO a0 i;refine yI 0 i a4 ?_;rintro a8 rfl;refine yL 0 1 e1 a1 ?_;rintro _;refine yKE 18 ?_ ?_<;>intro h2 a6;have a3:=v2.trans (show _=(some (i:Int)) by rw [abu a1];simp only [a7p,h2,cC]);rw [show a5t l k=((i:Nat):Int) by simp only [a5t,a3]];exact R6r Z Z (i6 (i:Nat));refine SA ?_
 exact ITr Z (i+1) ⟨Q0,(by rw [v2,abu a1];simp only [a7p,h2,cC])⟩ Q1 [0];have a2:=v2.trans (show _=none by rw [dn];simp only [a7p];omega);rw [show a5t l k=(-1) by simp only [a5t,a2]];exact R6r Z Z (i6 (-1))
theorem f287 (hn:n+1<=9)(p_:bY)(N0:Rd w K0 M0 p_.parts)(n_:aA)(N1:Rd w K1 M1 n_.parts){l:List cB}(N2:Rd w K2 M2 l)(a5:ok n p_)(a4:ok n n_)(a2:ok n l):
 DP 287 #[.agg #[vS K0 p_.parts M0],adu n_ K1 M1,vS K2 l M2] w (pSB w (n+1) (a2u p_ n_ l)):=by
 have hb:=bS1 hn;refine EN Tryz.func287 Z (aS3 N0 N1 N2) ?_;refine yB λp1=>?_;refine F0 3 cB ?_;have r1:=a2.1;refine R0 ?_;refine zG 13 2 4 l.length Z λam p2 c1=>?_;refine WX.know (λG hΓ=>(hΓ.get 4 Z).flat) λav=>?_;refine WX.turn [3] 5 Z (λh hs=>acx hs av) Z ?_;refine KV Z Z O (λw Y=>f250 n Q0 p_ (Y.q 0 Z) a5) λbb=>?_;refine yKN 19 ?_ ?_<;>intro h1 b2;refine yE 13 5 6 ?_;rw [show a2u p_ n_ l=(l,false) by simp only [a2u,h1,cC]]
 exact zX [7] (p2,c1) (aby Q0 (λa ha=>GoT.okm Q0 ((okl a2).2 a ha)));refine KV Z Z O (λw Y=>f189 n Q0 n_ (Y.q 1 Z) a4) λaw=>?_;refine yKN 23 ?_ ?_<;>intro h2 az;refine yE 13 5 6 ?_;rw [show a2u p_ n_ l=(l,false) by simp only [a2u,h1,h2,cC]];exact zX [7] (p2,c1) (aby Q0 (λa ha=>GoT.okm Q0 ((okl a2).2 a ha)));refine yB λp3=>?_;refine F0 6 cB ?_;refine R0 ?_;refine zG 25 2 7 l.length Z λba p4 c2=>?_
 refine WX.know (λG hΓ=>(hΓ.get 7 Z).flat) λap=>?_;refine WX.turn [6] 8 Z (λh hs=>acx hs ap) Z ?_;refine yE 25 8 9 ?_;have r2:=(okl (ada a5)).1
 refine LK (p4,c2,(l:List cB),0) (λ|(a3,a1,a0,i)=>((i<=p_.parts.length)/\JL (n+1) a0/\(a0.length<=i+l.length)/\(a3k n_ l p_.parts 0 (l:List cB)=a3k n_ l (p_.parts.drop i) i a0),p_.parts.length-i,[(9,.v (vS a3 a0 a1)),(10,.v (vI i))],[],[(13,⟨2,p2,l.length,c1,([]++am)⟩)],[(10,MF.os a3 a1 a0)])) ⟨zl,(aby Q0 (λa ha=>GoT.okm Q0 ((okl a2).2 a ha)):ok (n+1) (l:List cB)),Q10,Z⟩ [8,4,3] [4,3] [0,1,2,5] [0,1,2,5,10] ?_;rintro ⟨a3,a1,a0,i⟩ ⟨v1,v2,v3,v4⟩
 refine yKD 32 ?_ ?_<;>intro h3 ay;obtain ⟨e1,a6,a8,ao⟩:=gO (ada a5) i;refine yI 0 i ao ?_;rintro b1 rfl;refine zL 0 11 e1 a6 ?_;rintro ⟨⟩;refine yKE 41 ?_ ?_<;>intro h4 b0;have a7:=v4.trans (show _=(Ctl.ret (a0,true)) by rw [abu a6];simp only [a3k,h4,cC]);rw [show a2u p_ n_ l=(a0,true) by simp only [a2u,h1,h2,a7,cC]];exact yX [10] (a3,a1) (acp v2)
 ·skip
  refine yKD 47 ?_ ?_<;>intro h5 b4;refine yE 13 5 11 ?_;have a7:=v4.trans (show _=(Ctl.ret (l,false)) by rw [abu a6];simp only [a3k,h4,h5,cC]);rotate_left;refine yKE 49 ?_ ?_<;>intro h6 b9;refine SA ?_;exact ITr Z (a3,a1,a0,i+1) ⟨Q0,(acp v2),Q3,(by rw [v4,abu a6];simp only [a3k,h4,h5,h6,cC])⟩ Q1 [0,1,2,5,10];refine KV Z Z O (λw Y=>f251 n Q0 a8) λb5=>?_;refine yKA 52 ?_ ?_<;>intro h7;refine zW 11 10 ?_
  refine KV Z Z O (λw Y=>f288 _ Q0 (Y.q 11 Z) (acp v2) (GoT.okm Q0 a8)) λal=>?_;have q1:=awi a0 e1;refine yKA 59 ?_ ?_<;>intro h8;have ag:=B.dt h8;obtain ⟨e2,ah,aa,au⟩:=gO (adf a4) i;refine yI 1 i au ?_;rintro ad rfl;refine zL 1 12 e2 ah ?_;rintro ⟨⟩;refine yB λp5=>?_;refine zN (kk:=2) 501 10 12 λb3 bc=>?_;refine zT [] 13 (cB.mk e1 e2) ((),()) λ_=>?_;have r4:e2.size<=bd n:=aa;refine WX.know (λG hΓ=>(hΓ.get 13 Z).rd.one) λaq=>?_
  refine zP 501 68 (a0++[(cB.mk e1 e2)]).length aq λp6 c3=>?_;refine zV [12,13] 14 ?_;refine SA ?_;refine yE 501 14 15 ?_;refine zU [16] 10 ?_
  exact IT (p6,c3,(a0++[(cB.mk e1 e2)]),i+1) ⟨Q0,(aby Q5 (ac2 v2.2 (λa ha=>GoT.okm Q0 ((all_cons (α:=cB) (An a8 aa) nA) a ha)))),Q3,(by rw [v4,abu a6];simp only [a3k,h4,h5,h6,h7,h8,ah,cC])⟩ Q1 [0,1,2,5,10];have ag:=B.df h8;refine yD [] λbs G0 ab=>?_;refine dT 9 [1,3] ?_;have r4:=i8 al;refine DI 71 ?_
  have aj:(a5t a0 e1).toNat<a0.length:=Q4;obtain ⟨e3,ac⟩:=gE aj;have aa:=v2.2 _ (List.mem_of_getElem? ac);refine zDI 2 11 _ ab Z aj ?_;rintro ad rfl;refine dT 7 [7] ?_;refine zDL 4 11 12 e3 ab ac ?_;rintro _;refine dT 3 [11,12,15] ?_;obtain ⟨e4,ae,ax,ar⟩:=gO (adf a4) i;refine zDI 8 1 i ab Z ar ?_;rintro b8 rfl;refine zDL 9 1 12 e4 ab ae ?_;rintro ⟨⟩;refine dT 0 [21] ?_;refine DX.tail2 [] Z Z J ?_;refine yKX 80 ?_ ?_<;>intro h9 b6;refine yE 13 5 12 ?_
  have a7:=v4.trans (show _=(Ctl.ret (l,false)) by rw [abu a6];simp only [a3k,h4,h5,h6,h7,h8,ac,ae,h9,cC]);rw [show a2u p_ n_ l=(l,false) by simp only [a2u,h1,h2,a7,cC]];exact zX [13] (p2,c1) (aby Q0 (λa ha=>GoT.okm Q0 ((okl a2).2 a ha)));refine SA ?_
  exact ITr Z ((some ad),a1,a0,i+1) ⟨Q0,(acp v2),Q3,(by rw [v4,abu a6];simp only [a3k,h4,h5,h6,h7,h8,ac,ae,h9,cC])⟩ Q1 [0,1,2,5,10];obtain ⟨e5,af,aa,ak⟩:=gO (adf a4) i;refine yI 1 i ak ?_;rintro ad rfl;refine zL 1 11 e5 af ?_;rintro ⟨⟩;refine yKA 82 ?_ ?_<;>intro h8;have ag:=B.ef (B.nt h8);refine yE 13 5 11 ?_;have a7:=v4.trans (show _=(Ctl.ret (l,false)) by rw [abu a6];simp only [a3k,h4,h5,h6,h7,af,h8,cC]);rotate_left
  have ag:=B.et (B.nf h8);refine SA ?_;exact ITr Z (a3,a1,a0,i+1) ⟨Q0,(acp v2),Q3,(by rw [v4,abu a6];simp only [a3k,h4,h5,h6,h7,af,h8,cC])⟩ Q1 [0,1,2,5,10]
  all_goals
   rw [show a2u p_ n_ l=(l,false) by simp only [a2u,h1,h2,a7,cC]];exact zX [12] (p2,c1) (aby Q0 (λa ha=>GoT.okm Q0 ((okl a2).2 a ha)))
 have a9:=v4.trans (show _=(Ctl.nxt a0) by rw [dn];simp only [a3k];omega);refine yKM 97 ?_ ?_<;>intro ai an;refine yE 13 5 23 ?_;rw [show a2u p_ n_ l=(l,false) by simp only [a2u,h1,h2,a9,ai,cC]];exact zX [24] (p2,c1) (aby Q0 (λa ha=>GoT.okm Q0 ((okl a2).2 a ha)));rw [show a2u p_ n_ l=(a0,true) by simp only [a2u,h1,h2,a9,ai,cC]];exact yX [10] (a3,a1) (acp v2)
theorem f286 (hn:n+2<=9)(r:bO)(N0:Rd w K0 M0 r.cJ.parts)(N1:Rd w K1 M1 r.cK.parts)(n_:aA)(N2:Rd w K2 M2 n_.parts)(by_:aA)(N3:Rd w K3 M3 by_.parts)(a0:ok n r)(a2:ok n n_)(a1:ok n by_):
 DP 286 #[.agg #[vS K0 r.cJ.parts M0,vS K1 r.cK.parts M1],adu n_ K2 M2,adu by_ K3 M3] w (pB (ab7 r n_ by_)):=by
 refine EN Tryz.func286 Z (aS4 N0 N1 N2 N3) ?_;refine yB λp1=>?_;refine F0 4 cB ?_;refine zE 15 4 5 ?_;refine CF 7 Z O (λw Y=>f287 n Q0 r.cJ (Y.q 0 Z) n_ (Y.q 2 Z) (l:=([])) (Y.q 5 Z) ((ae5 a0).1) a2 (aby zl nA)) ?_;rintro ⟨p2,c1⟩ a3;refine KF Z 9 Z O (λw Y=>f287 (n+1) Q0 r.cK (Y.q 1 Z) by_ (Y.q 3 Z) (Y.q 7 Z) (GoT.okm Q0 (ada a0.2)) (GoT.okm Q0 (adf a1)) a3) ?_
 rintro ⟨p3,c2⟩ a4;refine KV Z Z O (λw Y=>f210 n Q0 r (Y.q 0 Z) (Y.q 1 Z) a0) λa5=>?_;refine yKA 29 ?_ ?_<;>intro h1;refine yKA 32 ?_ ?_<;>intro h2;exact R4r Z Z (by simp only [ab7,h1,h2,cC]);exact R4r Z Z (by simp only [ab7,h1,h2,cC]);exact R4r Z Z (by simp only [ab7,h1,cC])
theorem f285 (hn:n+2<=9){l:List bO}(N0:Rd w K0 M0 l)(n_:aA)(N1:Rd w K1 M1 n_.parts)(by_:aA)(N2:Rd w K2 M2 by_.parts)(a1:ok n l)(a2:ok n n_)(a0:ok n by_):
 DP 285 #[vS K0 l M0,adu n_ K1 M1,adu by_ K2 M2] w (pI n (aav l n_ by_)):=by
 have hb:=bS2 hn;refine EN Tryz.func285 Z (aS3 N0 N1 N2) ?_;have r1:=a1.1;refine LS 7 l (aau n_ by_) [5,4,0] [5,4] [0,1,2] ?_;rintro i ⟨v1,v2⟩;refine yKD 11 ?_ ?_<;>intro h1 ab;obtain ⟨e1,a3,a6,a8⟩:=gO a1 i;refine yD [] λbs G0 a5=>?_;refine dT 5 [1,3] ?_;refine zDI 2 0 i a5 Z a8 ?_;rintro a9 rfl;refine zDL 3 0 3 e1 a5 a3 ?_;rintro ⟨⟨p1,c1⟩,p2,c2⟩;refine dT 1 [8,10] ?_;refine DXV 6 Z J Z O (λw Y=>f286 n Q0 e1 (Y.q 3 Z) (Y.q 4 Z) n_ (Y.q 1 Z) by_ (Y.q 2 Z) a6 a2 a0) λaa=>?_;refine DX.tail2 [] Z Z J ?_
 refine yKA 20 ?_ ?_<;>intro h2;have a7:=v2.trans (show _=(some (i:Int)) by rw [abu a3];simp only [aau,h2,cC]);rw [show aav l n_ by_=((i:Nat):Int) by simp only [aav,a7]];exact R6r Z Z (i6 (i:Nat));refine SA ?_;exact ITr Z (i+1) ⟨Q0,(by rw [v2,abu a3];simp only [aau,h2,cC])⟩ Q1 [0,1,2];have a4:=v2.trans (show _=none by rw [dn];simp only [aau];omega)
 rw [show aav l n_ by_=(-1) by simp only [aav,a4]];exact R6r Z Z (i6 (-1))
theorem f281 (hn:n+2<=9){l:List bO}(N0:Rd w K0 M0 l)(n_:aA)(N1:Rd w K1 M1 n_.parts)(by_:aA)(N2:Rd w K2 M2 by_.parts)(a2:ok n l)(a1:ok n n_)(a0:ok n by_):
 DP 281 #[vS K0 l M0,adu n_ K1 M1,adu by_ K2 M2] w (pB (abq l n_ by_)):=by
 refine EN Tryz.func281 Z (aS3 N0 N1 N2) ?_;refine KV Z Z O (λw Y=>f285 n Q0 (Y.q 0 Z) n_ (Y.q 1 Z) by_ (Y.q 2 Z) a2 a1 a0) λa3=>?_;exact R4r Z Z (by simp only [abq])
theorem f282 (hn:n+0<=9)(t:bU)(N0:Rd w K0 M0 t.keys)(N1:Rd w K1 M1 t.bR)(N2:Rd w K2 M2 t.bV)(N3:Rd w K3 M3 t.bW)(n_:aA)(N4:Rd w K4 M4 n_.parts)(a0:ok n t)(a1:ok n n_):
 DP 282 #[ado t K0 M0 K1 M1 K2 M2 K3 M3,adu n_ K4 M4] w (pB (abm t n_)):=by
 have hb:=bS0 hn;refine EN Tryz.func282 Z (aS5 N0 N1 N2 N3 N4) ?_;have r1:=(okl a0.2.2.1).1;refine LT 5 t.bV (aaw n_) [3,2] [3,2] [0,1,2,3,4] ?_;rintro i ⟨v1,v2⟩;refine yKD 10 ?_ ?_<;>intro h1 aa;obtain ⟨e1,a2,a5,a7⟩:=gO a0.2.2.1 i;refine yD [] λbs G0 a4=>?_;refine dT 4 [1,2,5] ?_;refine zDI 3 2 i a4 Z a7 ?_;rintro a8 rfl;refine zDL 4 2 5 e1 a4 a2 ?_;rintro ⟨p1,c1⟩;refine dT 1 [10] ?_;refine DXV 6 Z J Z O (λw Y=>f173 n Q0 e1 (Y.q 5 Z) n_ (Y.q 4 Z) a5 a1) λa9=>?_;refine DX.tail2 [] Z Z J ?_
 refine yKA 19 ?_ ?_<;>intro h2;have a6:=v2.trans (show _=(some true) by rw [abu a2];simp only [aaw,h2,cC]);exact R4r Z Z (by simp only [abm,a6]);refine SA ?_;exact ITr Z (i+1) ⟨Q0,(by rw [v2,abu a2];simp only [aaw,h2,cC])⟩ Q1 [0,1,2,3,4];have a3:=v2.trans (show _=none by rw [dn];simp only [aaw];omega);exact R4r Z Z (by simp only [abm,a3])
theorem f265 (hn:n+0<=9)(x_:aJ)(N0:Rd w K0 M0 x_.name.parts)(N1:Rd w K1 M1 x_.content)(N2:Rd w K2 M2 x_.aR.parts){now:Int}(a1:ok n x_)(a0:ok n now):
 DP 265 #[afd x_ K0 M0 K1 M1 K2 M2,vI now] w (pB (ab8 x_ now)):=by
 refine EN Tryz.func265 Z (aS3 N0 N1 N2) ?_;exact R4r Z Z (by simp only [ab8])
theorem f211 (hn:n+1<=9){l:List Key}(N0:Rd w K0 M0 l)(n_:aA)(N1:Rd w K1 M1 n_.parts)(a0:ok n l)(a1:ok n n_):
 DP 211 #[vS K0 l M0,adu n_ K1 M1] w (pS w (n+1) (a6n l n_)):=by
 have hb:=bS1 hn;refine EN Tryz.func211 Z (aS2 N0 N1) ?_;refine KV Z Z O (λw Y=>f191 n Q0 (Y.q 0 Z) n_ (Y.q 1 Z) a0 a1) λa2=>?_;refine yKE 10 ?_ ?_<;>intro h1 a5;refine yB λp1=>?_;refine F0 2 UInt8 ?_;refine yE 11 2 3 ?_;rw [show a6n l n_=([]) by simp only [a6n,h1,cC]];exact zX [4] (p1,0) (aby zl (λ_ _=>trivial));refine yB λp1=>?_;refine yB λp2=>?_;refine zT [] 2 (a1v l n_) () λ_=>?_;refine zE 14 2 3 ?_
 refine CV Z O (λw Y=>f254 n Q0 (l:=([(a1v l n_)])) (Y.q 3 Z) (aby Q7 (all_cons (α:=Int) a2 nA))) λa3=>?_;refine F0 5 UInt8 ?_;refine zE 12 5 6 ?_;refine CF 8 Z O (λw Y=>f253 n Q0 (Y.q 6 Z) (aby zl (λ_ _=>trivial)) a3) ?_;rintro ⟨p3,c1⟩ a4
 rw [show a6n l n_=(a37 ([]) (a7o ([(a1v l n_)]))) by simp only [a6n,h1,cC]];exact yX [9] _ a4
theorem f283 (hn:n+7<=9)(t:bU)(N0:Rd w K0 M0 t.keys)(N1:Rd w K1 M1 t.bR)(N2:Rd w K2 M2 t.bV)(N3:Rd w K3 M3 t.bW)(n_:aA)(N4:Rd w K4 M4 n_.parts){now:Int}(a0:ok n t)(a1:ok n n_)(a2:ok n now):
 DP 283 #[ado t K0 M0 K1 M1 K2 M2 K3 M3,adu n_ K4 M4,vI now] w (pI n (a4s t n_ now)):=by
 have hb:=bS7 hn;refine EN Tryz.func283 Z (aS5 N0 N1 N2 N3 N4) ?_;refine KV Z Z O (λw Y=>f191 n Q0 (Y.q 0 Z) n_ (Y.q 4 Z) (a0.1) a1) λag=>?_;refine yKE 13 ?_ ?_<;>intro h1 ah;rw [show a4s t n_ now=(-1) by simp only [a4s,h1,cC]];exact R6r Z Z (i6 (-1));have r1:=(okl a0.2.2.2).1;refine LS 7 t.bW (a3l t n_ now) [4,3,2] [4,3] [0,1,2,3,4] ?_;rintro i ⟨v1,v2⟩;refine yKD 18 ?_ ?_<;>intro h2 ab;obtain ⟨e1,a3,a4,a7⟩:=gO a0.2.2.2 i
 refine yI 3 i a7 ?_;rintro ae rfl;refine zL 3 5 e1 a3 ?_;rintro ⟨⟨p1,c1⟩,⟨p2,c2⟩,⟨p3,c3⟩,_⟩;refine yD [] λbs G0 ad=>?_;refine dT 21 [1,2,4] ?_;refine DXV 3 Z J Z O (λw Y=>f173 n Q0 e1.name (Y.q 5 Z) n_ (Y.q 4 Z) (a4.1) a1) λa9=>?_;refine dT 19 [9] ?_;refine zDC 30 ?_ ?_<;>intro h3;refine dT 17 [10,13] ?_;refine DXV 7 Z J Z O (λw Y=>f265 n Q0 e1 (Y.q 5 Z) (Y.q 6 Z) (Y.q 7 Z) a4 a2) λaf=>?_;refine dT 14 [17,19] ?_;refine zDC 35 ?_ ?_<;>intro h4;refine dT 11 [21,22,24] ?_
 refine DXV 13 Z J Z O (λw Y=>f280 n Q0 (Y.q 0 Z) e1 (Y.q 5 Z) (Y.q 6 Z) (Y.q 7 Z) (a0.1) a4) λaa=>?_;refine dT 8 [29,31] ?_;refine zDC 41 ?_ ?_<;>intro h5;refine dT 3 [33,34,37,38,40] ?_;refine DXF 21 8 Z J Z O (λw Y=>f211 n Q0 (Y.q 0 Z) n_ (Y.q 4 Z) (a0.1) a1) ?_;rintro ⟨p4,c4⟩ a8;refine DXV 22 Z J Z O (λw Y=>f272 _ Q0 (Y.q 6 Z) (Y.q 8 Z) (GoT.okm Q0 a4.2.1) a8) λac=>?_;refine dT 0 [47] ?_;refine DX.tail2 [] Z Z J ?_;refine yKA 49 ?_ ?_<;>intro h6
 have a6:=v2.trans (show _=(some (i:Int)) by rw [abu a3];simp only [a3l,h3,h4,h5,h6,cC]);rw [show a4s t n_ now=((i:Nat):Int) by simp only [a4s,h1,a6,cC]];exact R6r Z Z (i6 (i:Nat));refine SA ?_;exact ITr Z (i+1) ⟨Q0,(by rw [v2,abu a3];simp only [a3l,h3,h4,h5,h6,cC])⟩ Q1 [0,1,2,3,4];refine dT 0 [33,35,37,39,41,43,45,47] ?_;refine DX.tail2 [] Z Z J ?_;refine SA ?_
 exact ITr Z (i+1) ⟨Q0,(by rw [v2,abu a3];simp only [a3l,h3,h4,h5,cC])⟩ Q1 [0,1,2,3,4];refine dT 0 [21,23,25,27,29,31,33,35,37,39,41,43,45,47] ?_;refine DX.tail2 [] Z Z J ?_;refine SA ?_;exact ITr Z (i+1) ⟨Q0,(by rw [v2,abu a3];simp only [a3l,h3,h4,cC])⟩ Q1 [0,1,2,3,4];refine dT 0 [11,13,15,17,19,21,23,25,27,29,31,33,35,37,39,41,43,45,47] ?_;refine DX.tail2 [] Z Z J ?_;refine SA ?_
 exact ITr Z (i+1) ⟨Q0,(by rw [v2,abu a3];simp only [a3l,h3,cC])⟩ Q1 [0,1,2,3,4];have a5:=v2.trans (show _=none by rw [dn];simp only [a3l];omega);rw [show a4s t n_ now=(-1) by simp only [a4s,h1,a5,cC]];exact R6r Z Z (i6 (-1))
theorem f279 (hn:n+7<=9)(t:bU)(N0:Rd w K0 M0 t.keys)(N1:Rd w K1 M1 t.bR)(N2:Rd w K2 M2 t.bV)(N3:Rd w K3 M3 t.bW)(x_:aJ)(N4:Rd w K4 M4 x_.name.parts)(N5:Rd w K5 M5 x_.content)(N6:Rd w K6 M6 x_.aR.parts){now:Int}(ae:ok n t)(aa:ok n x_)(af:ok n now):
 DP 279 #[ado t K0 M0 K1 M1 K2 M2 K3 M3,afd x_ K4 M4 K5 M5 K6 M6,vI now] w (pSB w n (a5a t x_ now)):=by
 have hb:=bS7 hn;refine EN Tryz.func279 Z (aC 0 N0 (aC 1 N1 (aC 2 N2 (aC 3 N3 (aC 4 N4 (aC 5 N5 (aC 6 N6 ac8))))))) ?_;refine yB λp1=>?_;refine F0 7 aA ?_
 refine LM Z (p1,0,[],[],K4,M4,x_.name.parts,K5,M5,x_.content,K6,M6,x_.aR.parts,x_.bL,x_.cF) (λ|(ag,ai,a9,ab,ad,ac,a8,a7,a4,a3,a5,a6,a0,a1,a2)=>(JE n ab/\JL n a8/\JL n a3/\JL n a0/\J6 a1/\J6 a2/\(ab.length<=4)/\(a6o t now [] x_.name.parts x_.content x_.aR.parts x_.bL x_.cF=a6o t now ab a8 a3 a0 a1 a2),4-ab.length,[(8,.v (vS ag ab ai))],[(4,⟨78,[.slice ad (a8.length) ac,.slice a7 (a3.length) a4,.slice a5 (a0.length) a6,.int .i64 a1,.int .i64 a2]⟩)],[(11,⟨1,ag,ab.length,ai,a9⟩)],[(4,MF.rs .stb ad ac a8),(5,MF.rs .stb a7 a4 a3),(6,MF.rs .stb a5 a6 a0),(7,MF.ol a9 ab)])) ⟨nA,(adf aa.1),aa.2.1,(adf aa.2.2.1),aa.2.2.2.1,aa.2.2.2.2,Q10,Z⟩ [4,3,2] [3] [0,1,2,3] [0,1,2,3,4,5,6,7] ?_
 rintro ⟨ag,ai,a9,ab,ad,ac,a8,a7,a4,a3,a5,a6,a0,a1,a2⟩ ⟨v1,v2,v3,v4,v5,v6,v7,v8⟩;refine yKD 14 ?_ ?_<;>intro h1 aj;refine KV Z Z O (λw Y=>f280 n Q0 (Y.q 0 Z) (aJ.mk (aA.mk a8) a3 (aA.mk a0) a1 a2) (Y.q 4 Z) (Y.q 5 Z) (Y.q 6 Z) (ae.1) (An (acp v2) (An (acp v3) (An (acp v4) (An v5 v6))))) λb2=>?_;refine yKN 20 ?_ ?_<;>intro h2 ay;refine yB λp2=>?_;refine F0 8 aA ?_;refine yE 30 8 9 ?_
 have ah:=v8.trans (show _=(Ctl.ret (([]),false)) by rw [a6o];simp only [aj,h2,↓reduceIte]);rw [show a5a t x_ now=(([]),false) by simp only [a5a,ah]];exact zX [10] (p2,0) (aby zl nA);refine KV Z Z O (λw Y=>f281 n Q0 (Y.q 1 Z) _ (Y.q 4 Z) (aA.mk a0) (Y.q 6 Z) (ae.2.1) (acp v2) (acp v4)) λav=>?_;refine yKN 29 ?_ ?_<;>intro h3 ax;refine yB λp2=>?_;refine F0 8 aA ?_;refine yE 30 8 9 ?_
 have ah:=v8.trans (show _=(Ctl.ret (([]),false)) by rw [a6o];simp only [aj,h2,h3,↓reduceIte,Bool.false_eq_true]);rw [show a5a t x_ now=(([]),false) by simp only [a5a,ah]];exact zX [10] (p2,0) (aby zl nA);refine KF Z 8 Z O (λw Y=>f110 n Q0 _ (Y.q 6 Z) (acp v4)) ?_;rintro ⟨p2,c1⟩ al;refine yB λp3=>?_;refine zT (α:=aA) [9] 10 _ (p2,c1) λap=>?_;refine zP 11 36 (ab++[(a05 (aA.mk a0))]).length ap λp4 c2=>?_
 refine zV [7,10] 11 ?_;refine WX.der 12 (MF.rs .der p2 c1 ((a05 (aA.mk a0)).parts)) Z (λ_ hΓ=>asu Z (λx=>⟨x,Z,Z⟩) ((hΓ.get 11 Z).rd)) ?_;refine KV Z Z O (λw Y=>f282 n Q0 t (Y.q 0 Z) (Y.q 1 Z) (Y.q 2 Z) (Y.q 3 Z) _ (Y.q 12 Z) ae al) λaz=>?_;refine yKA 40 ?_ ?_<;>intro h4;refine yE 11 11 13 ?_
 have ah:=v8.trans (show _=(Ctl.ret (ab++[(a05 (aA.mk a0))],true)) by rw [a6o];simp only [aj,h2,h3,h4,↓reduceIte,Bool.false_eq_true]);rw [show a5a t x_ now=(ab++[(a05 (aA.mk a0))],true) by simp only [a5a,ah]];exact zX [14] (p4,c2) (aby Q5 (ac2 v1 (all_cons (α:=aA) al nA)))
 refine KV Z Z O (λw Y=>f283 n Q0 t (Y.q 0 Z) (Y.q 1 Z) (Y.q 2 Z) (Y.q 3 Z) _ (Y.q 12 Z) ae al af) λau=>?_;have q1:=awg t (a05 (aA.mk a0)) now;refine yKD 47 ?_ ?_<;>intro h5 an;refine yB λp5=>?_;refine F0 13 aA ?_;refine yE 48 13 14 ?_;have ah:=v8.trans (show _=(Ctl.ret (([]),false)) by rw [a6o];simp only [aj,h2,h3,h4,an,↓reduceIte,Bool.false_eq_true]);rw [show a5a t x_ now=(([]),false) by simp only [a5a,ah]]
 exact zX [15] (p5,0) (aby zl nA);have r2:=i8 au;refine R0 ?_;refine SI 51 ?_;obtain ⟨e1,ao,ak,ar⟩:=gO ae.2.2.2 ((a4s t (a05 (aA.mk a0)) now).toNat);refine zI 3 _ ar ?_;rintro b1 rfl;refine zL 3 13 e1 ao ?_;rintro ⟨⟨p5,c3⟩,⟨p6,c4⟩,⟨p7,c5⟩,_⟩;refine R0 ?_;refine WX.stb 4 (MF.rs .stb p5 c3 e1.name.parts) Z 13 Z Z (λ_ h=>h) ?_;refine WX.stb 5 (MF.rs .stb p6 c4 e1.content) Z 14 Z Z (λ_ h=>h) ?_
 refine WX.stb 6 (MF.rs .stb p7 c5 e1.aR.parts) Z 15 Z Z (λ_ h=>h) ?_;refine zU [11] 7 ?_
 exact IT (p4,c2,_,(ab++[(a05 (aA.mk a0))]),p5,c3,e1.name.parts,p6,c4,e1.content,p7,c5,e1.aR.parts,e1.bL,e1.cF) ⟨(ac2 v1 (all_cons al nA)),(adf ak.1),ak.2.1,(adf ak.2.2.1),ak.2.2.2.1,ak.2.2.2.2,Q3,(by rw [v8];rw [a6o];simp only [aj,h2,h3,h4,an,ao,↓reduceIte,Bool.false_eq_true])⟩ (by dsimp only;simp only [List.length_append,List.length_cons,List.length_nil];omega) [0,1,2,3,4,5,6,7]
 have am:=v8.trans (show _=(Ctl.nxt (ab,a8,a3,a0,a1,a2)) by rw [a6o];simp only [aj,↓reduceIte]);refine yB λaq=>?_;refine F0 20 aA ?_;refine yE 54 20 21 ?_;rw [show a5a t x_ now=(([]),false) by simp only [a5a,am]];exact zX [22] (aq,0) (aby zl nA)
theorem f270 (hn:n+7<=9)(t:bU)(N0:Rd w K0 M0 t.keys)(N1:Rd w K1 M1 t.bR)(N2:Rd w K2 M2 t.bV)(N3:Rd w K3 M3 t.bW)(x_:aJ)(N4:Rd w K4 M4 x_.name.parts)(N5:Rd w K5 M5 x_.content)(N6:Rd w K6 M6 x_.aR.parts){now:Int}(a2:ok n t)(a0:ok n x_)(a1:ok n now):
 DP 270 #[ado t K0 M0 K1 M1 K2 M2 K3 M3,afd x_ K4 M4 K5 M5 K6 M6,vI now] w (pB (ab9 t x_ now)):=by
 refine EN Tryz.func270 Z (aC 0 N0 (aC 1 N1 (aC 2 N2 (aC 3 N3 (aC 4 N4 (aC 5 N5 (aC 6 N6 ac8))))))) ?_;refine KF Z 7 Z O (λw Y=>f279 n Q0 t (Y.q 0 Z) (Y.q 1 Z) (Y.q 2 Z) (Y.q 3 Z) x_ (Y.q 4 Z) (Y.q 5 Z) (Y.q 6 Z) a2 a0 a1) ?_;rintro ⟨p1,c1⟩ a4;refine KV Z Z O (λw Y=>f192 n Q0 x_ (Y.q 4 Z) (Y.q 5 Z) (Y.q 6 Z) a0) λa3=>?_;refine yKA 18 ?_ ?_<;>intro h1;exact R4r Z Z (by simp only [ab9,h1,cC]);exact R4r Z Z (by simp only [ab9,h1,cC])
theorem f278 (hn:n+7<=9)(a:aX)(N0:Rd w K0 M0 a.name.parts)(N1:Rd w K1 M1 a.data.name.parts)(N2:Rd w K2 M2 a.data.content)(N3:Rd w K3 M3 a.data.aR.parts)(t:bU)(N4:Rd w K4 M4 t.keys)(N5:Rd w K5 M5 t.bR)(N6:Rd w K6 M6 t.bV)(N7:Rd w K7 M7 t.bW)(x_:aJ)(N8:Rd w K8 M8 x_.name.parts)(N9:Rd w K9 M9 x_.content)(N10:Rd w K10 M10 x_.aR.parts){now:Int}(a3:ok n a)(a4:ok n t)(a0:ok n x_)(a1:ok n now):
 DP 278 #[ag7 a K0 M0 K1 M1 K2 M2 K3 M3,ado t K4 M4 K5 M5 K6 M6 K7 M7,afd x_ K8 M8 K9 M9 K10 M10,vI now] w (pA w n (a2m a t x_ now)):=by
 refine EN Tryz.func278 Z (aC 0 N0 (aC 1 N1 (aC 2 N2 (aC 3 N3 (aC 4 N4 (aC 5 N5 (aC 6 N6 (aC 7 N7 (aC 8 N8 (aC 9 N9 (aC 10 N10 ac8))))))))))) ?_;refine KF Z 11 Z O (λw Y=>f68 n Q0 a (Y.q 0 Z) (Y.q 1 Z) (Y.q 2 Z) (Y.q 3 Z) a3) ?_;rintro ⟨_,_,⟨p1,c1⟩,_,_,_,⟨⟨p2,c2⟩,⟨p3,c3⟩,⟨p4,c4⟩,_⟩⟩ a2;dsimp only
 refine yKN 15 ?_ ?_<;>intro h1 a8;refine KV Z Z O (λw Y=>f173 n Q0 x_.name (Y.q 8 Z) a.name (Y.q 0 Z) (a0.1) (a3.2.2.1)) λa6=>?_;refine yKA 22 ?_ ?_<;>intro h2;refine KV Z Z O (λw Y=>f270 n Q0 t (Y.q 4 Z) (Y.q 5 Z) (Y.q 6 Z) (Y.q 7 Z) x_ (Y.q 8 Z) (Y.q 9 Z) (Y.q 10 Z) a4 a0 a1) λa7=>?_;refine yKA 27 ?_ ?_<;>intro h3;refine KF Z 19 Z O (λw Y=>f118 n Q0 x_ (Y.q 8 Z) (Y.q 9 Z) (Y.q 10 Z) a0) ?_;rintro ⟨⟨p5,c5⟩,⟨p6,c6⟩,⟨p7,c7⟩,_⟩ a5;dsimp only
 rw [show a2m a t x_ now=(aX.mk ((a0p a).node) ((a0p a).index) ((a0p a).name) ((a0p a).cN) ((a0p a).wait) true (a0m x_)) by simp only [a2m,h1,h2,h3,cC]];exact yX [15,22,23,24] ((),(),(p1,c1),(),(),(),((p5,c5),(p6,c6),(p7,c7),(),())) (An a2.1 (An a2.2.1 (An a2.2.2.1 (An a2.2.2.2.1 (An a2.2.2.2.2.1 (An trivial a5))))))
 rw [show a2m a t x_ now=(a0p a) by simp only [a2m,h1,h2,h3,cC]];rotate_left;rw [show a2m a t x_ now=(a0p a) by simp only [a2m,h1,h2,cC]];rotate_left;rw [show a2m a t x_ now=(a0p a) by simp only [a2m,h1,cC]];rotate_left
 all_goals
  exact yX [15,16,17,18] ((),(),(p1,c1),(),(),(),((p2,c2),(p3,c3),(p4,c4),(),())) a2
end Go.Proofs.YthdfhghdipdknaaGreat
namespace Go.Stp
def rqL (l:List aO)(i:Nat):Nat:=match l[i]? with|some e=>e.bK.length|none=>0
theorem awz {l:List aO}{i:Nat}{e:aO}(h:l[i]? =some e):rqL l i=e.bK.length:=by simp [rqL,h]
theorem awc {n:Nat}{l:List aO}(h:GoT.ok n l)(i:Nat):rqL l i<=bd n:=by
 unfold rqL
 split
 ·rename_i e he;exact (okl (abx ((okl h).2 _ (List.mem_of_getElem? he))).2.1).1
 ·grind
theorem mx_s (a b:Int):a1s a b=max a b:=by
 unfold a1s
 grind
theorem mn_s (a b:Int):a11 a b=min a b:=by
 unfold a11
 grind
theorem awl:∀(l o:List aO),(a5m l o).length=o.length+l.length
 |[],o=>by simp [a5m]
 |e::l,o=>by simp only [a5m];rw [awl l];grind
theorem aso (l:List aO):(a0k l).length=l.length:=by show (a5m l []).length=_;rw [awl];simp
theorem ax2:∀(l o:List aS),(a5n l o).length=o.length+l.length
 |[],o=>by simp [a5n]
 |e::l,o=>by simp only [a5n];rw [ax2 l];grind
theorem au2 (l:List aS):(a0h l).length=l.length:=by show (a5n l []).length=_;rw [ax2];simp
theorem awr:∀(l o:List aT),(a57 l o).length=o.length+l.length
 |[],o=>by simp [a57]
 |e::l,o=>by simp only [a57];rw [awr l];grind
theorem au7 (c:bX):(a12 c).bB.length=c.bB.length:=by show (a57 c.bB []).length=_;rw [awr];simp
theorem asa (n_:aA):∀(l:List aT) (i:Nat) (j:Int),a78 n_ l i=some j->((i:Nat):Int)<=j/\j<((i+l.length:Nat):Int)
 |[],i,j,h=>by cases h
 |x::l,i,j,h=>by
  simp only [a78]at h;cases hx:a1i x.data.name n_
  ·rw [hx,cond_false]at h
   have:=asa n_ l (i+1) j h
   grind
  ·grind
theorem asf (l:List aT)(n_:aA): -1<=a1c l n_/\a1c l n_<(l.length:Int):=by
 unfold a1c;cases h:a78 n_ l 0 with
 |none=>show (-1:Int)<= -1/\(-1:Int)<_;omega
 |some j=>have:=asa n_ l 0 j h;show-1<=j/\j<_;omega
theorem aqs (n_:aA):∀(l:List aO) (i:Nat) (j:Int),a79 n_ l i=some j->((i:Nat):Int)<=j/\j<((i+l.length:Nat):Int)
 |[],i,j,h=>by cases h
 |x::l,i,j,h=>by
  simp only [a79]at h;cases hx:a1i x.name n_
  ·rw [hx,cond_false]at h
   have:=aqs n_ l (i+1) j h
   grind
  ·grind
theorem alh (l:List aO)(n_:aA): -1<=a06 l n_/\a06 l n_<(l.length:Int):=by
 unfold a06;cases h:a79 n_ l 0 with
 |none=>show (-1:Int)<= -1/\(-1:Int)<_;omega
 |some j=>have:=aqs n_ l 0 j h;show-1<=j/\j<_;omega
theorem anu (n_:aA)(side:Int):∀(l:List aS) (i:Nat) (j:Int),a5l n_ side l i=some j->((i:Nat):Int)<=j/\j<((i+l.length:Nat):Int)
 |[],i,j,h=>by cases h
 |x::l,i,j,h=>by
  simp only [a5l]at h;cases hy:(x.face==side)
  ·rw [hy,cond_false]at h
   have:=anu n_ side l (i+1) j h
   grind
  ·rw [hy,cond_true]at h
   cases hx:a1i x.pfx n_
   ·rw [hx,cond_false]at h
    have:=anu n_ side l (i+1) j h
    grind
   ·grind
theorem as8 (l:List aS)(n_:aA)(side:Int): -1<=a0a l n_ side/\a0a l n_ side<(l.length:Int):=by
 unfold a0a;cases h:a5l n_ side l 0 with
 |none=>show (-1:Int)<= -1/\(-1:Int)<_;omega
 |some j=>have:=anu n_ side l 0 j h;show-1<=j/\j<_;omega
def aba (l:(List aO))(n_:aA):Bool:=(decide ((a06 l n_)>=0))
def aax (l:(List aO))(n_:aA):Int:=bif decide ((a06 l n_)<0)then 0 else match (l)[((a06 l n_)).toNat]? with|none=>default|some e1=>e1.cH
def abb (n_:aA)(k:Int):aA:=(aA.mk (List.take (Int.toNat (a1s 0 (a11 k ((n_.parts).length:Int)))) n_.parts))
def abn (a:aA)(p_:aA):Bool:=bif decide (((a.parts).length:Int)>=((p_.parts).length:Int))then (a1i (abb a ((p_.parts).length:Int)) p_)else false
def a5b (l:(List aB))(n_:aA):List aB->Nat->Int->Int|[],i,best=>best|e1::rest_,i,best=>bif (abn n_ e1.pfx)then bif decide (best<0)then a5b l n_ rest_ (i+1) ((i:Nat):Int)else match (l)[(best).toNat]? with|none=>default|some e2=>bif decide (((e1.pfx.parts).length:Int)>((e2.pfx.parts).length:Int))then a5b l n_ rest_ (i+1) ((i:Nat):Int)else a5b l n_ rest_ (i+1) best else a5b l n_ rest_ (i+1) best
def a1n (l:(List aB))(n_:aA):aA×Bool:=match a5b l n_ l 0 (-1)with|best=>bif decide (best<0)then ((aA.mk ([])),false)else match (l)[(best).toNat]? with|none=>default|some e3=>((a05 e3.pfx),true)
def aa5 (l:(List aS))(n_:aA)(side:Int):Int:=bif decide ((a0a l n_ side)<0)then 0 else match (l)[((a0a l n_ side)).toNat]? with|none=>default|some e1=>e1.cE
def a6p (l:(List RouteK))(r:RouteK)(k:Int):Int:=if k>0 then match (l)[(k-1).toNat]? with|none=>default|some e1=>if e1.cost>r.cost then a6p l r (k-1)else if (e1.cost==r.cost)=true then if e1.face>r.face then a6p l r (k-1)else k else k else k
termination_by k.toNat
decreasing_by all_goals (simp_wf; omega)
def a6q (l:(List RouteK))(r:RouteK):(List RouteK):=match a6p l r ((l).length:Int)with|k=>(((List.take (Int.toNat k) l)++[r])++(List.drop (Int.toNat k) l))
theorem avf (l:List RouteK)(r:RouteK):(a6q l r).length=l.length+1:=by
 unfold a6q
 grind
def a6r:List RouteK->(List Int)->(List Int)|[],out=>((out):List Int)|e2::rest_,out=>a6r rest_ (((out++[e2.face])):List Int)
def a7q (l:(List aB))(n_:aA):List aB->(List RouteK)->(List RouteK)|[],s=>((s):List RouteK)|e1::rest_,s=>bif (a1n l n_).2 then bif (a1i e1.pfx ((a1n l n_).1))then a7q l n_ rest_ (((a6q s (RouteK.mk Opq.mk e1.face e1.cost))):List RouteK)else a7q l n_ rest_ ((s):List RouteK)else ((s):List RouteK)
def a6s (l:(List aB))(n_:aA):(List Int):=match a7q l n_ l ([]:List RouteK)with|s=>match a6r s ([]:List Int)with|out2=>out2
def aa6 (l:(List aS))(n_:aA)(e1:Int)(out:List Int)(k:Int):Int:=if k>0 then match (out)[(k-1).toNat]? with|none=>default|some e2=>if (aa5 l n_ e2)>(aa5 l n_ e1)then aa6 l n_ e1 out (k-1)else k else k
termination_by k.toNat
decreasing_by all_goals (simp_wf; omega)
def aa7 (l:(List aS))(n_:aA):List Int->(List Int)->(List Int)|[],out=>((out):List Int)|e1::rest_,out=>match aa6 l n_ e1 out ((out).length:Int)with|k=>aa7 l n_ rest_ (((((List.take (Int.toNat k) out)++[e1])++(List.drop (Int.toNat k) out))):List Int)
def a8t (l:(List aS))(n_:aA)(sides:(List Int)):(List Int):=match aa7 l n_ sides ([]:List Int)with|out=>out
def a7r (x_:aH)(n_:aA)(but:Int):List Int->(List Int)->(List Int)|[],out=>((out):List Int)|e1::rest_,out=>bif (a1n x_.bM n_).2 then bif (e1 !=but)then a7r x_ n_ but rest_ (((out++[e1])):List Int)else a7r x_ n_ but rest_ ((out):List Int)else ((out):List Int)
def a2v (x_:aH)(n_:aA)(but:Int):(List Int):=match a7r x_ n_ but (a8t x_.bQ ((a1n x_.bM n_).1) (a6s x_.bM n_)) ([]:List Int)with|out=>out
def a4t (l:(List aS))(n_:aA)(side:Int):(List aS):=bif (!(a1e n_))then (a0h l)else bif (!(a07 side 1 6))then (a0h l)else bif decide ((a0a l n_ side)>=0)then match ((a0h l))[((a0a l n_ side)).toNat]? with|none=>default|some e1=>((a0h l).set (((a0a l n_ side)).toNat) (aS.mk e1.pfx e1.face (a11 50 (i64.wrap (e1.cE+1)))))else bif decide (((l).length:Int)<24)then ((a0h l)++[(aS.mk (a05 n_) side 1)])else (a0h l)
def a5u (l:(List aS))(n_:aA)(side:Int):(List aS):=bif decide ((a0a l n_ side)<0)then (a0h l)else match ((a0h l))[((a0a l n_ side)).toNat]? with|none=>default|some e1=>bif decide (e1.cE<2)then ((List.take (Int.toNat (a0a l n_ side)) (a0h l))++(List.drop (Int.toNat ((a0a l n_ side)+1)) (a0h l)))else ((a0h l).set (((a0a l n_ side)).toNat) (aS.mk e1.pfx e1.face (i64.wrap (Int.tdiv e1.cE 2))))
def a5v (now:Int)(e1:aO)(i2:Nat)(a:List aW):Nat×(List aW):=if ((i2:Nat):Int)<((e1.bK).length:Int)then match (e1.bK)[i2]? with|none=>default|some e2=>if now<=e2.expiry then a5v now e1 (i2+1) (((a++[e2])):List aW)else a5v now e1 (i2+1) ((a):List aW)else (i2,((a):List aW))
termination_by e1.bK.length - i2
decreasing_by all_goals (simp_wf; omega)
def a6t (now:Int):List aO->(List aO)->(List aO)|[],out=>((out):List aO)|e1::rest_,out=>match a5v now e1 0 ([]:List aW)with|(i2,a)=>bif decide (((a).length:Int)>0)then a6t now rest_ (((out++[(aO.mk (a05 e1.name) a e1.cH)])):List aO)else a6t now rest_ ((out):List aO)
def a3m (l:(List aO))(now:Int):(List aO):=match a6t now l ([]:List aO)with|out=>out
def a38 (s:(List bA))(n_:aA)(bI:Int):(List bA):=bif decide (((((a2g s)++[(bA.mk (a05 n_) bI)])).length:Int)>24)then (List.drop 1 ((a2g s)++[(bA.mk (a05 n_) bI)]))else ((a2g s)++[(bA.mk (a05 n_) bI)])
theorem asnL:∀(l o:List bA),a6d l o=o++l
 |[],o=>by simp [a6d]
 |e::l,o=>by
  simp only [a6d];rw [asnL l];simp [a05]
theorem auh {n:Nat}{s:List bA}{m:aA}{k:Int}(hn:n<=9)(hs:GoT.ok n s)(hm:GoT.ok n m)(hk:GoT.ok n k):GoT.ok n (a38 s m k):=by
 have e1:a2g s=s:=by simp [a2g,asnL]
 have e2:a05 m=m:=by simp [a05]
 have hb:=adi n;have ha:∀z∈s++[bA.mk m k],GoT.ok n z:=ac2 (okl hs).2 (all_cons (α:=bA) (And.intro hm hk) (λa ha=>by cases ha))
 grind [okl,a38,aby,List.mem_of_mem_drop,List.length_drop,List.length_append,List.length_cons,List.length_nil]
def a8u (now:Int):List aT->(List aT)->(List aT)|[],out=>((out):List aT)|e1::rest_,out=>bif (ab8 e1.data now)then a8u now rest_ (((out++[(aT.mk (a0m e1.data) e1.cO)])):List aT)else a8u now rest_ ((out):List aT)
def abc (c_:bX)(now:Int):bX:=match a8u now c_.bB ([]:List aT)with|out=>(bX.mk c_.cA out)
def aay (e1:aO)(i2:Nat)(out:List bA):Nat×(List bA):=if ((i2:Nat):Int)<((e1.bK).length:Int)then match (e1.bK)[i2]? with|none=>default|some e2=>aay e1 (i2+1) (((a38 out e1.name e2.bI)):List bA)else (i2,((out):List bA))
termination_by e1.bK.length - i2
decreasing_by all_goals (simp_wf; omega)
def a3x (x_:aH)(now:Int):List aO->(List bA)->(List aS)->(List bA)×(List aS)|[],outSeen,outMeasurements=>(((outSeen):List bA),((outMeasurements):List aS))|e1::rest_,outSeen,outMeasurements=>bif (((e1.bK).length:Int)==0)then a3x x_ now rest_ ((outSeen):List bA) ((outMeasurements):List aS)else bif (aba (a3m x_.bH now) e1.name)then a3x x_ now rest_ ((outSeen):List bA) ((outMeasurements):List aS)else match aay e1 0 (outSeen:List bA)with|(i2,out)=>bif (a1n x_.bM e1.name).2 then bif decide ((((a2v (aH.mk ((a00 x_).bF) ((a00 x_).bG) (a3m x_.bH now) out ((a00 x_).bM) outMeasurements ((a00 x_).aP)) e1.name 0)).length:Int)>0)then match ((a2v (aH.mk ((a00 x_).bF) ((a00 x_).bG) (a3m x_.bH now) out ((a00 x_).bM) outMeasurements ((a00 x_).aP)) e1.name 0))[0]? with|none=>default|some e3=>a3x x_ now rest_ ((out):List bA) (((a4t outMeasurements ((a1n x_.bM e1.name).1) e3)):List aS)else a3x x_ now rest_ ((out):List bA) ((outMeasurements):List aS)else a3x x_ now rest_ ((out):List bA) ((outMeasurements):List aS)
def a3n (x_:aH)(now:Int):aH:=match a3x x_ now x_.bH ((a00 x_).bS:List bA) ((a00 x_).bQ:List aS)with|(outSeen,outMeasurements)=>(aH.mk ((a00 x_).bF) (abc x_.bG now) (a3m x_.bH now) outSeen ((a00 x_).bM) outMeasurements ((a00 x_).aP))
def a6u (w_:bJ):Bool:=bif (a1e w_.name)then bif decide (((w_.name.parts).length:Int)>0)then bif (a07 w_.bI 0 1000000)then bif (a07 w_.cM 0 16)then (a07 w_.cD 1 20)else false else false else false else false
def a8v (w_:bJ)(e1:aO)(i2:Nat):Ctl (Bool) (Nat):=if ((i2:Nat):Int)<((e1.bK).length:Int)then if (a1i e1.name w_.name)=true then match (e1.bK)[i2]? with|none=>default|some e2=>if (e2.bI==w_.bI)=true then (Ctl.ret true)else a8v w_ e1 (i2+1)else (Ctl.nxt i2)else (Ctl.nxt i2)
termination_by e1.bK.length - i2
decreasing_by all_goals (simp_wf; omega)
def a8w (w_:bJ):List bA->Option (Bool)|[]=>none|e3::rest_=>bif (e3.bI==w_.bI)then bif (a1i e3.name w_.name)then (some true)else a8w w_ rest_ else a8w w_ rest_
def aaz (w_:bJ):List aO->Option (Bool)|[]=>none|e1::rest_=>match a8v w_ e1 0 with| .ret r_=>(some r_)| .nxt i2=>aaz w_ rest_
def abd (l:(List aO))(s:(List bA))(w_:bJ):Bool:=match aaz w_ l with|some r_=>r_|none=>match a8w w_ s with|some r_=>r_|none=>false
def a3y (x_:aH):Action:=(Action.mk (aH.mk ((a00 x_).bF) ((a00 x_).bG) ((a00 x_).bH) ((a00 x_).bS) ((a00 x_).bM) ((a00 x_).bQ) (i64.wrap (((a00 x_).aP)+1))) ([]))
def a8x (n_:aA)(now:Int):List aT->Option (aJ×Bool)|[]=>none|e1::rest_=>bif (a1i e1.data.name n_)then bif (ab8 e1.data now)then (some ((a0m e1.data),true))else a8x n_ now rest_ else a8x n_ now rest_
def a7s (c_:bX)(n_:aA)(now:Int):aJ×Bool:=match a8x n_ now c_.bB with|some r_=>r_|none=>((aJ.mk (aA.mk ([])) ([]) (aA.mk ([])) 0 0),false)
def a5w (x_:aH)(n_:aA)(now:Int):aJ×Bool:=bif decide ((a4l x_.bF n_)>=0)then match (x_.bF)[((a4l x_.bF n_)).toNat]? with|none=>default|some e1=>((a0m e1),true)else (((a7s x_.bG n_ now).1),((a7s x_.bG n_ now).2))
def a7t (c_:bX)(n_:aA)(now:Int):bX:=bif decide ((a1c c_.bB n_)>=0)then match ((a12 c_).bB)[((a1c c_.bB n_)).toNat]? with|none=>default|some e1=>(bX.mk ((a12 c_).cA) ((a12 c_).bB.set (((a1c c_.bB n_)).toNat) (aT.mk e1.data now)))else (a12 c_)
def a24 (a:aW):List aW->(List aW)->Bool->(List aW)×Bool|[],out,done=>(((out):List aW),done)|e1::rest_,out,done=>bif (!done)then bif decide (e1.face>a.face)then bif (e1.face !=a.face)then a24 a rest_ ((((out++[a])++[e1])):List aW) true else a24 a rest_ (((out++[a])):List aW) true else bif (e1.face !=a.face)then a24 a rest_ (((out++[e1])):List aW) done else a24 a rest_ ((out):List aW) done else bif (e1.face !=a.face)then a24 a rest_ (((out++[e1])):List aW) done else a24 a rest_ ((out):List aW) done
def a2n (l:(List aW))(a:aW):(List aW):=match a24 a l ([]:List aW) false with|(out,done)=>bif (!done)then (out++[a])else out
def a17 (l:(List aO))(w_:bJ)(side:Int)(now:Int):(List aO)×Bool:=bif (!(a6u w_))then ((a0k l),false)else bif (!(a07 side 0 6))then ((a0k l),false)else bif decide ((a06 l w_.name)<0)then bif decide (((l).length:Int)>=12)then ((a0k l),false)else (((a0k l)++[(aO.mk (a05 w_.name) ([(aW.mk side w_.bI (i64.wrap (now+w_.cD)))]) 0)]),true)else match ((a0k l))[((a06 l w_.name)).toNat]? with|none=>default|some e1=>(((a0k l).set (((a06 l w_.name)).toNat) (aO.mk e1.name (a2n e1.bK (aW.mk side w_.bI (i64.wrap (now+w_.cD)))) e1.cH)),true)
def a8y (l:(List aO))(n_:aA)(side:Int)(i:Nat):Ctl (Bool) (Nat):=if i<=rqL l (a06 l n_).toNat then if (a06 l n_)>=0 then match (l)[((a06 l n_)).toNat]? with|none=>default|some e1=>if ((i:Nat):Int)<((e1.bK).length:Int)then match (e1.bK)[i]? with|none=>default|some e2=>if (e2.face==side)=true then (Ctl.ret true)else a8y l n_ side (i+1)else (Ctl.nxt i)else (Ctl.nxt i)else default
termination_by rqL l (a06 l n_).toNat + 1 - i
decreasing_by all_goals (simp_wf; omega)
def ab0 (l:(List aO))(n_:aA)(side:Int):Bool:=match a8y l n_ side 0 with| .ret r_=>r_| .nxt i=>false
def a1o (w_:bJ):bJ×Bool:=bif decide (w_.cM<1)then ((a1g w_),false)else ((bJ.mk ((a1g w_).name) ((a1g w_).bI) (i64.wrap (w_.cM-1)) ((a1g w_).cD)),true)
def a4u (l:(List aO))(n_:aA)(now:Int):(List aO):=bif decide ((a06 l n_)>=0)then match ((a0k l))[((a06 l n_)).toNat]? with|none=>default|some e1=>((a0k l).set (((a06 l n_)).toNat) (aO.mk e1.name e1.bK now))else (a0k l)
def a2w (l:(List aT))(k:Int):(List aT):=((List.take (Int.toNat k) l)++(List.drop (Int.toNat (k+1)) l))
theorem aqo {l:List aT}{k:Int}(h:0<=k/\k<l.length):(a2w l k).length+1=l.length:=by
 unfold a2w
 grind
def a5c (out:List aT)(old:Int)(i:Int):Int×Int:=if i<((out).length:Int)then match (out)[(i).toNat]? with|none=>default|some e1=>match (out)[(old).toNat]? with|none=>default|some e2=>if e1.cO<e2.cO then a5c out i (i+1)else a5c out old (i+1)else (old,i)
termination_by (out.length - i).toNat
decreasing_by all_goals (simp_wf; omega)
def a5d (x_:aJ)(k:Int)(out:List aT):Int×(List aT):=if k<out.length then if k>=0 then a5d x_ (a1c (a2w out k) x_.name) (((a2w out k)):List aT)else (k,((out):List aT))else default
termination_by out.length
decreasing_by all_goals (simp_wf; have z_ := aqo (l := out) (k := k) (by omega); omega)
def a1r (c_:bX)(x_:aJ)(now:Int):bX:=bif decide (c_.cA<1)then (a12 c_)else bif (!(a23 x_))then (a12 c_)else match a5d x_ (a1c ((a12 c_).bB) x_.name) ((a12 c_).bB:List aT)with|(k,out)=>bif decide (((out).length:Int)>=c_.cA)then match a5c out 0 1 with|(old,i)=>(bX.mk ((a12 c_).cA) ((a2w out old)++[(aT.mk (a0m x_) now)]))else (bX.mk ((a12 c_).cA) (out++[(aT.mk (a0m x_) now)]))
def a1k (l:(List aO))(n_:aA):(List aO)×(List aW):=bif decide ((a06 l n_)<0)then ((a0k l),([]))else match (l)[((a06 l n_)).toNat]? with|none=>default|some e1=>(((List.take (Int.toNat (a06 l n_)) (a0k l))++(List.drop (Int.toNat ((a06 l n_)+1)) (a0k l))),e1.bK)
def abo (x_:aH)(t:bU)(y:aJ)(now:Int):Bool:=bif (aba x_.bH y.name)then (ab9 t y now)else false
def a4c (x_:aH):aH:=(aH.mk (a6c x_.bF) (a5p x_.bG.cA) ([]) ([]) (a1d x_.bM) ([]) 0)
def a7u (x_:aH)(side:Int)(w_:bJ):List Int->Nat->(List bD)->(List bD)|[],i,out=>((out):List bD)|e1::rest_,i,out=>bif (ab0 x_.bH w_.name side)then a7u x_ side w_ rest_ (i+1) (((out++[(bD.mk e1 true (a1g ((a1o w_).1)) (aJ.mk (aA.mk ([])) ([]) (aA.mk ([])) 0 0))])):List bD)else bif (((i:Nat):Int)==0)then a7u x_ side w_ rest_ (i+1) (((out++[(bD.mk e1 true (a1g ((a1o w_).1)) (aJ.mk (aA.mk ([])) ([]) (aA.mk ([])) 0 0))])):List bD)else ((out):List bD)
def a7v (x_:aH)(side:Int)(w_:bJ):List Int->Nat->(List bD)->(List bD)|[],i,out2=>((out2):List bD)|e2::rest_,i,out2=>bif (ab0 x_.bH w_.name side)then a7v x_ side w_ rest_ (i+1) (((out2++[(bD.mk e2 true (a1g ((a1o w_).1)) (aJ.mk (aA.mk ([])) ([]) (aA.mk ([])) 0 0))])):List bD)else bif (((i:Nat):Int)==0)then a7v x_ side w_ rest_ (i+1) (((out2++[(bD.mk e2 true (a1g ((a1o w_).1)) (aJ.mk (aA.mk ([])) ([]) (aA.mk ([])) 0 0))])):List bD)else ((out2):List bD)
def a10 (x_:aH)(side:Int)(w_:bJ)(now:Int):Action:=
 bif (!(a6u w_))then
  (a3y x_)
 else
  bif (!(a07 side 0 6))then
   (a3y x_)
  else
   bif (abd x_.bH x_.bS w_)then
    (a3y x_)
   else
    bif (a5w x_ w_.name now).2 then
     (Action.mk (aH.mk ((a00 x_).bF) (a7t x_.bG w_.name now) ((a00 x_).bH) (a38 x_.bS w_.name w_.bI) ((a00 x_).bM) ((a00 x_).bQ) ((a00 x_).aP)) ([(bD.mk side false (bJ.mk (aA.mk ([])) 0 0 0) ((a5w x_ w_.name now).1))]))
    else
     bif (!((a17 x_.bH w_ side now).2))then
      (a3y x_)
     else
      bif (aba x_.bH w_.name)then
       bif decide (now<=(aax x_.bH w_.name))then
        (Action.mk (aH.mk ((a00 x_).bF) ((a00 x_).bG) ((a17 x_.bH w_ side now).1) ((a00 x_).bS) ((a00 x_).bM) ((a00 x_).bQ) ((a00 x_).aP)) ([]))
       else
        bif (!((a1o w_).2))then
         (Action.mk (aH.mk ((a00 x_).bF) ((a00 x_).bG) ((a17 x_.bH w_ side now).1) ((a00 x_).bS) ((a00 x_).bM) ((a00 x_).bQ) ((a00 x_).aP)) ([]))
        else
         bif ((((a2v x_ w_.name side)).length:Int)==0)then
          (Action.mk (aH.mk ((a00 x_).bF) ((a00 x_).bG) ((a17 x_.bH w_ side now).1) ((a00 x_).bS) ((a00 x_).bM) ((a00 x_).bQ) ((a00 x_).aP)) ([]))
         else
          match a7u x_ side w_ (a2v x_ w_.name side) 0 ([]:List bD)with
           |out=>
            (Action.mk (aH.mk ((a00 x_).bF) ((a00 x_).bG) (a4u ((a17 x_.bH w_ side now).1) w_.name now) ((a00 x_).bS) ((a00 x_).bM) ((a00 x_).bQ) ((a00 x_).aP)) out)
      else
       bif (!((a1o w_).2))then
        (Action.mk (aH.mk ((a00 x_).bF) ((a00 x_).bG) ((a17 x_.bH w_ side now).1) ((a00 x_).bS) ((a00 x_).bM) ((a00 x_).bQ) ((a00 x_).aP)) ([]))
       else
        bif ((((a2v x_ w_.name side)).length:Int)==0)then
         (Action.mk (aH.mk ((a00 x_).bF) ((a00 x_).bG) ((a17 x_.bH w_ side now).1) ((a00 x_).bS) ((a00 x_).bM) ((a00 x_).bQ) ((a00 x_).aP)) ([]))
        else
         match a7v x_ side w_ (a2v x_ w_.name side) 0 ([]:List bD)with
          |out2=>
           (Action.mk (aH.mk ((a00 x_).bF) ((a00 x_).bG) (a4u ((a17 x_.bH w_ side now).1) w_.name now) ((a00 x_).bS) ((a00 x_).bM) ((a00 x_).bQ) ((a00 x_).aP)) out2)
def a7w (side:Int)(y:aJ):List aW->(List bA)->(List bD)->(List bA)×(List bD)|[],out,outOutgoing=>(((out):List bA),((outOutgoing):List bD))|e1::rest_,out,outOutgoing=>bif (e1.face !=side)then a7w side y rest_ (((a38 out y.name e1.bI)):List bA) (((outOutgoing++[(bD.mk e1.face false (bJ.mk (aA.mk ([])) 0 0 0) (a0m y))])):List bD)else a7w side y rest_ (((a38 out y.name e1.bI)):List bA) ((outOutgoing):List bD)
def a33 (x_:aH)(t:bU)(side:Int)(y:aJ)(now:Int):Action:=bif (!(abo x_ t y now))then (a3y x_)else match a7w side y ((a1k x_.bH y.name).2) ((a00 x_).bS:List bA) ([]:List bD)with|(out,outOutgoing)=>bif decide ((a4l x_.bF y.name)<0)then bif (a1n x_.bM y.name).2 then (Action.mk (aH.mk ((a00 x_).bF) (a1r x_.bG y now) ((a1k x_.bH y.name).1) out ((a00 x_).bM) (a5u x_.bQ ((a1n x_.bM y.name).1) side) ((a00 x_).aP)) outOutgoing)else (Action.mk (aH.mk ((a00 x_).bF) (a1r x_.bG y now) ((a1k x_.bH y.name).1) out ((a00 x_).bM) ((a00 x_).bQ) ((a00 x_).aP)) outOutgoing)else bif (a1n x_.bM y.name).2 then (Action.mk (aH.mk ((a00 x_).bF) ((a00 x_).bG) ((a1k x_.bH y.name).1) out ((a00 x_).bM) (a5u x_.bQ ((a1n x_.bM y.name).1) side) ((a00 x_).aP)) outOutgoing)else (Action.mk (aH.mk ((a00 x_).bF) ((a00 x_).bG) ((a1k x_.bH y.name).1) out ((a00 x_).bM) ((a00 x_).bQ) ((a00 x_).aP)) outOutgoing)
end Go.Stp
namespace Go.Stp
def Inc:Int->List aW->Prop
 |_,[]=>True
 |lo,r::l=>lo<=r.face/\r.face<=6/\Inc (r.face+1) l
def aen (l:List aO):Prop:=∀p∈l,Inc 0 p.bK
def af5 (x:aH):Prop:=x.bG.cA<=8/\aen x.bH
theorem Inc.mono {a b:Int}(h:a<=b):∀ {l:List aW},Inc b l->Inc a l
 |[],_=>trivial
 |_::_,⟨h1,h2,h3⟩=>⟨Int.le_trans h h1,h2,h3⟩
theorem Inc.len:∀ {l:List aW}{a:Int},Inc a l->0<=a->(l.length:Int)<=max 0 (7-a)
 |[],a,_,_=>by grind
 |r::l,a,⟨h1,h2,h3⟩,h0=>by have:=Inc.len h3 (by omega);grind
theorem Inc.filter (p:aW->Bool):∀ {l:List aW} {a:Int},Inc a l->Inc a (l.filter p)
 |[],_,_=>trivial
 |r::l,a,⟨h1,h2,h3⟩=>by
  rw [List.filter_cons]
  split
  ·exact ⟨h1,h2,Inc.filter p h3⟩
  ·exact Inc.filter p (h3.mono (by omega))
def putS (a:aW):List aW->List aW
 |[]=>[a]
 |e::l=>bif decide (e.face>a.face)then a::e::l.filter (λz=>z.face !=a.face)else bif (e.face !=a.face)then e::putS a l else putS a l
theorem ax8 (a:aW):∀(l o:List aW),a24 a l o true=(o++l.filter (λz=>z.face !=a.face),true)
 |[],o=>by simp [a24]
 |e::l,o=>by
  rw [a24,List.filter_cons];cases h:(e.face !=a.face)<;>simp only [Bool.not_true,cond_true,cond_false,if_true,if_false,Bool.false_eq_true]<;>rw [ax8 a l]<;>simp
theorem ati (a:aW):∀(l o:List aW),(match a24 a l o false with|(out,done)=>bif (!done)then (out++[a])else out)=o++putS a l
 |[],o=>by simp [a24,putS]
 |e::l,o=>by
  rw [a24,putS];simp only [Bool.not_false,cond_true];cases h:decide (e.face>a.face)
  ·simp only [cond_false]
   cases h2:(e.face !=a.face)
   ·simp only [cond_false];exact ati a l o
   ·simp only [cond_true];exact (ati a l (o++[e])).trans (by simp)
  ·grind [ax8]
theorem ami (a:aW):∀ {l:List aW} {lo:Int},Inc lo l->lo<=a.face->a.face<=6->Inc lo (putS a l)
 |[],lo,_,h1,h2=>⟨h1,h2,trivial⟩
 |e::l,lo,⟨h3,h4,h5⟩,h1,h2=>by
  rw [putS];cases h:decide (e.face>a.face)
  ·have h6:=of_decide_eq_false h
   simp only [cond_false];cases h7:(e.face !=a.face)
   ·simp only [cond_false];exact ami a (h5.mono (by omega)) h1 h2
   ·have h8:e.face≠a.face:=by simpa using h7
    simp only [cond_true];exact ⟨h3,h4,ami a h5 (by omega) h2⟩
  ·have h6:=of_decide_eq_true h
   simp only [cond_true];exact ⟨h1,h2,by omega,h4,Inc.filter _ h5⟩
theorem aqz {l:List aW}{a:aW}(h:Inc 0 l)(h1:0<=a.face)(h2:a.face<=6):Inc 0 (a2n l a):=by grind [a2n,putS,ati,ami]
theorem aff {x a b:Int}:a07 x a b=true↔a<=x/\x<=b:=by
 unfold a07
 grind
theorem aen.set {l:List aO}{i:Nat}{p:aO}(h:aen l)(hp:Inc 0 p.bK):aen (l.set i p):=λz hz=>by
 rcases List.mem_or_eq_of_mem_set hz with h1|h1
 ·exact h z h1
 ·rw [h1];exact hp
theorem aen.app {l m:List aO}(h:aen l)(h2:aen m):aen (l++m):=λz hz=>(List.mem_append.1 hz).elim (h z) (h2 z)
theorem aen.one {p:aO}(h:Inc 0 p.bK):aen [p]:=λz hz=>by grind
theorem aen.nil:aen []:=λz hz=>by cases hz
theorem aw4 {l:List aO}{w:bJ}{side now:Int}(h:aen l):aen (a17 l w side now).1:=by
 unfold a17;rw [ak8];cases h1:(!(a6u w))<;>simp only [cond_true,cond_false]
 ·cases h2:(!(a07 side 0 6))<;>simp only [cond_true,cond_false]
  ·have h3:=aff.1 (by simpa using h2)
   cases h4:decide ((a06 l w.name)<0)<;>simp only [cond_true,cond_false]
   ·split
    ·exact aen.nil
    ·rename_i e1 he
     exact h.set (aqz (h e1 (List.mem_of_getElem? he)) h3.1 h3.2)
   ·cases h5:decide ((l.length:Int)>=12)<;>simp only [cond_true,cond_false]
    ·exact h.app (aen.one ⟨h3.1,h3.2,trivial⟩)
    ·exact h
  ·exact h
 ·exact h
theorem aon {n:Nat}{a:aW}(ha:GoT.ok n a):∀ {l:List aW},(∀z∈l,GoT.ok n z)->∀z∈putS a l,GoT.ok n z
 |[],h=>by intro z hz;rw [putS]at hz;grind
 |e::l,h=>by
  have he:=h e List.mem_cons_self;have hl:=λz hz=>h z (List.mem_cons_of_mem e hz);rw [putS];cases h1:decide (e.face>a.face)<;>simp only [cond_true,cond_false]
  ·cases h2:(e.face !=a.face)<;>simp only [cond_true,cond_false]
   ·exact aon ha hl
   ·exact all_cons he (aon ha hl)
  ·grind
theorem avw {n:Nat}{l:List aO}{w:bJ}{side now:Int}(hn:n<=9)(hl:GoT.ok n l)(hw:GoT.ok n w)(hs:GoT.ok n side)(h:aen l):GoT.ok n (a17 l w side now).1:=by
 have hb:=adi n;have hR:GoT.ok n (aW.mk side w.bI (i64.wrap (now+w.cD))):=And.intro hs (And.intro (acj hw).2.1 (ad0 _));unfold a17;rw [ak8];cases h1:(!(a6u w))<;>simp only [cond_true,cond_false]
 ·cases h2:(!(a07 side 0 6))<;>simp only [cond_true,cond_false]
  ·have h3:=aff.1 (by simpa using h2)
   cases h4:decide ((a06 l w.name)<0)<;>simp only [cond_true,cond_false]
   ·split
    ·exact acd
    ·rename_i e1 he
     have hp:=(okl hl).2 e1 (List.mem_of_getElem? he);have hi:=aqz (a:=aW.mk side w.bI (i64.wrap (now+w.cD))) (h e1 (List.mem_of_getElem? he)) h3.1 h3.2;have hlen:=hi.len (by omega);have e:a2n e1.bK (aW.mk side w.bI (i64.wrap (now+w.cD)))=[]++putS _ e1.bK:=ati _ _ []
     have hq:GoT.ok n (aO.mk e1.name (a2n e1.bK (aW.mk side w.bI (i64.wrap (now+w.cD)))) e1.cH):=by
      refine And.intro (abx hp).1 (And.intro (aby (show (a2n e1.bK (aW.mk side w.bI (i64.wrap (now+w.cD)))).length<=bd n by omega) ?_) (abx hp).2.2);rw [e];exact aon hR (okl (abx hp).2.1).2
     exact aby (by rw [List.length_set];exact (okl hl).1) (adz (okl hl).2 hq)
   ·cases h5:decide ((l.length:Int)>=12)<;>simp only [cond_true,cond_false]
    ·have h6:=of_decide_eq_false h5
     have hq:GoT.ok n (aO.mk (a05 w.name) [aW.mk side w.bI (i64.wrap (now+w.cD))] 0):=
      And.intro (acj hw).1 (And.intro (aby (by simp;omega) (all_cons hR (λa ha=>by cases ha))) (show I64 0 from by unfold I64;omega))
     exact aby (by simp;omega) (ac2 (okl hl).2 (all_cons hq (λa ha=>by cases ha)))
    ·exact hl
  ·exact hl
 ·exact hl
theorem aub {l:List aT}{k:Int}(z:aT)(h:z∈a2w l k):z∈l:=by
 unfold a2w at h
 grind
theorem axm {l:List aT}{k:Int}:(a2w l k).length<=l.length:=by
 unfold a2w
 grind
theorem axg (x:aJ)(k:Int)(out:List aT)(P:aT->Prop)(hP:∀z∈out,P z):∀r,a5d x k out=r->(∀z∈r.2,P z)/\r.2.length<=out.length:=by
 induction k,out using a5d.induct x with
 |case1 k out hk h0 ih=>
  intro r hr;rw [a5d,if_pos hk,if_pos h0]at hr;obtain ⟨h1,h2⟩:=ih (λz hz=>hP z (aub z hz)) r hr;exact ⟨h1,Nat.le_trans h2 axm⟩
 |case2 k out hk h0=>
  intro r hr;rw [a5d,if_pos hk,if_neg h0]at hr;subst hr;exact ⟨hP,Nat.le_refl _⟩
 |case3 k out hk=>
  intro r hr;rw [a5d,if_neg hk]at hr;subst hr;exact ⟨λz hz=>(by cases hz),Nat.zero_le _⟩
theorem avi (out:List aT):∀(m:Nat) (old i:Int),(out.length-i).toNat=m->0<=old/\old<out.length/\1<=i->0<=(a5c out old i).1/\(a5c out old i).1<out.length
 |m,old,i,hm,h=>by
  rw [a5c]
  split
  ·rename_i hi
   have e1:i.toNat<out.length:=by omega
   have e2:old.toNat<out.length:=by omega
   rw [List.getElem?_eq_getElem e1,List.getElem?_eq_getElem e2];dsimp only
   split
   ·exact avi out (m-1) i (i+1) (by omega) ⟨by omega,by grind⟩
   ·exact avi out (m-1) old (i+1) (by omega) ⟨h.1,h.2.1,by omega⟩
  ·grind
 termination_by m=>m
 decreasing_by all_goals omega
theorem aul (c:bX)(x:aJ)(now:Int)(P:aT->Prop)(h:∀z∈c.bB,P z)(hx:P (aT.mk x now))(hc:c.cA<=8):
  (a1r c x now).cA=c.cA/\(∀z∈(a1r c x now).bB,P z)/\(a1r c x now).bB.length<=max c.bB.length 8:=by
 have hx':P (aT.mk (a0m x) now):=hx;unfold a1r;rw [amk];cases h1:decide (c.cA<1)<;>simp only [cond_true,cond_false]
 ·have h1':=of_decide_eq_false h1
  cases h2:(!(a23 x))<;>simp only [cond_true,cond_false]
  ·obtain ⟨r1,r2⟩:=axg x (a1c c.bB x.name) c.bB P h _ rfl
   generalize a5d x (a1c c.bB x.name) c.bB=r at r1 r2;obtain ⟨k,out⟩:=r;dsimp only at r1 r2 ⊢;cases h3:decide ((out.length:Int)>=c.cA)<;>simp only [cond_true,cond_false]
   ·grind
   ·have h3':=of_decide_eq_true h3
    have h4:=avi out _ 0 1 rfl ⟨by omega,by grind⟩;generalize a5c out 0 1=q at h4;obtain ⟨old,i⟩:=q;dsimp only at h4 ⊢;have h5:=aqo (l:=out) (k:=old) h4;refine ⟨trivial,ac2 (λz hz=>r1 z (aub z hz)) (all_cons hx' (λa ha=>by cases ha)),?_⟩
    grind
  ·grind
 ·grind
theorem atz {n:Nat}{c:bX}{x:aJ}{now:Int}(hc:GoT.ok n c)(hx:GoT.ok n x)(ht:GoT.ok n now)(h8:c.cA<=8):GoT.ok n (a1r c x now):=by
 have hb:=adi n;obtain ⟨h1,h2,h3⟩:=aul c x now (GoT.ok n) (okl (aca hc).2).2 (And.intro hx ht) h8;have h4:=(okl (aca hc).2).1;refine And.intro ?_ (aby (show (a1r c x now).bB.length<=bd n by omega) h2)
 grind [a1r,aca]
theorem avn {l:List aO}{m:aA}{now:Int}(h:aen l):aen (a4u l m now):=by
 unfold a4u;rw [ak8];cases decide ((a06 l m)>=0)<;>simp only [cond_true,cond_false]
 ·exact h
 ·split
  ·exact aen.nil
  ·rename_i e1 he
   exact h.set (h e1 (List.mem_of_getElem? he))
theorem at2 {l:List aO}{m:aA}(h:aen l):aen (a1k l m).1:=by
 unfold a1k;rw [ak8];cases decide ((a06 l m)<0)<;>simp only [cond_true,cond_false]
 ·split
  ·exact aen.nil
  ·exact aen.app (λz hz=>h z (List.mem_of_mem_take hz)) (λz hz=>h z (List.mem_of_mem_drop hz))
 ·exact h
theorem auy (now:Int)(e1:aO):∀(m i:Nat) (a:List aW),e1.bK.length-i=m->(a5v now e1 i a).2=a++(e1.bK.drop i).filter (λz=>decide (now<=z.expiry))
 |m,i,a,hm=>by
  rw [a5v]
  split
  ·rename_i hi
   have hi':i<e1.bK.length:=by omega
   rw [List.getElem?_eq_getElem hi',List.drop_eq_getElem_cons hi',List.filter_cons];dsimp only
   split
   ·rename_i h2
    rw [auy now e1 (m-1) (i+1) _ (by omega)];simp [h2]
   ·rename_i h2
    rw [auy now e1 (m-1) (i+1) _ (by omega)];simp [h2]
  ·grind [List.drop_eq_nil_of_le]
 termination_by m=>m
 decreasing_by all_goals omega
theorem auz (now:Int):∀(l o:List aO),aen l->aen o->aen (a6t now l o)
 |[],o,_,h=>h
 |e::l,o,hl,h=>by
  rw [a6t];have h2:=auy now e _ 0 [] rfl;generalize a5v now e 0 []=r at h2;obtain ⟨i2,a⟩:=r;dsimp only at h2 ⊢;have hl':aen l:=λz hz=>hl z (List.mem_cons_of_mem e hz);cases decide ((a.length:Int)>0)<;>simp only [cond_true,cond_false]
  ·exact auz now l o hl' h
  ·refine auz now l _ hl' (h.app (aen.one ?_))
   show Inc 0 a;rw [h2];exact Inc.filter _ (hl e List.mem_cons_self)
theorem aw8 {l:List aO}{now:Int}(h:aen l):aen (a3m l now):=auz now l [] h aen.nil
theorem af5.copy {x:aH}(h:af5 x):af5 (a00 x):=by rw [ahn];exact h
theorem ap2 {x:aH}(h:af5 x):af5 (a3y x).node:=by unfold a3y;rw [ahn];exact h
theorem asq (c:bX)(m:aA)(now:Int)(h:c.cA<=8):(a7t c m now).cA<=8:=by
 unfold a7t;rw [amk];cases decide ((a1c c.bB m)>=0)<;>simp only [cond_true,cond_false]
 ·exact h
 ·split
  ·exact (by decide:(0:Int)<=8)
  ·exact h
theorem cnd {α:Type}{P:α->Prop}(b:Bool)(x y:α)(hx:P x)(hy:P y):P (bif b then x else y):=by grind
theorem akp {x:aH}{side:Int}{w:bJ}{now:Int}(h:af5 x):af5 (a10 x side w now).node:=by
 have hd:=ap2 h;have ha:=aw4 (w:=w) (side:=side) (now:=now) h.2;have hm:=avn (m:=w.name) (now:=now) ha;unfold a10;rw [ahn]
 repeat' (first|exact hd|exact ⟨h.1,ha⟩|exact ⟨h.1,hm⟩|exact ⟨asq _ _ _ h.1,h.2⟩|refine cnd (P:=λa:Action=>af5 a.node) _ _ _ ?_ ?_)
theorem aw6 {x:aH}{t:bU}{side:Int}{y:aJ}{now:Int}(h:af5 x):af5 (a33 x t side y now).node:=by
 have hd:=ap2 h;have hs:=at2 (m:=y.name) h.2;have hc:=(aul x.bG y now (λ_=>True) (λ_ _=>trivial) trivial h.1).1;have hc':(a1r x.bG y now).cA<=8:=by rw [hc];exact h.1
 unfold a33;rw [ahn];refine cnd (P:=λa:Action=>af5 a.node) _ _ _ hd ?_;generalize a7w side y _ _ _=r;obtain ⟨out,o2⟩:=r;dsimp only
 repeat' (first|exact ⟨h.1,hs⟩|exact ⟨hc',hs⟩|refine cnd (P:=λa:Action=>af5 a.node) _ _ _ ?_ ?_)
theorem aqi {x:aH}{now:Int}(h:af5 x):af5 (a3n x now):=by unfold a3n;rw [ahn];generalize a3x x now _ _ _=r;obtain ⟨a,b⟩:=r;exact ⟨h.1,aw8 h.2⟩
theorem ar3 (c:Int):(a5p c).cA<=8:=by
 unfold a5p;cases h:a07 c 0 8
 ·grind
 ·exact (aff.1 h).2
theorem aq7 {x:aH}:af5 (a4c x):=⟨ar3 _,aen.nil⟩
theorem ate (c:Int):af5 (a6e c):=⟨ar3 _,aen.nil⟩
theorem atk {w:aD}{k:Int}(hl:w.aI.length<=9223372036854775807)(h:a3u w k=true):0<=k/\k<(w.aI.length:Int):=by
 unfold a3u at h;rw [aqy hl]at h;cases h1:a07 k 0 ((w.aI.length:Int)-1)
 ·grind
 ·have:=aff.1 h1;omega
def ae3 (l:List aH):Prop:=l.length<=6/\∀x∈l,af5 x
theorem ae3.get {l:List aH}{i:Nat}{x:aH}(hx:l[i]? =some x)(h:ae3 l):af5 x:=h.2 x (List.mem_of_getElem? hx)
theorem ae3.set {l:List aH}{i:Nat}{x:aH}(h:ae3 l)(hx:af5 x):ae3 (l.set i x):=⟨by rw [List.length_set];exact h.1,λz hz=>by
 rcases List.mem_or_eq_of_mem_set hz with h1|h1
 ·exact h.2 z h1
 ·rw [h1];exact hx⟩
theorem ae3.tick {l:List aH}{i:Nat}{x:aH}{now:Int}(h:ae3 l)(hx:l[i]? =some x):ae3 (l.set i (a3n x now)):=h.set (aqi (ae3.get hx h))
theorem akr {w:aD}{k:Int}(hl:ae3 w.aI)(h:a3u w k=true):0<=k/\k<(w.aI.length:Int):=atk (by have:=hl.1;omega) h
def NetC (w:aD):Prop:=ae3 w.aI/\w.aL.length<=200/\w.aE.length<=8
end Go.Stp
namespace Go.Proofs.YthdfhghdipdknaaGreat
open Go.Stp
open Go.Stp.GoT (ok)
variable {w : World} (n : Nat) {K0 K1 K2 K3 K4 K5 K6 K7 K8 K9 K10 K11 K12 : Option Addr} {M0 M1 M2 M3 M4 M5 M6 M7 M8 M9 M10 M11 M12 : Nat}
theorem f225 (hn:n+0<=9){l:List aO}(N0:Rd w K0 M0 l)(n_:aA)(N1:Rd w K1 M1 n_.parts)(a1:ok n l)(a0:ok n n_):
 DP 225 #[vS K0 l M0,adu n_ K1 M1] w (pB (aba l n_)):=by
 refine EN Tryz.func225 Z (aS2 N0 N1) ?_;refine KV Z Z O (λw Y=>f260 n Q0 (Y.q 0 Z) n_ (Y.q 1 Z) a1 a0) λa2=>?_;exact R4r Z Z (by simp only [aba])
theorem f241 (hn:n+0<=9){l:List aO}(N0:Rd w K0 M0 l)(n_:aA)(N1:Rd w K1 M1 n_.parts)(a0:ok n l)(a1:ok n n_):
 DP 241 #[vS K0 l M0,adu n_ K1 M1] w (pI n (aax l n_)):=by
 have hb:=bS0 hn;refine EN Tryz.func241 Z (aS2 N0 N1) ?_;refine KV Z Z O (λw Y=>f260 n Q0 (Y.q 0 Z) n_ (Y.q 1 Z) a0 a1) λa5=>?_;have q1:=alh l n_;refine yKD 10 ?_ ?_<;>intro h1 a7;rw [show aax l n_=0 by simp only [aax,h1,cC]];exact R6r Z Z (i6 0);have r1:=a0.1;have r2:=i8 a5;refine R0 ?_;refine SI 12 ?_;obtain ⟨e1,a2,a3,a4⟩:=gO a0 ((a06 l n_).toNat);refine zI 0 _ a4 ?_;rintro a6 rfl;refine yL 0 2 e1 a2 ?_;rintro ⟨⟨p1,c1⟩,⟨p2,c2⟩,_⟩
 rw [show aax l n_=e1.cH by simp only [aax,h1,a2,cC]];exact R6r Z Z (a3.2.2)
theorem f275 (hn:n+0<=9)(n_:aA)(N0:Rd w K0 M0 n_.parts){k:Int}(a0:ok n n_)(a1:ok n k):
 DP 275 #[adu n_ K0 M0,vI k] w (pA w n (abb n_ k)):=by
 have hb:=bS0 hn;refine EN Tryz.func275 Z (aS1 N0) ?_;have r1:=(okl (adf a0)).1;refine KV Z Z O (λw Y=>f161 n Q0 a1 (i6 n_.parts.length)) λa2=>?_;have q1:=mn_s k n_.parts.length;refine CV Z O (λw Y=>f194 n Q0 (i6 0) a2) λa3=>?_;have q2:=mx_s 0 (a11 k n_.parts.length);refine yB λp1=>?_;have r3:=i8 a2;have r4:=i8 a3
 refine KS Z Z Z Z (λ_ hΓ=>amt _ ttOk Z Z Z Z (show (a1s 0 (a11 k n_.parts.length))=((Int.toNat (a1s 0 (a11 k (n_.parts.length:Int)))):Nat)from Q0) (Nat.le_trans (show (Int.toNat (a1s 0 (a11 k n_.parts.length)))<=n_.parts.length from Q0) (hΓ.get 0 Z).1)) ?_
 refine WX.slot 15 (y:= .v (.slice K0 (((List.take (Int.toNat (a1s 0 (a11 k (n_.parts.length:Int)))) n_.parts)).length) M0)) Z (λ_=>by rw [show ((List.take (Int.toNat (a1s 0 (a11 k (n_.parts.length:Int)))) n_.parts)).length=(Int.toNat (a1s 0 (a11 k (n_.parts.length:Int))))from (by simp only [List.length_take];have z_:=Q0;omega)]) ?_
 refine WX.stb 1 (MF.rs .stb K0 M0 (List.take (Int.toNat (a1s 0 (a11 k n_.parts.length))) n_.parts)) Z 0 Z Z (λ_ h=>RdSl.pre h _) ?_;refine F0 2 Str ?_;refine zG 11 1 3 (List.take (Int.toNat (a1s 0 (a11 k (n_.parts.length:Int)))) n_.parts).length Z λa5 p2 c1=>?_;refine WX.know (λG hΓ=>(hΓ.get 3 Z).flat) λa4=>?_;refine WX.turn [2] 4 Z (λh hs=>acx hs a4) Z ?_;refine yE 11 4 5 ?_
 rw [show abb n_ k=(aA.mk (List.take (Int.toNat (a1s 0 (a11 k (n_.parts.length:Int)))) n_.parts)) by simp only [abb]];exact zX [6] (p2,c1) (aby Q3 (λa ha=>(okl (adf a0)).2 a (List.mem_of_mem_take ha)))
theorem f262 (hn:n+0<=9)(a:aA)(N0:Rd w K0 M0 a.parts)(p_:aA)(N1:Rd w K1 M1 p_.parts)(a1:ok n a)(a0:ok n p_):
 DP 262 #[adu a K0 M0,adu p_ K1 M1] w (pB (abn a p_)):=by
 have hb:=bS0 hn;refine EN Tryz.func262 Z (aS2 N0 N1) ?_;refine yD [] λbs G0 a5=>?_;refine dT 9 [1,2,5,7,8,11,13,15] ?_;refine zDC 12 ?_ ?_<;>intro h1;refine dT 4 [16,19,20,23,26] ?_;have r1:=(okl (adf a0)).1;refine DXF 12 2 Z J Z O (λw Y=>f275 n Q0 a (Y.q 0 Z) a1 (i6 p_.parts.length)) ?_;rintro ⟨p1,c1⟩ a3;refine DXV 14 Z J Z O (λw Y=>f173 n Q0 _ (Y.q 2 Z) p_ (Y.q 1 Z) a3 a0) λa4=>?_;refine dT 0 [31,33] ?_;refine DX.tail2 [] Z Z J ?_
 exact R4r Z Z (by simp only [abn,h1,cC]);refine dT 0 [17,19,21,23,25,27,29,31,33] ?_;refine DX.tail2 [] Z Z J ?_;exact R4r Z Z (by simp only [abn,h1,cC])
theorem f227 (hn:n+0<=9){l:List aB}(N0:Rd w K0 M0 l)(n_:aA)(N1:Rd w K1 M1 n_.parts)(a1:ok n l)(a4:ok n n_):
 DP 227 #[vS K0 l M0,adu n_ K1 M1] w (pAB w n (a1n l n_)):=by
 have hb:=bS0 hn;refine EN Tryz.func227 Z (aS2 N0 N1) ?_;have r1:=a1.1;refine LM Z ((-1),0) (λ|(a0,i)=>((i<=l.length)/\J6 a0/\(-1<=a0/\a0<i)/\(a5b l n_ l 0 (-1)=a5b l n_ (l.drop i) i a0),l.length-i,[(6,.v (vI a0)),(7,.v (vI i))],[],[],[])) ⟨zl,Q4,Q0,Z⟩ [4,3,0] [4,3] [0,1] [0,1] ?_;rintro ⟨a0,i⟩ ⟨v1,v2,v3,v4⟩;refine yKD 11 ?_ ?_<;>intro h1 aq;obtain ⟨e1,a3,ag,a9⟩:=gO a1 i;refine yD [] λbs G0 a2=>?_;refine dT 25 [0,3,5] ?_;refine zDI 3 0 i a2 Z a9 ?_
 rintro ao rfl;refine dT 23 [9] ?_;refine zDL 5 0 2 e1 a2 a3 ?_;rintro ⟨⟨p1,c1⟩,_⟩;refine DXV 6 Z J Z O (λw Y=>f262 n Q0 n_ (Y.q 1 Z) e1.pfx (Y.q 2 Z) a4 (ag.1)) λap=>?_;refine dT 20 [15] ?_;refine zDC 21 ?_ ?_<;>intro h2;refine dT 17 [17,19,21] ?_;refine zDC 24 ?_ ?_<;>intro h3;have ad:=B.dt h3;refine dT 0 [23,25,27,29,31,33,35,37,39,41,43,45,47,49,51,53,55] ?_;refine DX.tail2 [] Z Z J ?_;refine SA ?_
 exact ITr Z ((i:Nat),i+1) ⟨Q0,Q4,Q0,(by rw [v4,abu a3];simp only [a5b,h2,h3,cC])⟩ Q1 [0,1];have ad:=B.df h3;refine dT 15 [23,25] ?_;refine zDI 13 0 i a2 Z a9 ?_;rintro an ⟨⟩;refine dT 12 [29,31] ?_;refine zDL 16 0 3 e1 a2 a3 ?_;rintro ⟨⟨p2,c2⟩,_⟩;refine dT 8 [35,37,39] ?_;refine DI 33 ?_;obtain ⟨e2,a7,al,ae⟩:=gO a1 a0.toNat;refine zDI 20 0 _ a2 Z ae ?_;rintro ak ⟨⟩;refine dT 5 [43,45] ?_;refine zDL 23 0 4 e2 a2 a7 ?_
 rintro ⟨⟨p3,c3⟩,_⟩;refine dT 0 [49,51,53,55] ?_;refine DX.tail2 [] Z Z J ?_;refine yKD 41 ?_ ?_<;>intro h4 am;refine SA ?_;exact ITr Z ((i:Nat),i+1) ⟨Q0,Q4,Q0,(by rw [v4,abu a3];simp only [a5b,h2,h3,a7,h4,cC])⟩ Q1 [0,1];refine SA ?_;exact ITr Z (a0,i+1) ⟨Q0,v2,Q0,(by rw [v4,abu a3];simp only [a5b,h2,h3,a7,h4,cC])⟩ Q1 [0,1]
 refine dT 0 [17,19,21,23,25,27,29,31,33,35,37,39,41,43,45,47,49,51,53,55] ?_;refine DX.tail2 [] Z Z J ?_;refine SA ?_;exact ITr Z (a0,i+1) ⟨Q0,v2,Q0,(by rw [v4,abu a3];simp only [a5b,h2,cC])⟩ Q1 [0,1];have a5:=v4.trans (show _=a0 by rw [dn];simp only [a5b];omega);refine yKD 44 ?_ ?_<;>intro aa ai;refine F1 14 Str ?_;rw [show a1n l n_=(aA.mk ([]),false) by simp only [a1n,a5,aa,cC]]
 exact yX [14] (none,0) (acd);refine R0 ?_;refine SI 47 ?_;obtain ⟨e3,ab,a8,aj⟩:=gO a1 a0.toNat;refine zI 0 _ aj ?_;rintro ac rfl;refine yL 0 14 e3 ab ?_;rintro ⟨⟨au,ar⟩,_⟩;refine CF 15 Z O (λw Y=>f110 n Q0 e3.pfx (Y.q 14 Z) (a8.1)) ?_;rintro ⟨af,ah⟩ a6;rw [show a1n l n_=(a05 e3.pfx,true) by simp only [a1n,a5,aa,ab,cC]];exact yX [16] _ a6
theorem f276 (hn:n+0<=9){l:List aS}(N0:Rd w K0 M0 l)(n_:aA)(N1:Rd w K1 M1 n_.parts){side:Int}(a1:ok n l)(a2:ok n n_)(a0:ok n side):
 DP 276 #[vS K0 l M0,adu n_ K1 M1,vI side] w (pI n (aa5 l n_ side)):=by
 have hb:=bS0 hn;refine EN Tryz.func276 Z (aS2 N0 N1) ?_;refine KV Z Z O (λw Y=>f261 n Q0 (Y.q 0 Z) n_ (Y.q 1 Z) a1 a2 a0) λa6=>?_;have q1:=as8 l n_ side;refine yKD 13 ?_ ?_<;>intro h1 a8;rw [show aa5 l n_ side=0 by simp only [aa5,h1,cC]];exact R6r Z Z (i6 0);have r1:=a1.1;have r3:=i8 a6;refine R0 ?_;refine SI 15 ?_;obtain ⟨e1,a3,a4,a5⟩:=gO a1 ((a0a l n_ side).toNat);refine zI 0 _ a5 ?_;rintro a7 rfl;refine yL 0 2 e1 a3 ?_;rintro ⟨⟨p1,c1⟩,_⟩
 rw [show aa5 l n_ side=e1.cE by simp only [aa5,h1,a3,cC]];exact R6r Z Z (a4.2.2)
theorem f277 (hn:n+1<=9){l:List RouteK}(N0:Rd w K0 M0 l)(r:RouteK)(p1:Option Addr)(n1 c1:Nat)(a1:ok n l)(a4:ok n r):
 DP 277 #[vS K0 l M0,.agg #[.slice p1 (n1) c1,vI r.face,vI r.cost]] w (pS w (n+1) (a6q l r)):=by
 have hb:=bS1 hn;refine EN Tryz.func277 Z (aS1 N0) ?_;have r1:=(okl a1).1;refine LM Z (l.length:Int) (λk=>(J6 k/\(0<=k/\k<=l.length)/\(a6p l r (l.length:Int)=a6p l r k),k.toNat,[(5,.v (vI k))],[],[],[])) ⟨Q4,Q0,Z⟩ [3,0] [3] [0] [0] ?_;rintro k ⟨v1,v2,v3⟩;refine yD [] λbs G0 a3=>?_;refine dT 32 [1,3,5] ?_;refine zDC 10 ?_ ?_<;>intro h1;have a9:=B.dt h1;refine dT 30 [7,9] ?_
 refine DX.seeP 5 J Z Z Z Z (ad7 Z Z Z Z Q6) ?_;refine DI 13 ?_;obtain ⟨e1,a7,ap,ag⟩:=gO a1 ((k-1).toNat);refine zDI 6 0 ((k-1).toNat) a3 Z ag ?_;rintro ad rfl;refine dT 27 [15] ?_;refine zDL 8 0 1 e1 a3 a7 ?_;rintro ⟨⟨p2,n2,c2⟩,_⟩;refine dT 22 [19,20,23,25] ?_;refine zDC 20 ?_ ?_<;>intro h2;have ab:=B.dt h2;refine dT 0 [27,29,31,33,35,37,39,41,43,45,47,49,51,53,55,57,59,61,63,65,67,69] ?_;refine DX.tail2 [] Z Z J ?_;refine SA ?_
 exact ITr Z (k-1) ⟨Q4,Q0,(by rw [v3];rw [a6p];simp only [a9,a7,ab,↓reduceIte])⟩ Q1 [0];have ab:=B.df h2;refine dT 20 [27,29] ?_;refine DX.seeP 15 J Z Z Z Z (ad7 Z Z Z Z Q6) ?_;refine DI 23 ?_;refine zDI 16 0 ((k-1).toNat) a3 Z ag ?_;rintro aq ⟨⟩;refine dT 17 [35] ?_;refine zDL 18 0 1 e1 a3 a7 ?_;rintro ⟨⟨p3,n3,c3⟩,_⟩;refine dT 12 [39,40,43,45] ?_
 ·skip
  refine zDC 30 ?_ ?_<;>intro h3;refine dT 10 [47,49] ?_;refine DX.seeP 25 J Z Z Z Z (ad7 Z Z Z Z Q6) ?_;refine DI 33 ?_;refine zDI 26 0 ((k-1).toNat) a3 Z ag ?_;rintro ao ⟨⟩;refine dT 7 [55] ?_;refine zDL 28 0 1 e1 a3 a7 ?_;rintro ⟨⟨p4,n4,c4⟩,_⟩;refine dT 0 [59,60,63,65,67,69] ?_;refine DX.tail2 [] Z Z J ?_;refine yKD 42 ?_ ?_<;>intro h4 ak;refine SA ?_
  exact ITr Z (k-1) ⟨Q4,Q0,(by rw [v3];rw [a6p];simp only [a9,a7,ab,h3,ak,↓reduceIte])⟩ Q1 [0];have a5:=v3.trans (show _=k by rw [a6p];simp only [a9,a7,ab,h3,ak,↓reduceIte]);rotate_left;refine dT 0 [47,49,51,53,55,57,59,61,63,65,67,69] ?_;refine DX.tail2 [] Z Z J ?_
  have a5:=v3.trans (show _=k by rw [a6p];simp only [a9,a7,ab,h3,↓reduceIte,Bool.false_eq_true]);rotate_left
  all_goals
   refine yD [7,11] λbs G0 a3=>?_;refine dT 11 [3,5] ?_;refine DX.seeP 3 J Z Z Z Z (adg (Int.toNat k) ttOk Z Z Z Z (show k=(((Int.toNat k):Nat):Int)from Q0) (Nat.le_trans (show (Int.toNat k)<=l.length from Q0) (a3.get 0 Z:RdSl _ _ _ _).1)) ?_;refine DX.slot 48 (y:= .v (.slice (some ad) (((List.take (Int.toNat k) l)).length) M0)) Z (λ_=>by rw [show ((List.take (Int.toNat k) l)).length=(Int.toNat k)from (by simp only [List.length_take];have z_:=(show (Int.toNat k)<=l.length from Q0);omega)]) ?_
   refine DX.der 13 (MF.rs .der (some ad) M0 (List.take (Int.toNat k) l)) Z (λ_ hΓ=>RdSl.pre (hΓ.get 0 Z:RdSl _ _ _ _) (Int.toNat k)) ?_;refine dT 7 [10,17,19] ?_;refine DX.seeP 10 J Z Z Z Z (aea (Int.toNat k) ttOk Z Z Z Z (show k=(((Int.toNat k):Nat):Int)from Q0) (show (Int.toNat k)<=l.length from Q0)) ?_
   refine DX.slot 55 (y:= .v (.slice (offP (some ad) M0 (Int.toNat k) 3) (((List.drop (Int.toNat k) l)).length) (M0- (Int.toNat k)))) Z (λ_=>by rw [show ((List.drop (Int.toNat k) l)).length=(l.length)- (Int.toNat k)from (by simp only [List.length_drop])]) ?_;refine DX.der 14 (MF.rs .der (offP (some ad) M0 (Int.toNat k) 3) (M0- (Int.toNat k)) (List.drop (Int.toNat k) l)) Z (λ_ hΓ=>RdSl.suf (hΓ.get 0 Z:RdSl _ _ _ _) (Int.toNat k)) ?_;refine DX.toTX λS_=>?_;refine TX.all2 0 6 J ?_ ?_;refine TS.op 0 Z J ?_;refine zB λaf=>?_;refine R0 ?_;refine WX.back0 ?_
   refine TX.all2 4 6 J ?_ ?_;refine TS.opK 4 Z (adl (α:=RouteK) 45 13 ((List.take (Int.toNat k) l):List RouteK).length ttOk Z Z Z Z Z Z Z Z Z Q10 Q3 Q3 Z) ?_;refine F0 15 RouteK ?_;refine zG 45 13 16 ((List.take (Int.toNat k) l):List RouteK).length Z λa2 ae aa=>?_;refine WX.know (λG hΓ=>(hΓ.get 16 Z:RdL _ _ _).flat) λa0=>?_;refine WX.turn [15] 17 Z (λh hs=>acx hs a0) Z ?_;refine R0 ?_;refine WX.back0 ?_;refine TX.all1 6 J ?_;refine TS.op 6 Z J ?_
   refine zB λac=>?_;rotate_left;refine TS.op 6 Z J ?_;refine zB λac=>?_;refine R0 ?_;refine WX.back0 ?_;refine TX.all1 4 J ?_;refine TS.opK 4 Z (adl (α:=RouteK) 45 13 ((List.take (Int.toNat k) l):List RouteK).length ttOk Z Z Z Z Z Z Z Z Z Q10 Q3 Q3 Z) ?_;refine F0 15 RouteK ?_;refine zG 45 13 16 ((List.take (Int.toNat k) l):List RouteK).length Z λa2 ae aa=>?_;refine WX.know (λG hΓ=>(hΓ.get 16 Z:RdL _ _ _).flat) λa0=>?_
   refine WX.turn [15] 17 Z (λh hs=>acx hs a0) Z ?_;rotate_left;refine TS.op 6 Z J ?_;refine zB λac=>?_;refine R0 ?_;refine WX.back0 ?_;refine TX.all1 0 J ?_;refine TS.op 0 Z J ?_;refine zB λaf=>?_;refine R0 ?_;refine WX.back0 ?_;refine TX.all1 4 J ?_;refine TS.opK 4 Z (adl (α:=RouteK) 45 13 ((List.take (Int.toNat k) l):List RouteK).length ttOk Z Z Z Z Z Z Z Z Z Q10 Q3 Q3 Z) ?_;refine F0 15 RouteK ?_
   refine zG 45 13 16 ((List.take (Int.toNat k) l):List RouteK).length Z λa2 ae aa=>?_;refine WX.know (λG hΓ=>(hΓ.get 16 Z:RdL _ _ _).flat) λa0=>?_;refine WX.turn [15] 17 Z (λh hs=>acx hs a0) Z ?_;rotate_left
   all_goals
    refine R0 ?_;refine WX.back0 ?_;refine TX.all1 7 J ?_;refine TS.op 7 Z J ?_;refine zT (α:=RouteK) [] 18 r ((p1,n1,c1),(),()) λa8=>?_;refine zP 45 51 (((List.take (Int.toNat k) l)++[r]):List RouteK).length a8 (hn:=Q8) λan am=>?_;refine zV [17,18] 19 ?_;refine R0 ?_;refine WX.back0 ?_;refine TX.all1 11 J ?_;refine TS.op 11 Z J ?_
    refine WX.der 20 (MF.rs .der (offP (some ad) M0 (Int.toNat k) 3) (M0- (Int.toNat k)) (List.drop (Int.toNat k) l)) Z (λ_ hΓ=>RdSl.suf (hΓ.get 0 Z:RdSl _ _ _ _) (Int.toNat k)) ?_;refine zG 45 20 21 ((((List.take (Int.toNat k) l)++[r])++(List.drop (Int.toNat k) l)):List RouteK).length Z λah ai aj=>?_;refine WX.know (λG hΓ=>(hΓ.get 21 Z:RdL _ _ _).flat) λa6=>?_;refine WX.turn [19] 22 Z (λh hs=>acx hs a6) Z ?_;refine R0 ?_;refine WX.back0 ?_;refine TX.all1 12 J ?_;refine TS.opK 12 Z (adp ttOk Z) ?_;refine R0 ?_;refine WX.back0 ?_
    refine TX.tail [] Z Z J ?_;refine yE 45 22 23 ?_;rw [show a6q l r=(((List.take (Int.toNat k) l)++[r])++(List.drop (Int.toNat k) l)) by simp only [a6q,a5]]
    exact zX [24] (ai,aj) (aby Q3 (λa ha=>GoT.okm Q0 ((ac2 (ac2 (λa ha=>(okl a1).2 a (List.mem_of_mem_take ha)) (all_cons (α:=RouteK) (An trivial (An (adc a4).2.1 (adc a4).2.2)) nA)) (λa ha=>(okl a1).2 a (List.mem_of_mem_drop ha))) a ha)):ok (n+1) ((((List.take (Int.toNat k) l)++[r])++(List.drop (Int.toNat k) l)):List RouteK))
 have a9:=B.df h1;refine dT 0 [7,9,11,13,15,17,19,21,23,25,27,29,31,33,35,37,39,41,43,45,47,49,51,53,55,57,59,61,63,65,67,69] ?_;refine DX.tail2 [] Z Z J ?_;have a5:=v3.trans (show _=k by rw [a6p];simp only [a9,↓reduceIte]);refine yD [7,11] λbs G0 a3=>?_;refine dT 11 [3,5] ?_;refine DX.seeP 3 J Z Z Z Z (adg (Int.toNat k) ttOk Z Z Z Z (show k=(((Int.toNat k):Nat):Int)from Q0) (Nat.le_trans (show (Int.toNat k)<=l.length from Q0) (a3.get 0 Z:RdSl _ _ _ _).1)) ?_
 refine DX.slot 48 (y:= .v (.slice K0 (((List.take (Int.toNat k) l)).length) M0)) Z (λ_=>by rw [show ((List.take (Int.toNat k) l)).length=(Int.toNat k)from (by simp only [List.length_take];have z_:=(show (Int.toNat k)<=l.length from Q0);omega)]) ?_;refine DX.der 13 (MF.rs .der K0 M0 (List.take (Int.toNat k) l)) Z (λ_ hΓ=>RdSl.pre (hΓ.get 0 Z:RdSl _ _ _ _) (Int.toNat k)) ?_;refine dT 7 [10,17,19] ?_
 refine DX.seeP 10 J Z Z Z Z (aea (Int.toNat k) ttOk Z Z Z Z (show k=(((Int.toNat k):Nat):Int)from Q0) (show (Int.toNat k)<=l.length from Q0)) ?_;refine DX.slot 55 (y:= .v (.slice (offP K0 M0 (Int.toNat k) 3) (((List.drop (Int.toNat k) l)).length) (M0- (Int.toNat k)))) Z (λ_=>by rw [show ((List.drop (Int.toNat k) l)).length=(l.length)- (Int.toNat k)from (by simp only [List.length_drop])]) ?_
 refine DX.der 14 (MF.rs .der (offP K0 M0 (Int.toNat k) 3) (M0- (Int.toNat k)) (List.drop (Int.toNat k) l)) Z (λ_ hΓ=>RdSl.suf (hΓ.get 0 Z:RdSl _ _ _ _) (Int.toNat k)) ?_;refine DX.toTX λS_=>?_;refine TX.all2 0 6 J ?_ ?_;refine TS.op 0 Z J ?_;refine zB λaf=>?_;refine R0 ?_;refine WX.back0 ?_;refine TX.all2 4 6 J ?_ ?_;refine TS.opK 4 Z (adl (α:=RouteK) 45 13 ((List.take (Int.toNat k) l):List RouteK).length ttOk Z Z Z Z Z Z Z Z Z Q10 Q3 Q3 Z) ?_;refine F0 15 RouteK ?_
 refine zG 45 13 16 ((List.take (Int.toNat k) l):List RouteK).length Z λa2 ae aa=>?_;refine WX.know (λG hΓ=>(hΓ.get 16 Z:RdL _ _ _).flat) λa0=>?_;refine WX.turn [15] 17 Z (λh hs=>acx hs a0) Z ?_;refine R0 ?_;refine WX.back0 ?_;refine TX.all1 6 J ?_;refine TS.op 6 Z J ?_;refine zB λac=>?_;rotate_left;refine TS.op 6 Z J ?_;refine zB λac=>?_;refine R0 ?_;refine WX.back0 ?_;refine TX.all1 4 J ?_
 refine TS.opK 4 Z (adl (α:=RouteK) 45 13 ((List.take (Int.toNat k) l):List RouteK).length ttOk Z Z Z Z Z Z Z Z Z Q10 Q3 Q3 Z) ?_;refine F0 15 RouteK ?_;refine zG 45 13 16 ((List.take (Int.toNat k) l):List RouteK).length Z λa2 ae aa=>?_;refine WX.know (λG hΓ=>(hΓ.get 16 Z:RdL _ _ _).flat) λa0=>?_;refine WX.turn [15] 17 Z (λh hs=>acx hs a0) Z ?_;rotate_left;refine TS.op 6 Z J ?_;refine zB λac=>?_;refine R0 ?_;refine WX.back0 ?_;refine TX.all1 0 J ?_
 refine TS.op 0 Z J ?_;refine zB λaf=>?_;refine R0 ?_;refine WX.back0 ?_;refine TX.all1 4 J ?_;refine TS.opK 4 Z (adl (α:=RouteK) 45 13 ((List.take (Int.toNat k) l):List RouteK).length ttOk Z Z Z Z Z Z Z Z Z Q10 Q3 Q3 Z) ?_;refine F0 15 RouteK ?_;refine zG 45 13 16 ((List.take (Int.toNat k) l):List RouteK).length Z λa2 ae aa=>?_;refine WX.know (λG hΓ=>(hΓ.get 16 Z:RdL _ _ _).flat) λa0=>?_;refine WX.turn [15] 17 Z (λh hs=>acx hs a0) Z ?_;rotate_left
 all_goals
  refine R0 ?_;refine WX.back0 ?_;refine TX.all1 7 J ?_;refine TS.op 7 Z J ?_;refine zT (α:=RouteK) [] 18 r ((p1,n1,c1),(),()) λa8=>?_;refine zP 45 51 (((List.take (Int.toNat k) l)++[r]):List RouteK).length a8 (hn:=Q8) λan am=>?_;refine zV [17,18] 19 ?_;refine R0 ?_;refine WX.back0 ?_;refine TX.all1 11 J ?_;refine TS.op 11 Z J ?_
  refine WX.der 20 (MF.rs .der (offP K0 M0 (Int.toNat k) 3) (M0- (Int.toNat k)) (List.drop (Int.toNat k) l)) Z (λ_ hΓ=>RdSl.suf (hΓ.get 0 Z:RdSl _ _ _ _) (Int.toNat k)) ?_;refine zG 45 20 21 ((((List.take (Int.toNat k) l)++[r])++(List.drop (Int.toNat k) l)):List RouteK).length Z λah ai aj=>?_;refine WX.know (λG hΓ=>(hΓ.get 21 Z:RdL _ _ _).flat) λa6=>?_;refine WX.turn [19] 22 Z (λh hs=>acx hs a6) Z ?_;refine R0 ?_;refine WX.back0 ?_;refine TX.all1 12 J ?_;refine TS.opK 12 Z (adp ttOk Z) ?_;refine R0 ?_;refine WX.back0 ?_
  refine TX.tail [] Z Z J ?_;refine yE 45 22 23 ?_;rw [show a6q l r=(((List.take (Int.toNat k) l)++[r])++(List.drop (Int.toNat k) l)) by simp only [a6q,a5]]
  exact zX [24] (ai,aj) (aby Q3 (λa ha=>GoT.okm Q0 ((ac2 (ac2 (λa ha=>(okl a1).2 a (List.mem_of_mem_take ha)) (all_cons (α:=RouteK) (An trivial (An (adc a4).2.1 (adc a4).2.2)) nA)) (λa ha=>(okl a1).2 a (List.mem_of_mem_drop ha))) a ha)):ok (n+1) ((((List.take (Int.toNat k) l)++[r])++(List.drop (Int.toNat k) l)):List RouteK))
theorem f264 (hn:n+1<=9){l:List aB}(N0:Rd w K0 M0 l)(n_:aA)(N1:Rd w K1 M1 n_.parts)(a9:ok n l)(af:ok n n_):
 DP 264 #[vS K0 l M0,adu n_ K1 M1] w (pS w n (a6s l n_)):=by
 have hb:=bS1 hn;refine EN Tryz.func264 Z (aS2 N0 N1) ?_;refine KF Z 2 Z O (λw Y=>f227 n Q0 (Y.q 0 Z) n_ (Y.q 1 Z) a9 af) ?_;rintro ⟨p1,c1⟩ b4;refine yB λp2=>?_;refine F0 4 RouteK ?_;refine yE 17 4 5 ?_;have r1:=a9.1
 refine LK (p2,0,[],0) (λ|(ps,cs,s,i)=>((i<=l.length)/\JL n s/\(s.length<=i)/\(a7q l n_ l []=a7q l n_ (l.drop i) s),l.length-i,[(7,.v (vS ps s cs)),(8,.v (vI i))],[],[],[(6,MF.os ps cs s)])) ⟨zl,(aby zl nA),Q10,Z⟩ [6,5,0] [5] [0,1,3] [0,1,3,6] ?_;rintro ⟨ps,cs,s,i⟩ ⟨v1,v2,v3,v4⟩;refine yKD 22 ?_ ?_<;>intro h1 b8;obtain ⟨e1,ah,ae,ar⟩:=gO a9 i;refine yKA 24 ?_ ?_<;>intro h2;refine zW 7 3 ?_;refine yD [] λbs G0 aq=>?_
 refine dT 5 [1,3] ?_;refine zDI 2 0 i aq Z ar ?_;rintro b7 rfl;refine dT 3 [7] ?_;refine zDL 4 0 8 e1 aq ah ?_;rintro ⟨⟨p3,c2⟩,_⟩;refine dT 1 [10] ?_;refine DXV 6 Z J Z O (λw Y=>f173 n Q0 e1.pfx (Y.q 8 Z) _ (Y.q 7 Z) (ae.1) b4) λb5=>?_;refine DX.tail2 [] Z Z J ?_;refine yKA 33 ?_ ?_<;>intro h3;refine yI 0 i ar ?_;rintro b6 ⟨⟩;refine zL 0 9 e1 ah ?_;rintro ⟨⟨p4,c3⟩,_⟩;refine zW 10 6 ?_
 refine CF 11 Z O (λw Y=>f277 n Q0 (Y.q 10 Z) (RouteK.mk Opq.mk e1.face e1.cost) p4 _ c3 (acp v2) (An trivial (An ae.2.1 ae.2.2))) ?_;rintro ⟨p5,c4⟩ au;have q1:=avf s (RouteK.mk Opq.mk e1.face e1.cost);refine SA ?_;refine zU [12] 6 ?_
 exact ITr Z (p5,c4,(a6q s (RouteK.mk Opq.mk e1.face e1.cost)),i+1) ⟨Q0,(aby Q0 (okl au).2),Q0,(by rw [v4,abu ah];simp only [a7q,h2,h3,cC])⟩ Q1 [0,1,3,6];refine SA ?_;exact ITr Z (ps,cs,s,i+1) ⟨Q0,(acp v2),Q0,(by rw [v4,abu ah];simp only [a7q,h2,h3,cC])⟩ Q1 [0,1,3,6]
 have aa:=v4.trans (show _=s by rw [abu ah];simp only [a7q,h2,cC]);refine yB λan=>?_;refine F0 19 Int ?_;refine LM Z (an,0,[],[],0) (λ|(a7,a8,a6,a4,i)=>((i<=s.length)/\JE n a4/\(a4.length<=i)/\(a6r s []=a6r (s.drop i) a4),s.length-i,[(9,.v (vS a7 a4 a8)),(10,.v (vI i))],[],[(40,⟨1,a7,a4.length,a8,a6⟩)],[(19,MF.ol a6 a4)])) ⟨zl,nA,Q10,Z⟩ [7] [] [0,1,6] [0,1,6,19] ?_;rintro ⟨a7,a8,a6,a4,i⟩ ⟨ay,ag,ax,ai⟩
 refine yKA 44 ?_ ?_<;>intro aj;have ad:=B.dt aj;have aw:i<s.length:=Q0;obtain ⟨e2,al⟩:=gE aw;have a5:=v2.2 _ (List.mem_of_getElem? al);refine zW 20 6 ?_;refine yI 20 i aw ?_;rintro ao rfl;refine yL 20 21 e2 al ?_;rintro ⟨⟨b3,az,b0⟩,_⟩;refine zB λb1=>?_;refine zT [] 21 e2.face () λ_=>?_;refine WX.know (λG hΓ=>(hΓ.get 21 Z).rd.one) λab=>?_;refine zP 40 53 (a4++[e2.face]).length ab λap ak=>?_;refine zV [19,21] 22 ?_;refine SA ?_;refine zU [22] 19 ?_
 exact ITr Z (ap,ak,_,(a4++[e2.face]),i+1) ⟨Q0,(ac2 ag (all_cons a5.2.1 nA)),Q3,(by rw [ai,abu al];simp only [a6r])⟩ Q1 [0,1,6,19];have ad:=B.df aj;have ac:=ai.trans (show _=a4 by rw [dn];simp only [a6r];omega);refine yE 40 19 32 ?_;rw [show a6s l n_=a4 by simp only [a6s,aa,ac]];exact zX [33] (a7,a8) (aby Q0 ag)
 have aa:=v4.trans (show _=s by rw [dn];simp only [a7q];omega);refine yB λan=>?_;refine F0 19 Int ?_;refine LM Z (an,0,[],[],0) (λ|(a3,a2,a1,a0,i)=>((i<=s.length)/\JE n a0/\(a0.length<=i)/\(a6r s []=a6r (s.drop i) a0),s.length-i,[(9,.v (vS a3 a0 a2)),(10,.v (vI i))],[],[(40,⟨1,a3,a0.length,a2,a1⟩)],[(19,MF.ol a1 a0)])) ⟨zl,nA,Q10,Z⟩ [7] [] [0,1,6] [0,1,6,19] ?_;rintro ⟨a3,a2,a1,a0,i⟩ ⟨ay,ag,ax,ai⟩
 refine yKA 44 ?_ ?_<;>intro aj;have ad:=B.dt aj;have av:i<s.length:=Q0;obtain ⟨e3,am⟩:=gE av;have a5:=v2.2 _ (List.mem_of_getElem? am);refine zW 20 6 ?_;refine yI 20 i av ?_;rintro ao rfl;refine yL 20 21 e3 am ?_;rintro ⟨⟨b3,az,b0⟩,_⟩;refine zB λb1=>?_;refine zT [] 21 e3.face () λ_=>?_;refine WX.know (λG hΓ=>(hΓ.get 21 Z).rd.one) λab=>?_;refine zP 40 53 (a0++[e3.face]).length ab λap ak=>?_;refine zV [19,21] 22 ?_;refine SA ?_;refine zU [22] 19 ?_
 exact ITr Z (ap,ak,_,(a0++[e3.face]),i+1) ⟨Q0,(ac2 ag (all_cons a5.2.1 nA)),Q3,(by rw [ai,abu am];simp only [a6r])⟩ Q1 [0,1,6,19];have ad:=B.df aj;have ac:=ai.trans (show _=a0 by rw [dn];simp only [a6r];omega);refine yE 40 19 32 ?_;rw [show a6s l n_=a0 by simp only [a6s,aa,ac]];exact zX [33] (a3,a2) (aby Q0 ag)
theorem f263 (hn:n+0<=9){l:List aS}(N0:Rd w K0 M0 l)(n_:aA)(N1:Rd w K1 M1 n_.parts){sides:List Int}(N2:Rd w K2 M2 sides)(ad:ok n l)(a8:ok n n_)(a4:ok n sides):
 DP 263 #[vS K0 l M0,adu n_ K1 M1,vS K2 sides M2] w (pS w n (a8t l n_ sides)):=by
 have hb:=bS0 hn;refine EN Tryz.func263 Z (aS3 N0 N1 N2) ?_;refine yB λp1=>?_;refine F0 3 Int ?_;refine yE 10 3 4 ?_;have r1:=(okl a4).1;refine LK (p1,0,([]:List Int),0) (λ|(a3,a1,a0,i)=>((i<=sides.length)/\JL n a0/\(a0.length<=i)/\(aa7 l n_ sides ([]:List Int)=aa7 l n_ (sides.drop i) a0),sides.length-i,[(7,.v (vS a3 a0 a1)),(8,.v (vI i))],[],[],[(5,MF.os a3 a1 a0)])) ⟨zl,(aby zl nA:ok n ([]:List Int)),Q10,Z⟩ [4,0,2] [4] [0,1,2] [0,1,2,5] ?_;rintro ⟨a3,a1,a0,i⟩ ⟨v1,v2,v3,v4⟩
 refine yKD 14 ?_ ?_<;>intro h1 b1;obtain ⟨e1,ae,ac,am⟩:=gO a4 i;refine LM Z (a0.length:Int) (λk=>(J6 k/\(0<=k/\k<=a0.length)/\(aa6 l n_ e1 a0 (a0.length:Int)=aa6 l n_ e1 a0 k),k.toNat,[(9,.v (vI k))],[],[],[])) ⟨Q4,Q0,Z⟩ [7,8,4,0,2] [4] [0,1,2,5] [0,1,2,5] ?_;rintro k ⟨v5,v6,v7⟩;refine zW 6 5 ?_;refine yD [] λbs G0 a5=>?_;refine dT 17 [1,3,5] ?_;refine zDC 21 ?_ ?_<;>intro h2;have ai:=B.dt h2;refine dT 13 [7,8,11,13] ?_
 refine DX.seeP 7 J Z Z Z Z (ad7 Z Z Z Z Q6) ?_;refine DI 26 ?_;have ar:(k-1).toNat<a0.length:=Q4;obtain ⟨e2,aj⟩:=gE ar;have aw:ok n e2:=v2.2 _ (List.mem_of_getElem? aj);refine zDI 8 6 ((k-1).toNat) a5 Z ar ?_;rintro af rfl;refine zDL 9 6 7 e2 a5 aj ?_;rintro ⟨⟩;refine dT 6 [23,24,27,29] ?_;refine zDI 15 2 i a5 Z am ?_;rintro az rfl;refine zDL 16 2 7 e1 a5 ae ?_;rintro ⟨⟩
 refine DXV 10 Z J Z O (λw Y=>f276 n Q0 (Y.q 0 Z) n_ (Y.q 1 Z) ad a8 aw) λb0=>?_;refine DXV 17 Z J Z O (λw Y=>f276 n Q0 (Y.q 0 Z) n_ (Y.q 1 Z) ad a8 ac) λay=>?_;refine dT 0 [37,39] ?_;refine DX.tail2 [] Z Z J ?_;refine yKD 38 ?_ ?_<;>intro h3 aq;refine SA ?_;exact ITr Z (k-1) ⟨Q4,Q0,(by rw [v7];rw [aa6];simp only [ai,aj,aq,↓reduceIte])⟩ Q1 [0,1,2,5]
 have a7:=v7.trans (show _=k by rw [aa6];simp only [ai,aj,aq,↓reduceIte]);refine yD [10,14] λbs G0 a5=>?_;refine dT 14 [3,5] ?_;refine DX.seeP 3 J Z Z Z Z (adg (Int.toNat k) ttOk Z Z Z Z (show k=(((Int.toNat k):Nat):Int)from Q0) (Nat.le_trans (show (Int.toNat k)<=a0.length from Q0) (a5.get 6 Z:RdSl _ _ _ _).1)) ?_
 refine DX.slot 44 (y:= .v (.slice (some af) (((List.take (Int.toNat k) a0)).length) a1)) Z (λ_=>by rw [show ((List.take (Int.toNat k) a0)).length=(Int.toNat k)from (by simp only [List.length_take];have z_:=(show (Int.toNat k)<=a0.length from Q0);omega)]) ?_;refine DX.der 19 (MF.rs .der (some af) a1 (List.take (Int.toNat k) a0)) Z (λ_ hΓ=>RdSl.pre (hΓ.get 6 Z:RdSl _ _ _ _) (Int.toNat k)) ?_;refine dT 11 [11,13] ?_;refine zDI 7 2 i a5 Z am ?_;rintro ao ⟨⟩;refine zDL 8 2 20 e1 a5 ae ?_;rintro ⟨⟩;refine dT 7 [23,25] ?_
 refine DX.seeP 13 J Z Z Z Z (aea (Int.toNat k) ttOk Z Z Z Z (show k=(((Int.toNat k):Nat):Int)from Q0) (show (Int.toNat k)<=a0.length from Q0)) ?_;refine DX.slot 54 (y:= .v (.slice (offP (some af) a1 (Int.toNat k) 1) (((List.drop (Int.toNat k) a0)).length) (a1- (Int.toNat k)))) Z (λ_=>by rw [show ((List.drop (Int.toNat k) a0)).length=(a0.length)- (Int.toNat k)from (by simp only [List.length_drop])]) ?_
 refine DX.der 20 (MF.rs .der (offP (some af) a1 (Int.toNat k) 1) (a1- (Int.toNat k)) (List.drop (Int.toNat k) a0)) Z (λ_ hΓ=>RdSl.suf (hΓ.get 6 Z:RdSl _ _ _ _) (Int.toNat k)) ?_;refine DX.toTX λS_=>?_
 ·skip
  refine TX.all2 0 9 J ?_ ?_;refine TS.op 0 Z J ?_;refine zB λak=>?_;refine R0 ?_;refine WX.back0 ?_;refine TX.all2 4 9 J ?_ ?_;refine TS.opK 4 Z (adl (α:=Int) 41 19 ((List.take (Int.toNat k) a0):List Int).length ttOk Z Z Z Z Z Z Z Z Z Q10 Q3 Q3 Z) ?_;refine F0 21 Int ?_;refine zG 41 19 22 ((List.take (Int.toNat k) a0):List Int).length Z λa6 ag ah=>?_;refine WX.know (λG hΓ=>(hΓ.get 22 Z:RdL _ _ _).flat) λa2=>?_
  refine WX.turn [21] 23 Z (λh hs=>acx hs a2) Z ?_;refine R0 ?_;refine WX.back0 ?_;refine TX.all1 9 J ?_;refine TS.op 9 Z J ?_;refine zB λab=>?_;rotate_left;refine TS.op 9 Z J ?_;refine zB λab=>?_;refine R0 ?_;refine WX.back0 ?_;refine TX.all1 4 J ?_;refine TS.opK 4 Z (adl (α:=Int) 41 19 ((List.take (Int.toNat k) a0):List Int).length ttOk Z Z Z Z Z Z Z Z Z Q10 Q3 Q3 Z) ?_;refine F0 21 Int ?_
  refine zG 41 19 22 ((List.take (Int.toNat k) a0):List Int).length Z λa6 ag ah=>?_;refine WX.know (λG hΓ=>(hΓ.get 22 Z:RdL _ _ _).flat) λa2=>?_;refine WX.turn [21] 23 Z (λh hs=>acx hs a2) Z ?_;rotate_left;refine TS.op 9 Z J ?_;refine zB λab=>?_;refine R0 ?_;refine WX.back0 ?_;refine TX.all1 0 J ?_;refine TS.op 0 Z J ?_;refine zB λak=>?_;refine R0 ?_;refine WX.back0 ?_;refine TX.all1 4 J ?_
  refine TS.opK 4 Z (adl (α:=Int) 41 19 ((List.take (Int.toNat k) a0):List Int).length ttOk Z Z Z Z Z Z Z Z Z Q10 Q3 Q3 Z) ?_;refine F0 21 Int ?_;refine zG 41 19 22 ((List.take (Int.toNat k) a0):List Int).length Z λa6 ag ah=>?_;refine WX.know (λG hΓ=>(hΓ.get 22 Z:RdL _ _ _).flat) λa2=>?_;refine WX.turn [21] 23 Z (λh hs=>acx hs a2) Z ?_;rotate_left
  all_goals
   refine R0 ?_;refine WX.back0 ?_;refine TX.all1 10 J ?_;refine TS.op 10 Z J ?_;refine zT (α:=Int) [] 24 e1 () λ_=>?_;refine WX.know (λG hΓ=>(hΓ.get 24 Z:OwL _ _ _).rd.one) λaa=>?_;refine zP 41 50 (((List.take (Int.toNat k) a0)++[e1]):List Int).length aa (hn:=Q8) λav ax=>?_;refine zV [23,24] 25 ?_;refine R0 ?_;refine WX.back0 ?_;refine TX.all1 14 J ?_
   refine TS.op 14 Z J ?_;refine WX.der 26 (MF.rs .der (offP (some af) a1 (Int.toNat k) 1) (a1- (Int.toNat k)) (List.drop (Int.toNat k) a0)) Z (λ_ hΓ=>RdSl.suf (hΓ.get 5 Z:OwSl _ _ _ _).rd (Int.toNat k)) ?_;refine zG 41 26 27 ((((List.take (Int.toNat k) a0)++[e1])++(List.drop (Int.toNat k) a0)):List Int).length Z λan ap al=>?_;refine WX.know (λG hΓ=>(hΓ.get 27 Z:RdL _ _ _).flat) λa9=>?_;refine WX.turn [25] 28 Z (λh hs=>acx hs a9) Z ?_;refine R0 ?_;refine WX.back0 ?_;refine TX.all1 15 J ?_;refine TS.opK 15 Z (adp ttOk Z) ?_;refine R0 ?_
   refine WX.back0 ?_;refine TX.tail [] Z Z J ?_;refine SA ?_;refine yE 41 28 29 ?_;refine zU [30] 5 ?_
   exact IT (ap,al,(((List.take (Int.toNat k) a0)++[e1])++(List.drop (Int.toNat k) a0)),i+1) ⟨Q0,(aby Q3 (ac2 (ac2 (λa ha=>v2.2 a (List.mem_of_mem_take ha)) (all_cons (α:=Int) ac nA)) (λa ha=>v2.2 a (List.mem_of_mem_drop ha))):ok n ((((List.take (Int.toNat k) a0)++[e1])++(List.drop (Int.toNat k) a0)):List Int)),Q3,(by rw [v4,abu ae];simp only [aa7,a7])⟩ Q1 [0,1,2,5]
 have ai:=B.df h2;refine dT 0 [7,9,11,13,15,17,19,21,23,25,27,29,31,33,35,37,39] ?_;refine DX.tail2 [] Z Z J ?_;have a7:=v7.trans (show _=k by rw [aa6];simp only [ai,↓reduceIte]);refine yD [10,14] λbs G0 a5=>?_;refine dT 14 [3,5] ?_;refine DX.seeP 3 J Z Z Z Z (adg (Int.toNat k) ttOk Z Z Z Z (show k=(((Int.toNat k):Nat):Int)from Q0) (Nat.le_trans (show (Int.toNat k)<=a0.length from Q0) (a5.get 6 Z:RdSl _ _ _ _).1)) ?_
 refine DX.slot 44 (y:= .v (.slice a3 (((List.take (Int.toNat k) a0)).length) a1)) Z (λ_=>by rw [show ((List.take (Int.toNat k) a0)).length=(Int.toNat k)from (by simp only [List.length_take];have z_:=(show (Int.toNat k)<=a0.length from Q0);omega)]) ?_;refine DX.der 19 (MF.rs .der a3 a1 (List.take (Int.toNat k) a0)) Z (λ_ hΓ=>RdSl.pre (hΓ.get 6 Z:RdSl _ _ _ _) (Int.toNat k)) ?_;refine dT 11 [11,13] ?_;refine zDI 7 2 i a5 Z am ?_;rintro ao rfl;refine zDL 8 2 20 e1 a5 ae ?_;rintro ⟨⟩;refine dT 7 [23,25] ?_
 refine DX.seeP 13 J Z Z Z Z (aea (Int.toNat k) ttOk Z Z Z Z (show k=(((Int.toNat k):Nat):Int)from Q0) (show (Int.toNat k)<=a0.length from Q0)) ?_;refine DX.slot 54 (y:= .v (.slice (offP a3 a1 (Int.toNat k) 1) (((List.drop (Int.toNat k) a0)).length) (a1- (Int.toNat k)))) Z (λ_=>by rw [show ((List.drop (Int.toNat k) a0)).length=(a0.length)- (Int.toNat k)from (by simp only [List.length_drop])]) ?_
 refine DX.der 20 (MF.rs .der (offP a3 a1 (Int.toNat k) 1) (a1- (Int.toNat k)) (List.drop (Int.toNat k) a0)) Z (λ_ hΓ=>RdSl.suf (hΓ.get 6 Z:RdSl _ _ _ _) (Int.toNat k)) ?_;refine DX.toTX λS_=>?_
 ·skip
  refine TX.all2 0 9 J ?_ ?_;refine TS.op 0 Z J ?_;refine zB λak=>?_;refine R0 ?_;refine WX.back0 ?_;refine TX.all2 4 9 J ?_ ?_;refine TS.opK 4 Z (adl (α:=Int) 41 19 ((List.take (Int.toNat k) a0):List Int).length ttOk Z Z Z Z Z Z Z Z Z Q10 Q3 Q3 Z) ?_;refine F0 21 Int ?_;refine zG 41 19 22 ((List.take (Int.toNat k) a0):List Int).length Z λa6 ag ah=>?_;refine WX.know (λG hΓ=>(hΓ.get 22 Z:RdL _ _ _).flat) λa2=>?_
  refine WX.turn [21] 23 Z (λh hs=>acx hs a2) Z ?_;refine R0 ?_;refine WX.back0 ?_;refine TX.all1 9 J ?_;refine TS.op 9 Z J ?_;refine zB λab=>?_;rotate_left;refine TS.op 9 Z J ?_;refine zB λab=>?_;refine R0 ?_;refine WX.back0 ?_;refine TX.all1 4 J ?_;refine TS.opK 4 Z (adl (α:=Int) 41 19 ((List.take (Int.toNat k) a0):List Int).length ttOk Z Z Z Z Z Z Z Z Z Q10 Q3 Q3 Z) ?_;refine F0 21 Int ?_
  refine zG 41 19 22 ((List.take (Int.toNat k) a0):List Int).length Z λa6 ag ah=>?_;refine WX.know (λG hΓ=>(hΓ.get 22 Z:RdL _ _ _).flat) λa2=>?_;refine WX.turn [21] 23 Z (λh hs=>acx hs a2) Z ?_;rotate_left;refine TS.op 9 Z J ?_;refine zB λab=>?_;refine R0 ?_;refine WX.back0 ?_;refine TX.all1 0 J ?_;refine TS.op 0 Z J ?_;refine zB λak=>?_;refine R0 ?_;refine WX.back0 ?_;refine TX.all1 4 J ?_
  refine TS.opK 4 Z (adl (α:=Int) 41 19 ((List.take (Int.toNat k) a0):List Int).length ttOk Z Z Z Z Z Z Z Z Z Q10 Q3 Q3 Z) ?_;refine F0 21 Int ?_;refine zG 41 19 22 ((List.take (Int.toNat k) a0):List Int).length Z λa6 ag ah=>?_;refine WX.know (λG hΓ=>(hΓ.get 22 Z:RdL _ _ _).flat) λa2=>?_;refine WX.turn [21] 23 Z (λh hs=>acx hs a2) Z ?_;rotate_left
  all_goals
   refine R0 ?_;refine WX.back0 ?_;refine TX.all1 10 J ?_;refine TS.op 10 Z J ?_;refine zT (α:=Int) [] 24 e1 () λ_=>?_;refine WX.know (λG hΓ=>(hΓ.get 24 Z:OwL _ _ _).rd.one) λaa=>?_;refine zP 41 50 (((List.take (Int.toNat k) a0)++[e1]):List Int).length aa (hn:=Q8) λav ax=>?_;refine zV [23,24] 25 ?_;refine R0 ?_;refine WX.back0 ?_;refine TX.all1 14 J ?_
   refine TS.op 14 Z J ?_;refine WX.der 26 (MF.rs .der (offP a3 a1 (Int.toNat k) 1) (a1- (Int.toNat k)) (List.drop (Int.toNat k) a0)) Z (λ_ hΓ=>RdSl.suf (hΓ.get 5 Z:OwSl _ _ _ _).rd (Int.toNat k)) ?_;refine zG 41 26 27 ((((List.take (Int.toNat k) a0)++[e1])++(List.drop (Int.toNat k) a0)):List Int).length Z λan ap al=>?_;refine WX.know (λG hΓ=>(hΓ.get 27 Z:RdL _ _ _).flat) λa9=>?_;refine WX.turn [25] 28 Z (λh hs=>acx hs a9) Z ?_;refine R0 ?_;refine WX.back0 ?_;refine TX.all1 15 J ?_;refine TS.opK 15 Z (adp ttOk Z) ?_;refine R0 ?_
   refine WX.back0 ?_;refine TX.tail [] Z Z J ?_;refine SA ?_;refine yE 41 28 29 ?_;refine zU [30] 5 ?_
   exact IT (ap,al,(((List.take (Int.toNat k) a0)++[e1])++(List.drop (Int.toNat k) a0)),i+1) ⟨Q0,(aby Q3 (ac2 (ac2 (λa ha=>v2.2 a (List.mem_of_mem_take ha)) (all_cons (α:=Int) ac nA)) (λa ha=>v2.2 a (List.mem_of_mem_drop ha))):ok n ((((List.take (Int.toNat k) a0)++[e1])++(List.drop (Int.toNat k) a0)):List Int)),Q3,(by rw [v4,abu ae];simp only [aa7,a7])⟩ Q1 [0,1,2,5]
 have a7:=v4.trans (show _=(a0:List Int) by rw [dn];simp only [aa7];omega);rw [show a8t l n_ sides=a0 by simp only [a8t,a7]];exact yX [5] (a3,a1) (acp v2)
theorem f228 (hn:n+1<=9)(x_:aH)(N0:Rd w K0 M0 x_.bF)(N1:Rd w K1 M1 x_.bG.bB)(N2:Rd w K2 M2 x_.bH)(N3:Rd w K3 M3 x_.bS)(N4:Rd w K4 M4 x_.bM)(N5:Rd w K5 M5 x_.bQ)(n_:aA)(N6:Rd w K6 M6 n_.parts){but:Int}(a0:ok n x_)(a5:ok n n_)(a8:ok n but):
 DP 228 #[agh x_ K0 M0 K1 M1 K2 M2 K3 M3 K4 M4 K5 M5,adu n_ K6 M6,vI but] w (pS w n (a2v x_ n_ but)):=by
 have hb:=bS1 hn;refine EN Tryz.func228 Z (aC 0 N0 (aC 1 N1 (aC 2 N2 (aC 3 N3 (aC 4 N4 (aC 5 N5 (aC 6 N6 ac8))))))) ?_;refine KF Z 7 Z O (λw Y=>f227 n Q0 (Y.q 4 Z) n_ (Y.q 6 Z) (a0.2.2.2.2.1) a5) ?_;rintro ⟨p1,c1⟩ ae;refine yD [] λbs G0 ag=>?_;refine dT 3 [1,2,4,7,8,10] ?_;refine DXF 6 9 Z J Z O (λw Y=>f264 n Q0 (Y.q 4 Z) n_ (Y.q 6 Z) (a0.2.2.2.2.1) a5) ?_;rintro ⟨p2,c2⟩ a9
 refine DXF 7 11 Z J Z O (λw Y=>f263 n Q0 (Y.q 5 Z) _ (Y.q 7 Z) (Y.q 9 Z) (a0.2.2.2.2.2.1) ae a9) ?_;rintro ⟨p3,c3⟩ ac;dsimp only
 refine dT 0 [17] ?_;refine DX.tail2 [] Z Z J ?_;refine yB λp4=>?_;refine F0 13 Int ?_;have r4:=ac.1
 refine LM Z (p4,0,[],([]:List Int),0) (λ|(a3,a4,a1,a2,i)=>((i<=((a8t x_.bQ ((a1n x_.bM n_).1) (a6s x_.bM n_))).length)/\JE n a2/\(a2.length<=i)/\(a7r x_ n_ but (a8t x_.bQ ((a1n x_.bM n_).1) (a6s x_.bM n_)) ([]:List Int)=a7r x_ n_ but (((a8t x_.bQ ((a1n x_.bM n_).1) (a6s x_.bM n_))).drop i) a2),((a8t x_.bQ ((a1n x_.bM n_).1) (a6s x_.bM n_))).length-i,[(10,.v (vS a3 a2 a4)),(11,.v (vI i))],[],[(27,⟨1,a3,a2.length,a4,a1⟩)],[(13,MF.ol a1 (a2:List Int))])) ⟨zl,nA,Q10,Z⟩ [9,8,2] [] [0,1,2,3,4,5,6,12] [0,1,2,3,4,5,6,12,13] ?_
 rintro ⟨a3,a4,a1,a2,i⟩ ⟨v1,v2,v3,v4⟩;refine yKD 32 ?_ ?_<;>intro h1 aj;obtain ⟨e1,a6,aa,ab⟩:=gO ac i;refine yKA 34 ?_ ?_<;>intro h2;refine zW 14 12 ?_;refine yI 14 i ab ?_;rintro ai rfl;refine zL 14 15 e1 a6 ?_;rintro ⟨⟩;refine yKM 42 ?_ ?_<;>intro h3 af;refine yI 14 i ab ?_;rintro ah ⟨⟩;refine zL 14 15 e1 a6 ?_;rintro ⟨⟩;refine zB λp5=>?_;refine zT [] 15 e1 () λ_=>?_;refine WX.know (λG hΓ=>(hΓ.get 15 Z).rd.one) λad=>?_;refine zP 27 48 (a2++[e1]).length ad λp6 c4=>?_;refine zV [13,15] 16 ?_
 refine SA ?_;refine zU [16] 13 ?_;exact ITr Z (p6,c4,_,(a2++[e1]),i+1) ⟨Q0,(ac2 v2 (all_cons aa nA)),Q3,(by rw [v4,abu a6];simp only [a7r,h2,h3,cC])⟩ Q1 [0,1,2,3,4,5,6,12,13];refine SA ?_
 exact ITr Z (a3,a4,a1,a2,i+1) ⟨Q0,v2,Q3,(by rw [v4,abu a6];simp only [a7r,h2,h3,cC])⟩ Q1 [0,1,2,3,4,5,6,12,13];have a7:=v4.trans (show _=a2 by rw [abu a6];simp only [a7r,h2,cC]);rotate_left;have a7:=v4.trans (show _=a2 by rw [dn];simp only [a7r];omega);rotate_left
 all_goals
  refine yE 27 13 26 ?_;rw [show a2v x_ n_ but=a2 by simp only [a2v,a7]];exact zX [27] (a3,a4) (aby Q0 v2)
theorem f229 (hn:n+0<=9){l:List aS}(N0:Rd w K0 M0 l)(n_:aA)(N1:Rd w K1 M1 n_.parts){side:Int}(a2:ok n l)(a1:ok n n_)(a0:ok n side):
 DP 229 #[vS K0 l M0,adu n_ K1 M1,vI side] w (pS w n (a4t l n_ side)):=by
 have hb:=bS0 hn;refine EN Tryz.func229 Z (aS2 N0 N1) ?_;refine KF Z 2 Z O (λw Y=>f116 n Q0 (Y.q 0 Z) a2) ?_;rintro ⟨p1,c1⟩ a3;have q1:=au2 l;refine KV Z Z O (λw Y=>f189 n Q0 n_ (Y.q 1 Z) a1) λah=>?_;refine yKN 15 ?_ ?_<;>intro h1 ao;rw [show a4t l n_ side=(a0h l) by simp only [a4t,h1,cC]];exact yX [3] _ a3;refine KV Z Z O (λw Y=>f120 n Q0 a0 (i6 1) (i6 6)) λam=>?_;refine yKN 19 ?_ ?_<;>intro h2 aj
 rw [show a4t l n_ side=(a0h l) by simp only [a4t,h1,h2,cC]];exact yX [3] _ a3;refine KV Z Z O (λw Y=>f261 n Q0 (Y.q 0 Z) n_ (Y.q 1 Z) a2 a1 a0) λac=>?_;have q2:=as8 l n_ side;refine yKD 25 ?_ ?_<;>intro h3 ai;have r1:=a2.1;have r3:=i8 ac;refine R0 ?_;refine SI 31 ?_;refine zN (kk:=3) 501 3 4 λaa ag=>?_;have a7:(a0a l n_ side).toNat<(a0h l).length:=Q4
 refine zR 501 _ a7 ?_;rintro af rfl;obtain ⟨e1,a9,a4,ae⟩:=gO a3 _;refine R0 ?_;refine zO 501 4 5 _ a9 ?_;rintro A1 B1 ⟨⟨p2,c2⟩,_⟩ a6 ap;refine zA 501 a6 a7 ?_;refine SW0 ?_;refine CV Z O (λw Y=>f161 n Q0 (i6 50) (ad0 _)) λa5=>?_;refine SI 29 ?_;have a8:(a0a l n_ side).toNat<(a0h l).length:=Q4
 refine zR 501 _ a8 ?_;rintro al ⟨⟩;refine R0 ?_;refine zS 501 a6 a8 ?_;refine R0 ?_;refine WX.turn [6,7,8] 9 Z (λh hs=>ae8 (e:=(aS.mk e1.pfx e1.face (a11 50 (i64.wrap (e1.cE+1))))) (x:=((p2,c2),(),())) ae hs) Z ?_;refine zE 501 9 10 (hn:=(by first|(simp;done)|(simp;omega))) ?_
 refine SL 6 ((a0h l).set (((a0a l n_ side)).toNat) (aS.mk e1.pfx e1.face (a11 50 (i64.wrap (e1.cE+1))))).length ?_;refine SL 51 ((a0h l).set (((a0a l n_ side)).toNat) (aS.mk e1.pfx e1.face (a11 50 (i64.wrap (e1.cE+1))))).length ?_;refine SL 30 ((a0h l).set (((a0a l n_ side)).toNat) (aS.mk e1.pfx e1.face (a11 50 (i64.wrap (e1.cE+1))))).length ?_
 refine SL 28 ((a0h l).set (((a0a l n_ side)).toNat) (aS.mk e1.pfx e1.face (a11 50 (i64.wrap (e1.cE+1))))).length ?_;refine SL 7 ((a0h l).set (((a0a l n_ side)).toNat) (aS.mk e1.pfx e1.face (a11 50 (i64.wrap (e1.cE+1))))).length ?_;refine SL 11 ((a0h l).set (((a0a l n_ side)).toNat) (aS.mk e1.pfx e1.face (a11 50 (i64.wrap (e1.cE+1))))).length ?_
 have ad:a4t l n_ side=((a0h l).set ((a0a l n_ side).toNat) (aS.mk e1.pfx e1.face (a11 50 (i64.wrap (e1.cE+1))))):=by simp only [a4t,h1,h2,h3,a9,cC]
 have r4:=a3.1;rw [ad];exact zX [11] _ (aby Q5 (adz (okl a3).2 (show ok n ((aS.mk e1.pfx e1.face (a11 50 (i64.wrap (e1.cE+1)))):aS)from (An (acl a4).1 (An (acl a4).2.1 a5)))))
 refine yKD 39 ?_ ?_<;>intro h4 ak;refine KF Z 4 Z O (λw Y=>f110 n Q0 n_ (Y.q 1 Z) a1) ?_;rintro ⟨p2,c2⟩ a5;refine yB λp3=>?_;refine zN (kk:=3) 501 3 6 λaa ag=>?_;refine zT [5] 7 (aS.mk (a05 n_) side 1) ((p2,c2),(),()) λ_=>?_;have r1:=a2.1;have r3:=a3.1;refine WX.know (λG hΓ=>(hΓ.get 7 Z).rd.one) λab=>?_;refine zP 501 49 ((a0h l)++[(aS.mk (a05 n_) side 1)]).length ab λp4 c3=>?_;refine zV [6,7] 8 ?_
 refine yE 501 8 9 ?_;rw [show a4t l n_ side=((a0h l)++[(aS.mk (a05 n_) side 1)]) by simp only [a4t,h1,h2,h3,h4,cC]];exact zX [10] (p4,c3) (aby Q5 (ac2 (okl a3).2 (all_cons (α:=aS) (An a5 (An a0 (i6 1))) nA)));rw [show a4t l n_ side=(a0h l) by simp only [a4t,h1,h2,h3,h4,cC]];exact yX [3] _ a3
theorem f246 (hn:n+0<=9){l:List aS}(N0:Rd w K0 M0 l)(n_:aA)(N1:Rd w K1 M1 n_.parts){side:Int}(a2:ok n l)(a5:ok n n_)(a0:ok n side):
 DP 246 #[vS K0 l M0,adu n_ K1 M1,vI side] w (pS w n (a5u l n_ side)):=by
 have hb:=bS0 hn;refine EN Tryz.func246 Z (aS2 N0 N1) ?_;refine KF Z 2 Z O (λw Y=>f116 n Q0 (Y.q 0 Z) a2) ?_;rintro ⟨p1,c1⟩ a3;have q1:=au2 l;refine KV Z Z O (λw Y=>f261 n Q0 (Y.q 0 Z) n_ (Y.q 1 Z) a2 a5 a0) λab=>?_;have q2:=as8 l n_ side;refine yKD 16 ?_ ?_<;>intro h1 am;rw [show a5u l n_ side=(a0h l) by simp only [a5u,h1,cC]];exact yX [3] _ a3;have r1:=a2.1;have r3:=i8 ab;refine R0 ?_;refine SI 19 ?_;obtain ⟨e1,a6,a7,a8⟩:=gO a3 ((a0a l n_ side).toNat)
 refine zI 2 _ a8 ?_;rintro af rfl;refine yL 2 4 e1 a6 ?_;rintro ⟨⟨p2,c2⟩,_⟩;refine yKD 23 ?_ ?_<;>intro h2 aj;refine R0 ?_;refine zN (kk:=3) 501 3 5 λac ag=>?_;refine WX.cap 501 Z λa4=>?_;refine WX.know (λG hΓ=>(hΓ.get 5 Z).rd.one) λa1=>?_;refine WX.draw [4,9,10] mixed λbs G0 ak=>?_;refine dT 9 [3,5] ?_;have r4:=a3.1
 refine DX.seeP 3 J Z Z Z Z (adg (Int.toNat (a0a l n_ side)) ttOk Z Z Z Z (show (a0a l n_ side)=(((Int.toNat (a0a l n_ side)):Nat):Int)from Q0) (Nat.le_trans Q0 a4)) ?_;refine dT 6 [11,13] ?_;refine DX.seeP 7 J Z Z Z Z (ad7 Z Z Z Z Q6) ?_
 refine DX.seeP 8 J Z Z Z Z (aea (Int.toNat ((a0a l n_ side)+1)) ttOk Z Z Z Z (show (a0a l n_ side)+1=(((Int.toNat ((a0a l n_ side)+1)):Nat):Int)from Q0) Q0) ?_;refine DX.tail2 [0,4,9,10] Z Z J ?_;refine zB λp3=>?_;refine F0 6 aS ?_
 refine WX.appPre 24 501 (Int.toNat (a0a l n_ side)) ((List.take (Int.toNat (a0a l n_ side)) (a0h l)):List aS).length ttOk Z Z Z Z Z Z Z Z Z Z Z Z Z a1 Q0 (by have z_:=(show (Int.toNat (a0a l n_ side))<=((a0h l)).length from Q0);first|(simp;done)|(simp only [List.length_take];omega)|(simp;omega)) Q3 Q3 (λ_ _=>Z) λp4 c3=>?_
 refine WX.turn [5] 7 Z (λh hs=>afy (Int.toNat (a0a l n_ side)) Q0 hs) Z ?_;refine zV [6,7] 9 ?_
 refine WX.appSuf 24 501 (Int.toNat ((a0a l n_ side)+1)) (((List.take (Int.toNat (a0a l n_ side)) (a0h l))++(List.drop (Int.toNat ((a0a l n_ side)+1)) (a0h l))):List aS).length ttOk Z Z Z Z Z Z Z Z Z Z Z Z Z a1 Q0 (by have z_:=(show (Int.toNat ((a0a l n_ side)+1))<=((a0h l)).length from Q0);first|(simp;done)|(simp only [List.length_append,List.length_cons,List.length_nil,List.length_take,List.length_drop,List.length_set];omega)|(simp;omega)) Q3 Q3 (λ_ _=>Z) λp5 c4=>?_
 refine WX.turn [8] 10 Z (λh hs=>amf (by omega) (show (Int.toNat ((a0a l n_ side)+1))<=((a0h l)).length from Q0) hs) Z ?_;refine zV [9,10] 11 ?_;refine yE 24 11 12 ?_;rw [show a5u l n_ side=((List.take (Int.toNat (a0a l n_ side)) (a0h l))++(List.drop (Int.toNat ((a0a l n_ side)+1)) (a0h l))) by simp only [a5u,h1,a6,h2,cC]]
 exact zX [13] (p5,c4) (aby Q3 (ac2 (λa ha=>(okl a3).2 a (List.mem_of_mem_take ha)) (λa ha=>(okl a3).2 a (List.mem_of_mem_drop ha))));refine R0 ?_;refine SI 37 ?_;refine zN (kk:=3) 501 3 5 λac ag=>?_;have a9:(a0a l n_ side).toNat<(a0h l).length:=Q4
 refine zR 501 _ a9 ?_;rintro al ⟨⟩;refine R0 ?_;refine WX.ldR 501 6 e1 ttOk Z Z Z Z Z Z Z Z Z a9 (λG hΓ=>(hΓ.get 5 Z).rd) a6 O O ?_;rintro ⟨⟨p3,c3⟩,_⟩ ai;refine WX.see Z Z Z (λ_ hΓ=>aj2 Z Z Z Q9) ?_;refine SI 35 ?_;have aa:(a0a l n_ side).toNat<(a0h l).length:=Q4;refine zR 501 _ aa ?_;rintro ah ⟨⟩;refine R0 ?_;refine zO 501 5 7 _ a6 ?_
 rintro A1 B1 ⟨⟨p4,c4⟩,_⟩ ad an;refine zS 501 ad aa ?_;refine R0 ?_;refine WX.turn [8,9,10] 11 Z (λh hs=>ae8 (e:=(aS.mk e1.pfx e1.face (i64.wrap (Int.tdiv e1.cE 2)))) (x:=((p4,c4),(),())) a8 hs) Z ?_;refine zE 501 11 12 (hn:=(by first|(simp;done)|(simp;omega))) ?_
 refine SL 6 ((a0h l).set (((a0a l n_ side)).toNat) (aS.mk e1.pfx e1.face (i64.wrap (Int.tdiv e1.cE 2)))).length ?_;refine SL 44 ((a0h l).set (((a0a l n_ side)).toNat) (aS.mk e1.pfx e1.face (i64.wrap (Int.tdiv e1.cE 2)))).length ?_;refine SL 36 ((a0h l).set (((a0a l n_ side)).toNat) (aS.mk e1.pfx e1.face (i64.wrap (Int.tdiv e1.cE 2)))).length ?_
 refine SL 34 ((a0h l).set (((a0a l n_ side)).toNat) (aS.mk e1.pfx e1.face (i64.wrap (Int.tdiv e1.cE 2)))).length ?_;refine SL 18 ((a0h l).set (((a0a l n_ side)).toNat) (aS.mk e1.pfx e1.face (i64.wrap (Int.tdiv e1.cE 2)))).length ?_;refine SL 7 ((a0h l).set (((a0a l n_ side)).toNat) (aS.mk e1.pfx e1.face (i64.wrap (Int.tdiv e1.cE 2)))).length ?_
 refine SL 10 ((a0h l).set (((a0a l n_ side)).toNat) (aS.mk e1.pfx e1.face (i64.wrap (Int.tdiv e1.cE 2)))).length ?_;have ae:a5u l n_ side=((a0h l).set ((a0a l n_ side).toNat) (aS.mk e1.pfx e1.face (i64.wrap (Int.tdiv e1.cE 2)))):=by simp only [a5u,h1,a6,h2,cC]
 have r4:=a3.1;rw [ae];exact zX [13] _ (aby Q5 (adz (okl a3).2 (show ok n ((aS.mk e1.pfx e1.face (i64.wrap (Int.tdiv e1.cE 2))):aS)from (An (acl a7).1 (An (acl a7).2.1 (ad0 _))))))
theorem f224 (hn:n+0<=9){l:List aO}(N0:Rd w K0 M0 l){now:Int}(a7:ok n l)(ag:ok n now):
 DP 224 #[vS K0 l M0,vI now] w (pS w n (a3m l now)):=by
 have hb:=bS0 hn;refine EN Tryz.func224 Z (aS1 N0) ?_;refine yB λp1=>?_;refine F0 1 aO ?_;have r1:=a7.1;refine LM Z (p1,0,[],[],0) (λ|(a2,a3,a0,a1,i)=>((i<=l.length)/\JE n a1/\(a1.length<=i)/\(a6t now l []=a6t now (l.drop i) a1),l.length-i,[(5,.v (vS a2 a1 a3)),(6,.v (vI i))],[],[(10,⟨3,a2,a1.length,a3,a0⟩)],[(1,MF.ol a0 a1)])) ⟨zl,nA,Q10,Z⟩ [0,1] [] [0] [0,1] ?_;rintro ⟨a2,a3,a0,a1,i⟩ ⟨v1,v2,v3,v4⟩
 refine yKA 14 ?_ ?_<;>intro h1;have am:=B.dt h1;obtain ⟨e1,a5,a6,a8⟩:=gO a7 i;refine yB λp2=>?_;refine F0 2 aW ?_
 refine LM Z (p2,0,[],[],0) (λ|(pa,ca,ab,a,i2)=>(JE n a/\(i2<=e1.bK.length)/\(a.length<=i2)/\(a5v now e1 0 []=a5v now e1 i2 a),e1.bK.length-i2,[(7,.v (vS pa a ca)),(8,.v (vI i2))],[],[(17,⟨3,pa,a.length,ca,ab⟩),(10,⟨3,a2,a1.length,a3,a0⟩)],[(2,MF.ol ab a)])) ⟨nA,zl,Q10,Z⟩ [5,6,0,1] [] [0,1] [0,1,2] ?_;rintro ⟨pa,ca,ab,a,i2⟩ ⟨v5,v6,v7,v8⟩;have b1:=(okl (abx a6).2.1).1
 refine yI 0 i a8 ?_;rintro ay rfl;refine yL 0 3 e1 a5 ?_;rintro ⟨⟨p3,c1⟩,⟨p4,c2⟩,_⟩;refine yKA 25 ?_ ?_<;>intro h2;have a9:(_<(e1.bK.length:Int)):=B.dt h2;refine yI 0 i a8 ?_;rintro ax ⟨⟩;refine yL 0 5 e1 a5 ?_;rintro ⟨⟨p5,c3⟩,⟨p6,c4⟩,_⟩;obtain ⟨e2,aa,al,aj⟩:=gO (abx a6).2.1 i2;refine yI 6 i2 aj ?_;rintro b9 rfl;refine yL 6 7 e2 aa ?_;rintro _;refine yKA 38 ?_ ?_<;>intro h3;have ad:(now<=e2.expiry):=B.dt h3;refine yI 0 i a8 ?_;rintro b4 ⟨⟩;refine yL 0 7 e1 a5 ?_;rintro ⟨⟨p7,c5⟩,⟨p8,c6⟩,_⟩
 refine yI 8 i2 aj ?_;rintro b3 rfl;refine zL 8 9 e2 aa ?_;rintro _;refine zB λp9=>?_;refine zT [] 9 e2 ((),(),()) λar=>?_;refine zP 17 48 (a++[e2]).length ar λan c7=>?_;refine zV [2,9] 10 ?_;refine SA ?_;refine zU [10] 2 ?_
 exact ITr Z (an,c7,_,(a++[e2]),i2+1) ⟨(ac2 v5 (all_cons al nA)),Q0,Q5,(by rw [v8];rw [a5v];simp only [a9,aa,ad,↓reduceIte])⟩ Q1 [0,1,2];have ad:¬(now<=e2.expiry):=B.df h3;refine SA ?_
 exact ITr Z (pa,ca,ab,a,i2+1) ⟨v5,Q0,Q5,(by rw [v8];rw [a5v];simp only [a9,aa,ad,↓reduceIte])⟩ Q1 [0,1,2];have a9:¬(_<(e1.bK.length:Int)):=B.df h2;have a4:=v8.trans (show _=(i2,a) by rw [a5v];simp only [a9,↓reduceIte]);refine yKA 52 ?_ ?_<;>intro ac
 refine yI 0 i a8 ?_;rintro av ⟨⟩;refine yL 0 17 e1 a5 ?_;rintro ⟨⟨b5,aw⟩,⟨bb,ba⟩,_⟩;refine CF 19 Z O (λw Y=>f110 n Q0 e1.name (Y.q 17 Z) (a6.1)) ?_;rintro ⟨ao,aq⟩ af;refine yD [10,11] λbs G0 ai=>?_;refine dT 7 [1,2,5,7,9] ?_;refine zDI 5 0 i ai Z a8 ?_;rintro ap ⟨⟩;refine dT 5 [13] ?_;refine zDL 7 0 21 e1 ai a5 ?_;rintro ⟨⟨az,b6⟩,⟨b0,b7⟩,_⟩;refine dT 3 [17] ?_;refine DX.tail2 [9,10,11] Z Z J ?_;refine zE 17 2 23 ?_;refine zB λb2=>?_
 refine zT [20,24] 25 (aO.mk (a05 e1.name) a e1.cH) ((ao,aq),(pa,ca),()) λ_=>?_;refine WX.know (λG hΓ=>(hΓ.get 25 Z).rd.one) λae=>?_;refine zP 10 68 (a1++[(aO.mk (a05 e1.name) a e1.cH)]).length ae λak au=>?_;refine zV [1,25] 26 ?_;refine SA ?_;refine zU [26] 1 ?_
 exact ITr Z (ak,au,_,(a1++[(aO.mk (a05 e1.name) a e1.cH)]),i+1) ⟨Q0,(ac2 v2 (all_cons (An af (An (aby Q0 v5) a6.2.2)) nA)),Q3,(by rw [v4,abu a5];simp only [a6t,a4,ac,cC])⟩ Q1 [0,1];refine SA ?_
 exact ITr Z (a2,a3,a0,a1,i+1) ⟨Q0,v2,Q3,(by rw [v4,abu a5];simp only [a6t,a4,ac,cC])⟩ Q1 [0,1];have am:=B.df h1;have a4:=v4.trans (show _=a1 by rw [dn];simp only [a6t];omega);refine yE 10 1 14 ?_;rw [show a3m l now=a1 by simp only [a3m,a4]]
 exact zX [15] (a2,a3) (aby Q0 v2)
theorem f226 (hn:n+1<=9){s:List bA}(N0:Rd w K0 M0 s)(n_:aA)(N1:Rd w K1 M1 n_.parts){bI:Int}(a2:ok n s)(a1:ok n n_)(a0:ok n bI):
 DP 226 #[vS K0 s M0,adu n_ K1 M1,vI bI] w (pS w n (a38 s n_ bI)):=by
 have hb:=bS1 hn;refine EN Tryz.func226 Z (aS2 N0 N1) ?_;refine yD [7,8] λbs G0 a8=>?_;refine dT 6 [1,4,9] ?_;refine DXF 1 2 Z J Z O (λw Y=>f114 n Q0 (Y.q 0 Z) a2) ?_;rintro ⟨p1,c1⟩ a5;refine DXF 3 4 Z J Z O (λw Y=>f110 n Q0 n_ (Y.q 1 Z) a1) ?_;rintro ⟨p2,c2⟩ a6;refine dT 3 [11] ?_;refine DX.tail2 [6,7,8] Z Z J ?_;refine zB λp3=>?_;refine zN (kk:=2) 501 3 6 λa7 aa=>?_;refine zT (α:=bA) [5] 7 (bA.mk (a05 n_) bI) ((p2,c2),()) λ_=>?_;have r3:=(okl a5).1
 refine WX.know (λG hΓ=>(hΓ.get 7 Z:OwL _ _ _).rd.one) λa4=>?_;refine zP 501 14 (((a2g s)++[(bA.mk (a05 n_) bI)]):List bA).length a4 λp4 c3=>?_;refine zV [6,7] 8 ?_;refine yKD 18 ?_ ?_<;>intro h1 a9;refine yE 501 8 9 ?_;refine WX.see Z Z Z (λ_ hΓ=>aim 1 ttOk Z Z Z Z Q10 (show 1<=(((a2g s)++[(bA.mk (a05 n_) bI)])).length from Q0)) ?_
 refine WX.slot 20 (y:= .v (.slice (offP p4 c3 1 2) (((List.drop 1 ((a2g s)++[(bA.mk (a05 n_) bI)]))).length) (c3-1))) Z (λ_=>by rw [show ((List.drop 1 ((a2g s)++[(bA.mk (a05 n_) bI)]))).length=((((a2g s)++[(bA.mk (a05 n_) bI)])).length)-1 from (by simp only [List.length_drop])]) ?_;refine WX.der 11 (MF.rs .der (offP p4 c3 1 2) (c3-1) (List.drop 1 ((a2g s)++[(bA.mk (a05 n_) bI)]))) Z (λ_ hΓ=>RdSl.suf (hΓ.get 9 Z:RdSl _ _ _ _) 1) ?_;refine R0 ?_
 refine WX.turn [10] 12 Z (λh hs=>ara 1 (show 1<=(((a2g s)++[(bA.mk (a05 n_) bI)])).length from Q0) hs) Z ?_;have a3:a38 s n_ bI=(List.drop 1 ((a2g s)++[(bA.mk (a05 n_) bI)])):=by simp only [a38,h1,cC]
 rw [a3];exact zX [12] ((offP p4 c3 1 2),(c3-1)) (by have z_:=(show ok n (a38 s n_ bI)from auh Q0 a2 a1 a0);rw [a3]at z_;exact GoT.okm Q0 z_);refine yE 501 8 9 ?_;have a3:a38 s n_ bI=((a2g s)++[(bA.mk (a05 n_) bI)]):=by simp only [a38,h1,cC]
 rw [a3];exact zX [10] (p4,c3) (by have z_:=(show ok n (a38 s n_ bI)from auh Q0 a2 a1 a0);rw [a3]at z_;exact GoT.okm Q0 z_)
theorem f230 (hn:n+0<=9)(c_:bX)(N0:Rd w K0 M0 c_.bB){now:Int}(a2:ok n c_)(a5:ok n now):
 DP 230 #[ady c_ K0 M0,vI now] w (pA w n (abc c_ now)):=by
 have hb:=bS0 hn;refine EN Tryz.func230 Z (aS1 N0) ?_;refine R0 ?_;refine WX.row0 501 6 none Z ?_;refine F0 1 aT ?_;have r1:=(okl a2.2).1
 refine LK (0,none,0,[],[]) (λ|(i,a3,a4,a0,a1)=>((i<=c_.bB.length)/\JE n a1/\(a1.length<=i)/\(a8u now c_.bB []=a8u now (c_.bB.drop i) a1),c_.bB.length-i,[(6,.v (vI i))],[(5,⟨68,[.int .i64 (c_.cA),.slice a3 (a1.length) a4]⟩)],[(501,⟨6,a3,a1.length,a4,a0⟩)],[(1,MF.ol a0 a1)])) ⟨zl,nA,Q10,Z⟩ [5,4,2,1] [4,2] [0] [0,1] ?_;rintro ⟨i,a3,a4,a0,a1⟩ ⟨v1,v2,v3,v4⟩;refine yKD 15 ?_ ?_<;>intro h1 ap
 obtain ⟨e1,a6,a7,a8⟩:=gO a2.2 i;refine yI 0 i a8 ?_;rintro am rfl;refine yL 0 2 e1 a6 ?_;rintro ⟨⟨⟨p1,c1⟩,⟨p2,c2⟩,⟨p3,c3⟩,_⟩,_⟩;refine KV Z Z O (λw Y=>f265 n Q0 e1.data (Y.q 2 Z) (Y.q 3 Z) (Y.q 4 Z) (a7.1) a5) λao=>?_;refine yKA 25 ?_ ?_<;>intro h2;refine yI 0 i a8 ?_;rintro al ⟨⟩;refine yL 0 5 e1 a6 ?_;rintro ⟨⟨⟨p4,c4⟩,⟨p5,c5⟩,⟨p6,c6⟩,_⟩,_⟩;refine CF 8 Z O (λw Y=>f118 n Q0 e1.data (Y.q 5 Z) (Y.q 6 Z) (Y.q 7 Z) (a7.1)) ?_;rintro ⟨⟨p7,c7⟩,⟨p8,c8⟩,⟨p9,c9⟩,_⟩ ab
 refine yD [11,12,13] λbs G0 aa=>?_;refine dT 8 [1,2,4,7,8,11] ?_;refine zDI 6 0 i aa Z a8 ?_;rintro ag ⟨⟩;refine dT 6 [15] ?_;refine zDL 8 0 14 e1 aa a6 ?_;rintro ⟨⟨⟨ai,ak⟩,⟨an,ah⟩,⟨af,aj⟩,_⟩,_⟩;refine dT 4 [19] ?_;refine DX.tail2 [10,11,12,13] Z Z J ?_;refine zB λaq=>?_;refine zT [11,12,13] 17 (aT.mk (a0m e1.data) e1.cO) (((p7,c7),(p8,c8),(p9,c9),(),()),()) λ_=>?_;refine WX.know (λG hΓ=>(hΓ.get 17 Z).rd.one) λac=>?_
 refine zP 501 43 (a1++[(aT.mk (a0m e1.data) e1.cO)]).length ac λae ad=>?_;refine zV [1,17] 18 ?_;refine SA ?_;refine zU [18] 1 ?_;exact ITr Z (i+1,ae,ad,_,(a1++[(aT.mk (a0m e1.data) e1.cO)])) ⟨Q0,(ac2 v2 (all_cons (An ab a7.2) nA)),Q3,(by rw [v4,abu a6];simp only [a8u,h2,cC])⟩ Q1 [0,1];refine SA ?_
 exact ITr Z (i+1,a3,a4,a0,a1) ⟨Q0,v2,Q3,(by rw [v4,abu a6];simp only [a8u,h2,cC])⟩ Q1 [0,1];have a9:=v4.trans (show _=a1 by rw [dn];simp only [a8u];omega);refine yE 501 1 14 ?_;rw [show abc c_ now=(bX.mk c_.cA a1) by simp only [abc,a9]];exact zX [15] ((),(a3,a4)) (An a2.1 (aby Q0 v2))
theorem f196 (hn:n+1<=9)(x_:aH)(N0:Rd w K0 M0 x_.bF)(N1:Rd w K1 M1 x_.bG.bB)(N2:Rd w K2 M2 x_.bH)(N3:Rd w K3 M3 x_.bS)(N4:Rd w K4 M4 x_.bM)(N5:Rd w K5 M5 x_.bQ){now:Int}(a6:ok n x_)(ab:ok n now):
 DP 196 #[agh x_ K0 M0 K1 M1 K2 M2 K3 M3 K4 M4 K5 M5,vI now] w (pA w n (a3n x_ now)):=by
 have hb:=bS1 hn;refine EN Tryz.func196 Z (aS6 N0 N1 N2 N3 N4 N5) ?_;refine KF Z 6 Z O (λw Y=>f66 n Q0 x_ (Y.q 0 Z) (Y.q 1 Z) (Y.q 2 Z) (Y.q 3 Z) (Y.q 4 Z) (Y.q 5 Z) a6) ?_;rintro ⟨⟨p1,c1⟩,⟨_,p2,c2⟩,⟨p3,c3⟩,⟨p4,c4⟩,⟨p5,c5⟩,⟨p6,c6⟩,_⟩ ad;dsimp only
 refine KF Z 18 Z O (λw Y=>f224 n Q0 (Y.q 2 Z) (a6.2.2.1) ab) ?_;rintro ⟨p7,c7⟩ ai;dsimp only
 have r1:=(okl a6.2.2.1).1
 refine LM Z (0,p4,c4,((a00 x_).bS),p6,c6,((a00 x_).bQ)) (λ|(i,a5,a4,a3,a2,a1,a0)=>((i<=x_.bH.length)/\JL n a3/\JL n a0/\(a3x x_ now x_.bH ((a00 x_).bS) ((a00 x_).bQ)=a3x x_ now (x_.bH.drop i) a3 a0),x_.bH.length-i,[(6,.v (vI i))],[(5,⟨74,[.slice p1 (((a00 x_).bF).length) c1,.int .i64 ((a00 x_).bG.cA),.slice p2 (((a00 x_).bG.bB).length) c2,.slice p7 ((a3m x_.bH now).length) c7,.slice a5 (a3.length) a4,.slice p5 (((a00 x_).bM).length) c5,.slice a2 (a0.length) a1,.int .i64 ((a00 x_).aP)]⟩)],[],[(15,MF.os a5 a4 a3),(16,MF.os p5 c5 ((a00 x_).bM)),(17,MF.os a2 a1 a0),_])) ⟨zl,ad.2.2.2.1,ad.2.2.2.2.2.1,Z⟩ [5,4,2,1] [4,2] [0,1,2,3,4,5,12,13] [0,1,2,3,4,5,12,13,15,16,17,19] ?_
 rintro ⟨i,a5,a4,a3,a2,a1,a0⟩ ⟨v1,v2,v3,v4⟩;refine yKA 23 ?_ ?_<;>intro h1;have az:=B.dt h1;obtain ⟨e1,ac,ae,ag⟩:=gO a6.2.2.1 i;refine yI 2 i ag ?_;rintro bj rfl;refine yL 2 20 e1 ac ?_;rintro ⟨⟨p8,c8⟩,⟨p9,c9⟩,_⟩;refine yI 2 i ag ?_;rintro bi ⟨⟩;refine yL 2 22 e1 ac ?_;rintro ⟨⟨b3,b6⟩,⟨b4,b8⟩,_⟩;refine yKA 40 ?_ ?_<;>intro h2;refine SA ?_
 exact ITr Z (i+1,a5,a4,a3,a2,a1,a0) ⟨Q0,(acp v2),(acp v3),(by rw [v4,abu ac];simp only [a3x,h2,cC])⟩ Q1 [0,1,2,3,4,5,12,13,15,16,17,19];refine zW 24 19 ?_;refine KV Z Z O (λw Y=>f225 n Q0 (Y.q 24 Z) e1.name (Y.q 20 Z) ai (ae.1)) λbq=>?_;refine yKA 45 ?_ ?_<;>intro h3;refine SA ?_
 exact ITr Z (i+1,a5,a4,a3,a2,a1,a0) ⟨Q0,(acp v2),(acp v3),(by rw [v4,abu ac];simp only [a3x,h2,h3,cC])⟩ Q1 [0,1,2,3,4,5,12,13,15,16,17,19]
 refine LM Z (0,a5,a4,a3) (λ|(i2,a8,a9,a7)=>(JL n a7/\(i2<=e1.bK.length)/\(aay e1 0 a3=aay e1 i2 a7),e1.bK.length-i2,[(8,.v (vI i2))],[(5,⟨74,[.slice p1 (((a00 x_).bF).length) c1,.int .i64 ((a00 x_).bG.cA),.slice p2 (((a00 x_).bG.bB).length) c2,.slice p7 ((a3m x_.bH now).length) c7,.slice a8 (a7.length) a9,.slice p5 (((a00 x_).bM).length) c5,.slice a2 (a0.length) a1,.int .i64 ((a00 x_).aP)]⟩)],[],[(15,MF.os a8 a9 a7),(16,MF.os p5 c5 ((a00 x_).bM)),(17,MF.os a2 a1 a0),_,(20,MF.rs .stb p8 c8 e1.name.parts),(21,MF.rs .stb p9 c9 e1.bK),(22,MF.rs .stb b3 b6 e1.name.parts),(23,MF.rs .stb b4 b8 e1.bK)])) ⟨(acp v2),zl,Z⟩ [44,43,42,41,7,6,5,4,2,1] [7,4,2] [0,1,2,3,4,5,12,13] [0,1,2,3,4,5,12,13,15,16,17,19,20,21,22,23] ?_
 rintro ⟨i2,a8,a9,a7⟩ ⟨v5,v6,v7⟩;have bl:=(okl (abx ae).2.1).1;refine yI 2 i ag ?_;rintro ca ⟨⟩;refine yL 2 25 e1 ac ?_;rintro ⟨⟨bk,bn⟩,⟨cc,bz⟩,_⟩;refine yKA 54 ?_ ?_<;>intro h4;have al:(_<(e1.bK.length:Int)):=B.dt h4;refine zW 27 12 ?_;refine zW 28 13 ?_;refine zW 29 19 ?_;refine zW 30 15 ?_;refine zW 31 16 ?_;refine zW 32 17 ?_;refine yD [15] λbs G0 af=>?_;refine dT 10 [1,2,4,7,8,11] ?_;refine zDI 6 2 i af Z ag ?_;rintro bt ⟨⟩;refine dT 8 [15] ?_
 refine DX.ldE2 8 2 33 e1 ttOk af J Z Z Z Z Z Z Z Z ac O O O ?_;rintro ⟨⟨bu,bw⟩,⟨bo,bh⟩,_⟩ ar;refine dT 6 [19] ?_;obtain ⟨e2,au,aw,bb⟩:=gO (abx ae).2.1 i2;refine zDI 10 34 i2 ar Z bb ?_;rintro bp rfl;refine dT 4 [23] ?_;refine DX.ldE2 12 34 35 e2 ttOk ar J Z Z Z Z Z Z Z Z au O O O ?_;rintro _ bm;refine DXF 13 35 Z J Z O (λw Y=>f226 n Q0 (Y.q 30 Z) e1.name (Y.q 20 Z) (acp v5) (ae.1) (aw.2.1)) ?_;rintro ⟨bc,b1⟩ ax;refine dT 1 [29] ?_;refine DX.tail2 [15] Z Z J ?_;refine SA ?_;refine zU [36] 15 ?_
 exact ITr Z (i2+1,bc,b1,(a38 a7 e1.name e2.bI)) ⟨ax,Q0,(by rw [v7];rw [aay];simp only [al,au,↓reduceIte])⟩ Q1 [0,1,2,3,4,5,12,13,15,16,17,19,20,21,22,23];have al:¬(_<(e1.bK.length:Int)):=B.df h4;have aa:=v7.trans (show _=(i2,a7) by rw [aay];simp only [al,↓reduceIte])
 refine KF Z 39 Z O (λw Y=>f227 n Q0 (Y.q 4 Z) e1.name (Y.q 20 Z) (a6.2.2.2.2.1) (ae.1)) ?_;rintro ⟨bx,cb⟩ ak;refine zW 41 12 ?_;refine zW 42 13 ?_;refine zW 43 19 ?_;refine zW 44 15 ?_;refine zW 45 16 ?_;refine zW 46 17 ?_
 refine KF Z 47 Z O (λw Y=>f228 n Q0 (aH.mk ((a00 x_).bF) ((a00 x_).bG) (a3m x_.bH now) a7 ((a00 x_).bM) a0 ((a00 x_).aP)) (Y.q 41 Z) (Y.q 42 Z) (Y.q 43 Z) (Y.q 44 Z) (Y.q 45 Z) (Y.q 46 Z) e1.name (Y.q 20 Z) (An ad.1 (An ad.2.1 (An ai (An (acp v5) (An ad.2.2.2.2.1 (An (acp v3) ad.2.2.2.2.2.2)))))) (ae.1) (i6 0)) ?_;rintro ⟨bf,bv⟩ am;refine yKA 83 ?_ ?_<;>intro an;refine yKA 87 ?_ ?_<;>intro ah
 have aj:=B.dt ah;refine yD [8] λbs G0 af=>?_;refine dT 5 [1,2,4,7] ?_;obtain ⟨e3,av,ao,b7⟩:=gO am 0;refine zDI 4 47 0 af Z b7 ?_;rintro b2 rfl;refine DX.ldE2 5 47 49 e3 ttOk af J Z Z Z Z Z Z Z Z av O O O ?_;rintro ⟨⟩ b9
 refine DXF 6 49 Z J Z O (λw Y=>f229 n Q0 (Y.q 46 Z) _ (Y.q 39 Z) (acp v3) ak ao) ?_;rintro ⟨b5,be⟩ aq;refine dT 1 [15] ?_;refine DX.tail2 [8] Z Z J ?_;refine SA ?_;refine zU [50] 17 ?_;exact ITr Z (i+1,a8,a9,a7,b5,be,(a4t a0 ((a1n x_.bM e1.name).1) e3)) ⟨Q0,(acp v5),aq,(by rw [v4,abu ac];simp only [a3x,h2,h3,aa,an,ah,av,cC])⟩ Q1 [0,1,2,3,4,5,12,13,15,16,17,19]
 have aj:=B.df ah;refine SA ?_;exact ITr Z (i+1,a8,a9,a7,a2,a1,a0) ⟨Q0,(acp v5),(acp v3),(by rw [v4,abu ac];simp only [a3x,h2,h3,aa,an,ah,cC])⟩ Q1 [0,1,2,3,4,5,12,13,15,16,17,19];refine SA ?_
 exact ITr Z (i+1,a8,a9,a7,a2,a1,a0) ⟨Q0,(acp v5),(acp v3),(by rw [v4,abu ac];simp only [a3x,h2,h3,aa,an,cC])⟩ Q1 [0,1,2,3,4,5,12,13,15,16,17,19];have az:=B.df h1;have aa:=v4.trans (show _=(a3,a0) by rw [dn];simp only [a3x];omega);refine KF Z 32 Z O (λw Y=>f230 n Q0 x_.bG (Y.q 1 Z) (a6.2.1) ab) ?_;rintro ⟨_,b0,ba⟩ ap;dsimp only
 rw [show a3n x_ now=(aH.mk ((a00 x_).bF) (abc x_.bG now) (a3m x_.bH now) a3 ((a00 x_).bM) a0 ((a00 x_).aP)) by simp only [a3n,aa]];exact yX [12,33,19,15,16,17] ((p1,c1),((),(b0,ba)),(p7,c7),(a5,a4),(p5,c5),(a2,a1),()) (An ad.1 (An ap (An ai (An (acp v2) (An ad.2.2.2.2.1 (An (acp v3) ad.2.2.2.2.2.2))))))
theorem f233 (hn:n+0<=9)(w_:bJ)(N0:Rd w K0 M0 w_.name.parts)(a0:ok n w_):
 DP 233 #[afr w_ K0 M0] w (pB (a6u w_)):=by
 refine EN Tryz.func233 Z (aS1 N0) ?_;refine KV Z Z O (λw Y=>f189 n Q0 w_.name (Y.q 0 Z) (a0.1)) λa7=>?_;refine yKA 6 ?_ ?_<;>intro h1;refine yKD 13 ?_ ?_<;>intro h2 a4;refine KV Z Z O (λw Y=>f120 n Q0 (a0.2.1) (i6 0) (i6 1000000)) λa2=>?_;refine yKA 18 ?_ ?_<;>intro h3;refine KV Z Z O (λw Y=>f120 n Q0 (a0.2.2.1) (i6 0) (i6 16)) λa6=>?_;refine yKA 23 ?_ ?_<;>intro h4
 refine KV Z Z O (λw Y=>f120 n Q0 (a0.2.2.2) (i6 1) (i6 20)) λa3=>?_;exact R4r Z Z (by simp only [a6u,h1,h2,h3,h4,cC]);exact R4r Z Z (by simp only [a6u,h1,h2,h3,h4,cC]);exact R4r Z Z (by simp only [a6u,h1,h2,h3,cC]);exact R4r Z Z (by simp only [a6u,h1,h2,cC]);exact R4r Z Z (by simp only [a6u,h1,cC])
theorem f234 (hn:n+0<=9){l:List aO}(N0:Rd w K0 M0 l){s:List bA}(N1:Rd w K1 M1 s)(w_:bJ)(N2:Rd w K2 M2 w_.name.parts)(a4:ok n l)(a7:ok n s)(a2:ok n w_):
 DP 234 #[vS K0 l M0,vS K1 s M1,afr w_ K2 M2] w (pB (abd l s w_)):=by
 have hb:=bS0 hn;refine EN Tryz.func234 Z (aS3 N0 N1 N2) ?_;have r1:=a4.1;refine LT 7 l (aaz w_) [5,0,1] [5] [0,1,2] ?_;rintro i ⟨v1,v2⟩;refine yKA 13 ?_ ?_<;>intro h1;have ap:=B.dt h1;obtain ⟨e1,a5,ab,ac⟩:=gO a4 i;refine LM Z 0 (λi2=>((i2<=e1.bK.length)/\(a8v w_ e1 0=a8v w_ e1 i2),e1.bK.length-i2,[(8,.v (vI i2))],[],[],[])) ⟨zl,Z⟩ [7,5,0,1] [5] [0,1,2] [0,1,2] ?_;rintro i2 ⟨v3,v4⟩
 have b2:=(okl (abx ab).2.1).1;refine yD [] λbs G0 a1=>?_;refine dT 15 [1,3,5] ?_;refine zDI 3 0 i a1 Z ac ?_;rintro b1 rfl;refine dT 13 [9] ?_;refine DX.ldE2 5 0 3 e1 ttOk a1 J Z Z Z Z Z Z Z Z a5 O O O ?_;rintro ⟨⟨p1,c1⟩,⟨p2,c2⟩,_⟩ aj;refine dT 9 [13,15,17] ?_
 ·skip
  refine zDC 24 ?_ ?_<;>intro h2;have a3:(_<(e1.bK.length:Int)):=B.dt h2;refine dT 7 [19,21] ?_;refine zDI 11 0 i aj Z ac ?_;rintro b0 ⟨⟩;refine dT 5 [25] ?_;refine DX.ldE2 13 0 5 e1 ttOk aj J Z Z Z Z Z Z Z Z a5 O O O ?_;rintro ⟨⟨p3,c3⟩,⟨p4,c4⟩,_⟩ b3;refine dT 2 [29,30] ?_;refine DXV 16 Z J Z O (λw Y=>f173 n Q0 e1.name (Y.q 5 Z) w_.name (Y.q 2 Z) (ab.1) (a2.1)) λbc=>?_;refine dT 0 [35] ?_;refine DX.tail2 [] Z Z J ?_;refine yKA 33 ?_ ?_<;>intro h3;refine yD [] λbs G0 a1=>?_
  refine dT 10 [1,3] ?_;refine zDI 2 0 i a1 Z ac ?_;rintro ba ⟨⟩;refine dT 8 [7] ?_;refine DX.ldE2 4 0 7 e1 ttOk a1 J Z Z Z Z Z Z Z Z a5 O O O ?_;rintro ⟨⟨p5,c5⟩,⟨p6,c6⟩,_⟩ ak;refine dT 6 [11] ?_;obtain ⟨e2,ad,az,aw⟩:=gO (abx ab).2.1 i2;refine zDI 6 8 i2 ak Z aw ?_;rintro b5 rfl;refine dT 4 [15] ?_;refine DX.ldE2 8 8 9 e2 ttOk ak J Z Z Z Z Z Z Z Z ad O O O ?_;rintro _ b7;refine dT 0 [19,20,23] ?_;refine DX.tail2 [] Z Z J ?_;refine yKA 47 ?_ ?_<;>intro h4
  have ar:=v4.trans (show _=(Ctl.ret true) by rw [a8v];simp only [a3,h3,ad,h4,↓reduceIte]);have ay:=v2.trans (show _=(some true) by rw [abu a5];simp only [aaz,ar]);exact R4r Z Z (by simp only [abd,ay]);refine SA ?_;exact ITr Z (i2+1) ⟨Q0,(by rw [v4];rw [a8v];simp only [a3,h3,ad,h4,↓reduceIte,Bool.false_eq_true])⟩ Q1 [0,1,2]
  have a0:=v4.trans (show _=(Ctl.nxt i2) by rw [a8v];simp only [a3,h3,↓reduceIte,Bool.false_eq_true]);rotate_left;have a3:¬(_<(e1.bK.length:Int)):=B.df h2;refine dT 0 [19,21,23,25,27,29,31,33,35] ?_;refine DX.tail2 [] Z Z J ?_;have a0:=v4.trans (show _=(Ctl.nxt i2) by rw [a8v];simp only [a3,↓reduceIte]);rotate_left
  all_goals
   refine SA ?_;exact ITr Z (i+1) ⟨Q0,(by rw [v2,abu a5];simp only [aaz,a0])⟩ Q1 [0,1,2]
 have ap:=B.df h1;have a0:=v2.trans (show _=none by rw [dn];simp only [aaz];omega);have b9:=a7.1;refine LT 9 s (a8w w_) [5,1] [5] [0,1,2] ?_;rintro i ⟨bb,aa⟩;refine yKA 51 ?_ ?_<;>intro an;have ah:=B.dt an;obtain ⟨e3,a6,ag,am⟩:=gO a7 i;refine yD [] λbs G0 a1=>?_;refine dT 16 [1,3] ?_;refine zDI 2 1 i a1 Z am ?_;rintro av rfl;refine dT 14 [7] ?_;refine DX.ldE2 4 1 15 e3 ttOk a1 J Z Z Z Z Z Z Z Z a6 O O O ?_;rintro ⟨⟨be,b4⟩,_⟩ a8
 refine dT 9 [11,12,15,17] ?_;refine zDC 62 ?_ ?_<;>intro a9;refine dT 7 [19,21] ?_;refine zDI 11 1 i a8 Z am ?_;rintro ax ⟨⟩;refine dT 5 [25] ?_;refine DX.ldE2 13 1 16 e3 ttOk a8 J Z Z Z Z Z Z Z Z a6 O O O ?_;rintro ⟨⟨b8,b6⟩,_⟩ aq;refine dT 2 [29,30] ?_;refine DXV 16 Z J Z O (λw Y=>f173 n Q0 e3.name (Y.q 16 Z) w_.name (Y.q 2 Z) (ag.1) (a2.1)) λau=>?_;refine dT 0 [35] ?_;refine DX.tail2 [] Z Z J ?_;refine yKA 71 ?_ ?_<;>intro al
 have af:=aa.trans (show _=(some true) by rw [abu a6];simp only [a8w,a9,al,cC]);exact R4r Z Z (by simp only [abd,a0,af]);refine SA ?_;exact ITr Z (i+1) ⟨Q0,(by rw [aa,abu a6];simp only [a8w,a9,al,cC])⟩ Q1 [0,1,2];refine dT 0 [19,21,23,25,27,29,31,33,35] ?_;refine DX.tail2 [] Z Z J ?_;refine SA ?_
 exact ITr Z (i+1) ⟨Q0,(by rw [aa,abu a6];simp only [a8w,a9,cC])⟩ Q1 [0,1,2];have ah:=B.df an;have ae:=aa.trans (show _=none by rw [dn];simp only [a8w];omega);exact R4r Z Z (by simp only [abd,a0,ae])
theorem f235 (hn:n+0<=9)(x_:aH)(N0:Rd w K0 M0 x_.bF)(N1:Rd w K1 M1 x_.bG.bB)(N2:Rd w K2 M2 x_.bH)(N3:Rd w K3 M3 x_.bS)(N4:Rd w K4 M4 x_.bM)(N5:Rd w K5 M5 x_.bQ)(a1:ok n x_):
 DP 235 #[agh x_ K0 M0 K1 M1 K2 M2 K3 M3 K4 M4 K5 M5] w (pA w n (a3y x_)):=by
 refine EN Tryz.func235 Z (aS6 N0 N1 N2 N3 N4 N5) ?_;refine KF Z 6 Z O (λw Y=>f66 n Q0 x_ (Y.q 0 Z) (Y.q 1 Z) (Y.q 2 Z) (Y.q 3 Z) (Y.q 4 Z) (Y.q 5 Z) a1) ?_;rintro ⟨⟨p1,c1⟩,⟨_,p2,c2⟩,⟨p3,c3⟩,⟨p4,c4⟩,⟨p5,c5⟩,⟨p6,c6⟩,_⟩ a0;dsimp only
 refine SW ?_;refine yB λp7=>?_;refine F0 18 bD ?_;refine yE 11 18 19 ?_;rw [show a3y x_=(Action.mk (aH.mk ((a00 x_).bF) ((a00 x_).bG) ((a00 x_).bH) ((a00 x_).bS) ((a00 x_).bM) ((a00 x_).bQ) (i64.wrap (((a00 x_).aP)+1))) ([])) by simp only [a3y]]
 exact zX [12,13,14,15,16,17,20] (((p1,c1),((),(p2,c2)),(p3,c3),(p4,c4),(p5,c5),(p6,c6),()),(p7,0)) (An (An a0.1 (An a0.2.1 (An a0.2.2.1 (An a0.2.2.2.1 (An a0.2.2.2.2.1 (An a0.2.2.2.2.2.1 (ad0 _))))))) (aby zl nA))
theorem f268 (hn:n+0<=9)(c_:bX)(N0:Rd w K0 M0 c_.bB)(n_:aA)(N1:Rd w K1 M1 n_.parts){now:Int}(a0:ok n c_)(a3:ok n n_)(a1:ok n now):
 DP 268 #[ady c_ K0 M0,adu n_ K1 M1,vI now] w (pAB w n (a7s c_ n_ now)):=by
 have hb:=bS0 hn;refine EN Tryz.func268 Z (aS2 N0 N1) ?_;have r1:=(okl a0.2).1;refine LT 8 c_.bB (a8x n_ now) [6,4,3,2] [6,4,3] [0,1] ?_;rintro i ⟨v1,v2⟩;refine yKD 13 ?_ ?_<;>intro h1 al;obtain ⟨e1,a2,a5,a6⟩:=gO a0.2 i;refine yD [] λbs G0 a4=>?_;refine dT 16 [1,2,5] ?_;refine zDI 3 0 i a4 Z a6 ?_;rintro aj rfl;refine dT 13 [9,11] ?_;refine zDL 6 0 2 e1 a4 a2 ?_;rintro ⟨⟨⟨p1,c1⟩,⟨p2,c2⟩,⟨p3,c3⟩,_⟩,_⟩;refine dT 11 [14] ?_
 refine DXV 8 Z J Z O (λw Y=>f173 n Q0 e1.data.name (Y.q 2 Z) n_ (Y.q 1 Z) ((ac0 a5.1).1) a3) λak=>?_;refine dT 9 [19] ?_;refine zDC 25 ?_ ?_<;>intro h2;refine dT 6 [21,22,25] ?_;refine zDI 13 0 i a4 Z a6 ?_;rintro ai ⟨⟩;refine dT 4 [29] ?_;refine zDL 15 0 5 e1 a4 a2 ?_;rintro ⟨⟨⟨p4,c4⟩,⟨p5,c5⟩,⟨p6,c6⟩,_⟩,_⟩;refine dT 2 [33] ?_;refine DXV 17 Z J Z O (λw Y=>f265 n Q0 e1.data (Y.q 5 Z) (Y.q 6 Z) (Y.q 7 Z) (a5.1) a1) λah=>?_;refine dT 0 [37] ?_;refine DX.tail2 [] Z Z J ?_;refine yKA 34 ?_ ?_<;>intro h3
 refine yI 0 i a6 ?_;rintro ag ⟨⟩;refine yL 0 8 e1 a2 ?_;rintro ⟨⟨⟨p7,c7⟩,⟨p8,c8⟩,⟨p9,c9⟩,_⟩,_⟩;refine CF 11 Z O (λw Y=>f118 n Q0 e1.data (Y.q 8 Z) (Y.q 9 Z) (Y.q 10 Z) (a5.1)) ?_;rintro ⟨⟨aa,ad⟩,⟨ae,a9⟩,⟨a8,ab⟩,_⟩ af;have ac:=v2.trans (show _=(some (a0m e1.data,true)) by rw [abu a2];simp only [a8x,h2,h3,cC]);rw [show a7s c_ n_ now=(a0m e1.data,true) by simp only [a7s,ac]];exact yX [14,15,16] _ af;refine SA ?_
 exact ITr Z (i+1) ⟨Q0,(by rw [v2,abu a2];simp only [a8x,h2,h3,cC])⟩ Q1 [0,1];refine dT 0 [21,23,25,27,29,31,33,35,37] ?_;refine DX.tail2 [] Z Z J ?_;refine SA ?_;exact ITr Z (i+1) ⟨Q0,(by rw [v2,abu a2];simp only [a8x,h2,cC])⟩ Q1 [0,1];have a7:=v2.trans (show _=none by rw [dn];simp only [a8x];omega);refine F1 14 Str ?_;refine F1 15 UInt8 ?_;refine F1 16 Str ?_
 rw [show a7s c_ n_ now=(aJ.mk (aA.mk ([])) ([]) (aA.mk ([])) 0 0,false) by simp only [a7s,a7]];exact yX [14,15,16] ((none,0),(none,0),(none,0),(),()) (An (acd) (An (acd) (An (acd) (An (i6 0) (i6 0)))))
theorem f236 (hn:n+0<=9)(x_:aH)(N0:Rd w K0 M0 x_.bF)(N1:Rd w K1 M1 x_.bG.bB)(N2:Rd w K2 M2 x_.bH)(N3:Rd w K3 M3 x_.bS)(N4:Rd w K4 M4 x_.bM)(N5:Rd w K5 M5 x_.bQ)(n_:aA)(N6:Rd w K6 M6 n_.parts){now:Int}(a0:ok n x_)(a1:ok n n_)(a2:ok n now):
 DP 236 #[agh x_ K0 M0 K1 M1 K2 M2 K3 M3 K4 M4 K5 M5,adu n_ K6 M6,vI now] w (pAB w n (a5w x_ n_ now)):=by
 refine EN Tryz.func236 Z (aC 0 N0 (aC 1 N1 (aC 2 N2 (aC 3 N3 (aC 4 N4 (aC 5 N5 (aC 6 N6 ac8))))))) ?_;refine KV Z Z O (λw Y=>f220 n Q0 (Y.q 0 Z) n_ (Y.q 6 Z) (a0.1) a1) λa7=>?_;have q1:=aji x_.bF n_;refine yKD 14 ?_ ?_<;>intro h1 a9;have r2:=i8 a7;refine R0 ?_;refine SI 17 ?_;obtain ⟨e1,a4,a5,a6⟩:=gO a0.1 ((a4l x_.bF n_).toNat);refine zI 0 _ a6 ?_;rintro a8 rfl;refine zL 0 7 e1 a4 ?_;rintro ⟨⟨p1,c1⟩,⟨p2,c2⟩,⟨p3,c3⟩,_⟩
 refine CF 10 Z O (λw Y=>f118 n Q0 e1 (Y.q 7 Z) (Y.q 8 Z) (Y.q 9 Z) a5) ?_;rintro ⟨⟨p4,c4⟩,⟨p5,c5⟩,⟨p6,c6⟩,_⟩ a3;dsimp only
 rw [show a5w x_ n_ now=(a0m e1,true) by simp only [a5w,h1,a4,cC]];exact yX [13,14,15] ((p4,c4),(p5,c5),(p6,c6),(),()) a3;refine KF Z 7 Z O (λw Y=>f268 n Q0 x_.bG (Y.q 1 Z) n_ (Y.q 6 Z) (a0.2.1) a1 a2) ?_;rintro ⟨⟨p1,c1⟩,⟨p2,c2⟩,⟨p3,c3⟩,_⟩ a3;dsimp only
 rw [show a5w x_ n_ now=((a7s x_.bG n_ now).1,(a7s x_.bG n_ now).2) by simp only [a5w,h1,cC]];exact yX [10,11,12] ((p1,c1),(p2,c2),(p3,c3),(),()) a3
theorem f237 (hn:n+0<=9)(c_:bX)(N0:Rd w K0 M0 c_.bB)(n_:aA)(N1:Rd w K1 M1 n_.parts){now:Int}(a0:ok n c_)(a2:ok n n_)(a1:ok n now):
 DP 237 #[ady c_ K0 M0,adu n_ K1 M1,vI now] w (pA w n (a7t c_ n_ now)):=by
 refine EN Tryz.func237 Z (aS2 N0 N1) ?_;refine KF Z 2 Z O (λw Y=>f112 n Q0 c_ (Y.q 0 Z) a0) ?_;rintro ⟨_,p1,c1⟩ a3;have q1:=au7 c_;refine KV Z Z O (λw Y=>f258 n Q0 (Y.q 0 Z) n_ (Y.q 1 Z) (a0.2) a2) λa6=>?_;have q2:=asf c_.bB n_;refine yKD 16 ?_ ?_<;>intro h1 ad;have r2:=i8 a6;refine R0 ?_;refine SI 19 ?_;refine zN (kk:=6) 501 3 4 λac af=>?_
 have a4:(a1c c_.bB n_).toNat<((a12 c_).bB).length:=Q4;refine zR 501 _ a4 ?_;rintro ab rfl;obtain ⟨e1,a5,a8,aa⟩:=gO a3.2 _;refine R0 ?_;refine zO 501 4 5 _ a5 ?_;rintro A1 B1 ⟨⟨⟨p2,c2⟩,⟨p3,c3⟩,⟨p4,c4⟩,_⟩,_⟩ a7 ae;refine zS 501 a7 a4 ?_;refine R0 ?_
 refine WX.turn [8,9,10,11,12] 13 Z (λh hs=>ae8 (e:=(aT.mk e1.data now)) (x:=(((p2,c2),(p3,c3),(p4,c4),(),()),())) aa hs) Z ?_;refine zE 501 13 14 (hn:=(by first|(simp;done)|(simp;omega))) ?_;refine WX.lsl 7 1 ((a12 c_).bB.set (((a1c c_.bB n_)).toNat) (aT.mk e1.data now)).length Z Q14 ?_
 refine WX.lsl 6 1 ((a12 c_).bB.set (((a1c c_.bB n_)).toNat) (aT.mk e1.data now)).length Z Q14 ?_;refine SL 18 ((a12 c_).bB.set (((a1c c_.bB n_)).toNat) (aT.mk e1.data now)).length ?_;have a9:a7t c_ n_ now=(bX.mk ((a12 c_).cA) ((a12 c_).bB.set ((a1c c_.bB n_).toNat) (aT.mk e1.data now))):=by simp only [a7t,h1,a5,cC]
 have r4:=(okl a3.2).1;rw [a9];exact zX [15] _ (An a3.1 (aby Q5 (adz (okl (aca a3).2).2 (show ok n ((aT.mk e1.data now):aT)from (An (ad5 a8).1 a1)))));rw [show a7t c_ n_ now=(a12 c_) by simp only [a7t,h1,cC]];exact yX [3] _ a3
theorem f269 (hn:n+1<=9){l:List aW}(N0:Rd w K0 M0 l)(a:aW)(aa:ok n l)(a8:ok n a):
 DP 269 #[vS K0 l M0,.agg #[vI a.face,vI a.bI,vI a.expiry]] w (pS w (n+1) (a2n l a)):=by
 have hb:=bS1 hn;refine EN Tryz.func269 Z (aS1 N0) ?_;refine yB λp1=>?_;refine F0 1 aW ?_;refine R0 ?_;refine WX.slot 6 (y:= .v (.bool false)) Z O ?_;have r1:=aa.1
 refine LK (p1,0,[],[],false,0) (λ|(a3,a4,a1,a0,a2,i)=>((i<=l.length)/\JE (n+1) a0/\(a0.length<=2*i)/\(a24 a l [] false=a24 a (l.drop i) a0 a2),l.length-i,[(5,.v (vS a3 a0 a4)),(6,.v (.bool a2)),(7,.v (vI i))],[],[(8,⟨3,a3,a0.length,a4,a1⟩)],[(1,MF.ol a1 a0)])) ⟨zl,nA,Q10,Z⟩ [3,0] [3] [0] [0,1] ?_;rintro ⟨a3,a4,a1,a0,a2,i⟩ ⟨v1,v2,v3,v4⟩;refine yKD 12 ?_ ?_<;>intro h1 aq;obtain ⟨e1,a5,ad,a7⟩:=gO aa i;refine yD [] λbs G0 a6=>?_
 refine dT 9 [1,3,5] ?_;refine zDC 17 ?_ ?_<;>intro h2;refine dT 7 [7,9] ?_;refine zDI 5 0 i a6 Z a7 ?_;rintro ak rfl;refine dT 5 [13] ?_;refine zDL 7 0 2 e1 a6 a5 ?_;rintro _;refine dT 0 [17,18,21,23] ?_;refine DX.tail2 [] Z Z J ?_;refine yKA 26 ?_ ?_<;>intro h3;have ac:=B.dt h3;refine yB λp2=>?_;refine zT [] 2 a ((),(),()) λa9=>?_;refine zP 8 29 (a0++[a]).length a9 λp3 c1=>?_;refine zV [1,2] 3 ?_;refine yD [] λbs G0 a6=>?_;refine dT 6 [1,3] ?_;refine zDI 2 0 i a6 Z a7 ?_;rintro ah ⟨⟩
 refine dT 4 [7] ?_;refine zDL 4 0 4 e1 a6 a5 ?_;rintro _;refine dT 0 [11,12,15] ?_;refine DX.tail2 [] Z Z J ?_;refine yKA 38 ?_ ?_<;>intro h4;have ae:=B.nt' h4;refine yI 0 i a7 ?_;rintro ai ⟨⟩;refine zL 0 4 e1 a5 ?_;rintro _;refine zB λp4=>?_;refine zT [] 4 e1 ((),(),()) λal=>?_;refine zP 8 44 ((a0++[a])++[e1]).length al λp5 c2=>?_;refine zV [3,4] 5 ?_;refine SA ?_;refine R0 ?_;refine WX.slot 6 (y:= .v (.bool true)) Z O ?_;refine zU [5] 1 ?_
 exact IT (p5,c2,_,((a0++[a])++[e1]),true,i+1) ⟨Q0,(ac2 (ac2 v2 (λa ha=>GoT.okm Q0 ((all_cons a8 nA) a ha))) (λa ha=>GoT.okm Q0 ((all_cons ad nA) a ha))),Q5,(by rw [v4,abu a5];simp only [a24,h2,h3,h4,cC])⟩ Q1 [0,1];have ae:=B.nf' h4;refine SA ?_;refine R0 ?_;refine WX.slot 6 (y:= .v (.bool true)) Z O ?_;refine zU [3] 1 ?_
 exact IT (p3,c1,_,(a0++[a]),true,i+1) ⟨Q0,(ac2 v2 (λa ha=>GoT.okm Q0 ((all_cons a8 nA) a ha))),Q5,(by rw [v4,abu a5];simp only [a24,h2,h3,h4,cC])⟩ Q1 [0,1];have ac:=B.df h3;refine yD [] λbs G0 a6=>?_;refine dT 6 [1,3] ?_;refine zDI 2 0 i a6 Z a7 ?_;rintro ah ⟨⟩;refine dT 4 [7] ?_;refine zDL 4 0 2 e1 a6 a5 ?_;rintro _;refine dT 0 [11,12,15] ?_;refine DX.tail2 [] Z Z J ?_;refine yKA 38 ?_ ?_<;>intro h4
 have ae:=B.nt' h4;refine yI 0 i a7 ?_;rintro ai ⟨⟩;refine zL 0 2 e1 a5 ?_;rintro _;refine zB λp2=>?_;refine zT [] 2 e1 ((),(),()) λa9=>?_;refine zP 8 44 (a0++[e1]).length a9 λp3 c1=>?_;refine zV [1,2] 3 ?_;refine SA ?_;refine zU [3] 1 ?_
 exact ITr Z (p3,c1,_,(a0++[e1]),a2,i+1) ⟨Q0,(ac2 v2 (λa ha=>GoT.okm Q0 ((all_cons ad nA) a ha))),Q5,(by rw [v4,abu a5];simp only [a24,h2,h3,h4,cC])⟩ Q1 [0,1];have ae:=B.nf' h4;refine SA ?_;exact ITr Z (a3,a4,a1,a0,a2,i+1) ⟨Q0,v2,Q5,(by rw [v4,abu a5];simp only [a24,h2,h3,h4,cC])⟩ Q1 [0,1]
 refine dT 0 [7,9,11,13,15,17,19,21,23] ?_;refine DX.tail2 [] Z Z J ?_;refine yD [] λbs G0 a6=>?_;refine dT 6 [1,3] ?_;refine zDI 2 0 i a6 Z a7 ?_;rintro ak rfl;refine dT 4 [7] ?_;refine zDL 4 0 2 e1 a6 a5 ?_;rintro _;refine dT 0 [11,12,15] ?_;refine DX.tail2 [] Z Z J ?_;refine yKA 38 ?_ ?_<;>intro h3;have ac:=B.nt' h3;refine yI 0 i a7 ?_;rintro ah ⟨⟩;refine zL 0 2 e1 a5 ?_;rintro _;refine zB λp2=>?_;refine zT [] 2 e1 ((),(),()) λa9=>?_
 refine zP 8 44 (a0++[e1]).length a9 λp3 c1=>?_;refine zV [1,2] 3 ?_;refine SA ?_;refine zU [3] 1 ?_;exact ITr Z (p3,c1,_,(a0++[e1]),a2,i+1) ⟨Q0,(ac2 v2 (λa ha=>GoT.okm Q0 ((all_cons ad nA) a ha))),Q5,(by rw [v4,abu a5];simp only [a24,h2,h3,cC])⟩ Q1 [0,1];have ac:=B.nf' h3;refine SA ?_
 exact ITr Z (a3,a4,a1,a0,a2,i+1) ⟨Q0,v2,Q5,(by rw [v4,abu a5];simp only [a24,h2,h3,cC])⟩ Q1 [0,1];have ab:=v4.trans (show _=(a0,a2) by rw [dn];simp only [a24];omega);refine yKN 47 ?_ ?_<;>intro ag ao;refine yB λap=>?_;refine zT [] 14 a ((),(),()) λaf=>?_;refine zP 8 50 (a0++[a]).length af λam an=>?_;refine zV [1,14] 15 ?_;refine yE 8 15 16 ?_
 rw [show a2n l a=(a0++[a]) by simp only [a2n,ab,ag,cC]];exact zX [17] (am,an) (aby Q5 (ac2 v2 (λa ha=>GoT.okm Q0 ((all_cons (α:=aW) a8 nA) a ha))));refine yE 8 1 14 ?_;rw [show a2n l a=a0 by simp only [a2n,ab,ag,cC]];exact zX [15] (a3,a4) (aby Q0 v2)
theorem f238 (hn:n+1<=9){l:List aO}(N0:Rd w K0 M0 l)(w_:bJ)(N1:Rd w K1 M1 w_.name.parts){side:Int}{now:Int}(hq0:aen l)(a2:ok n l)(a1:ok n w_)(a0:ok n side)(a3:ok n now):
 DP 238 #[vS K0 l M0,afr w_ K1 M1,vI side,vI now] w (pSB w n (a17 l w_ side now)):=by
 refine EN Tryz.func238 Z (aS2 N0 N1) ?_;refine KF Z 2 Z O (λw Y=>f113 n Q0 (Y.q 0 Z) a2) ?_;rintro ⟨p1,c1⟩ a8;have q1:=aso l;refine KV Z Z O (λw Y=>f260 n Q0 (Y.q 0 Z) w_.name (Y.q 1 Z) a2 (a1.1)) λad=>?_;have q2:=alh l w_.name;refine KV Z Z O (λw Y=>f233 n Q0 w_ (Y.q 1 Z) a1) λao=>?_;refine yKN 24 ?_ ?_<;>intro h1 aq;have a4:a17 l w_ side now=(a0k l,false):=by simp only [a17,h1,cC]
 rotate_left;refine KV Z Z O (λw Y=>f120 n Q0 a0 (i6 0) (i6 6)) λak=>?_;refine yKN 29 ?_ ?_<;>intro h2 al;have a4:a17 l w_ side now=(a0k l,false):=by simp only [a17,h1,h2,cC]
 rotate_left;refine yKD 32 ?_ ?_<;>intro h3 aj;refine yKA 37 ?_ ?_<;>intro h4;have a6:=B.dt h4;have a4:a17 l w_ side now=(a0k l,false):=by simp only [a17,h1,h2,h3,h4,cC]
 rotate_left;have a6:=B.df h4;refine SW ?_;refine yKD 48 ?_ ?_<;>intro h5 am;refine KF Z 4 Z O (λw Y=>f110 n Q0 w_.name (Y.q 1 Z) (a1.1)) ?_;rintro ⟨p2,c2⟩ ac;refine yB λp3=>?_;refine R0 ?_;refine zT [] 6 (aW.mk side w_.bI (i64.wrap (now+w_.cD))) ((),(),()) λ_=>?_;refine zE 55 6 7 ?_;refine zB λp4=>?_;have r2:=i8 (a1.2.2.2);refine zN (kk:=3) 501 3 9 λae ai=>?_
 refine zT [5,8] 10 (aO.mk (a05 w_.name) ([(aW.mk side w_.bI (i64.wrap (now+w_.cD)))]) 0) ((p2,c2),(p3,1),()) λ_=>?_;refine WX.know (λG hΓ=>(hΓ.get 10 Z).rd.one) λaf=>?_;refine zP 501 57 ((a0k l)++[(aO.mk (a05 w_.name) ([(aW.mk side w_.bI (i64.wrap (now+w_.cD)))]) 0)]).length af λp5 c3=>?_;refine zV [9,10] 11 ?_;refine yE 501 11 12 ?_
 have a4:a17 l w_ side now=((a0k l)++[(aO.mk (a05 w_.name) ([(aW.mk side w_.bI (i64.wrap (now+w_.cD)))]) 0)],true):=by simp only [a17,h1,h2,h3,h4,cC]
 rw [a4];exact zX [13] (p5,c3) (by have z_:=(show ok n (a17 l w_ side now).1 from avw Q0 a2 a1 a0 hq0);rw [a4]at z_;exact GoT.okm Q0 z_);exact absurd (h5.symm.trans h3) Bool.false_ne_true;refine SW ?_;refine yKA 48 ?_ ?_<;>intro h4;have a6:=B.dt h4;exact absurd (h3.symm.trans h4) Bool.false_ne_true;have a6:=B.df h4;refine yD [] λbs G0 ab=>?_;refine dT 6 [1,3] ?_;have r2:=i8 ad;refine DI 60 ?_;obtain ⟨e1,a7,a5,a9⟩:=gO a8 ((a06 l w_.name).toNat);refine zDI 2 2 _ ab Z a9 ?_
 rintro ah rfl;refine dT 4 [7] ?_;refine zDL 4 2 4 e1 ab a7 ?_;rintro ⟨⟨p2,c2⟩,⟨p3,c3⟩,_⟩;refine dT 2 [10] ?_;refine DXF 6 6 Z J Z O (λw Y=>f269 n Q0 (Y.q 5 Z) (aW.mk side w_.bI (i64.wrap (now+w_.cD))) (a5.2.1) (An a0 (An a1.2.1 (ad0 _)))) ?_;rintro ⟨p4,c4⟩ ac;refine dT 0 [15] ?_;refine DX.tail2 [] Z Z J ?_;refine R0 ?_;refine SI 67 ?_;refine zN (kk:=3) 501 3 8 λae ai=>?_;have aa:(a06 l w_.name).toNat<(a0k l).length:=Q4
 refine zR 501 _ aa ?_;rintro an ⟨⟩;refine R0 ?_;refine zO 501 8 9 _ a7 ?_;rintro A1 B1 ⟨⟨p5,c5⟩,⟨p6,c6⟩,_⟩ ag au;refine zS 501 ag aa ?_;refine R0 ?_;refine WX.turn [11,7,13,14] 15 Z (λh hs=>ae8 (e:=(aO.mk e1.name (a2n e1.bK (aW.mk side w_.bI (i64.wrap (now+w_.cD)))) e1.cH)) (x:=((p5,c5),(p4,c4),())) a9 hs) Z ?_
 refine zE 501 15 16 (hn:=(by first|(simp;done)|(simp;omega))) ?_;refine SL 8 ((a0k l).set (((a06 l w_.name)).toNat) (aO.mk e1.name (a2n e1.bK (aW.mk side w_.bI (i64.wrap (now+w_.cD)))) e1.cH)).length ?_
 refine SL 71 ((a0k l).set (((a06 l w_.name)).toNat) (aO.mk e1.name (a2n e1.bK (aW.mk side w_.bI (i64.wrap (now+w_.cD)))) e1.cH)).length ?_;refine SL 66 ((a0k l).set (((a06 l w_.name)).toNat) (aO.mk e1.name (a2n e1.bK (aW.mk side w_.bI (i64.wrap (now+w_.cD)))) e1.cH)).length ?_
 refine SL 59 ((a0k l).set (((a06 l w_.name)).toNat) (aO.mk e1.name (a2n e1.bK (aW.mk side w_.bI (i64.wrap (now+w_.cD)))) e1.cH)).length ?_;refine SL 10 ((a0k l).set (((a06 l w_.name)).toNat) (aO.mk e1.name (a2n e1.bK (aW.mk side w_.bI (i64.wrap (now+w_.cD)))) e1.cH)).length ?_
 refine SL 16 ((a0k l).set (((a06 l w_.name)).toNat) (aO.mk e1.name (a2n e1.bK (aW.mk side w_.bI (i64.wrap (now+w_.cD)))) e1.cH)).length ?_;have a4:a17 l w_ side now=((a0k l).set ((a06 l w_.name).toNat) (aO.mk e1.name (a2n e1.bK (aW.mk side w_.bI (i64.wrap (now+w_.cD)))) e1.cH),true):=by simp only [a17,h1,h2,h3,a7,cC]
 rw [a4];exact zX [17] _ (by have z_:=(show ok n (a17 l w_ side now).1 from avw Q0 a2 a1 a0 hq0);rw [a4]at z_;exact GoT.okm Q0 z_)
 all_goals
  refine R0 ?_;rw [a4];exact zX [3] _ (by have z_:=(show ok n (a17 l w_ side now).1 from avw Q0 a2 a1 a0 hq0);rw [a4]at z_;exact GoT.okm Q0 z_)
theorem f239 (hn:n+0<=9){l:List aO}(N0:Rd w K0 M0 l)(n_:aA)(N1:Rd w K1 M1 n_.parts){side:Int}(a0:ok n l)(a2:ok n n_)(a6:ok n side):
 DP 239 #[vS K0 l M0,adu n_ K1 M1,vI side] w (pB (ab0 l n_ side)):=by
 have hb:=bS0 hn;refine EN Tryz.func239 Z (aS2 N0 N1) ?_;refine KV Z Z O (λw Y=>f260 n Q0 (Y.q 0 Z) n_ (Y.q 1 Z) a0 a2) λad=>?_;have q1:=alh l n_;refine LM Z 0 (λi=>((i<=rqL l (a06 l n_).toNat)/\(rqL l (a06 l n_).toNat<=bd n)/\(a8y l n_ side 0=a8y l n_ side i),rqL l (a06 l n_).toNat+1-i,[(8,.v (vI i))],[],[],[])) ⟨zl,(awc a0 _),Z⟩ [7,0,2] [] [0,1] [0,1] ?_;rintro i ⟨v1,v2,v3⟩;refine yKA 14 ?_ ?_<;>intro h1;have a4:((a06 l n_)>=0):=B.dt h1
 have r2:=i8 ad;refine R0 ?_;refine SI 17 ?_;obtain ⟨e1,a3,ab,a8⟩:=gO a0 (((a06 l n_)).toNat);refine zI 0 (((a06 l n_)).toNat) a8 ?_;rintro ah rfl;refine yL 0 2 e1 a3 ?_;rintro ⟨⟨p1,c1⟩,⟨p2,c2⟩,_⟩;refine yKA 23 ?_ ?_<;>intro h2;have a5:(((i:Nat):Int)<(e1.bK.length:Int)):=B.dt h2;refine R0 ?_;refine SI 27 ?_;refine zI 0 (((a06 l n_)).toNat) a8 ?_;rintro ag ⟨⟩;refine yL 0 4 e1 a3 ?_;rintro ⟨⟨p3,c3⟩,⟨p4,c4⟩,_⟩;obtain ⟨e2,a7,af,aa⟩:=gO (abx ab).2.1 i;refine yI 5 i aa ?_
 rintro ae rfl;refine yL 5 6 e2 a7 ?_;rintro _;refine yKA 36 ?_ ?_<;>intro h3;have ac:=v3.trans (show _=(Ctl.ret true) by rw [a8y];simp only [(show i<=rqL l (a06 l n_).toNat by omega),a4,a3,a5,a7,h3,↓reduceIte]);exact R4r Z Z (by simp only [ab0,ac]);refine SA ?_
 exact ITr Z (i+1) ⟨(by have z_:=awz (show l[(a06 l n_).toNat]? =some _ by assumption);omega),Q12,(by rw [v3];rw [a8y];simp only [(show i<=rqL l (a06 l n_).toNat by omega),a4,a3,a5,a7,h3,↓reduceIte,Bool.false_eq_true])⟩ Q1 [0,1];have a5:¬(((i:Nat):Int)<(e1.bK.length:Int)):=B.df h2
 have a1:=v3.trans (show _=(Ctl.nxt i) by rw [a8y];simp only [(show i<=rqL l (a06 l n_).toNat by omega),a4,a3,a5,↓reduceIte]);exact R4r Z Z (by simp only [ab0,a1]);have a4:¬((a06 l n_)>=0):=B.df h1;have a1:=v3.trans (show _=(Ctl.nxt i) by rw [a8y];simp only [(show i<=rqL l (a06 l n_).toNat by omega),a4,↓reduceIte]);exact R4r Z Z (by simp only [ab0,a1])
theorem f240 (hn:n+0<=9)(w_:bJ)(N0:Rd w K0 M0 w_.name.parts)(a0:ok n w_):
 DP 240 #[afr w_ K0 M0] w (pAB w n (a1o w_)):=by
 refine EN Tryz.func240 Z (aS1 N0) ?_;refine KF Z 1 Z O (λw Y=>f117 n Q0 w_ (Y.q 0 Z) a0) ?_;rintro ⟨⟨p1,c1⟩,_⟩ a1;refine yKD 9 ?_ ?_<;>intro h1 a2;rw [show a1o w_=(a1g w_,false) by simp only [a1o,h1,cC]];exact yX [2] _ a1;refine SW ?_;rw [show a1o w_=(bJ.mk ((a1g w_).name) ((a1g w_).bI) (i64.wrap (w_.cM-1)) ((a1g w_).cD),true) by simp only [a1o,h1,cC]]
 exact yX [2] _ (An a1.1 (An a1.2.1 (An (ad0 _) a1.2.2.2)))
theorem f242 (hn:n+0<=9){l:List aO}(N0:Rd w K0 M0 l)(n_:aA)(N1:Rd w K1 M1 n_.parts){now:Int}(a1:ok n l)(a2:ok n n_)(a0:ok n now):
 DP 242 #[vS K0 l M0,adu n_ K1 M1,vI now] w (pS w n (a4u l n_ now)):=by
 refine EN Tryz.func242 Z (aS2 N0 N1) ?_;refine KF Z 2 Z O (λw Y=>f113 n Q0 (Y.q 0 Z) a1) ?_;rintro ⟨p1,c1⟩ a3;have q1:=aso l;refine KV Z Z O (λw Y=>f260 n Q0 (Y.q 0 Z) n_ (Y.q 1 Z) a1 a2) λa7=>?_;have q2:=alh l n_;refine yKD 15 ?_ ?_<;>intro h1 ad;have r2:=i8 a7;refine R0 ?_;refine SI 17 ?_;refine zN (kk:=3) 501 3 4 λac af=>?_;have a5:(a06 l n_).toNat<(a0k l).length:=Q4;refine zR 501 _ a5 ?_;rintro ab rfl
 obtain ⟨e1,a6,a4,aa⟩:=gO a3 _;refine R0 ?_;refine zO 501 4 5 _ a6 ?_;rintro A1 B1 ⟨⟨p2,c2⟩,⟨p3,c3⟩,_⟩ a8 ae;refine zS 501 a8 a5 ?_;refine R0 ?_;refine WX.turn [7,8,9,10] 11 Z (λh hs=>ae8 (e:=(aO.mk e1.name e1.bK now)) (x:=((p2,c2),(p3,c3),())) aa hs) Z ?_
 refine zE 501 11 12 (hn:=(by first|(simp;done)|(simp;omega))) ?_;refine SL 6 ((a0k l).set (((a06 l n_)).toNat) (aO.mk e1.name e1.bK now)).length ?_;refine SL 21 ((a0k l).set (((a06 l n_)).toNat) (aO.mk e1.name e1.bK now)).length ?_;refine SL 16 ((a0k l).set (((a06 l n_)).toNat) (aO.mk e1.name e1.bK now)).length ?_
 refine SL 7 ((a0k l).set (((a06 l n_)).toNat) (aO.mk e1.name e1.bK now)).length ?_;refine SL 10 ((a0k l).set (((a06 l n_)).toNat) (aO.mk e1.name e1.bK now)).length ?_;have a9:a4u l n_ now=((a0k l).set ((a06 l n_).toNat) (aO.mk e1.name e1.bK now)):=by simp only [a4u,h1,a6,cC]
 have r4:=a3.1;rw [a9];exact zX [13] _ (aby Q5 (adz (okl a3).2 (show ok n ((aO.mk e1.name e1.bK now):aO)from (An (abx a4).1 (An (abx a4).2.1 a0)))));rw [show a4u l n_ now=(a0k l) by simp only [a4u,h1,cC]];exact yX [3] _ a3
theorem f271 (hn:n+0<=9)(l:(List aT))(K0:OA)(M0:Nat){k:Int}{H:GH}(hH:Le H (hp w))(hown:Sep H (GoT.oa l (K0,M0)))(hq0:0<=k/\k<l.length)(a1:ok n l)(a3:ok n k):
 Does Tryz.prog 271 #[vS K0 l M0,vI k] w H (Post w H (λx:GoT.X ((List aT))=>(GoT.sh ((a2w l k):(List aT)) x).headD undef) (λx=>GoT.oa ((a2w l k):(List aT)) x) (ok n ((a2w l k):(List aT)))):=by
 have hb:=bS0 hn;refine WX.enterM (tt:=tt) 1 Tryz.func271 Z J Z ac8 hH hown (λf hf=>GoT.oak f hf) Z ?_;refine R0 ?_;refine zN (kk:=6) 501 1 2 λa4 a6=>?_;refine WX.cap 501 Z λa2=>?_;refine WX.know (λG hΓ=>(hΓ.get 2 Z).rd.one) λa0=>?_;refine WX.draw [4,9,10] mixed λbs G0 a5=>?_;refine dT 9 [3,5] ?_;have r1:=a1.1;have r2:=i8 a3;refine DX.seeP 3 J Z Z Z Z (adg (Int.toNat k) ttOk Z Z Z Z (show k=(((Int.toNat k):Nat):Int)from Q0) (Nat.le_trans Q0 a2)) ?_
 refine dT 6 [11,13] ?_;refine DX.seeP 7 J Z Z Z Z (ad7 Z Z Z Z Q6) ?_;refine DX.seeP 8 J Z Z Z Z (aea (Int.toNat (k+1)) ttOk Z Z Z Z (show k+1=(((Int.toNat (k+1)):Nat):Int)from Q0) Q0) ?_;refine DX.tail2 [0,4,9,10] Z Z J ?_;refine zB λp1=>?_;refine F0 3 aT ?_
 refine WX.appPre 5 501 (Int.toNat k) ((List.take (Int.toNat k) l):List aT).length ttOk Z Z Z Z Z Z Z Z Z Z Z Z Z a0 Q0 (by have z_:=(show (Int.toNat k)<=l.length from Q0);first|(simp;done)|(simp only [List.length_take];omega)|(simp;omega)) Q3 Q3 (λ_ _=>Z) λp2 c1=>?_
 refine WX.turn [2] 4 Z (λh hs=>afy (Int.toNat k) Q0 hs) Z ?_;refine zV [3,4] 6 ?_
 refine WX.appSuf 5 501 (Int.toNat (k+1)) (((List.take (Int.toNat k) l)++(List.drop (Int.toNat (k+1)) l)):List aT).length ttOk Z Z Z Z Z Z Z Z Z Z Z Z Z a0 Q0 (by have z_:=(show (Int.toNat (k+1))<=l.length from Q0);first|(simp;done)|(simp only [List.length_append,List.length_cons,List.length_nil,List.length_take,List.length_drop,List.length_set];omega)|(simp;omega)) Q3 Q3 (λ_ _=>Z) λp3 c2=>?_
 refine WX.turn [5] 7 Z (λh hs=>amf (show (Int.toNat k)<=(Int.toNat (k+1)) by omega) Q0 hs) Z ?_;refine zV [6,7] 8 ?_;refine yE 5 8 9 ?_;rw [show a2w l k=((List.take (Int.toNat k) l)++(List.drop (Int.toNat (k+1)) l)) by simp only [a2w]]
 exact zX [10] (p3,c2) (aby Q3 (ac2 (λa ha=>(okl a1).2 a (List.mem_of_mem_take ha)) (λa ha=>(okl a1).2 a (List.mem_of_mem_drop ha))))
theorem f245 (hn:n+0<=9)(c_:bX)(N0:Rd w K0 M0 c_.bB)(x_:aJ)(N1:Rd w K1 M1 x_.name.parts)(N2:Rd w K2 M2 x_.content)(N3:Rd w K3 M3 x_.aR.parts){now:Int}(hq0:c_.cA<=8)(a3:ok n c_)(a0:ok n x_)(a1:ok n now):
 DP 245 #[ady c_ K0 M0,afd x_ K1 M1 K2 M2 K3 M3,vI now] w (pA w n (a1r c_ x_ now)):=by
 have hb:=bS0 hn;refine EN Tryz.func245 Z (aS4 N0 N1 N2 N3) ?_;refine KF Z 4 Z O (λw Y=>f112 n Q0 c_ (Y.q 0 Z) a3) ?_;rintro ⟨_,p1,c1⟩ b1;refine yKD 17 ?_ ?_<;>intro h1 bz;have ab:a1r c_ x_ now=(a12 c_):=by simp only [a1r,h1,cC]
 refine R0 ?_;rw [ab];exact zX [5] ((),(p1,c1)) (by have z_:=(show ok n (a1r c_ x_ now)from atz a3 a0 a1 hq0);rw [ab]at z_;exact GoT.okm Q0 z_);refine KV Z Z O (λw Y=>f192 n Q0 x_ (Y.q 1 Z) (Y.q 2 Z) (Y.q 3 Z) a0) λbv=>?_;refine yKN 21 ?_ ?_<;>intro h2 bw;have ab:a1r c_ x_ now=(a12 c_):=by simp only [a1r,h1,h2,cC]
 refine R0 ?_;rw [ab];exact zX [5] ((),(p1,c1)) (by have z_:=(show ok n (a1r c_ x_ now)from atz a3 a0 a1 hq0);rw [ab]at z_;exact GoT.okm Q0 z_);refine KV Z Z O (λw Y=>f258 n Q0 (Y.q 4 Z) x_.name (Y.q 1 Z) ((aca b1).2) ((ac0 a0).1)) λba=>?_;have q2:=asf ((a12 c_).bB) x_.name
 refine LM Z ((a1c ((a12 c_).bB) x_.name),p1,c1,((a12 c_).bB:List aT)) (λ|(k,a5,a6,a2)=>(J6 k/\JL n a2/\(-1<=k/\k<a2.length)/\(a5d x_ (a1c ((a12 c_).bB) x_.name) ((a12 c_).bB:List aT)=a5d x_ k a2),a2.length,[(8,.v (vI k))],[(7,⟨68,[.int .i64 ((a12 c_).cA),.slice a5 (a2.length) a6]⟩)],[],[(5,MF.os a5 a6 a2)])) ⟨ba,(aca b1).2,Q0,Z⟩ [7,6,4,3,2] [6,4,3] [0,1,2,3] [0,1,2,3,5] ?_
 rintro ⟨k,a5,a6,a2⟩ ⟨v1,v2,v3,v4⟩;refine yKD 29 ?_ ?_<;>intro h3 am;refine R0 ?_;refine WX.callN [5] 6 Z (λ_ _ h=>GoT.ow_rd h) (λ_ f hf=>GoT.fak f hf) Z Z Z Z Z O Z (λw G bs H hI br hH hs hΓ=>f271 n Q0 a2 a5 a6 hH hs Q0 (acp v2) v1) O O ?_;rintro ⟨p2,c2⟩ an;refine KV Z Z O (λw Y=>f258 n Q0 (Y.q 6 Z) x_.name (Y.q 1 Z) an ((ac0 a0).1)) λbl=>?_;have q3:=asf (a2w a2 k) x_.name;refine zU [7] 5 ?_
 exact ITr Z ((a1c (a2w a2 k) x_.name),p2,c2,(a2w a2 k)) ⟨bl,an,Q0,(by rw [v4];rw [a5d];simp only [(show k<a2.length by omega),am,↓reduceIte])⟩ (by have z_:=aqo (l:=a2) (k:=k) Q0;first|omega|(dsimp only;omega)) [0,1,2,3,5];have a9:=v4.trans (show _=(k,(a2:List aT)) by rw [a5d];simp only [(show k<a2.length by omega),am,↓reduceIte]);refine yKD 45 ?_ ?_<;>intro ax b7
 refine LM Z (0,1) (λ|(a4,i)=>(J6 a4/\J6 i/\(0<=a4/\a4<a2.length/\1<=i)/\(a5c a2 0 1=a5c a2 a4 i),(a2.length-i).toNat,[(9,.v (vI a4)),(10,.v (vI i))],[],[],[])) ⟨Q4,Q4,Q0,Z⟩ [7,6,4,2] [7,6,4] [0,1,2,3,5] [0,1,2,3,5] ?_;rintro ⟨a4,i⟩ ⟨aq,b5,bx,al⟩;refine yKD 50 ?_ ?_<;>intro ah a7;refine zW 18 5 ?_;refine yD [] λbs G0 ad=>?_;refine dT 10 [1,2,5] ?_;refine DI 55 ?_;have ap:i.toNat<a2.length:=Q4
 obtain ⟨e1,ae⟩:=gE ap;refine zDI 3 18 (i.toNat) ad Z ap ?_;rintro bo rfl;refine dT 8 [9] ?_;refine zDL 5 18 19 e1 ad ae ?_;rintro ⟨⟨⟨aw,au⟩,⟨ay,ao⟩,⟨az,b2⟩,_⟩,_⟩;refine dT 4 [13,14,17] ?_;refine DI 61 ?_;have b0:a4.toNat<a2.length:=Q4;obtain ⟨e2,af⟩:=gE b0;refine zDI 9 18 (a4.toNat) ad Z b0 ?_;rintro bt ⟨⟩;refine dT 2 [21] ?_;refine zDL 11 18 22 e2 ad af ?_;rintro ⟨⟨⟨bc,av⟩,⟨b3,c5⟩,⟨c3,c9⟩,_⟩,_⟩;refine dT 0 [25] ?_
 refine DX.tail2 [] Z Z J ?_;refine yKD 65 ?_ ?_<;>intro ar a8;refine SA ?_;exact ITr Z (i,i+1) ⟨b5,Q4,Q0,(by rw [al];rw [a5c];simp only [a7,ae,af,a8,↓reduceIte])⟩ Q1 [0,1,2,3,5];refine SA ?_;exact ITr Z (a4,i+1) ⟨aq,Q4,Q0,(by rw [al];rw [a5c];simp only [a7,ae,af,a8,↓reduceIte])⟩ Q1 [0,1,2,3,5]
 have ai:=al.trans (show _=(a4,i) by rw [a5c];simp only [a7,↓reduceIte]);refine R0 ?_;refine WX.callN [5] 30 Z (λ_ _ h=>GoT.ow_rd h) (λ_ f hf=>GoT.fak f hf) Z Z Z Z Z O Z (λw G bs H hI br hH hs hΓ=>f271 n Q0 a2 a5 a6 hH hs Q0 (acp v2) aq) O O ?_;rintro ⟨c0,bu⟩ aj;refine KF Z 32 Z O (λw Y=>f118 n Q0 x_ (Y.q 1 Z) (Y.q 2 Z) (Y.q 3 Z) a0) ?_;rintro ⟨⟨bh,bm⟩,⟨bj,b6⟩,⟨bn,bg⟩,_⟩ bi;refine yB λc6=>?_;refine zN (kk:=6) 525 31 38 λbe bb=>?_
 refine zT (α:=aT) [35,36,37] 39 (aT.mk (a0m x_) now) (((bh,bm),(bj,b6),(bn,bg),(),()),()) λ_=>?_;have c7:=(okl aj).1;refine WX.know (λG hΓ=>(hΓ.get 39 Z:OwL _ _ _).rd.one) λak=>?_;refine zP 525 79 (((a2w a2 a4)++[(aT.mk (a0m x_) now)]):List aT).length ak λb9 bp=>?_;refine zV [38,39] 40 ?_;refine yE 525 40 41 ?_
 have ac:a1r c_ x_ now=(bX.mk ((a12 c_).cA) ((a2w a2 a4)++[(aT.mk (a0m x_) now)])):=by simp only [a1r,h1,h2,a9,ax,ai,cC]
 rw [ac];exact zX [42] ((),(b9,bp)) (by have z_:=(show ok n (a1r c_ x_ now)from atz a3 a0 a1 hq0);rw [ac]at z_;exact GoT.okm Q0 z_);refine KF Z 18 Z O (λw Y=>f118 n Q0 x_ (Y.q 1 Z) (Y.q 2 Z) (Y.q 3 Z) a0) ?_;rintro ⟨⟨aw,au⟩,⟨ay,ao⟩,⟨az,b2⟩,_⟩ b4;refine yB λbc=>?_;refine zN (kk:=6) 513 5 24 λbq b8=>?_;refine zT (α:=aT) [21,22,23] 25 (aT.mk (a0m x_) now) (((aw,au),(ay,ao),(az,b2),(),()),()) λ_=>?_;refine WX.know (λG hΓ=>(hΓ.get 25 Z:OwL _ _ _).rd.one) λag=>?_
 refine zP 513 79 ((a2++[(aT.mk (a0m x_) now)]):List aT).length ag λb3 av=>?_;refine zV [24,25] 26 ?_;refine yE 513 26 27 ?_;have aa:a1r c_ x_ now=(bX.mk ((a12 c_).cA) (a2++[(aT.mk (a0m x_) now)])):=by simp only [a1r,h1,h2,a9,ax,cC]
 rw [aa];exact zX [28] ((),(b3,av)) (by have z_:=(show ok n (a1r c_ x_ now)from atz a3 a0 a1 hq0);rw [aa]at z_;exact GoT.okm Q0 z_)
theorem f244 (hn:n+0<=9){l:List aO}(N0:Rd w K0 M0 l)(n_:aA)(N1:Rd w K1 M1 n_.parts)(a0:ok n l)(a3:ok n n_):
 DP 244 #[vS K0 l M0,adu n_ K1 M1] w (Post w emp (λx:GoT.X ((List aO)×(List aW))=> .tuple #[(GoT.sh ((a1k l n_).1:(List aO)) x.1).headD undef,(GoT.sh ((a1k l n_).2:(List aW)) x.2).headD undef]) (λx=>GoT.oa (((a1k l n_).1,(a1k l n_).2):(List aO)×(List aW)) x) (ok n ((a1k l n_).1:(List aO))/\ok n ((a1k l n_).2:(List aW)))):=by
 have hb:=bS0 hn;refine EN Tryz.func244 Z (aS2 N0 N1) ?_;refine KF Z 2 Z O (λw Y=>f113 n Q0 (Y.q 0 Z) a0) ?_;rintro ⟨p1,c1⟩ a4;have q1:=aso l;refine KV Z Z O (λw Y=>f260 n Q0 (Y.q 0 Z) n_ (Y.q 1 Z) a0 a3) λa7=>?_;have q2:=alh l n_;refine yKD 15 ?_ ?_<;>intro h1 ad;refine yB λp2=>?_;refine F0 4 aW ?_;refine yE 17 4 5 ?_;rw [show a1k l n_=(a0k l,([])) by simp only [a1k,h1,cC]];exact zX [3,6] ((p1,c1),(p2,0)) (⟨a4,(aby zl nA)⟩);refine yB λp2=>?_
 have r1:=a0.1;have r2:=i8 a7;refine R0 ?_;refine SI 20 ?_;obtain ⟨e1,a6,a5,a8⟩:=gO a0 ((a06 l n_).toNat);refine zI 0 _ a8 ?_;rintro ac rfl;refine yL 0 4 e1 a6 ?_;rintro ⟨⟨p3,c2⟩,⟨p4,c3⟩,_⟩;refine F0 6 aW ?_;have r3:=(okl (abx a5).2.1).1;refine zG 18 5 7 e1.bK.length Z λaf p5 c4=>?_;refine WX.know (λG hΓ=>(hΓ.get 7 Z).flat) λa9=>?_;refine WX.turn [6] 8 Z (λh hs=>acx hs a9) Z ?_;refine R0 ?_;refine zN (kk:=3) 501 3 9 λaa ae=>?_
 refine WX.cap 501 Z λa2=>?_;refine WX.know (λG hΓ=>(hΓ.get 9 Z).rd.one) λa1=>?_;refine WX.draw [4,9,11,12] mixed λbs G0 ab=>?_;refine dT 11 [3,5] ?_;refine DX.seeP 3 J Z Z Z Z (adg (Int.toNat (a06 l n_)) ttOk Z Z Z Z (show (a06 l n_)=(((Int.toNat (a06 l n_)):Nat):Int)from Q0) (Nat.le_trans Q0 a2)) ?_;refine dT 8 [11,13] ?_
 refine DX.seeP 7 J Z Z Z Z (ad7 Z Z Z Z Q6) ?_;refine DX.seeP 8 J Z Z Z Z (aea (Int.toNat ((a06 l n_)+1)) ttOk Z Z Z Z (show (a06 l n_)+1=(((Int.toNat ((a06 l n_)+1)):Nat):Int)from Q0) Q0) ?_;refine dT 5 [21] ?_;refine DX.tail2 [0,4,9,11,12] Z Z J ?_;refine zB λp6=>?_;refine F0 10 aO ?_
 refine WX.appPre 25 501 (Int.toNat (a06 l n_)) ((List.take (Int.toNat (a06 l n_)) (a0k l)):List aO).length ttOk Z Z Z Z Z Z Z Z Z Z Z Z Z a1 Q0 (by have z_:=(show (Int.toNat (a06 l n_))<=((a0k l)).length from Q0);first|(simp;done)|(simp only [List.length_take];omega)|(simp;omega)) Q3 Q3 (λ_ _=>Z) λp7 c5=>?_
 refine WX.turn [9] 11 Z (λh hs=>afy (Int.toNat (a06 l n_)) Q0 hs) Z ?_;refine zV [10,11] 13 ?_
 refine WX.appSuf 25 501 (Int.toNat ((a06 l n_)+1)) (((List.take (Int.toNat (a06 l n_)) (a0k l))++(List.drop (Int.toNat ((a06 l n_)+1)) (a0k l))):List aO).length ttOk Z Z Z Z Z Z Z Z Z Z Z Z Z a1 Q0 (by have z_:=(show (Int.toNat ((a06 l n_)+1))<=((a0k l)).length from Q0);first|(simp;done)|(simp only [List.length_append,List.length_cons,List.length_nil,List.length_take,List.length_drop,List.length_set];omega)|(simp;omega)) Q3 Q3 (λ_ _=>Z) λp8 c6=>?_
 refine WX.turn [12] 14 Z (λh hs=>amf (show (Int.toNat (a06 l n_))<=(Int.toNat ((a06 l n_)+1)) by omega) Q0 hs) Z ?_;refine zV [13,14] 15 ?_;refine yE 25 15 16 ?_;refine zE 18 8 18 ?_;rw [show a1k l n_=((List.take (Int.toNat (a06 l n_)) (a0k l))++(List.drop (Int.toNat ((a06 l n_)+1)) (a0k l)),e1.bK) by simp only [a1k,h1,a6,cC]]
 exact zX [17,19] ((p8,c6),(p5,c4)) (⟨(aby Q3 (ac2 (λa ha=>(okl a4).2 a (List.mem_of_mem_take ha)) (λa ha=>(okl a4).2 a (List.mem_of_mem_drop ha)))),(aby Q0 (okl (abx a5).2.1).2)⟩)
theorem f243 (hn:n+7<=9)(x_:aH)(N0:Rd w K0 M0 x_.bF)(N1:Rd w K1 M1 x_.bG.bB)(N2:Rd w K2 M2 x_.bH)(N3:Rd w K3 M3 x_.bS)(N4:Rd w K4 M4 x_.bM)(N5:Rd w K5 M5 x_.bQ)(t:bU)(N6:Rd w K6 M6 t.keys)(N7:Rd w K7 M7 t.bR)(N8:Rd w K8 M8 t.bV)(N9:Rd w K9 M9 t.bW)(y:aJ)(N10:Rd w K10 M10 y.name.parts)(N11:Rd w K11 M11 y.content)(N12:Rd w K12 M12 y.aR.parts){now:Int}(a1:ok n x_)(a3:ok n t)(a2:ok n y)(a0:ok n now):
 DP 243 #[agh x_ K0 M0 K1 M1 K2 M2 K3 M3 K4 M4 K5 M5,ado t K6 M6 K7 M7 K8 M8 K9 M9,afd y K10 M10 K11 M11 K12 M12,vI now] w (pB (abo x_ t y now)):=by
 refine EN Tryz.func243 Z (aC 0 N0 (aC 1 N1 (aC 2 N2 (aC 3 N3 (aC 4 N4 (aC 5 N5 (aC 6 N6 (aC 7 N7 (aC 8 N8 (aC 9 N9 (aC 10 N10 (aC 11 N11 (aC 12 N12 ac8))))))))))))) ?_;refine KV Z Z O (λw Y=>f225 n Q0 (Y.q 2 Z) y.name (Y.q 10 Z) (a1.2.2.1) (a2.1)) λa5=>?_;refine yKA 14 ?_ ?_<;>intro h1;refine KV Z Z O (λw Y=>f270 n Q0 t (Y.q 6 Z) (Y.q 7 Z) (Y.q 8 Z) (Y.q 9 Z) y (Y.q 10 Z) (Y.q 11 Z) (Y.q 12 Z) a3 a2 a0) λa4=>?_;exact R4r Z Z (by simp only [abo,h1,cC])
 exact R4r Z Z (by simp only [abo,h1,cC])
theorem f201 (hn:n+0<=9)(x_:aH)(N0:Rd w K0 M0 x_.bF)(N1:Rd w K1 M1 x_.bG.bB)(N2:Rd w K2 M2 x_.bH)(N3:Rd w K3 M3 x_.bS)(N4:Rd w K4 M4 x_.bM)(N5:Rd w K5 M5 x_.bQ)(a0:ok n x_):
 DP 201 #[agh x_ K0 M0 K1 M1 K2 M2 K3 M3 K4 M4 K5 M5] w (pA w n (a4c x_)):=by
 refine EN Tryz.func201 Z (aS6 N0 N1 N2 N3 N4 N5) ?_;refine yD [11] λbs G0 a4=>?_;refine dT 5 [1,2,7,9,10,15,16] ?_;refine DXF 2 6 Z J Z O (λw Y=>f111 n Q0 (Y.q 0 Z) (a0.1)) ?_;rintro ⟨p1,c1⟩ a3;refine DXF 6 8 Z J Z O (λw Y=>f216 n Q0 ((aca a0.2.1).1)) ?_;rintro ⟨_,p2,c2⟩ a1;refine DXF 9 10 Z J Z O (λw Y=>f115 n Q0 (Y.q 4 Z) (a0.2.2.2.2.1)) ?_;rintro ⟨p3,c3⟩ a2;refine dT 1 [21] ?_;refine DX.tail2 [11] Z Z J ?_
 refine F1 12 aO ?_;refine F1 13 bA ?_;refine F1 14 aS ?_;rw [show a4c x_=(aH.mk (a6c x_.bF) (a5p x_.bG.cA) ([]) ([]) (a1d x_.bM) ([]) 0) by simp only [a4c]];exact yX [7,9,12,13,11,14] ((p1,c1),((),(p2,c2)),(none,0),(none,0),(p3,c3),(none,0),()) (An a3 (An a1 (An (acd) (An (acd) (An a2 (An (acd) (i6 0)))))))
theorem f199 (hn:n+1<=9)(x_:aH)(N0:Rd w K0 M0 x_.bF)(N1:Rd w K1 M1 x_.bG.bB)(N2:Rd w K2 M2 x_.bH)(N3:Rd w K3 M3 x_.bS)(N4:Rd w K4 M4 x_.bM)(N5:Rd w K5 M5 x_.bQ){side:Int}(w_:bJ)(N6:Rd w K6 M6 w_.name.parts){now:Int}(hq0:af5 x_)(a0:ok n x_)(a2:ok n side)(a1:ok n w_)(a4:ok n now):
 DP 199 #[agh x_ K0 M0 K1 M1 K2 M2 K3 M3 K4 M4 K5 M5,vI side,afr w_ K6 M6,vI now] w (pA w n (a10 x_ side w_ now)):=by
 have hb:=bS1 hn;refine EN Tryz.func199 Z (aC 0 N0 (aC 1 N1 (aC 2 N2 (aC 3 N3 (aC 4 N4 (aC 5 N5 (aC 6 N6 ac8))))))) ?_;refine KV Z Z O (λw Y=>f233 n Q0 w_ (Y.q 6 Z) a1) λbv=>?_;refine yKN 22 ?_ ?_<;>intro h1 br;refine KF Z 7 Z O (λw Y=>f235 n Q0 x_ (Y.q 0 Z) (Y.q 1 Z) (Y.q 2 Z) (Y.q 3 Z) (Y.q 4 Z) (Y.q 5 Z) a0) ?_;rintro ⟨⟨⟨p1,c1⟩,⟨_,p2,c2⟩,⟨p3,c3⟩,⟨p4,c4⟩,⟨p5,c5⟩,⟨p6,c6⟩,_⟩,p7,c7⟩ bc;dsimp only
 rw [show a10 x_ side w_ now=(a3y x_) by simp only [a10,h1,cC]];exact yX [14,15,16,17,18,19,20] (((p1,c1),((),(p2,c2)),(p3,c3),(p4,c4),(p5,c5),(p6,c6),()),(p7,c7)) bc;refine KV Z Z O (λw Y=>f120 n Q0 a2 (i6 0) (i6 6)) λbc=>?_;refine yKN 27 ?_ ?_<;>intro h2 bq;refine KF Z 7 Z O (λw Y=>f235 n Q0 x_ (Y.q 0 Z) (Y.q 1 Z) (Y.q 2 Z) (Y.q 3 Z) (Y.q 4 Z) (Y.q 5 Z) a0) ?_;rintro ⟨⟨⟨p1,c1⟩,⟨_,p2,c2⟩,⟨p3,c3⟩,⟨p4,c4⟩,⟨p5,c5⟩,⟨p6,c6⟩,_⟩,p7,c7⟩ bg;dsimp only
 rw [show a10 x_ side w_ now=(a3y x_) by simp only [a10,h1,h2,cC]];exact yX [14,15,16,17,18,19,20] (((p1,c1),((),(p2,c2)),(p3,c3),(p4,c4),(p5,c5),(p6,c6),()),(p7,c7)) bg;refine KV Z Z O (λw Y=>f234 n Q0 (Y.q 2 Z) (Y.q 3 Z) w_ (Y.q 6 Z) (a0.2.2.1) (a0.2.2.2.1) a1) λbg=>?_;refine yKA 34 ?_ ?_<;>intro h3;refine KF Z 7 Z O (λw Y=>f235 n Q0 x_ (Y.q 0 Z) (Y.q 1 Z) (Y.q 2 Z) (Y.q 3 Z) (Y.q 4 Z) (Y.q 5 Z) a0) ?_
 rintro ⟨⟨⟨p1,c1⟩,⟨_,p2,c2⟩,⟨p3,c3⟩,⟨p4,c4⟩,⟨p5,c5⟩,⟨p6,c6⟩,_⟩,p7,c7⟩ a5;dsimp only
 rw [show a10 x_ side w_ now=(a3y x_) by simp only [a10,h1,h2,h3,cC]];exact yX [14,15,16,17,18,19,20] (((p1,c1),((),(p2,c2)),(p3,c3),(p4,c4),(p5,c5),(p6,c6),()),(p7,c7)) a5;refine KF Z 7 Z O (λw Y=>f66 n Q0 x_ (Y.q 0 Z) (Y.q 1 Z) (Y.q 2 Z) (Y.q 3 Z) (Y.q 4 Z) (Y.q 5 Z) a0) ?_;rintro ⟨⟨p1,c1⟩,⟨_,p2,c2⟩,⟨p3,c3⟩,⟨p4,c4⟩,⟨p5,c5⟩,⟨p6,c6⟩,_⟩ a5;dsimp only
 refine zB λp7=>?_;refine KF Z 19 Z O (λw Y=>f236 n Q0 x_ (Y.q 0 Z) (Y.q 1 Z) (Y.q 2 Z) (Y.q 3 Z) (Y.q 4 Z) (Y.q 5 Z) w_.name (Y.q 6 Z) a0 (a1.1) a4) ?_;rintro ⟨⟨p8,c7⟩,⟨p9,c8⟩,⟨bm,c9⟩,_⟩ bo;dsimp only
 refine yKA 49 ?_ ?_<;>intro h4;refine yB λbf=>?_;refine F0 25 bD ?_;refine F1 27 Str ?_;refine zT [27,22,23,24] 26 (bD.mk side false (bJ.mk (aA.mk ([])) 0 0 0) ((a5w x_ w_.name now).1)) ((),(),((none,0),(),(),()),((p8,c7),(p9,c8),(bm,c9),(),())) λ_=>?_;have r2:=i8 a4;refine WX.know (λG hΓ=>(hΓ.get 26 Z).rd.one) λak=>?_
 refine zP 39 55 [(bD.mk side false (bJ.mk (aA.mk ([])) 0 0 0) ((a5w x_ w_.name now).1))].length ak (hroom:=Q7) (hmax:=Q7) λb0 b7=>?_;refine zV [25,26] 28 ?_;refine KF Z 29 Z O (λw Y=>f237 n Q0 x_.bG (Y.q 1 Z) w_.name (Y.q 6 Z) (a0.2.1) (a1.1) a4) ?_;rintro ⟨_,b4,b3⟩ ar;dsimp only
 refine KF Z 31 Z O (λw Y=>f226 n Q0 (Y.q 3 Z) w_.name (Y.q 6 Z) (a0.2.2.2.1) (a1.1) (a1.2.1)) ?_;rintro ⟨aj,b2⟩ b1;dsimp only
 refine yE 39 28 33 ?_;rw [show a10 x_ side w_ now=(Action.mk (aH.mk ((a00 x_).bF) (a7t x_.bG w_.name now) ((a00 x_).bH) (a38 x_.bS w_.name w_.bI) ((a00 x_).bM) ((a00 x_).bQ) ((a00 x_).aP)) ([(bD.mk side false (bJ.mk (aA.mk ([])) 0 0 0) ((a5w x_ w_.name now).1))])) by simp only [a10,h1,h2,h3,h4,cC]]
 exact zX [13,30,15,32,17,18,34] (((p1,c1),((),(b4,b3)),(p3,c3),(aj,b2),(p5,c5),(p6,c6),()),(b0,b7)) (An (An a5.1 (An ar (An a5.2.2.1 (An b1 (An a5.2.2.2.2.1 (An a5.2.2.2.2.2.1 a5.2.2.2.2.2.2)))))) (aby Q7 (all_cons (α:=bD) (An a2 (An trivial (An (An (acd (α:=Str)) (An (i6 0) (An (i6 0) (i6 0)))) bo))) nA)))
 refine KF Z 25 Z O (λw Y=>f238 n Q0 (Y.q 2 Z) w_ (Y.q 6 Z) hq0.2 (a0.2.2.1) a1 a2 a4) ?_;rintro ⟨bf,b7⟩ ar;dsimp only
 refine yKN 86 ?_ ?_<;>intro h5 bt;refine KF Z 27 Z O (λw Y=>f235 n Q0 x_ (Y.q 0 Z) (Y.q 1 Z) (Y.q 2 Z) (Y.q 3 Z) (Y.q 4 Z) (Y.q 5 Z) a0) ?_;rintro ⟨⟨⟨b0,b3⟩,⟨_,b4,b2⟩,⟨aj,ap⟩,⟨ah,al⟩,⟨ax,ae⟩,⟨am,bk⟩,_⟩,bp,bj⟩ b1;dsimp only
 rw [show a10 x_ side w_ now=(a3y x_) by simp only [a10,h1,h2,h3,h4,h5,cC]];exact yX [34,35,36,37,38,39,40] (((b0,b3),((),(b4,b2)),(aj,ap),(ah,al),(ax,ae),(am,bk),()),(bp,bj)) b1;refine KV Z Z O (λw Y=>f239 n Q0 (Y.q 2 Z) w_.name (Y.q 6 Z) (a0.2.2.1) (a1.1) a2) λb1=>?_;refine KF Z 27 Z O (λw Y=>f240 n Q0 w_ (Y.q 6 Z) a1) ?_;rintro ⟨⟨b0,b3⟩,_⟩ az;dsimp only
 refine KF Z 29 Z O (λw Y=>f228 n Q0 x_ (Y.q 0 Z) (Y.q 1 Z) (Y.q 2 Z) (Y.q 3 Z) (Y.q 4 Z) (Y.q 5 Z) w_.name (Y.q 6 Z) a0 (a1.1) a2) ?_;rintro ⟨b4,b2⟩ ay;dsimp only
 refine KV Z Z O (λw Y=>f225 n Q0 (Y.q 2 Z) w_.name (Y.q 6 Z) (a0.2.2.1) (a1.1)) λbl=>?_;refine yKA 113 ?_ ?_<;>intro h6;refine KV Z Z O (λw Y=>f241 n Q0 (Y.q 2 Z) w_.name (Y.q 6 Z) (a0.2.2.1) (a1.1)) λaw=>?_;refine yKA 122 ?_ ?_<;>intro h7;refine F0 31 bD ?_;refine yE 39 31 32 ?_
 rw [show a10 x_ side w_ now=(Action.mk (aH.mk ((a00 x_).bF) ((a00 x_).bG) ((a17 x_.bH w_ side now).1) ((a00 x_).bS) ((a00 x_).bM) ((a00 x_).bQ) ((a00 x_).aP)) ([])) by simp only [a10,h1,h2,h3,h4,h5,h6,h7,cC]];rotate_left;refine yKA 126 ?_ ?_<;>intro h8;refine F0 31 bD ?_;refine yE 39 31 32 ?_
 rw [show a10 x_ side w_ now=(Action.mk (aH.mk ((a00 x_).bF) ((a00 x_).bG) ((a17 x_.bH w_ side now).1) ((a00 x_).bS) ((a00 x_).bM) ((a00 x_).bQ) ((a00 x_).aP)) ([])) by simp only [a10,h1,h2,h3,h4,h5,h6,h7,h8,cC]];rotate_left;refine yKA 130 ?_ ?_<;>intro h9;have b6:=B.et h9;refine F0 31 bD ?_;refine yE 39 31 32 ?_
 rw [show a10 x_ side w_ now=(Action.mk (aH.mk ((a00 x_).bF) ((a00 x_).bG) ((a17 x_.bH w_ side now).1) ((a00 x_).bS) ((a00 x_).bM) ((a00 x_).bQ) ((a00 x_).aP)) ([])) by simp only [a10,h1,h2,h3,h4,h5,h6,h7,h8,h9,cC]];rotate_left;have b6:=B.ef h9;refine KF Z 31 Z O (λw Y=>f242 n Q0 (Y.q 25 Z) w_.name (Y.q 6 Z) ar (a1.1) a4) ?_;rintro ⟨aj,ap⟩ ac;dsimp only
 refine F0 33 bD ?_;have r2:=ay.1
 refine LM Z (0,p7,0,[],[]) (λ|(i,ag,ai,ad,a6)=>((i<=(a2v x_ w_.name side).length)/\JE n a6/\(a6.length<=i)/\(a7u x_ side w_ (a2v x_ w_.name side) 0 []=a7u x_ side w_ ((a2v x_ w_.name side).drop i) i a6),(a2v x_ w_.name side).length-i,[(18,.v (vI i))],[(9,⟨249,[.slice p1 (((a00 x_).bF).length) c1,.int .i64 ((a00 x_).bG.cA),.slice p2 (((a00 x_).bG.bB).length) c2,.slice aj _ ap,.slice p4 (((a00 x_).bS).length) c4,.slice p5 (((a00 x_).bM).length) c5,.slice p6 (((a00 x_).bQ).length) c6,.int .i64 ((a00 x_).aP),.slice ag (a6.length) ai]⟩)],[(39,⟨11,ag,a6.length,ai,ad⟩)],[(33,MF.ol ad a6)])) ⟨zl,nA,Q10,Z⟩ [17,15,14,9,8] [15,8] [0,1,2,3,4,5,6,13,14,16,17,18,28,30,32] [0,1,2,3,4,5,6,13,14,16,17,18,28,30,32,33] ?_
 rintro ⟨i,ag,ai,ad,a6⟩ ⟨v1,v2,v3,v4⟩
 ·skip
  refine yKA 143 ?_ ?_<;>intro aq;have b9:=B.dt aq;obtain ⟨e1,au,af,be⟩:=gO ay i;refine yKA 145 ?_ ?_<;>intro an;refine zW 34 30 ?_;refine zW 35 28 ?_;refine zW 36 13 ?_;refine zW 37 14 ?_;refine zW 38 32 ?_;refine zW 39 16 ?_;refine zW 40 17 ?_;refine zW 41 18 ?_;refine yD [10,11,12] λbs G0 aa=>?_;refine dT 9 [1,2,5,7] ?_;refine zDI 4 34 i aa Z be ?_;rintro b5 rfl;refine zDL 5 34 42 e1 aa au ?_;rintro ⟨⟩;refine dT 6 [12] ?_;refine DXF 7 42 Z J Z O (λw Y=>f117 n Q0 _ (Y.q 35 Z) az) ?_;rintro ⟨⟨ah,al⟩,_⟩ ao
  refine dT 4 [17] ?_;refine DX.tail2 [9,10,11,12] Z Z J ?_;refine zB λax=>?_;refine F1 45 Str ?_;refine F1 46 UInt8 ?_;refine F1 47 Str ?_;refine zT [43,45,46,47] 44 (bD.mk e1 true (a1g ((a1o w_).1)) (aJ.mk (aA.mk ([])) ([]) (aA.mk ([])) 0 0)) ((),(),((ah,al),(),(),()),((none,0),(none,0),(none,0),(),())) λ_=>?_;refine WX.know (λG hΓ=>(hΓ.get 44 Z).rd.one) λak=>?_
  refine zP 39 161 (a6++[(bD.mk e1 true (a1g ((a1o w_).1)) (aJ.mk (aA.mk ([])) ([]) (aA.mk ([])) 0 0))]).length ak λam ae=>?_;refine zV [33,44] 48 ?_;refine SA ?_;refine zU [48] 33 ?_
  exact ITr Z (i+1,am,ae,_,(a6++[(bD.mk e1 true (a1g ((a1o w_).1)) (aJ.mk (aA.mk ([])) ([]) (aA.mk ([])) 0 0))])) ⟨Q0,(ac2 v2 (all_cons (An af (An trivial (An ao (An (acd) (An (acd) (An (acd) (An (i6 0) (i6 0)))))))) nA)),Q3,(by rw [v4,abu au];simp only [a7u,an,cC])⟩ Q1 [0,1,2,3,4,5,6,13,14,16,17,18,28,30,32,33]
  refine yKE 149 ?_ ?_<;>intro bi bn;refine zW 34 30 ?_;refine zW 35 28 ?_;refine zW 36 13 ?_;refine zW 37 14 ?_;refine zW 38 32 ?_;refine zW 39 16 ?_;refine zW 40 17 ?_;refine zW 41 18 ?_;refine yD [10,11,12] λbs G0 aa=>?_;refine dT 9 [1,2,5,7] ?_;refine zDI 4 34 i aa Z be ?_;rintro b5 rfl;refine zDL 5 34 42 e1 aa au ?_;rintro ⟨⟩;refine dT 6 [12] ?_;refine DXF 7 42 Z J Z O (λw Y=>f117 n Q0 _ (Y.q 35 Z) az) ?_;rintro ⟨⟨ah,al⟩,_⟩ ao;refine dT 4 [17] ?_;refine DX.tail2 [9,10,11,12] Z Z J ?_;refine zB λax=>?_
  refine F1 45 Str ?_;refine F1 46 UInt8 ?_;refine F1 47 Str ?_;refine zT [43,45,46,47] 44 (bD.mk e1 true (a1g ((a1o w_).1)) (aJ.mk (aA.mk ([])) ([]) (aA.mk ([])) 0 0)) ((),(),((ah,al),(),(),()),((none,0),(none,0),(none,0),(),())) λ_=>?_;refine WX.know (λG hΓ=>(hΓ.get 44 Z).rd.one) λak=>?_;refine zP 39 161 (a6++[(bD.mk e1 true (a1g ((a1o w_).1)) (aJ.mk (aA.mk ([])) ([]) (aA.mk ([])) 0 0))]).length ak λam ae=>?_
  refine zV [33,44] 48 ?_;refine SA ?_;refine zU [48] 33 ?_
  exact ITr Z (i+1,am,ae,_,(a6++[(bD.mk e1 true (a1g ((a1o w_).1)) (aJ.mk (aA.mk ([])) ([]) (aA.mk ([])) 0 0))])) ⟨Q0,(ac2 v2 (all_cons (An af (An trivial (An ao (An (acd) (An (acd) (An (acd) (An (i6 0) (i6 0)))))))) nA)),Q3,(by rw [v4,abu au];simp only [a7u,an,bi,cC])⟩ Q1 [0,1,2,3,4,5,6,13,14,16,17,18,28,30,32,33]
  have ab:=v4.trans (show _=a6 by rw [abu au];simp only [a7u,an,bi,cC]);rotate_left;have b9:=B.df aq;have ab:=v4.trans (show _=a6 by rw [dn];simp only [a7u];omega);rotate_left
  all_goals
   refine yE 39 33 46 ?_;rw [show a10 x_ side w_ now=(Action.mk (aH.mk ((a00 x_).bF) ((a00 x_).bG) (a4u ((a17 x_.bH w_ side now).1) w_.name now) ((a00 x_).bS) ((a00 x_).bM) ((a00 x_).bQ) ((a00 x_).aP)) a6) by simp only [a10,h1,h2,h3,h4,h5,h6,h7,h8,h9,ab,cC]]
   exact zX [13,14,32,16,17,18,47] (((p1,c1),((),(p2,c2)),(aj,ap),(p4,c4),(p5,c5),(p6,c6),()),(ag,ai)) (An (An a5.1 (An a5.2.1 (An ac (An a5.2.2.2.1 (An a5.2.2.2.2.1 (An a5.2.2.2.2.2.1 a5.2.2.2.2.2.2)))))) (aby Q0 v2))
 refine yKA 126 ?_ ?_<;>intro h7;refine F0 31 bD ?_;refine yE 39 31 32 ?_;rw [show a10 x_ side w_ now=(Action.mk (aH.mk ((a00 x_).bF) ((a00 x_).bG) ((a17 x_.bH w_ side now).1) ((a00 x_).bS) ((a00 x_).bM) ((a00 x_).bQ) ((a00 x_).aP)) ([])) by simp only [a10,h1,h2,h3,h4,h5,h6,h7,cC]];rotate_left;refine yKA 130 ?_ ?_<;>intro h8;refine F0 31 bD ?_;refine yE 39 31 32 ?_
 rw [show a10 x_ side w_ now=(Action.mk (aH.mk ((a00 x_).bF) ((a00 x_).bG) ((a17 x_.bH w_ side now).1) ((a00 x_).bS) ((a00 x_).bM) ((a00 x_).bQ) ((a00 x_).aP)) ([])) by simp only [a10,h1,h2,h3,h4,h5,h6,h7,h8,cC]];rotate_left;refine KF Z 31 Z O (λw Y=>f242 n Q0 (Y.q 25 Z) w_.name (Y.q 6 Z) ar (a1.1) a4) ?_;rintro ⟨aj,ap⟩ aw;dsimp only
 refine F0 33 bD ?_;have r2:=ay.1
 refine LM Z (0,p7,0,[],[]) (λ|(i,a9,a8,a7,a3)=>((i<=(a2v x_ w_.name side).length)/\JE n a3/\(a3.length<=i)/\(a7v x_ side w_ (a2v x_ w_.name side) 0 []=a7v x_ side w_ ((a2v x_ w_.name side).drop i) i a3),(a2v x_ w_.name side).length-i,[(18,.v (vI i))],[(9,⟨249,[.slice p1 (((a00 x_).bF).length) c1,.int .i64 ((a00 x_).bG.cA),.slice p2 (((a00 x_).bG.bB).length) c2,.slice aj _ ap,.slice p4 (((a00 x_).bS).length) c4,.slice p5 (((a00 x_).bM).length) c5,.slice p6 (((a00 x_).bQ).length) c6,.int .i64 ((a00 x_).aP),.slice a9 (a3.length) a8]⟩)],[(39,⟨11,a9,a3.length,a8,a7⟩)],[(33,MF.ol a7 a3)])) ⟨zl,nA,Q10,Z⟩ [17,15,14,9,8] [15,8] [0,1,2,3,4,5,6,13,14,16,17,18,28,30,32] [0,1,2,3,4,5,6,13,14,16,17,18,28,30,32,33] ?_
 rintro ⟨i,a9,a8,a7,a3⟩ ⟨v1,v2,v3,v4⟩
 ·skip
  refine yKA 143 ?_ ?_<;>intro h9;have b6:=B.dt h9;obtain ⟨e2,av,af,bh⟩:=gO ay i;refine yKA 145 ?_ ?_<;>intro aq;refine zW 34 30 ?_;refine zW 35 28 ?_;refine zW 36 13 ?_;refine zW 37 14 ?_;refine zW 38 32 ?_;refine zW 39 16 ?_;refine zW 40 17 ?_;refine zW 41 18 ?_;refine yD [10,11,12] λbs G0 aa=>?_;refine dT 9 [1,2,5,7] ?_;refine zDI 4 34 i aa Z bh ?_;rintro b5 rfl;refine zDL 5 34 42 e2 aa av ?_;rintro ⟨⟩;refine dT 6 [12] ?_;refine DXF 7 42 Z J Z O (λw Y=>f117 n Q0 _ (Y.q 35 Z) az) ?_;rintro ⟨⟨ah,al⟩,_⟩ ac
  refine dT 4 [17] ?_;refine DX.tail2 [9,10,11,12] Z Z J ?_;refine zB λax=>?_;refine F1 45 Str ?_;refine F1 46 UInt8 ?_;refine F1 47 Str ?_;refine zT [43,45,46,47] 44 (bD.mk e2 true (a1g ((a1o w_).1)) (aJ.mk (aA.mk ([])) ([]) (aA.mk ([])) 0 0)) ((),(),((ah,al),(),(),()),((none,0),(none,0),(none,0),(),())) λ_=>?_;refine WX.know (λG hΓ=>(hΓ.get 44 Z).rd.one) λak=>?_
  refine zP 39 161 (a3++[(bD.mk e2 true (a1g ((a1o w_).1)) (aJ.mk (aA.mk ([])) ([]) (aA.mk ([])) 0 0))]).length ak λam ae=>?_;refine zV [33,44] 48 ?_;refine SA ?_;refine zU [48] 33 ?_
  exact ITr Z (i+1,am,ae,_,(a3++[(bD.mk e2 true (a1g ((a1o w_).1)) (aJ.mk (aA.mk ([])) ([]) (aA.mk ([])) 0 0))])) ⟨Q0,(ac2 v2 (all_cons (An af (An trivial (An ac (An (acd) (An (acd) (An (acd) (An (i6 0) (i6 0)))))))) nA)),Q3,(by rw [v4,abu av];simp only [a7v,aq,cC])⟩ Q1 [0,1,2,3,4,5,6,13,14,16,17,18,28,30,32,33]
  refine yKA 149 ?_ ?_<;>intro an;have bb:=B.et an;refine zW 34 30 ?_;refine zW 35 28 ?_;refine zW 36 13 ?_;refine zW 37 14 ?_;refine zW 38 32 ?_;refine zW 39 16 ?_;refine zW 40 17 ?_;refine zW 41 18 ?_;refine yD [10,11,12] λbs G0 aa=>?_;refine dT 9 [1,2,5,7] ?_;refine zDI 4 34 i aa Z bh ?_;rintro b5 rfl;refine zDL 5 34 42 e2 aa av ?_;rintro ⟨⟩;refine dT 6 [12] ?_;refine DXF 7 42 Z J Z O (λw Y=>f117 n Q0 _ (Y.q 35 Z) az) ?_;rintro ⟨⟨ah,al⟩,_⟩ ac;refine dT 4 [17] ?_;refine DX.tail2 [9,10,11,12] Z Z J ?_;refine zB λax=>?_
  refine F1 45 Str ?_;refine F1 46 UInt8 ?_;refine F1 47 Str ?_;refine zT [43,45,46,47] 44 (bD.mk e2 true (a1g ((a1o w_).1)) (aJ.mk (aA.mk ([])) ([]) (aA.mk ([])) 0 0)) ((),(),((ah,al),(),(),()),((none,0),(none,0),(none,0),(),())) λ_=>?_;refine WX.know (λG hΓ=>(hΓ.get 44 Z).rd.one) λak=>?_;refine zP 39 161 (a3++[(bD.mk e2 true (a1g ((a1o w_).1)) (aJ.mk (aA.mk ([])) ([]) (aA.mk ([])) 0 0))]).length ak λam ae=>?_
  refine zV [33,44] 48 ?_;refine SA ?_;refine zU [48] 33 ?_
  exact ITr Z (i+1,am,ae,_,(a3++[(bD.mk e2 true (a1g ((a1o w_).1)) (aJ.mk (aA.mk ([])) ([]) (aA.mk ([])) 0 0))])) ⟨Q0,(ac2 v2 (all_cons (An af (An trivial (An ac (An (acd) (An (acd) (An (acd) (An (i6 0) (i6 0)))))))) nA)),Q3,(by rw [v4,abu av];simp only [a7v,aq,an,cC])⟩ Q1 [0,1,2,3,4,5,6,13,14,16,17,18,28,30,32,33]
  have bb:=B.ef an;have ab:=v4.trans (show _=a3 by rw [abu av];simp only [a7v,aq,an,cC]);rotate_left;have b6:=B.df h9;have ab:=v4.trans (show _=a3 by rw [dn];simp only [a7v];omega);rotate_left
  all_goals
   refine yE 39 33 46 ?_;rw [show a10 x_ side w_ now=(Action.mk (aH.mk ((a00 x_).bF) ((a00 x_).bG) (a4u ((a17 x_.bH w_ side now).1) w_.name now) ((a00 x_).bS) ((a00 x_).bM) ((a00 x_).bQ) ((a00 x_).aP)) a3) by simp only [a10,h1,h2,h3,h4,h5,h6,h7,h8,ab,cC]]
   exact zX [13,14,32,16,17,18,47] (((p1,c1),((),(p2,c2)),(aj,ap),(p4,c4),(p5,c5),(p6,c6),()),(a9,a8)) (An (An a5.1 (An a5.2.1 (An aw (An a5.2.2.2.1 (An a5.2.2.2.2.1 (An a5.2.2.2.2.2.1 a5.2.2.2.2.2.2)))))) (aby Q0 v2))
 all_goals
  exact zX [13,14,26,16,17,18,33] (((p1,c1),((),(p2,c2)),(bf,b7),(p4,c4),(p5,c5),(p6,c6),()),(p7,0)) (An (An a5.1 (An a5.2.1 (An ar (An a5.2.2.2.1 (An a5.2.2.2.2.1 (An a5.2.2.2.2.2.1 a5.2.2.2.2.2.2)))))) (aby zl nA))
theorem f200 (hn:n+7<=9)(x_:aH)(N0:Rd w K0 M0 x_.bF)(N1:Rd w K1 M1 x_.bG.bB)(N2:Rd w K2 M2 x_.bH)(N3:Rd w K3 M3 x_.bS)(N4:Rd w K4 M4 x_.bM)(N5:Rd w K5 M5 x_.bQ)(t:bU)(N6:Rd w K6 M6 t.keys)(N7:Rd w K7 M7 t.bR)(N8:Rd w K8 M8 t.bV)(N9:Rd w K9 M9 t.bW){side:Int}(y:aJ)(N10:Rd w K10 M10 y.name.parts)(N11:Rd w K11 M11 y.content)(N12:Rd w K12 M12 y.aR.parts){now:Int}(hq0:af5 x_)(a4:ok n x_)(ar:ok n t)(a9:ok n side)(a6:ok n y)(ab:ok n now):
 DP 200 #[agh x_ K0 M0 K1 M1 K2 M2 K3 M3 K4 M4 K5 M5,ado t K6 M6 K7 M7 K8 M8 K9 M9,vI side,afd y K10 M10 K11 M11 K12 M12,vI now] w (pA w n (a33 x_ t side y now)):=by
 have hb:=bS7 hn;refine EN Tryz.func200 Z (aC 0 N0 (aC 1 N1 (aC 2 N2 (aC 3 N3 (aC 4 N4 (aC 5 N5 (aC 6 N6 (aC 7 N7 (aC 8 N8 (aC 9 N9 (aC 10 N10 (aC 11 N11 (aC 12 N12 ac8))))))))))))) ?_;refine KV Z Z O (λw Y=>f243 n Q0 x_ (Y.q 0 Z) (Y.q 1 Z) (Y.q 2 Z) (Y.q 3 Z) (Y.q 4 Z) (Y.q 5 Z) t (Y.q 6 Z) (Y.q 7 Z) (Y.q 8 Z) (Y.q 9 Z) y (Y.q 10 Z) (Y.q 11 Z) (Y.q 12 Z) a4 ar a6 ab) λbj=>?_;refine yKN 23 ?_ ?_<;>intro h1 bf;refine KF Z 13 Z O (λw Y=>f235 n Q0 x_ (Y.q 0 Z) (Y.q 1 Z) (Y.q 2 Z) (Y.q 3 Z) (Y.q 4 Z) (Y.q 5 Z) a4) ?_
 rintro ⟨⟨⟨p1,c1⟩,⟨_,p2,c2⟩,⟨p3,c3⟩,⟨p4,c4⟩,⟨p5,c5⟩,⟨p6,c6⟩,_⟩,p7,c7⟩ a5;dsimp only
 rw [show a33 x_ t side y now=(a3y x_) by simp only [a33,h1,cC]];exact yX [20,21,22,23,24,25,26] (((p1,c1),((),(p2,c2)),(p3,c3),(p4,c4),(p5,c5),(p6,c6),()),(p7,c7)) a5;refine KF Z 13 Z O (λw Y=>f66 n Q0 x_ (Y.q 0 Z) (Y.q 1 Z) (Y.q 2 Z) (Y.q 3 Z) (Y.q 4 Z) (Y.q 5 Z) a4) ?_;rintro ⟨⟨p1,c1⟩,⟨_,p2,c2⟩,⟨p3,c3⟩,⟨p4,c4⟩,⟨p5,c5⟩,⟨p6,c6⟩,_⟩ a5;dsimp only
 refine zB λp7=>?_;refine KF Z 25 Z O (λw Y=>f244 n Q0 (Y.q 2 Z) y.name (Y.q 10 Z) (a4.2.2.1) (a6.1)) ?_;rintro ⟨⟨p8,c7⟩,p9,c8⟩ ah;dsimp only
 refine F0 29 bD ?_;have r2:=(okl ah.2).1
 refine LM Z (0,p4,c4,((a00 x_).bS),p7,0,[],[]) (λ|(i,a7,a8,aa,a2,a1,a3,a0)=>((i<=((a1k x_.bH y.name).2).length)/\JL n aa/\JE n a0/\(a0.length<=i)/\(a7w side y ((a1k x_.bH y.name).2) ((a00 x_).bS) []=a7w side y (((a1k x_.bH y.name).2).drop i) aa a0),((a1k x_.bH y.name).2).length-i,[(14,.v (vI i))],[(11,⟨249,[.slice p1 (((a00 x_).bF).length) c1,.int .i64 ((a00 x_).bG.cA),.slice p2 (((a00 x_).bG.bB).length) c2,.slice p8 (((a1k x_.bH y.name).1).length) c7,.slice a7 (aa.length) a8,.slice p5 (((a00 x_).bM).length) c5,.slice p6 (((a00 x_).bQ).length) c6,.int .i64 ((a00 x_).aP),.slice a2 (a0.length) a1]⟩)],[(28,⟨11,a2,a0.length,a1,a3⟩)],[(22,MF.os a7 a8 aa),(23,MF.os p5 c5 ((a00 x_).bM)),(24,MF.os p6 c6 ((a00 x_).bQ)),_,(28,MF.os p9 c8 ((a1k x_.bH y.name).2)),(29,MF.ol a3 a0)])) ⟨zl,a5.2.2.2.1,nA,Q10,Z⟩ [13,11,10,8,5,2,4] [10,8,5] [0,1,2,3,4,5,6,7,8,9,10,11,12,19,20] [0,1,2,3,4,5,6,7,8,9,10,11,12,19,20,22,23,24,27,28,29] ?_
 rintro ⟨i,a7,a8,aa,a2,a1,a3,a0⟩ ⟨v1,v2,v3,v4,v5⟩;refine yKD 44 ?_ ?_<;>intro h2 bc;obtain ⟨e1,ag,aj,ak⟩:=gO ah.2 i;refine zW 30 28 ?_;refine yI 30 i ak ?_;rintro be rfl;refine yL 30 31 e1 ag ?_;rintro _;refine yKM 53 ?_ ?_<;>intro h3 bb;refine KF Z 31 Z O (λw Y=>f118 n Q0 y (Y.q 10 Z) (Y.q 11 Z) (Y.q 12 Z) a6) ?_;rintro ⟨⟨ao,c9⟩,⟨b1,b4⟩,⟨ay,b7⟩,_⟩ am;refine zW 37 19 ?_;refine zW 38 20 ?_;refine zW 39 27 ?_;refine zW 40 22 ?_;refine zW 41 23 ?_;refine zW 42 24 ?_;refine yD [10,11,12] λbs G0 ae=>?_
 refine dT 9 [1,2,5,7] ?_;refine zDI 4 30 i ae Z ak ?_;rintro ax ⟨⟩;refine dT 7 [11] ?_;refine zDL 6 30 43 e1 ae ag ?_;rintro _;refine dT 4 [14,17] ?_;refine DX.tail2 [9,10,11,12] Z Z J ?_;refine zB λbk=>?_;refine F1 44 Str ?_;refine zT [44,34,35,36] 43 (bD.mk e1.face false (bJ.mk (aA.mk ([])) 0 0 0) (a0m y)) ((),(),((none,0),(),(),()),((ao,c9),(b1,b4),(ay,b7),(),())) λ_=>?_;refine WX.know (λG hΓ=>(hΓ.get 43 Z).rd.one) λb3=>?_
 refine zP 28 65 (a0++[(bD.mk e1.face false (bJ.mk (aA.mk ([])) 0 0 0) (a0m y))]).length b3 λb2 az=>?_;refine zV [29,43] 45 ?_;refine zW 46 28 ?_;refine zW 47 19 ?_;refine zW 48 20 ?_;refine zW 49 27 ?_;refine zW 50 22 ?_;refine zW 51 23 ?_;refine zW 52 24 ?_;refine yD [13] λbs G0 ae=>?_;refine dT 7 [1,3,4,7,8,11,13] ?_;refine zDI 7 46 i ae Z ak ?_;rintro bi ⟨⟩;refine dT 5 [17] ?_;refine zDL 9 46 53 e1 ae ag ?_;rintro _
 refine DXF 10 53 Z J Z O (λw Y=>f226 n Q0 (Y.q 50 Z) y.name (Y.q 10 Z) (acp v2) (a6.1) (aj.2.1)) ?_;rintro ⟨b0,b6⟩ b5;refine dT 1 [23,25] ?_;refine DX.tail2 [13] Z Z J ?_;refine SA ?_;refine zU [54] 22 ?_;refine zU [45] 29 ?_
 exact ITr Z (i+1,b0,b6,(a38 aa y.name e1.bI),b2,az,_,(a0++[(bD.mk e1.face false (bJ.mk (aA.mk ([])) 0 0 0) (a0m y))])) ⟨Q0,b5,(ac2 v3 (all_cons (An aj.1 (An trivial (An (An (acd) (An (i6 0) (An (i6 0) (i6 0)))) am))) nA)),Q5,(by rw [v5,abu ag];simp only [a7w,h3,cC])⟩ Q1 [0,1,2,3,4,5,6,7,8,9,10,11,12,19,20,22,23,24,27,28,29];refine zW 31 19 ?_
 refine zW 32 20 ?_;refine zW 33 27 ?_;refine zW 34 22 ?_;refine zW 35 23 ?_;refine zW 36 24 ?_;refine yD [13] λbs G0 ae=>?_;refine dT 7 [1,3,4,7,8,11,13] ?_;refine zDI 7 30 i ae Z ak ?_;rintro ax ⟨⟩;refine dT 5 [17] ?_;refine zDL 9 30 37 e1 ae ag ?_;rintro _;refine DXF 10 37 Z J Z O (λw Y=>f226 n Q0 (Y.q 34 Z) y.name (Y.q 10 Z) (acp v2) (a6.1) (aj.2.1)) ?_;rintro ⟨ao,c9⟩ am;refine dT 1 [23,25] ?_;refine DX.tail2 [13] Z Z J ?_;refine SA ?_;refine zU [38] 22 ?_
 exact ITr Z (i+1,ao,c9,(a38 aa y.name e1.bI),a2,a1,a3,a0) ⟨Q0,am,v3,Q5,(by rw [v5,abu ag];simp only [a7w,h3,cC])⟩ Q1 [0,1,2,3,4,5,6,7,8,9,10,11,12,19,20,22,23,24,27,28,29];have ac:=v5.trans (show _=(aa,a0) by rw [dn];simp only [a7w];omega);refine KV Z Z O (λw Y=>f220 n Q0 (Y.q 0 Z) y.name (Y.q 10 Z) (a4.1) (a6.1)) λaw=>?_
 refine yKD 86 ?_ ?_<;>intro al b9;refine KF Z 42 Z O (λw Y=>f245 n Q0 x_.bG (Y.q 1 Z) y (Y.q 10 Z) (Y.q 11 Z) (Y.q 12 Z) hq0.1 (a4.2.1) a6 ab) ?_;rintro ⟨_,an,aq⟩ ad;dsimp only
 refine KF Z 44 Z O (λw Y=>f227 n Q0 (Y.q 4 Z) y.name (Y.q 10 Z) (a4.2.2.2.2.1) (a6.1)) ?_;rintro ⟨au,av⟩ af;dsimp only
 refine yKA 102 ?_ ?_<;>intro ai;refine KF Z 46 Z O (λw Y=>f246 n Q0 (Y.q 5 Z) _ (Y.q 44 Z) (a4.2.2.2.2.2.1) af a9) ?_;rintro ⟨ba,b8⟩ ap;dsimp only
 refine yE 28 29 48 ?_;rw [show a33 x_ t side y now=(Action.mk (aH.mk ((a00 x_).bF) (a1r x_.bG y now) ((a1k x_.bH y.name).1) aa ((a00 x_).bM) (a5u x_.bQ ((a1n x_.bM y.name).1) side) ((a00 x_).aP)) a0) by simp only [a33,h1,ac,al,ai,cC]]
 exact zX [19,43,27,22,23,47,49] (((p1,c1),((),(an,aq)),(p8,c7),(a7,a8),(p5,c5),(ba,b8),()),(a2,a1)) (An (An a5.1 (An ad (An ah.1 (An (acp v2) (An a5.2.2.2.2.1 (An ap a5.2.2.2.2.2.2)))))) (aby Q0 v3));refine yE 28 29 46 ?_
 rw [show a33 x_ t side y now=(Action.mk (aH.mk ((a00 x_).bF) (a1r x_.bG y now) ((a1k x_.bH y.name).1) aa ((a00 x_).bM) ((a00 x_).bQ) ((a00 x_).aP)) a0) by simp only [a33,h1,ac,al,ai,cC]]
 exact zX [19,43,27,22,23,24,47] (((p1,c1),((),(an,aq)),(p8,c7),(a7,a8),(p5,c5),(p6,c6),()),(a2,a1)) (An (An a5.1 (An ad (An ah.1 (An (acp v2) (An a5.2.2.2.2.1 (An a5.2.2.2.2.2.1 a5.2.2.2.2.2.2)))))) (aby Q0 v3));refine KF Z 42 Z O (λw Y=>f227 n Q0 (Y.q 4 Z) y.name (Y.q 10 Z) (a4.2.2.2.2.1) (a6.1)) ?_;rintro ⟨an,aq⟩ ad;dsimp only
 refine yKA 102 ?_ ?_<;>intro ai;refine KF Z 44 Z O (λw Y=>f246 n Q0 (Y.q 5 Z) _ (Y.q 42 Z) (a4.2.2.2.2.2.1) ad a9) ?_;rintro ⟨au,av⟩ af;dsimp only
 refine yE 28 29 46 ?_;rw [show a33 x_ t side y now=(Action.mk (aH.mk ((a00 x_).bF) ((a00 x_).bG) ((a1k x_.bH y.name).1) aa ((a00 x_).bM) (a5u x_.bQ ((a1n x_.bM y.name).1) side) ((a00 x_).aP)) a0) by simp only [a33,h1,ac,al,ai,cC]]
 exact zX [19,20,27,22,23,45,47] (((p1,c1),((),(p2,c2)),(p8,c7),(a7,a8),(p5,c5),(au,av),()),(a2,a1)) (An (An a5.1 (An a5.2.1 (An ah.1 (An (acp v2) (An a5.2.2.2.2.1 (An af a5.2.2.2.2.2.2)))))) (aby Q0 v3));refine yE 28 29 44 ?_
 rw [show a33 x_ t side y now=(Action.mk (aH.mk ((a00 x_).bF) ((a00 x_).bG) ((a1k x_.bH y.name).1) aa ((a00 x_).bM) ((a00 x_).bQ) ((a00 x_).aP)) a0) by simp only [a33,h1,ac,al,ai,cC]]
 exact zX [19,20,27,22,23,24,45] (((p1,c1),((),(p2,c2)),(p8,c7),(a7,a8),(p5,c5),(p6,c6),()),(a2,a1)) (An (An a5.1 (An a5.2.1 (An ah.1 (An (acp v2) (An a5.2.2.2.2.1 (An a5.2.2.2.2.2.1 a5.2.2.2.2.2.2)))))) (aby Q0 v3))
end Go.Proofs.YthdfhghdipdknaaGreat
namespace Go.Stp
def a5x (w_:aD)(k:Int)(x_:aJ)(i:Nat)(wConsumers:List aX):Nat×(List aX):=if i<=w_.aE.length then if ((i:Nat):Int)<((wConsumers).length:Int)then match (wConsumers)[i]? with|none=>default|some e1=>if (e1.node==k)=true then a5x w_ k x_ (i+1) (((wConsumers.set i (a2m e1 w_.aF x_ w_.now))):List aX)else a5x w_ k x_ (i+1) ((wConsumers):List aX)else (i,((wConsumers):List aX))else default
termination_by w_.aE.length + 1 - i
decreasing_by all_goals (simp_wf; omega)
def a5y (w_:aD)(k:Int)(x_:aJ):aD:=match a5x w_ k x_ 0 (w_.aE:List aX)with|(i,wConsumers)=>(aD.mk w_.aG w_.aF w_.aM w_.aI w_.aY w_.aU w_.aL wConsumers w_.now w_.aP)
def a2b (k:Int):List bD->aD->aD|[],w_2=>w_2|e1::rest_,w_2=>bif (e1.face==0)then bif (!e1.cI)then a2b k rest_ (a5y w_2 k e1.data)else a2b k rest_ w_2 else bif decide ((a1z w_2.aG k e1.face).1<0)then a2b k rest_ (aD.mk w_2.aG w_2.aF w_2.aM w_2.aI w_2.aY w_2.aU w_2.aL w_2.aE w_2.now (i64.wrap (w_2.aP+1)))else bif (a6f w_2.aU (a63 w_2.aG k ((a1z w_2.aG k e1.face).1)))then a2b k rest_ (aD.mk w_2.aG w_2.aF w_2.aM w_2.aI w_2.aY w_2.aU w_2.aL w_2.aE w_2.now (i64.wrap (w_2.aP+1)))else bif (!(a3u w_2 ((a1z w_2.aG k e1.face).1)))then a2b k rest_ (aD.mk w_2.aG w_2.aF w_2.aM w_2.aI w_2.aY w_2.aU w_2.aL w_2.aE w_2.now (i64.wrap (w_2.aP+1)))else bif decide (((w_2.aL).length:Int)>=200)then a2b k rest_ (aD.mk w_2.aG w_2.aF w_2.aM w_2.aI w_2.aY w_2.aU w_2.aL w_2.aE w_2.now (i64.wrap (w_2.aP+1)))else a2b k rest_ (aD.mk w_2.aG w_2.aF w_2.aM w_2.aI w_2.aY w_2.aU (w_2.aL++[(a13 (aZ.mk ((a1z w_2.aG k e1.face).1) ((a1z w_2.aG k e1.face).2) e1.cI e1.bT e1.data))]) w_2.aE w_2.now w_2.aP)
def a8z (w_:aD)(k:Int)(l:(List bD)):aD:=match a2b k l w_ with|w_2=>w_2
def a34 (w_:aD)(k:Int)(a:Action):aD:=match (w_.aI)[(k).toNat]? with|none=>default|some e1=>(a8z (aD.mk w_.aG w_.aF w_.aM (w_.aI.set ((k).toNat) a.node) w_.aY w_.aU w_.aL w_.aE w_.now w_.aP) k a.cQ)
def a4v (w_:aD)(i2:Nat)(w_2:aD):Nat×aD:=if i2<=w_.aE.length then if ((i2:Nat):Int)<((w_2.aE).length:Int)then match (w_2.aE)[i2]? with|none=>default|some e2=>if (!(a3u w_2 e2.node))=true then a4v w_ (i2+1) w_2 else if ((a0n e2).2.2)=true then match (w_2.aI)[((a0n e2).1.node).toNat]? with|none=>default|some e3=>a4v w_ (i2+1) (a34 (aD.mk w_2.aG w_2.aF w_2.aM w_2.aI w_2.aY w_2.aU w_2.aL (w_2.aE.set i2 ((a0n e2).1)) w_2.now w_2.aP) ((a0n e2).1.node) (a10 e3 0 ((a0n e2).2.1) w_2.now))else a4v w_ (i2+1) (aD.mk w_2.aG w_2.aF w_2.aM w_2.aI w_2.aY w_2.aU w_2.aL (w_2.aE.set i2 ((a0n e2).1)) w_2.now w_2.aP)else (i2,w_2)else default
termination_by w_.aE.length + 1 - i2
decreasing_by all_goals (simp_wf; omega)
def a5e (w_:aD)(i:Nat)(wNodes:List aH):Nat×(List aH):=if i<=w_.aI.length then if ((i:Nat):Int)<((wNodes).length:Int)then if (a3u (aD.mk w_.aG w_.aF w_.aM wNodes w_.aY w_.aU w_.aL w_.aE (i64.wrap (w_.now+1)) w_.aP) ((i:Nat):Int))=true then match (wNodes)[i]? with|none=>default|some e1=>a5e w_ (i+1) (((wNodes.set i (a3n e1 (i64.wrap (w_.now+1))))):List aH)else a5e w_ (i+1) ((wNodes):List aH)else (i,((wNodes):List aH))else default
termination_by w_.aI.length + 1 - i
decreasing_by all_goals (simp_wf; omega)
def a4d (w_:aD):Bool×aD:=bif decide (w_.now>=100000)then (false,w_)else match a5e w_ 0 (w_.aI:List aH)with|(i,wNodes)=>match a4v w_ 0 (aD.mk w_.aG w_.aF w_.aM wNodes w_.aY w_.aU w_.aL w_.aE (i64.wrap (w_.now+1)) w_.aP)with|(i2,w_2)=>(true,w_2)
def a04 (w_:aD)(i:Int):aZ×aD:=match (w_.aL)[(i).toNat]? with|none=>default|some e1=>(e1,(aD.mk w_.aG w_.aF w_.aM w_.aI w_.aY w_.aU ((List.take (Int.toNat i) w_.aL)++(List.drop (Int.toNat (i+1)) w_.aL)) w_.aE w_.now w_.aP))
def a4w (w_:aD)(i:Int):aD:=bif (!(a3u ((a04 w_ i).2) ((a04 w_ i).1.to)))then (aD.mk ((a04 w_ i).2.aG) ((a04 w_ i).2.aF) ((a04 w_ i).2.aM) ((a04 w_ i).2.aI) ((a04 w_ i).2.aY) ((a04 w_ i).2.aU) ((a04 w_ i).2.aL) ((a04 w_ i).2.aE) ((a04 w_ i).2.now) (i64.wrap (((a04 w_ i).2.aP)+1)))else bif (a04 w_ i).1.cI then match ((a04 w_ i).2.aI)[((a04 w_ i).1.to).toNat]? with|none=>default|some e1=>(a34 ((a04 w_ i).2) ((a04 w_ i).1.to) (a10 e1 ((a04 w_ i).1.face) ((a04 w_ i).1.bT) ((a04 w_ i).2.now)))else match ((a04 w_ i).2.aI)[((a04 w_ i).1.to).toNat]? with|none=>default|some e2=>(a34 ((a04 w_ i).2) ((a04 w_ i).1.to) (a33 e2 ((a04 w_ i).2.aF) ((a04 w_ i).1.face) ((a04 w_ i).1.data) ((a04 w_ i).2.now)))
def a39 (w_:aD)(i:Int)(dead:Bool):List aQ->Nat->(List Int)->(List Int)|[],i2,out=>((out):List Int)|_::rest_,i2,out=>bif (a6f w_.aU ((i2:Nat):Int))then bif (((i2:Nat):Int) !=i)then a39 w_ i dead rest_ (i2+1) (((out++[((i2:Nat):Int)])):List Int)else bif dead then bif (((i2:Nat):Int)==i)then a39 w_ i dead rest_ (i2+1) (((out++[((i2:Nat):Int)])):List Int)else a39 w_ i dead rest_ (i2+1) ((out):List Int)else a39 w_ i dead rest_ (i2+1) ((out):List Int)else bif dead then bif (((i2:Nat):Int)==i)then a39 w_ i dead rest_ (i2+1) (((out++[((i2:Nat):Int)])):List Int)else a39 w_ i dead rest_ (i2+1) ((out):List Int)else a39 w_ i dead rest_ (i2+1) ((out):List Int)
def a2c (w_:aD)(i:Int)(dead:Bool):Bool×aD:=bif ((a6f w_.aU i)==dead)then (false,w_)else bif (!(a07 i 0 (((w_.aG.links).length:Int)-1)))then (false,w_)else match a39 w_ i dead w_.aG.links 0 ([]:List Int)with|out=>(true,(aD.mk w_.aG w_.aF w_.aM w_.aI w_.aY out w_.aL w_.aE w_.now w_.aP))
def a1p (w_:aD)(k:Int)(up:Bool):Bool×aD:=bif (!(a07 k 0 (((w_.aI).length:Int)-1)))then (false,w_)else bif ((a3u w_ k)==up)then (false,w_)else bif up then (true,(aD.mk w_.aG w_.aF w_.aM w_.aI (bitO .andNot w_.aY (i64.wrap (1*2^ (min (Int.toNat k) 64)))) w_.aU w_.aL w_.aE w_.now w_.aP))else match (w_.aI)[(k).toNat]? with|none=>default|some e1=>(true,(aD.mk w_.aG w_.aF w_.aM (w_.aI.set ((k).toNat) (a4c e1)) (bitO .or w_.aY (i64.wrap (1*2^ (min (Int.toNat k) 64)))) w_.aU w_.aL w_.aE w_.now w_.aP))
def a1l (w_:aD)(e_:bP):Bool×aD:=bif (e_.kind==9)then bif decide ((((w_.aL++[(a13 e_.bC)])).length:Int)<=200)then bif (a07 ((a13 e_.bC).to) 0 (i64.wrap (w_.aG.size-1)))then ((a07 ((a13 e_.bC).face) 1 (((a1f w_.aG ((a13 e_.bC).to))).length:Int)),(aD.mk w_.aG w_.aF w_.aM w_.aI w_.aY w_.aU (w_.aL++[(a13 e_.bC)]) w_.aE w_.now w_.aP))else (false,(aD.mk w_.aG w_.aF w_.aM w_.aI w_.aY w_.aU (w_.aL++[(a13 e_.bC)]) w_.aE w_.now w_.aP))else (false,(aD.mk w_.aG w_.aF w_.aM w_.aI w_.aY w_.aU (w_.aL++[(a13 e_.bC)]) w_.aE w_.now w_.aP))else bif decide (((((w_.aE++[(a09 e_.n ((w_.aE).length:Int) e_.name)])).length:Nat):Int)<=8)then bif (a5j (a09 e_.n ((w_.aE).length:Int) e_.name))then ((decide ((a09 e_.n ((w_.aE).length:Int) e_.name).node<w_.aG.size)),(aD.mk w_.aG w_.aF w_.aM w_.aI w_.aY w_.aU w_.aL (w_.aE++[(a09 e_.n ((w_.aE).length:Int) e_.name)]) w_.now w_.aP))else (false,(aD.mk w_.aG w_.aF w_.aM w_.aI w_.aY w_.aU w_.aL (w_.aE++[(a09 e_.n ((w_.aE).length:Int) e_.name)]) w_.now w_.aP))else (false,(aD.mk w_.aG w_.aF w_.aM w_.aI w_.aY w_.aU w_.aL (w_.aE++[(a09 e_.n ((w_.aE).length:Int) e_.name)]) w_.now w_.aP))
def a0u (w_:aD)(e_:bP):Bool×aD:=bif (e_.kind==1)then (((a4d w_).1),((a4d w_).2))else bif (e_.kind==2)then bif (a07 e_.n 0 (((w_.aL).length:Int)-1))then ((a07 e_.n 0 (((w_.aL).length:Int)-1)),(a4w w_ e_.n))else ((a07 e_.n 0 (((w_.aL).length:Int)-1)),w_)else bif (e_.kind==3)then bif (a07 e_.n 0 (((w_.aL).length:Int)-1))then ((a07 e_.n 0 (((w_.aL).length:Int)-1)),(aD.mk ((a04 w_ e_.n).2.aG) ((a04 w_ e_.n).2.aF) ((a04 w_ e_.n).2.aM) ((a04 w_ e_.n).2.aI) ((a04 w_ e_.n).2.aY) ((a04 w_ e_.n).2.aU) ((a04 w_ e_.n).2.aL) ((a04 w_ e_.n).2.aE) ((a04 w_ e_.n).2.now) (i64.wrap (((a04 w_ e_.n).2.aP)+1))))else ((a07 e_.n 0 (((w_.aL).length:Int)-1)),w_)else bif (e_.kind==4)then bif (!(a07 e_.n 0 (((w_.aL).length:Int)-1)))then (false,w_)else bif decide (((w_.aL).length:Int)>=200)then (false,w_)else match (w_.aL)[(e_.n).toNat]? with|none=>default|some e1=>(true,(aD.mk w_.aG w_.aF w_.aM w_.aI w_.aY w_.aU (w_.aL++[(a13 e1)]) w_.aE w_.now w_.aP))else bif (e_.kind==5)then (((a2c w_ e_.n (e_.kind==5)).1),((a2c w_ e_.n (e_.kind==5)).2))else bif (e_.kind==6)then (((a2c w_ e_.n (e_.kind==5)).1),((a2c w_ e_.n (e_.kind==5)).2))else bif (e_.kind==7)then (((a1p w_ e_.n (e_.kind==8)).1),((a1p w_ e_.n (e_.kind==8)).2))else bif (e_.kind==8)then (((a1p w_ e_.n (e_.kind==8)).1),((a1p w_ e_.n (e_.kind==8)).2))else bif (e_.kind==9)then (((a1l w_ e_).1),((a1l w_ e_).2))else bif (e_.kind==11)then (((a1l w_ e_).1),((a1l w_ e_).2))else bif (e_.kind==10)then (true,(a2a w_))else (false,w_)
end Go.Stp
